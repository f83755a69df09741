-- Written for this claim (gp.py).
import Derived.Test.YtgapjelooefofaaMFnMatchBooksx0
import Derived.Test.YtgapjelooefofaaMFnMatchBooksx1
import Derived.Test.YtgapjelooefofaaMFnMatchBooksx2
namespace Go.Proofs.Ytgapjelooefofaa.PFnMatchBooks
open Go.RowKit Go.Proofs.YtgapjelooefofaaW.PrintWords Go.Proofs.YtgapjelooefofaaW.PrintLast Go.Proofs.YtgapjelooefofaaW.PrintMore
attribute [local go_sem] max2_int min2_int max_two min_two max_three min_three max_four min_four   -- for this text's walks alone
open Go.Proofs.YtgapjelooefofaaW.PrintWords renaming keep_drewN → kn_, keep_drew → kd_, keep_alloc → ka_, keep_far → kf_, keep_size → kz_, blk_cell → bc_
open Go.Proofs.YtgapjelooefofaaW.PrintWords.KeepBut renaming set_ → k1_
open List renaming map_toArray → q4_, map_cons → q5_, map_nil → q6_
open Option renaming bind_some → q7_
open Go.Proofs.YtgapjelooefofaaW.PrintWords renaming blk_drewN → bn_, blk_alloc → bl_, blk_drew → bd_, blk_below → bb_, blk_far → bf_, pw_below_drewN → wn_, below_drew1 → w1_, below_alloc → wa_, below_set → ws_
open Go.Proofs.YtgapjelooefofaaW.PrintWords.Kd renaming R_alloc → ra_, R_drewN → rn_, R_drew → re_
open Go.Proofs.YtgapjelooefofaaW.PrintWords.Aside0 renaming mk → am_
set_option linter.unusedVariables false
set_option linter.unusedSimpArgs false

attribute [local go_sem high] eqA33
theorem q1_3 {α : Type} (l : List α) (i : Nat) (a : α) : l.toArray.setIfInBounds i a = (l.set i a).toArray := List.setIfInBounds_toArray l i a
theorem q2_3 {α : Type} {x : α} {l : List α} {a : α} : (x :: l).set 0 a = a :: l := List.set_cons_zero
theorem q3_3 {α : Type} {x : α} {l : List α} {n : Nat} {a : α} : (x :: l).set (n + 1) a = x :: l.set n a := List.set_cons_succ
/-! ### impl_validEntry: function 44 -/
def impl_validEntry.j0 : Nat → Bool → Int → Int → Int → Int → Option (Bool)
 | 0, _, _, _, _, _ => none
 | k + 1, x20, x127000, x127001, x127002, x127003 => if x20 = true then (some false) else ((impl_validAccount.f x127001).bind fun t127 => (if t127 = true then ((impl_validAccount.f x127002).bind fun t128 => (if t128 = true then (some (x127001 != x127002)) else (some false))) else (some false)))
def impl_validEntry.f (k : Nat) (a0_0 : Int) (a0_1 : Int) (a0_2 : Int) (a0_3 : Int) : Option (Bool) := if a0_0 < 0 then (impl_validEntry.j0 k true a0_0 a0_1 a0_2 a0_3) else (if a0_0 > 999 then (impl_validEntry.j0 k true a0_0 a0_1 a0_2 a0_3) else (if a0_3 < 1 then (impl_validEntry.j0 k true a0_0 a0_1 a0_2 a0_3) else (impl_validEntry.j0 k (decide (a0_3 > 1000000)) a0_0 a0_1 a0_2 a0_3)))
theorem impl_validEntry.mono_l : ∀ k, (∀ y0 y1 y2 y3 y4, LeO (impl_validEntry.j0 k y0 y1 y2 y3 y4) (impl_validEntry.j0 (k + 1) y0 y1 y2 y3 y4))
 | 0 => fun _ _ _ _ _ r h => by simp [impl_validEntry.j0] at h
 | k + 1 => by
  have ih0 := impl_validEntry.mono_l k
  ·intro y0 y1 y2 y3 y4
   unfold impl_validEntry.j0
   repeat' first
   | (with_reducible exact ih0 _ _ _ _ _)
   | (with_reducible exact LeO.refl _)
   | (with_reducible exact LeO.none _)
   | (with_reducible refine LeO.ite ?_ ?_)
   | (with_reducible refine LeO.bind ?_ (fun _ => ?_))
   | exact ih0 _ _ _ _ _
   | exact LeO.none _
   | refine LeO.ite ?_ ?_
   | refine LeO.bind ?_ (fun _ => ?_)
theorem impl_validEntry.mono : ∀ a0 a1 a2 a3 k, LeO (impl_validEntry.f k a0 a1 a2 a3) (impl_validEntry.f (k + 1) a0 a1 a2 a3) := by
 intro a0 a1 a2 a3 k
 have ih0 := impl_validEntry.mono_l k
 unfold impl_validEntry.f
 repeat' first
   | (with_reducible exact ih0 _ _ _ _ _)
   | (with_reducible exact LeO.refl _)
   | (with_reducible exact LeO.none _)
   | (with_reducible refine LeO.ite ?_ ?_)
   | (with_reducible refine LeO.bind ?_ (fun _ => ?_))
   | exact ih0 _ _ _ _ _
   | exact LeO.none _
   | refine LeO.ite ?_ ?_
   | refine LeO.bind ?_ (fun _ => ?_)
set_option maxHeartbeats 8000000 in
set_option maxRecDepth 100000 in
theorem impl_validEntry.calls (k : Nat) (a0_0 : Int) (a0_1 : Int) (a0_2 : Int) (a0_3 : Int) (r : Bool) (w : World) (h : impl_validEntry.f k a0_0 a0_1 a0_2 a0_3 = some r) :
  Calls Try.prog 44 #[.agg #[.int .i64 a0_0, .int .i64 a0_1, .int .i64 a0_2, .int .i64 a0_3]] w fun e w' => e = .returned (.bool r) ∧ Below w.heap.size w w' := by
 have hu33 := Try.underlying33
 have HB := am_ (Below.refl w.heap.size w)
 have H : (if a0_0 < 0 then (impl_validEntry.j0 k true a0_0 a0_1 a0_2 a0_3) else (if a0_0 > 999 then (impl_validEntry.j0 k true a0_0 a0_1 a0_2 a0_3) else (if a0_3 < 1 then (impl_validEntry.j0 k true a0_0 a0_1 a0_2 a0_3) else (impl_validEntry.j0 k (decide (a0_3 > 1000000)) a0_0 a0_1 a0_2 a0_3)))) = some r := h
 clear h
 have HC2 := am_ H
 clear H
 go_enter Try.func44, Try.ntmps44
 go_upto_region 1 with (first | ((with_reducible refine gate_dst (N := 1) rfl ?_); refine box_event ?hg (N := 1) ?hd (cs := #[.int .i64 a0_0, .int .i64 a0_1, .int .i64 a0_2, .int .i64 a0_3]) (t := 33) ?hr ?_; (case hd => rfl); (case hg => rfl); (case hr => first | (go_simp; done) | (go_simp; rfl)); intro gb126 hg w3 hbox hb; have n0_ := am_ (below_step (by repeat (first | (with_reducible first | exact HB.out | apply wa_ | apply wn_ | apply w1_) | exact HB.out)) hb); have n1_ := am_ (hbox); have n2_ := am_ ((by rw [hg]; exact (below_size (by repeat (first | (with_reducible first | exact HB.out | apply wa_ | apply wn_ | apply w1_) | exact HB.out))) : w.heap.size ≤ gb126)); have n3_ := am_ ((by rw [hg]; exact (below_size (by repeat (first | (with_reducible first | exact HB.out | apply wa_ | apply wn_ | apply w1_) | exact HB.out))) : w.heap.size ≤ gb126)); clear HB; have HB := n0_; have BK126 := n1_; have GW126 := n2_; have GE126 := n3_; clear n0_ n1_ n2_ n3_; clear hb hbox hg))
 (try simp only [Act.put, q1_3, q2_3, q3_3])
 go_cut [20] (fun v20 wc => ∃ (kq : Nat) (x20_1 : Bool), v20 = .bool x20_1 ∧ Aside0 (impl_validEntry.j0 kq x20_1 a0_0 a0_1 a0_2 a0_3 = some r) ∧ Aside0 (kq ≤ k) ∧ Aside0 (wc.heap[gb126]? = some (.cells #[.int .i64 a0_0, .int .i64 a0_1, .int .i64 a0_2, .int .i64 a0_3] 33 (0, 0))) ∧ Aside0 (Below w.heap.size w wc))
 case first =>
  have H := HC2.out
  clear HC2
  by_cases c4 : a0_0 < 0
  ·rw [if_pos c4] at H
   have c4b0 : decide (a0_0 < 0) = true := decide_eq_true c4
   clear c4
   (first | rw [c4b0] | (simp only [i64_w, i32_w]; rw [c4b0]) | skip)
   have H' := am_ H
   clear H
   have hcz5_0 : w3.cell? ⟨gb126, 0, none⟩ = some (.int .i64 a0_0) := (bc_ BK126.out 0).trans rfl
   have hcz5_1 : w3.cell? ⟨gb126, 1, none⟩ = some (.int .i64 a0_1) := (bc_ BK126.out 1).trans rfl
   have hcz5_2 : w3.cell? ⟨gb126, 2, none⟩ = some (.int .i64 a0_2) := (bc_ BK126.out 2).trans rfl
   have hcz5_3 : w3.cell? ⟨gb126, 3, none⟩ = some (.int .i64 a0_3) := (bc_ BK126.out 3).trans rfl
   have hfz5_0 := blk_frozen BK126.out 0
   have hfz5_1 := blk_frozen BK126.out 1
   have hfz5_2 := blk_frozen BK126.out 2
   have hfz5_3 := blk_frozen BK126.out 3
   go_wp2
   go_meet
   case rel => exact ⟨_, (true), (by first | rfl | (simp; done) | (simp [*]; done)), H', ⟨by first | omega | exact Nat.le_refl _⟩, ⟨by (with_reducible repeat (first | refine bn_ ?_ _ | refine bd_ ?_ | refine bl_ ?_ _)); exact BK126.out⟩, ⟨by repeat (first | (with_reducible first | exact HB.out | apply wa_ | apply wn_ | apply w1_ | refine ws_ ?_ GE126.out) | exact HB.out)⟩⟩
  ·rw [if_neg c4] at H
   have c4b0 : decide (a0_0 < 0) = false := decide_eq_false c4
   clear c4
   (first | rw [c4b0] | (simp only [i64_w, i32_w]; rw [c4b0]) | skip)
   by_cases c6 : a0_0 > 999
   ·rw [if_pos c6] at H
    have c6b0 : decide (999 < a0_0) = true := decide_eq_true c6
    clear c6
    have H' := am_ H
    clear H
    have hcz7_0 : w3.cell? ⟨gb126, 0, none⟩ = some (.int .i64 a0_0) := (bc_ BK126.out 0).trans rfl
    have hcz7_1 : w3.cell? ⟨gb126, 1, none⟩ = some (.int .i64 a0_1) := (bc_ BK126.out 1).trans rfl
    have hcz7_2 : w3.cell? ⟨gb126, 2, none⟩ = some (.int .i64 a0_2) := (bc_ BK126.out 2).trans rfl
    have hcz7_3 : w3.cell? ⟨gb126, 3, none⟩ = some (.int .i64 a0_3) := (bc_ BK126.out 3).trans rfl
    have hfz7_0 := blk_frozen BK126.out 0
    have hfz7_1 := blk_frozen BK126.out 1
    have hfz7_2 := blk_frozen BK126.out 2
    have hfz7_3 := blk_frozen BK126.out 3
    go_wp2
    go_meet
    case rel => exact ⟨_, (true), (by first | rfl | (simp; done) | (simp [*]; done)), H', ⟨by first | omega | exact Nat.le_refl _⟩, ⟨by (with_reducible repeat (first | refine bn_ ?_ _ | refine bd_ ?_ | refine bl_ ?_ _)); exact BK126.out⟩, ⟨by repeat (first | (with_reducible first | exact HB.out | apply wa_ | apply wn_ | apply w1_ | refine ws_ ?_ GE126.out) | exact HB.out)⟩⟩
   ·rw [if_neg c6] at H
    have c6b0 : decide (999 < a0_0) = false := decide_eq_false c6
    clear c6
    by_cases c8 : a0_3 < 1
    ·rw [if_pos c8] at H
     have c8b0 : decide (a0_3 < 1) = true := decide_eq_true c8
     clear c8
     have H' := am_ H
     clear H
     have hcz9_0 : w3.cell? ⟨gb126, 0, none⟩ = some (.int .i64 a0_0) := (bc_ BK126.out 0).trans rfl
     have hcz9_1 : w3.cell? ⟨gb126, 1, none⟩ = some (.int .i64 a0_1) := (bc_ BK126.out 1).trans rfl
     have hcz9_2 : w3.cell? ⟨gb126, 2, none⟩ = some (.int .i64 a0_2) := (bc_ BK126.out 2).trans rfl
     have hcz9_3 : w3.cell? ⟨gb126, 3, none⟩ = some (.int .i64 a0_3) := (bc_ BK126.out 3).trans rfl
     have hfz9_0 := blk_frozen BK126.out 0
     have hfz9_1 := blk_frozen BK126.out 1
     have hfz9_2 := blk_frozen BK126.out 2
     have hfz9_3 := blk_frozen BK126.out 3
     go_wp2
     go_meet
     case rel => exact ⟨_, (true), (by first | rfl | (simp; done) | (simp [*]; done)), H', ⟨by first | omega | exact Nat.le_refl _⟩, ⟨by (with_reducible repeat (first | refine bn_ ?_ _ | refine bd_ ?_ | refine bl_ ?_ _)); exact BK126.out⟩, ⟨by repeat (first | (with_reducible first | exact HB.out | apply wa_ | apply wn_ | apply w1_ | refine ws_ ?_ GE126.out) | exact HB.out)⟩⟩
    ·rw [if_neg c8] at H
     have c8b0 : decide (a0_3 < 1) = false := decide_eq_false c8
     clear c8
     have H' := am_ H
     clear H
     have hcz10_0 : w3.cell? ⟨gb126, 0, none⟩ = some (.int .i64 a0_0) := (bc_ BK126.out 0).trans rfl
     have hcz10_1 : w3.cell? ⟨gb126, 1, none⟩ = some (.int .i64 a0_1) := (bc_ BK126.out 1).trans rfl
     have hcz10_2 : w3.cell? ⟨gb126, 2, none⟩ = some (.int .i64 a0_2) := (bc_ BK126.out 2).trans rfl
     have hcz10_3 : w3.cell? ⟨gb126, 3, none⟩ = some (.int .i64 a0_3) := (bc_ BK126.out 3).trans rfl
     have hfz10_0 := blk_frozen BK126.out 0
     have hfz10_1 := blk_frozen BK126.out 1
     have hfz10_2 := blk_frozen BK126.out 2
     have hfz10_3 := blk_frozen BK126.out 3
     go_wp2
     go_meet
     case rel => exact ⟨_, (decide (a0_3 > 1000000)), (by first | rfl | (simp; done) | (simp [*]; done)), H', ⟨by first | omega | exact Nat.le_refl _⟩, ⟨by (with_reducible repeat (first | refine bn_ ?_ _ | refine bd_ ?_ | refine bl_ ?_ _)); exact BK126.out⟩, ⟨by repeat (first | (with_reducible first | exact HB.out | apply wa_ | apply wn_ | apply w1_ | refine ws_ ?_ GE126.out) | exact HB.out)⟩⟩
 case rest =>
  clear HC2
  try clear p2; try clear c4; try clear c4b0; try clear c6; try clear c6b0; try clear c8; try clear c8b0; try clear hcz10_0; try clear hcz10_1; try clear hcz10_2; try clear hcz10_3; try clear hcz5_0; try clear hcz5_1; try clear hcz5_2; try clear hcz5_3; try clear hcz7_0; try clear hcz7_1; try clear hcz7_2; try clear hcz7_3; try clear hcz9_0; try clear hcz9_1; try clear hcz9_2; try clear hcz9_3; try clear hfz10_0; try clear hfz10_1; try clear hfz10_2; try clear hfz10_3; try clear hfz5_0; try clear hfz5_1; try clear hfz5_2; try clear hfz5_3; try clear hfz7_0; try clear hfz7_1; try clear hfz7_2; try clear hfz7_3; try clear hfz9_0; try clear hfz9_1; try clear hfz9_2; try clear hfz9_3
  obtain ⟨kq, x20_1, rfl, HA, HJ1, BK126, HB⟩ := hcut
  cases kq with
  | zero => exact absurd HA.out (by simp [impl_validEntry.j0])
  | succ kj1 =>
   have H := HA.out
   clear HA
   simp only [impl_validEntry.j0] at H
   by_cases c11 : x20_1 = true
   ·subst c11
    have H1 : (some false) = some r := by rw [if_pos rfl] at H; exact H
    clear H
    have H := H1
    clear H1
    obtain rfl := Option.some.inj H
    go_wp2
    go_ret
    exact ⟨by first | rfl | (simp [errW_none, errW_some] <;> rfl) | (simp [*, errW_none, errW_some] <;> rfl), by repeat (first | (with_reducible first | exact HB.out | apply wa_ | apply wn_ | apply w1_ | refine ws_ ?_ GE126.out) | exact HB.out)⟩
   ·replace c11 := Bool.eq_false_iff.mpr c11
    subst c11
    have H1 : ((impl_validAccount.f a0_1).bind fun t127 => (if t127 = true then ((impl_validAccount.f a0_2).bind fun t128 => (if t128 = true then (some (a0_1 != a0_2)) else (some false))) else (some false))) = some r := by rw [if_neg (show ¬ (false = true) by decide)] at H; exact H
    clear H
    have H := H1
    clear H1
    replace H := Option.bind_eq_some_iff.mp H
    obtain ⟨t127, A120, H⟩ := H
    replace H : (if t127 = true then ((impl_validAccount.f a0_2).bind fun t128 => (if t128 = true then (some (a0_1 != a0_2)) else (some false))) else (some false)) = some r := H
    have A12 := am_ A120
    clear A120
    by_cases c13 : t127 = true
    ·subst c13
     have H1 : ((impl_validAccount.f a0_2).bind fun t128 => (if t128 = true then (some (a0_1 != a0_2)) else (some false))) = some r := by rw [if_pos rfl] at H; exact H
     clear H
     have H := H1
     clear H1
     replace H := Option.bind_eq_some_iff.mp H
     obtain ⟨t128, A140, H⟩ := H
     replace H : (if t128 = true then (some (a0_1 != a0_2)) else (some false)) = some r := H
     have A14 := am_ A140
     clear A140
     by_cases c15 : t128 = true
     ·subst c15
      have H1 : (some (a0_1 != a0_2)) = some r := by rw [if_pos rfl] at H; exact H
      clear H
      have H := H1
      clear H1
      obtain rfl := Option.some.inj H
      have hcz16_0 : wc.cell? ⟨gb126, 0, none⟩ = some (.int .i64 a0_0) := (bc_ BK126.out 0).trans rfl
      have hcz16_1 : wc.cell? ⟨gb126, 1, none⟩ = some (.int .i64 a0_1) := (bc_ BK126.out 1).trans rfl
      have hcz16_2 : wc.cell? ⟨gb126, 2, none⟩ = some (.int .i64 a0_2) := (bc_ BK126.out 2).trans rfl
      have hcz16_3 : wc.cell? ⟨gb126, 3, none⟩ = some (.int .i64 a0_3) := (bc_ BK126.out 3).trans rfl
      have hfz16_0 := blk_frozen BK126.out 0
      have hfz16_1 := blk_frozen BK126.out 1
      have hfz16_2 := blk_frozen BK126.out 2
      have hfz16_3 := blk_frozen BK126.out 3
      go_wp2_with (first | ((with_reducible refine gate_callee (f := 39) rfl ?_); refine goesL_ (some 23) rfl rfl Try.func39 (by kernel_rfl) rfl #[.int .i64 a0_1] rfl (by (try simp only [q4_, q5_, q6_]); first | done | rfl | (simp only [List.length_drop, List.length_take]; rfl)) ?_; (with_reducible refine (impl_validAccount.calls a0_1 true _ A12.out).mono ?_); rintro e w' ⟨rfl, ⟨nd, rfl⟩⟩; refine ⟨_, rfl, ?_⟩) | (go_at_call 39; (with_reducible refine (impl_validAccount.calls a0_2 true _ A14.out).mono ?_); rintro e w' ⟨rfl, ⟨nd, rfl⟩⟩))
      go_ret
      exact ⟨by first | rfl | (simp [errW_none, errW_some] <;> rfl) | (simp [*, errW_none, errW_some] <;> rfl), by repeat (first | (with_reducible first | exact HB.out | apply wa_ | apply wn_ | apply w1_ | refine ws_ ?_ GE126.out) | exact HB.out)⟩
     ·replace c15 := Bool.eq_false_iff.mpr c15
      subst c15
      have H1 : (some false) = some r := by rw [if_neg (show ¬ (false = true) by decide)] at H; exact H
      clear H
      have H := H1
      clear H1
      obtain rfl := Option.some.inj H
      have hcz17_0 : wc.cell? ⟨gb126, 0, none⟩ = some (.int .i64 a0_0) := (bc_ BK126.out 0).trans rfl
      have hcz17_1 : wc.cell? ⟨gb126, 1, none⟩ = some (.int .i64 a0_1) := (bc_ BK126.out 1).trans rfl
      have hcz17_2 : wc.cell? ⟨gb126, 2, none⟩ = some (.int .i64 a0_2) := (bc_ BK126.out 2).trans rfl
      have hcz17_3 : wc.cell? ⟨gb126, 3, none⟩ = some (.int .i64 a0_3) := (bc_ BK126.out 3).trans rfl
      have hfz17_0 := blk_frozen BK126.out 0
      have hfz17_1 := blk_frozen BK126.out 1
      have hfz17_2 := blk_frozen BK126.out 2
      have hfz17_3 := blk_frozen BK126.out 3
      go_wp2_with (first | ((with_reducible refine gate_callee (f := 39) rfl ?_); refine goesL_ (some 23) rfl rfl Try.func39 (by kernel_rfl) rfl #[.int .i64 a0_1] rfl (by (try simp only [q4_, q5_, q6_]); first | done | rfl | (simp only [List.length_drop, List.length_take]; rfl)) ?_; (with_reducible refine (impl_validAccount.calls a0_1 true _ A12.out).mono ?_); rintro e w' ⟨rfl, ⟨nd, rfl⟩⟩; refine ⟨_, rfl, ?_⟩) | (go_at_call 39; (with_reducible refine (impl_validAccount.calls a0_2 false _ A14.out).mono ?_); rintro e w' ⟨rfl, ⟨nd, rfl⟩⟩))
      go_ret
      exact ⟨by first | rfl | (simp [errW_none, errW_some] <;> rfl) | (simp [*, errW_none, errW_some] <;> rfl), by repeat (first | (with_reducible first | exact HB.out | apply wa_ | apply wn_ | apply w1_ | refine ws_ ?_ GE126.out) | exact HB.out)⟩
    ·replace c13 := Bool.eq_false_iff.mpr c13
     subst c13
     have H1 : (some false) = some r := by rw [if_neg (show ¬ (false = true) by decide)] at H; exact H
     clear H
     have H := H1
     clear H1
     obtain rfl := Option.some.inj H
     have hcz18_0 : wc.cell? ⟨gb126, 0, none⟩ = some (.int .i64 a0_0) := (bc_ BK126.out 0).trans rfl
     have hcz18_1 : wc.cell? ⟨gb126, 1, none⟩ = some (.int .i64 a0_1) := (bc_ BK126.out 1).trans rfl
     have hcz18_2 : wc.cell? ⟨gb126, 2, none⟩ = some (.int .i64 a0_2) := (bc_ BK126.out 2).trans rfl
     have hcz18_3 : wc.cell? ⟨gb126, 3, none⟩ = some (.int .i64 a0_3) := (bc_ BK126.out 3).trans rfl
     have hfz18_0 := blk_frozen BK126.out 0
     have hfz18_1 := blk_frozen BK126.out 1
     have hfz18_2 := blk_frozen BK126.out 2
     have hfz18_3 := blk_frozen BK126.out 3
     go_wp2_with (first | ((with_reducible refine gate_callee (f := 39) rfl ?_); refine goesL_ (some 23) rfl rfl Try.func39 (by kernel_rfl) rfl #[.int .i64 a0_1] rfl (by (try simp only [q4_, q5_, q6_]); first | done | rfl | (simp only [List.length_drop, List.length_take]; rfl)) ?_; (with_reducible refine (impl_validAccount.calls a0_1 false _ A12.out).mono ?_); rintro e w' ⟨rfl, ⟨nd, rfl⟩⟩; refine ⟨_, rfl, ?_⟩))
     go_ret
     exact ⟨by first | rfl | (simp [errW_none, errW_some] <;> rfl) | (simp [*, errW_none, errW_some] <;> rfl), by repeat (first | (with_reducible first | exact HB.out | apply wa_ | apply wn_ | apply w1_ | refine ws_ ?_ GE126.out) | exact HB.out)⟩

/-! ### impl_ValidEntries: function 15 -/
def impl_ValidEntries.l0 : Nat → List (S33) → Int → Int → Option (Bool)
 | 0, _, _, _ => none
 | k + 1, x8, x9, x10 => if x10 < x9 then (if 0 ≤ x10 then (if x10 < (x8.length : Int) then ((impl_validEntry.f k ((rd_T33 x8 x10).f0) ((rd_T33 x8 x10).f1) ((rd_T33 x8 x10).f2) ((rd_T33 x8 x10).f3)).bind fun t131 => (if t131 = true then (impl_ValidEntries.l0 k x8 x9 (wrap64 (x10 + 1))) else (some false))) else (none)) else (none)) else (some true)
def impl_ValidEntries.f (k : Nat) (l0 : List (S33)) : Option (Bool) := if (l0.length : Int) > 40 then (some false) else (impl_ValidEntries.l0 k l0 (l0.length : Int) 0)
theorem impl_ValidEntries.mono_l : ∀ k, (∀ y0 y1 y2, LeO (impl_ValidEntries.l0 k y0 y1 y2) (impl_ValidEntries.l0 (k + 1) y0 y1 y2))
 | 0 => fun _ _ _ r h => by simp [impl_ValidEntries.l0] at h
 | k + 1 => by
  have ih0 := impl_ValidEntries.mono_l k
  ·intro y0 y1 y2
   unfold impl_ValidEntries.l0
   repeat' first
   | (with_reducible exact ih0 _ _ _)
   | (with_reducible exact impl_validEntry.mono _ _ _ _ _)
   | (with_reducible exact LeO.refl _)
   | (with_reducible exact LeO.none _)
   | (with_reducible refine LeO.ite ?_ ?_)
   | (with_reducible refine LeO.bind ?_ (fun _ => ?_))
   | exact ih0 _ _ _
   | exact impl_validEntry.mono _ _ _ _ _
   | exact LeO.none _
   | refine LeO.ite ?_ ?_
   | refine LeO.bind ?_ (fun _ => ?_)
theorem impl_ValidEntries.mono : ∀ a0 k, LeO (impl_ValidEntries.f k a0) (impl_ValidEntries.f (k + 1) a0) := by
 intro a0 k
 have ih0 := impl_ValidEntries.mono_l k
 unfold impl_ValidEntries.f
 repeat' first
   | (with_reducible exact ih0 _ _ _)
   | (with_reducible exact impl_validEntry.mono _ _ _ _ _)
   | (with_reducible exact LeO.refl _)
   | (with_reducible exact LeO.none _)
   | (with_reducible refine LeO.ite ?_ ?_)
   | (with_reducible refine LeO.bind ?_ (fun _ => ?_))
   | exact ih0 _ _ _
   | exact impl_validEntry.mono _ _ _ _ _
   | exact LeO.none _
   | refine LeO.ite ?_ ?_
   | refine LeO.bind ?_ (fun _ => ?_)
set_option maxHeartbeats 8000000 in
set_option maxRecDepth 100000 in
theorem impl_ValidEntries.calls (k : Nat) (A0 : Option Addr) (c0 : Nat) (l0 : List (S33)) (r : Bool) (w : World) (hr0 : Kd.C k33 w A0 l0.length l0) (hc0 : l0.length ≤ c0) (h : impl_ValidEntries.f k l0 = some r) :
  Calls Try.prog 15 #[.slice A0 l0.length c0] w fun e w' => e = .returned (.bool r) ∧ Below w.heap.size w w' := by
 have hu33 := Try.underlying33
 have HR0 := am_ hr0
 have HC0 := am_ hc0
 clear hr0 hc0
 have HB := am_ (Below.refl w.heap.size w)
 have H : (if (l0.length : Int) > 40 then (some false) else (impl_ValidEntries.l0 k l0 (l0.length : Int) 0)) = some r := h
 clear h
 by_cases c2 : (l0.length : Int) > 40
 ·rw [if_pos c2] at H
  have c2b0 : decide (40 < (l0.length : Int)) = true := decide_eq_true c2
  have c2b1 : decide (40 < l0.length) = true := decide_eq_true (by omega)
  clear c2
  obtain rfl := Option.some.inj H
  go_enter Try.func15, Try.ntmps15
  go_wp2
  go_ret
  exact ⟨by first | rfl | (simp [errW_none, errW_some] <;> rfl) | (simp [*, errW_none, errW_some] <;> rfl), by repeat (first | (with_reducible first | exact HB.out | apply wa_ | apply wn_ | apply w1_) | exact HB.out)⟩
 ·rw [if_neg c2] at H
  have c2b0 : decide (40 < (l0.length : Int)) = false := decide_eq_false c2
  have c2b1 : decide (40 < l0.length) = false := decide_eq_false (by omega)
  clear c2
  have H' := am_ H
  clear H
  go_enter Try.func15, Try.ntmps15
  go_wp2
  go_loopg [10] k (fun kq v10 w' => ∃ (x10_1 : Int), v10 = .int .i64 x10_1 ∧ Aside0 (impl_ValidEntries.l0 kq l0 (l0.length : Int) x10_1 = some r) ∧ Aside0 (kq ≤ k) ∧ Aside0 (Below w.heap.size w w'))
  case atStart => exact ⟨(0), (by first | rfl | (simp; done) | (simp [*]; done)), H', ⟨Nat.le_refl _⟩, ⟨by repeat (first | (with_reducible first | exact HB.out | apply wa_ | apply wn_ | apply w1_) | exact HB.out)⟩⟩
  case round =>
   clear H'
   try clear c1; try clear c2; try clear c2b0; try clear c2b1; try clear p2
   obtain ⟨x10_1, rfl, HA, HK1, HB⟩ := hrel
   cases gk with
   | zero => exact absurd HA.out (by simp [impl_ValidEntries.l0])
   | succ k1 =>
    have H := HA.out
    clear HA
    simp only [impl_ValidEntries.l0] at H
    by_cases c3 : x10_1 < (l0.length : Int)
    ·rw [if_pos c3] at H
     have c3b0 : decide (x10_1 < (l0.length : Int)) = true := decide_eq_true c3
     clear c3
     by_cases c4 : 0 ≤ x10_1
     ·rw [if_pos c4] at H
      have c4b0 : decide (0 ≤ x10_1) = true := decide_eq_true c4
      clear c4
      by_cases c5 : x10_1 < (l0.length : Int)
      ·rw [if_pos c5] at H
       have c5b0 : decide (x10_1 < (l0.length : Int)) = true := decide_eq_true c5
       clear c5
       replace H := Option.bind_eq_some_iff.mp H
       obtain ⟨t131, A60, H⟩ := H
       replace H : (if t131 = true then (impl_ValidEntries.l0 k1 l0 (l0.length : Int) (wrap64 (x10_1 + 1))) else (some false)) = some r := H
       have A6 := am_ A60
       clear A60
       by_cases c7 : t131 = true
       ·subst c7
        have H1 : (impl_ValidEntries.l0 k1 l0 (l0.length : Int) (wrap64 (x10_1 + 1))) = some r := by rw [if_pos rfl] at H; exact H
        clear H
        have H := H1
        clear H1
        have H' := am_ H
        clear H
        have p129 : 0 ≤ (x10_1 : Int) := of_decide_eq_true (by first | (with_reducible assumption) | assumption)
        have q129 : x10_1 < (l0.length : Int) := of_decide_eq_true (by first | (with_reducible assumption) | assumption)
        obtain ⟨ad129, e129, hx129_0, hx129_1, hx129_2, hx129_3⟩ := at_T33 HR0.out x10_1 p129 q129
        cases e129
        replace hx129_0 := (HB.out.cell (World.block_lt_of_cell? w _ hx129_0)).trans hx129_0
        replace hx129_1 := (HB.out.cell (World.block_lt_of_cell? w _ hx129_1)).trans hx129_1
        replace hx129_2 := (HB.out.cell (World.block_lt_of_cell? w _ hx129_2)).trans hx129_2
        replace hx129_3 := (HB.out.cell (World.block_lt_of_cell? w _ hx129_3)).trans hx129_3
        replace p129 := eq_true p129
        replace q129 := eq_true q129
        go_wp2_with (first | ((with_reducible refine gate_dst (N := 4) rfl ?_); refine box_event ?hg (N := 4) ?hd (cs := #[.int .i64 0, .int .i64 0, .int .i64 0, .int .i64 0]) (t := 33) ?hr ?_; (case hd => rfl); (case hg => rfl); (case hr => first | (go_simp; done) | (go_simp; rfl)); intro gb130 hg w8 hbox hb; have n0_ := am_ (below_step (by repeat (first | (with_reducible first | exact HB.out | apply wa_ | apply wn_ | apply w1_) | exact HB.out)) hb); have n1_ := am_ (hbox); have n2_ := am_ ((by rw [hg]; exact (below_size (by repeat (first | (with_reducible first | exact HB.out | apply wa_ | apply wn_ | apply w1_) | exact HB.out))) : w.heap.size ≤ gb130)); have n3_ := am_ ((by rw [hg]; exact (below_size (by repeat (first | (with_reducible first | exact HB.out | apply wa_ | apply wn_ | apply w1_) | exact HB.out))) : w.heap.size ≤ gb130)); clear HB; have HB := n0_; have BK130 := n1_; have GW130 := n2_; have GE130 := n3_; clear n0_ n1_ n2_ n3_; clear hb hbox hg; have hcz9_0 : w8.cell? ⟨gb130, 0, none⟩ = some (.int .i64 0) := (bc_ BK130.out 0).trans rfl; have hcz9_1 : w8.cell? ⟨gb130, 1, none⟩ = some (.int .i64 0) := (bc_ BK130.out 1).trans rfl; have hcz9_2 : w8.cell? ⟨gb130, 2, none⟩ = some (.int .i64 0) := (bc_ BK130.out 2).trans rfl; have hcz9_3 : w8.cell? ⟨gb130, 3, none⟩ = some (.int .i64 0) := (bc_ BK130.out 3).trans rfl; have hfz9_0 := blk_frozen BK130.out 0; have hfz9_1 := blk_frozen BK130.out 1; have hfz9_2 := blk_frozen BK130.out 2; have hfz9_3 := blk_frozen BK130.out 3) | ((with_reducible refine gate_callee (f := 44) rfl ?_); refine goesL_ (some 15) rfl rfl Try.func44 (by kernel_rfl) rfl #[.agg #[.int .i64 ((rd_T33 l0 x10_1).f0), .int .i64 ((rd_T33 l0 x10_1).f1), .int .i64 ((rd_T33 l0 x10_1).f2), .int .i64 ((rd_T33 l0 x10_1).f3)]] rfl (by (try simp only [q4_, q5_, q6_]); first | done | rfl | (simp only [List.length_drop, List.length_take]; rfl)) ?_; (with_reducible refine (impl_validEntry.calls k1 ((rd_T33 l0 x10_1).f0) ((rd_T33 l0 x10_1).f1) ((rd_T33 l0 x10_1).f2) ((rd_T33 l0 x10_1).f3) true _ A6.out).mono ?_); rintro e w10 ⟨rfl, hb⟩; refine ⟨_, rfl, ?_⟩; have n0_ := am_ (bb_ (g := gb130) (o := .cells #[.int .i64 ((rd_T33 l0 x10_1).f0), .int .i64 ((rd_T33 l0 x10_1).f1), .int .i64 ((rd_T33 l0 x10_1).f2), .int .i64 ((rd_T33 l0 x10_1).f3)] 33 (0, 0)) (by (with_reducible repeat (first | refine bn_ ?_ _ | refine bd_ ?_ | refine bl_ ?_ _)); refine blk_put (cs := #[.int .i64 ((rd_T33 l0 x10_1).f0), .int .i64 ((rd_T33 l0 x10_1).f1), .int .i64 ((rd_T33 l0 x10_1).f2), .int .i64 0]) ?_ 3 _ rfl; (with_reducible repeat (first | refine bn_ ?_ _ | refine bd_ ?_ | refine bl_ ?_ _)); refine blk_put (cs := #[.int .i64 ((rd_T33 l0 x10_1).f0), .int .i64 ((rd_T33 l0 x10_1).f1), .int .i64 0, .int .i64 0]) ?_ 2 _ rfl; (with_reducible repeat (first | refine bn_ ?_ _ | refine bd_ ?_ | refine bl_ ?_ _)); refine blk_put (cs := #[.int .i64 ((rd_T33 l0 x10_1).f0), .int .i64 0, .int .i64 0, .int .i64 0]) ?_ 1 _ rfl; (with_reducible repeat (first | refine bn_ ?_ _ | refine bd_ ?_ | refine bl_ ?_ _)); refine blk_put (cs := #[.int .i64 0, .int .i64 0, .int .i64 0, .int .i64 0]) ?_ 0 _ rfl; (with_reducible repeat (first | refine bn_ ?_ _ | refine bd_ ?_ | refine bl_ ?_ _)); exact BK130.out) hb); have n1_ := am_ (below_step (by repeat (first | (with_reducible first | exact HB.out | apply wa_ | apply wn_ | apply w1_ | refine ws_ ?_ GE130.out) | exact HB.out)) hb); clear BK130 HB; have BK130 := n0_; have HB := n1_; clear n0_ n1_; (try clear hb); (try clear hb2); (try clear hk); (try clear hi)))
        go_roundg k1
        case measure => have := HK1.out; omega
        case rel => exact ⟨(wrap64 (x10_1 + 1)), (by first | rfl | (simp; done) | (simp [*]; done)), H', ⟨by have := HK1.out; omega⟩, ⟨by repeat (first | (with_reducible first | exact HB.out | apply wa_ | apply wn_ | apply w1_ | refine ws_ ?_ GE130.out) | exact HB.out)⟩⟩
       ·replace c7 := Bool.eq_false_iff.mpr c7
        subst c7
        have H1 : (some false) = some r := by rw [if_neg (show ¬ (false = true) by decide)] at H; exact H
        clear H
        have H := H1
        clear H1
        obtain rfl := Option.some.inj H
        have p129 : 0 ≤ (x10_1 : Int) := of_decide_eq_true (by first | (with_reducible assumption) | assumption)
        have q129 : x10_1 < (l0.length : Int) := of_decide_eq_true (by first | (with_reducible assumption) | assumption)
        obtain ⟨ad129, e129, hx129_0, hx129_1, hx129_2, hx129_3⟩ := at_T33 HR0.out x10_1 p129 q129
        cases e129
        replace hx129_0 := (HB.out.cell (World.block_lt_of_cell? w _ hx129_0)).trans hx129_0
        replace hx129_1 := (HB.out.cell (World.block_lt_of_cell? w _ hx129_1)).trans hx129_1
        replace hx129_2 := (HB.out.cell (World.block_lt_of_cell? w _ hx129_2)).trans hx129_2
        replace hx129_3 := (HB.out.cell (World.block_lt_of_cell? w _ hx129_3)).trans hx129_3
        replace p129 := eq_true p129
        replace q129 := eq_true q129
        go_wp2_with (first | ((with_reducible refine gate_dst (N := 4) rfl ?_); refine box_event ?hg (N := 4) ?hd (cs := #[.int .i64 0, .int .i64 0, .int .i64 0, .int .i64 0]) (t := 33) ?hr ?_; (case hd => rfl); (case hg => rfl); (case hr => first | (go_simp; done) | (go_simp; rfl)); intro gb130 hg w11 hbox hb; have n0_ := am_ (below_step (by repeat (first | (with_reducible first | exact HB.out | apply wa_ | apply wn_ | apply w1_) | exact HB.out)) hb); have n1_ := am_ (hbox); have n2_ := am_ ((by rw [hg]; exact (below_size (by repeat (first | (with_reducible first | exact HB.out | apply wa_ | apply wn_ | apply w1_) | exact HB.out))) : w.heap.size ≤ gb130)); have n3_ := am_ ((by rw [hg]; exact (below_size (by repeat (first | (with_reducible first | exact HB.out | apply wa_ | apply wn_ | apply w1_) | exact HB.out))) : w.heap.size ≤ gb130)); clear HB; have HB := n0_; have BK130 := n1_; have GW130 := n2_; have GE130 := n3_; clear n0_ n1_ n2_ n3_; clear hb hbox hg; have hcz12_0 : w11.cell? ⟨gb130, 0, none⟩ = some (.int .i64 0) := (bc_ BK130.out 0).trans rfl; have hcz12_1 : w11.cell? ⟨gb130, 1, none⟩ = some (.int .i64 0) := (bc_ BK130.out 1).trans rfl; have hcz12_2 : w11.cell? ⟨gb130, 2, none⟩ = some (.int .i64 0) := (bc_ BK130.out 2).trans rfl; have hcz12_3 : w11.cell? ⟨gb130, 3, none⟩ = some (.int .i64 0) := (bc_ BK130.out 3).trans rfl; have hfz12_0 := blk_frozen BK130.out 0; have hfz12_1 := blk_frozen BK130.out 1; have hfz12_2 := blk_frozen BK130.out 2; have hfz12_3 := blk_frozen BK130.out 3) | ((with_reducible refine gate_callee (f := 44) rfl ?_); refine goesL_ (some 15) rfl rfl Try.func44 (by kernel_rfl) rfl #[.agg #[.int .i64 ((rd_T33 l0 x10_1).f0), .int .i64 ((rd_T33 l0 x10_1).f1), .int .i64 ((rd_T33 l0 x10_1).f2), .int .i64 ((rd_T33 l0 x10_1).f3)]] rfl (by (try simp only [q4_, q5_, q6_]); first | done | rfl | (simp only [List.length_drop, List.length_take]; rfl)) ?_; (with_reducible refine (impl_validEntry.calls k1 ((rd_T33 l0 x10_1).f0) ((rd_T33 l0 x10_1).f1) ((rd_T33 l0 x10_1).f2) ((rd_T33 l0 x10_1).f3) false _ A6.out).mono ?_); rintro e w13 ⟨rfl, hb⟩; refine ⟨_, rfl, ?_⟩; have n0_ := am_ (bb_ (g := gb130) (o := .cells #[.int .i64 ((rd_T33 l0 x10_1).f0), .int .i64 ((rd_T33 l0 x10_1).f1), .int .i64 ((rd_T33 l0 x10_1).f2), .int .i64 ((rd_T33 l0 x10_1).f3)] 33 (0, 0)) (by (with_reducible repeat (first | refine bn_ ?_ _ | refine bd_ ?_ | refine bl_ ?_ _)); refine blk_put (cs := #[.int .i64 ((rd_T33 l0 x10_1).f0), .int .i64 ((rd_T33 l0 x10_1).f1), .int .i64 ((rd_T33 l0 x10_1).f2), .int .i64 0]) ?_ 3 _ rfl; (with_reducible repeat (first | refine bn_ ?_ _ | refine bd_ ?_ | refine bl_ ?_ _)); refine blk_put (cs := #[.int .i64 ((rd_T33 l0 x10_1).f0), .int .i64 ((rd_T33 l0 x10_1).f1), .int .i64 0, .int .i64 0]) ?_ 2 _ rfl; (with_reducible repeat (first | refine bn_ ?_ _ | refine bd_ ?_ | refine bl_ ?_ _)); refine blk_put (cs := #[.int .i64 ((rd_T33 l0 x10_1).f0), .int .i64 0, .int .i64 0, .int .i64 0]) ?_ 1 _ rfl; (with_reducible repeat (first | refine bn_ ?_ _ | refine bd_ ?_ | refine bl_ ?_ _)); refine blk_put (cs := #[.int .i64 0, .int .i64 0, .int .i64 0, .int .i64 0]) ?_ 0 _ rfl; (with_reducible repeat (first | refine bn_ ?_ _ | refine bd_ ?_ | refine bl_ ?_ _)); exact BK130.out) hb); have n1_ := am_ (below_step (by repeat (first | (with_reducible first | exact HB.out | apply wa_ | apply wn_ | apply w1_ | refine ws_ ?_ GE130.out) | exact HB.out)) hb); clear BK130 HB; have BK130 := n0_; have HB := n1_; clear n0_ n1_; (try clear hb); (try clear hb2); (try clear hk); (try clear hi)))
        go_ret
        exact ⟨by first | rfl | (simp [errW_none, errW_some] <;> rfl) | (simp [*, errW_none, errW_some] <;> rfl), by repeat (first | (with_reducible first | exact HB.out | apply wa_ | apply wn_ | apply w1_ | refine ws_ ?_ GE130.out) | exact HB.out)⟩
      ·rw [if_neg c5] at H
       exact absurd H (by simp)
     ·rw [if_neg c4] at H
      exact absurd H (by simp)
    ·rw [if_neg c3] at H
     have c3b0 : decide (x10_1 < (l0.length : Int)) = false := decide_eq_false c3
     clear c3
     obtain rfl := Option.some.inj H
     go_wp2
     go_ret
     exact ⟨by first | rfl | (simp [errW_none, errW_some] <;> rfl) | (simp [*, errW_none, errW_some] <;> rfl), by repeat (first | (with_reducible first | exact HB.out | apply wa_ | apply wn_ | apply w1_) | exact HB.out)⟩

/-! ### impl_MatchBooks: function 22 -/
mutual
def impl_MatchBooks.j0 : Nat → List (S33) → List (S33) → Bool → Option (List Int)
 | 0, _, _, _ => none
 | k + 1, x0, x1, x19 => if x19 = true then (some ([] : List Int)) else (if 0 ≤ (x1.length : Int) then (if ((x1.length : Int) : Int).toNat ≤ 281474976710656 then (impl_MatchBooks.l0 k x1 (List.replicate ((x1.length : Int) : Int).toNat false) ([] : List Int) x0 (x0.length : Int) 0) else (none)) else (none))
def impl_MatchBooks.l0 : Nat → List (S33) → List Bool → List Int → List (S33) → Int → Int → Option (List Int)
 | 0, _, _, _, _, _, _ => none
 | k + 1, x1, x5, x6, x23, x24, x25 => if x25 < x24 then (if 0 ≤ x25 then (if x25 < (x23.length : Int) then (impl_MatchBooks.l1 k x1 x5 x6 (-1) x23 x24 x25 x1 (x1.length : Int) 0 ((rd_T33 x23 x25).f0) ((rd_T33 x23 x25).f1) ((rd_T33 x23 x25).f2) ((rd_T33 x23 x25).f3)) else (none)) else (none)) else (some x6)
def impl_MatchBooks.l1 : Nat → List (S33) → List Bool → List Int → Int → List (S33) → Int → Int → List (S33) → Int → Int → Int → Int → Int → Int → Option (List Int)
 | 0, _, _, _, _, _, _, _, _, _, _, _, _, _, _ => none
 | k + 1, x1, x5, x6, x9, x23, x24, x25, x29, x30, x31, x139000, x139001, x139002, x139003 => if x31 < x30 then (if 0 ≤ x31 then (if x31 < (x29.length : Int) then (if x31 < (x5.length : Int) then (if rdOf false x5 x31 = true then (impl_MatchBooks.l1 k x1 x5 x6 x9 x23 x24 x25 x29 x30 (wrap64 (x31 + 1)) x139000 x139001 x139002 x139003) else (if (((rd_T33 x29 x31).f0) == x139000 && (((rd_T33 x29 x31).f1) == x139001 && (((rd_T33 x29 x31).f2) == x139002 && (((rd_T33 x29 x31).f3) == x139003)))) = true then (if x6.length < 17592186044416 then (impl_MatchBooks.l0 k x1 (x5.set (x31 : Int).toNat true) (x6 ++ [x31]) x23 x24 (wrap64 (x25 + 1))) else (none)) else (impl_MatchBooks.l1 k x1 x5 x6 x9 x23 x24 x25 x29 x30 (wrap64 (x31 + 1)) x139000 x139001 x139002 x139003))) else (none)) else (none)) else (none)) else (if x6.length < 17592186044416 then (impl_MatchBooks.l0 k x1 x5 (x6 ++ [x9]) x23 x24 (wrap64 (x25 + 1))) else (none))
end
def impl_MatchBooks.f (k : Nat) (l0 : List (S33)) (l1 : List (S33)) : Option (List Int) := (impl_ValidEntries.f k l0).bind fun t132 => (if t132 = true then ((impl_ValidEntries.f k l1).bind fun t133 => (impl_MatchBooks.j0 k l0 l1 (!t133))) else (impl_MatchBooks.j0 k l0 l1 true))
theorem impl_MatchBooks.mono_l : ∀ k, (∀ y0 y1 y2, LeO (impl_MatchBooks.j0 k y0 y1 y2) (impl_MatchBooks.j0 (k + 1) y0 y1 y2)) ∧ (∀ y0 y1 y2 y3 y4 y5, LeO (impl_MatchBooks.l0 k y0 y1 y2 y3 y4 y5) (impl_MatchBooks.l0 (k + 1) y0 y1 y2 y3 y4 y5)) ∧ (∀ y0 y1 y2 y3 y4 y5 y6 y7 y8 y9 y10 y11 y12 y13, LeO (impl_MatchBooks.l1 k y0 y1 y2 y3 y4 y5 y6 y7 y8 y9 y10 y11 y12 y13) (impl_MatchBooks.l1 (k + 1) y0 y1 y2 y3 y4 y5 y6 y7 y8 y9 y10 y11 y12 y13))
 | 0 => ⟨fun _ _ _ r h => by simp [impl_MatchBooks.j0] at h, fun _ _ _ _ _ _ r h => by simp [impl_MatchBooks.l0] at h, fun _ _ _ _ _ _ _ _ _ _ _ _ _ _ r h => by simp [impl_MatchBooks.l1] at h⟩
 | k + 1 => by
  obtain ⟨ih0, ih1, ih2⟩ := impl_MatchBooks.mono_l k
  refine ⟨?_, ?_, ?_⟩
  ·intro y0 y1 y2
   unfold impl_MatchBooks.j0
   repeat' first
   | (with_reducible exact ih0 _ _ _)
   | (with_reducible exact ih1 _ _ _ _ _ _)
   | (with_reducible exact ih2 _ _ _ _ _ _ _ _ _ _ _ _ _ _)
   | (with_reducible exact impl_ValidEntries.mono _ _)
   | (with_reducible exact LeO.refl _)
   | (with_reducible exact LeO.none _)
   | (with_reducible refine LeO.ite ?_ ?_)
   | (with_reducible refine LeO.bind ?_ (fun _ => ?_))
   | exact ih0 _ _ _
   | exact ih1 _ _ _ _ _ _
   | exact ih2 _ _ _ _ _ _ _ _ _ _ _ _ _ _
   | exact impl_ValidEntries.mono _ _
   | exact LeO.none _
   | refine LeO.ite ?_ ?_
   | refine LeO.bind ?_ (fun _ => ?_)
  ·intro y0 y1 y2 y3 y4 y5
   unfold impl_MatchBooks.l0
   repeat' first
   | (with_reducible exact ih0 _ _ _)
   | (with_reducible exact ih1 _ _ _ _ _ _)
   | (with_reducible exact ih2 _ _ _ _ _ _ _ _ _ _ _ _ _ _)
   | (with_reducible exact impl_ValidEntries.mono _ _)
   | (with_reducible exact LeO.refl _)
   | (with_reducible exact LeO.none _)
   | (with_reducible refine LeO.ite ?_ ?_)
   | (with_reducible refine LeO.bind ?_ (fun _ => ?_))
   | exact ih0 _ _ _
   | exact ih1 _ _ _ _ _ _
   | exact ih2 _ _ _ _ _ _ _ _ _ _ _ _ _ _
   | exact impl_ValidEntries.mono _ _
   | exact LeO.none _
   | refine LeO.ite ?_ ?_
   | refine LeO.bind ?_ (fun _ => ?_)
  ·intro y0 y1 y2 y3 y4 y5 y6 y7 y8 y9 y10 y11 y12 y13
   unfold impl_MatchBooks.l1
   repeat' first
   | (with_reducible exact ih0 _ _ _)
   | (with_reducible exact ih1 _ _ _ _ _ _)
   | (with_reducible exact ih2 _ _ _ _ _ _ _ _ _ _ _ _ _ _)
   | (with_reducible exact impl_ValidEntries.mono _ _)
   | (with_reducible exact LeO.refl _)
   | (with_reducible exact LeO.none _)
   | (with_reducible refine LeO.ite ?_ ?_)
   | (with_reducible refine LeO.bind ?_ (fun _ => ?_))
   | exact ih0 _ _ _
   | exact ih1 _ _ _ _ _ _
   | exact ih2 _ _ _ _ _ _ _ _ _ _ _ _ _ _
   | exact impl_ValidEntries.mono _ _
   | exact LeO.none _
   | refine LeO.ite ?_ ?_
   | refine LeO.bind ?_ (fun _ => ?_)
theorem impl_MatchBooks.mono : ∀ a0 a1 k, LeO (impl_MatchBooks.f k a0 a1) (impl_MatchBooks.f (k + 1) a0 a1) := by
 intro a0 a1 k
 obtain ⟨ih0, ih1, ih2⟩ := impl_MatchBooks.mono_l k
 unfold impl_MatchBooks.f
 repeat' first
   | (with_reducible exact ih0 _ _ _)
   | (with_reducible exact ih1 _ _ _ _ _ _)
   | (with_reducible exact ih2 _ _ _ _ _ _ _ _ _ _ _ _ _ _)
   | (with_reducible exact impl_ValidEntries.mono _ _)
   | (with_reducible exact LeO.refl _)
   | (with_reducible exact LeO.none _)
   | (with_reducible refine LeO.ite ?_ ?_)
   | (with_reducible refine LeO.bind ?_ (fun _ => ?_))
   | exact ih0 _ _ _
   | exact ih1 _ _ _ _ _ _
   | exact ih2 _ _ _ _ _ _ _ _ _ _ _ _ _ _
   | exact impl_ValidEntries.mono _ _
   | exact LeO.none _
   | refine LeO.ite ?_ ?_
   | refine LeO.bind ?_ (fun _ => ?_)
set_option maxHeartbeats 8000000 in
set_option maxRecDepth 100000 in
theorem impl_MatchBooks.calls (k : Nat) (A0 : Option Addr) (c0 : Nat) (l0 : List (S33)) (A1 : Option Addr) (c1 : Nat) (l1 : List (S33)) (r : List Int) (w : World) (hr0 : Kd.C k33 w A0 l0.length l0) (hc0 : l0.length ≤ c0) (hr1 : Kd.C k33 w A1 l1.length l1) (hc1 : l1.length ≤ c1) (h : impl_MatchBooks.f k l0 l1 = some r) :
  Calls Try.prog 22 #[.slice A0 l0.length c0, .slice A1 l1.length c1] w fun e w' => ∃ v0_ : Value, e = .returned (v0_) ∧ Kd.R (Kd.int .i64) 3 w' w.heap.size (fun _ => True) v0_ r ∧ Below w.heap.size w w' := by
 have hu33 := Try.underlying33
 have HR0 := am_ hr0
 have HC0 := am_ hc0
 clear hr0 hc0
 have HR1 := am_ hr1
 have HC1 := am_ hc1
 clear hr1 hc1
 have HB := am_ (Below.refl w.heap.size w)
 have H : ((impl_ValidEntries.f k l0).bind fun t132 => (if t132 = true then ((impl_ValidEntries.f k l1).bind fun t133 => (impl_MatchBooks.j0 k l0 l1 (!t133))) else (impl_MatchBooks.j0 k l0 l1 true))) = some r := h
 clear h
 have HC3 := am_ H
 clear H
 go_enter Try.func22, Try.ntmps22
 go_upto_region 1 with (fail)
 go_cut [19] (fun v19 wc => ∃ (kq : Nat) (x19_2 : Bool), v19 = .bool x19_2 ∧ Aside0 (impl_MatchBooks.j0 kq l0 l1 x19_2 = some r) ∧ Aside0 (kq ≤ k) ∧ Aside0 (Below w.heap.size w wc))
 case first =>
  have H := HC3.out
  clear HC3
  replace H := Option.bind_eq_some_iff.mp H
  obtain ⟨t132, A40, H⟩ := H
  replace H : (if t132 = true then ((impl_ValidEntries.f k l1).bind fun t133 => (impl_MatchBooks.j0 k l0 l1 (!t133))) else (impl_MatchBooks.j0 k l0 l1 true)) = some r := H
  have A4 := am_ A40
  clear A40
  by_cases c5 : t132 = true
  ·subst c5
   have H1 : ((impl_ValidEntries.f k l1).bind fun t133 => (impl_MatchBooks.j0 k l0 l1 (!t133))) = some r := by rw [if_pos rfl] at H; exact H
   clear H
   have H := H1
   clear H1
   replace H := Option.bind_eq_some_iff.mp H
   obtain ⟨t133, A60, H⟩ := H
   replace H : (impl_MatchBooks.j0 k l0 l1 (!t133)) = some r := H
   have A6 := am_ A60
   clear A60
   have H' := am_ H
   clear H
   go_wp2_with (first | ((with_reducible refine gate_callee (f := 15) rfl ?_); refine goesL_ (some 13) rfl rfl Try.func15 (by kernel_rfl) rfl #[.slice A0 l0.length c0] rfl (by (try simp only [q4_, q5_, q6_]); first | done | rfl | (simp only [List.length_drop, List.length_take]; rfl)) ?_; (with_reducible refine (impl_ValidEntries.calls k _ _ l0 true _ ?side1 ?side2 A4.out).mono ?_); (case side1 => repeat (first | exact (Kd.C_below HR0.out HB.out) | (with_reducible refine Kd.C_alloc ?_ _) | (with_reducible refine Kd.C_drewN ?_ _) | (with_reducible refine Kd.C_drew ?_))); (case side2 => exact HC0.out); rintro e w7 ⟨rfl, hb⟩; refine ⟨_, rfl, ?_⟩; have n0_ := am_ (below_step (by repeat (first | (with_reducible first | exact HB.out | apply wa_ | apply wn_ | apply w1_) | exact HB.out)) hb); clear HB; have HB := n0_; clear n0_; (try clear hb); (try clear hb2); (try clear hk); (try clear hi)) | (go_at_call 15; (with_reducible refine (impl_ValidEntries.calls k _ _ l1 t133 _ ?side1 ?side2 A6.out).mono ?_); (case side1 => repeat (first | exact (Kd.C_below HR1.out HB.out) | (with_reducible refine Kd.C_alloc ?_ _) | (with_reducible refine Kd.C_drewN ?_ _) | (with_reducible refine Kd.C_drew ?_))); (case side2 => exact HC1.out); rintro e w8 ⟨rfl, hb⟩; have n0_ := am_ (below_step (by repeat (first | (with_reducible first | exact HB.out | apply wa_ | apply wn_ | apply w1_) | exact HB.out)) hb); clear HB; have HB := n0_; clear n0_; (try clear hb); (try clear hb2); (try clear hk); (try clear hi)))
   go_meet
   case rel => exact ⟨_, (!t133), (by first | rfl | (simp; done) | (simp [*]; done)), H', ⟨by first | omega | exact Nat.le_refl _⟩, ⟨by repeat (first | (with_reducible first | exact HB.out | apply wa_ | apply wn_ | apply w1_) | exact HB.out)⟩⟩
  ·replace c5 := Bool.eq_false_iff.mpr c5
   subst c5
   have H1 : (impl_MatchBooks.j0 k l0 l1 true) = some r := by rw [if_neg (show ¬ (false = true) by decide)] at H; exact H
   clear H
   have H := H1
   clear H1
   have H' := am_ H
   clear H
   go_wp2_with (first | ((with_reducible refine gate_callee (f := 15) rfl ?_); refine goesL_ (some 13) rfl rfl Try.func15 (by kernel_rfl) rfl #[.slice A0 l0.length c0] rfl (by (try simp only [q4_, q5_, q6_]); first | done | rfl | (simp only [List.length_drop, List.length_take]; rfl)) ?_; (with_reducible refine (impl_ValidEntries.calls k _ _ l0 false _ ?side1 ?side2 A4.out).mono ?_); (case side1 => repeat (first | exact (Kd.C_below HR0.out HB.out) | (with_reducible refine Kd.C_alloc ?_ _) | (with_reducible refine Kd.C_drewN ?_ _) | (with_reducible refine Kd.C_drew ?_))); (case side2 => exact HC0.out); rintro e w9 ⟨rfl, hb⟩; refine ⟨_, rfl, ?_⟩; have n0_ := am_ (below_step (by repeat (first | (with_reducible first | exact HB.out | apply wa_ | apply wn_ | apply w1_) | exact HB.out)) hb); clear HB; have HB := n0_; clear n0_; (try clear hb); (try clear hb2); (try clear hk); (try clear hi)))
   go_meet
   case rel => exact ⟨_, (true), (by first | rfl | (simp; done) | (simp [*]; done)), H', ⟨by first | omega | exact Nat.le_refl _⟩, ⟨by repeat (first | (with_reducible first | exact HB.out | apply wa_ | apply wn_ | apply w1_) | exact HB.out)⟩⟩
 case rest =>
  clear HC3
  try clear c1; try clear c2; try clear p2; try clear c5
  obtain ⟨kq, x19_2, rfl, HA, HJ2, HB⟩ := hcut
  cases kq with
  | zero => exact absurd HA.out (by simp [impl_MatchBooks.j0])
  | succ kj2 =>
   have H := HA.out
   clear HA
   simp only [impl_MatchBooks.j0] at H
   by_cases c10 : x19_2 = true
   ·subst c10
    have H1 : (some ([] : List Int)) = some r := by rw [if_pos rfl] at H; exact H
    clear H
    have H := H1
    clear H1
    obtain rfl := Option.some.inj H
    go_wp2
    go_ret
    exact ⟨_, by first | rfl | (simp [errW_none, errW_some] <;> rfl) | (simp [*, errW_none, errW_some] <;> rfl), by first | exact Kd.R_nil _ _ _ _ _ | exact Kd.N_nil _ _ _ _ _ | exact Kd.V_nil _ _ _ _ _ | exact Kd.Q_nil _ _ _ _ _ | exact Kd.S_nil _ _ _ _ _, by repeat (first | (with_reducible first | exact HB.out | apply wa_ | apply wn_ | apply w1_) | exact HB.out)⟩
   ·replace c10 := Bool.eq_false_iff.mpr c10
    subst c10
    have H1 : (if 0 ≤ (l1.length : Int) then (if ((l1.length : Int) : Int).toNat ≤ 281474976710656 then (impl_MatchBooks.l0 kj2 l1 (List.replicate ((l1.length : Int) : Int).toNat false) ([] : List Int) l0 (l0.length : Int) 0) else (none)) else (none)) = some r := by rw [if_neg (show ¬ (false = true) by decide)] at H; exact H
    clear H
    have H := H1
    clear H1
    by_cases c11 : 0 ≤ (l1.length : Int)
    ·rw [if_pos c11] at H
     have c11b0 := eq_true c11
     have c11b1 : decide (0 ≤ (l1.length : Int)) = true := decide_eq_true c11
     clear c11
     by_cases c12 : ((l1.length : Int) : Int).toNat ≤ 281474976710656
     ·rw [if_pos c12] at H
      have c12b0 := eq_true c12
      have c12b1 : decide (((l1.length : Int) : Int).toNat ≤ 281474976710656) = true := decide_eq_true c12
      clear c12
      obtain ⟨y134, hy134⟩ : ∃ y_ : List Bool, y_ = (List.replicate ((l1.length : Int) : Int).toNat false) := ⟨_, rfl⟩
      replace H : (impl_MatchBooks.l0 kj2 l1 y134 ([] : List Int) l0 (l0.length : Int) 0) = some r := by first | (rw [hy134]; with_reducible exact H) | (have H2_ := (q7_ _ _).symm.trans H; rw [hy134]; with_reducible exact H2_) | (have H2_ := (q7_ _ _).symm.trans H; with_reducible exact H2_) | with_reducible exact H | (rw [hy134]; exact H) | exact H
      have Ny134 := am_ hy134
      clear hy134
      have H' := am_ H
      clear H
      go_wp2_with (first | ((with_reducible refine gate_dst (N := 22) rfl ?_); refine Kd.R_make Kd.bool _ 4 rfl (N := 22) rfl 61 _ _ rfl (l1.length : Int) rfl rfl Try.underlying61 (.bool false) 1 info4 rfl (by decide) (by omega) false (ok := fun _ => True) (okp := fun _ => True) rfl (fun _ hk => hk) trivial (of_decide_eq_true (by first | (with_reducible assumption) | assumption)) (Nat.le_trans (Nat.mul_le_mul_right _ (of_decide_eq_true (by first | (with_reducible assumption) | assumption) : (l1.length : Int).toNat ≤ 281474976710656)) (by omega)) (Below.refl _ _) (Nat.le_refl _) ?_; intro v135 w13 ho14 hb hg_ hnew_; clear hg_ hnew_; (first | rw [← Ny134.out] at ho14 | (simp only [Int.reduceToNat] at ho14; rw [← Ny134.out] at ho14)); have n0_ := am_ (Kd.R_lower ho14 (below_size (by repeat (first | (with_reducible first | exact HB.out | apply wa_ | apply wn_ | apply w1_) | exact HB.out)))); have n1_ := am_ (below_step (by repeat (first | (with_reducible first | exact HB.out | apply wa_ | apply wn_ | apply w1_) | exact HB.out)) hb); clear HB; have HO136 := n0_; have HB := n1_; clear n0_ n1_; clear hb ho14))
      go_loopg [6, 25] kj2 (fun kq v6 v25 w' => ∃ (x5_2 : List Bool) (x6_2 : List Int) (x25_2 : Int), v25 = .int .i64 x25_2 ∧ Aside0 (impl_MatchBooks.l0 kq l1 x5_2 x6_2 l0 (l0.length : Int) x25_2 = some r) ∧ Aside0 (kq ≤ kj2) ∧ Aside0 (Kd.R Kd.bool 4 w' w.heap.size (fun _ => True) v135 x5_2) ∧ Aside0 (Kd.R (Kd.int .i64) 3 w' w.heap.size (fun _ => True) v6 x6_2) ∧ Aside0 (Below w.heap.size w w'))
      case atStart => exact ⟨(y134), (([] : List Int)), (0), (by first | rfl | (simp; done) | (simp [*]; done)), H', ⟨Nat.le_refl _⟩, ⟨by (with_reducible repeat (first | apply ra_ | apply rn_ | apply re_)); exact HO136.out⟩, ⟨by first | exact Kd.R_nil _ _ _ _ _ | exact Kd.N_nil _ _ _ _ _ | exact Kd.V_nil _ _ _ _ _ | exact Kd.Q_nil _ _ _ _ _ | exact Kd.S_nil _ _ _ _ _⟩, ⟨by repeat (first | (with_reducible first | exact HB.out | apply wa_ | apply wn_ | apply w1_) | exact HB.out)⟩⟩
      case round =>
       clear H'
       try clear c1; try clear c2; try clear p2; try clear c5; try clear c10; try clear c11; try clear c11b0; try clear c11b1; try clear c12; try clear c12b0; try clear c12b1; try clear p2
       obtain ⟨x5_2, x6_2, x25_2, rfl, HA, HK2, HO_5, HO_6, HB⟩ := hrel
       cases gk with
       | zero => exact absurd HA.out (by simp [impl_MatchBooks.l0])
       | succ k2 =>
        have H := HA.out
        clear HA
        simp only [impl_MatchBooks.l0] at H
        by_cases c15 : x25_2 < (l0.length : Int)
        ·rw [if_pos c15] at H
         have c15b0 : decide (x25_2 < (l0.length : Int)) = true := decide_eq_true c15
         clear c15
         by_cases c16 : 0 ≤ x25_2
         ·rw [if_pos c16] at H
          have c16b0 : decide (0 ≤ x25_2) = true := decide_eq_true c16
          clear c16
          by_cases c17 : x25_2 < (l0.length : Int)
          ·rw [if_pos c17] at H
           have c17b0 : decide (x25_2 < (l0.length : Int)) = true := decide_eq_true c17
           clear c17
           have H' := am_ H
           clear H
           have p137 : 0 ≤ (x25_2 : Int) := of_decide_eq_true (by first | (with_reducible assumption) | assumption)
           have q137 : x25_2 < (l0.length : Int) := of_decide_eq_true (by first | (with_reducible assumption) | assumption)
           obtain ⟨ad137, e137, hx137_0, hx137_1, hx137_2, hx137_3⟩ := at_T33 HR0.out x25_2 p137 q137
           cases e137
           replace hx137_0 := (HB.out.cell (World.block_lt_of_cell? w _ hx137_0)).trans hx137_0
           replace hx137_1 := (HB.out.cell (World.block_lt_of_cell? w _ hx137_1)).trans hx137_1
           replace hx137_2 := (HB.out.cell (World.block_lt_of_cell? w _ hx137_2)).trans hx137_2
           replace hx137_3 := (HB.out.cell (World.block_lt_of_cell? w _ hx137_3)).trans hx137_3
           replace p137 := eq_true p137
           replace q137 := eq_true q137
           go_wp2_with (first | ((with_reducible refine gate_dst (N := 8) rfl ?_); refine box_event ?hg (N := 8) ?hd (cs := #[.int .i64 0, .int .i64 0, .int .i64 0, .int .i64 0]) (t := 33) ?hr ?_; (case hd => rfl); (case hg => rfl); (case hr => first | (go_simp; done) | (go_simp; rfl)); intro gb138 hg w18 hbox hb; have n0_ := am_ (Kd.R_below (by (with_reducible repeat (first | apply ra_ | apply rn_ | apply re_)); exact HO_5.out) hb); have n1_ := am_ (Kd.R_below (by (with_reducible repeat (first | apply ra_ | apply rn_ | apply re_)); exact HO_6.out) hb); have n2_ := am_ (below_step (by repeat (first | (with_reducible first | exact HB.out | apply wa_ | apply wn_ | apply w1_) | exact HB.out)) hb); have n3_ := am_ (hbox); have n4_ := am_ ((by rw [hg]; exact (below_size (by repeat (first | (with_reducible first | exact HB.out | apply wa_ | apply wn_ | apply w1_) | exact HB.out))) : w.heap.size ≤ gb138)); have n5_ := am_ ((by rw [hg]; exact (below_size (by repeat (first | (with_reducible first | exact HB.out | apply wa_ | apply wn_ | apply w1_) | exact HB.out))) : w.heap.size ≤ gb138)); clear HO_5 HO_6 HB; have HO_5 := n0_; have HO_6 := n1_; have HB := n2_; have BK138 := n3_; have GW138 := n4_; have GE138 := n5_; clear n0_ n1_ n2_ n3_ n4_ n5_; clear hb hbox hg; have hcz19_0 : w18.cell? ⟨gb138, 0, none⟩ = some (.int .i64 0) := (bc_ BK138.out 0).trans rfl; have hcz19_1 : w18.cell? ⟨gb138, 1, none⟩ = some (.int .i64 0) := (bc_ BK138.out 1).trans rfl; have hcz19_2 : w18.cell? ⟨gb138, 2, none⟩ = some (.int .i64 0) := (bc_ BK138.out 2).trans rfl; have hcz19_3 : w18.cell? ⟨gb138, 3, none⟩ = some (.int .i64 0) := (bc_ BK138.out 3).trans rfl; have hfz19_0 := blk_frozen BK138.out 0; have hfz19_1 := blk_frozen BK138.out 1; have hfz19_2 := blk_frozen BK138.out 2; have hfz19_3 := blk_frozen BK138.out 3))
           go_loopg [9, 31] k2 (fun kq v9 v31 w' => ∃ (x5_3 : List Bool) (x9_3 : Int) (x31_3 : Int), v9 = .int .i64 x9_3 ∧ v31 = .int .i64 x31_3 ∧ Aside0 (impl_MatchBooks.l1 kq l1 x5_3 x6_2 x9_3 l0 (l0.length : Int) x25_2 l1 (l1.length : Int) x31_3 ((rd_T33 l0 x25_2).f0) ((rd_T33 l0 x25_2).f1) ((rd_T33 l0 x25_2).f2) ((rd_T33 l0 x25_2).f3) = some r) ∧ Aside0 (kq ≤ k2) ∧ Aside0 (Kd.R Kd.bool 4 w' w.heap.size (fun _ => True) v135 x5_3) ∧ Aside0 (Kd.R (Kd.int .i64) 3 w' w.heap.size (fun _ => True) u6 x6_2) ∧ Aside0 (w'.heap[gb138]? = some (.cells #[.int .i64 ((rd_T33 l0 x25_2).f0), .int .i64 ((rd_T33 l0 x25_2).f1), .int .i64 ((rd_T33 l0 x25_2).f2), .int .i64 ((rd_T33 l0 x25_2).f3)] 33 (0, 0))) ∧ Aside0 (Below w.heap.size w w'))
           case atStart => exact ⟨(x5_2), ((-1)), (0), (by first | rfl | (simp; done) | (simp [*]; done)), (by first | rfl | (simp; done) | (simp [*]; done)), H', ⟨Nat.le_refl _⟩, ⟨by (with_reducible repeat (first | apply ra_ | apply rn_ | apply re_)); exact Kd.R_mono (Kd.R_far (p := ⟨gb138, 3, none⟩) (Kd.R_far (p := ⟨gb138, 2, none⟩) (Kd.R_far (p := ⟨gb138, 1, none⟩) (Kd.R_far (p := ⟨gb138, 0, none⟩) (Kd.R_types HO_5.out BK138.out (by decide)) (fun _ hk => hk.2) (.int .i64 ((rd_T33 l0 x25_2).f0))) (fun _ hk => hk.2) (.int .i64 ((rd_T33 l0 x25_2).f1))) (fun _ hk => hk.2) (.int .i64 ((rd_T33 l0 x25_2).f2))) (fun _ hk => hk.2) (.int .i64 ((rd_T33 l0 x25_2).f3))) (fun _ hk => trivial)⟩, ⟨by (with_reducible repeat (first | apply ra_ | apply rn_ | apply re_)); exact Kd.R_mono (Kd.R_far (p := ⟨gb138, 3, none⟩) (Kd.R_far (p := ⟨gb138, 2, none⟩) (Kd.R_far (p := ⟨gb138, 1, none⟩) (Kd.R_far (p := ⟨gb138, 0, none⟩) (Kd.R_types HO_6.out BK138.out (by decide)) (fun _ hk => hk.2) (.int .i64 ((rd_T33 l0 x25_2).f0))) (fun _ hk => hk.2) (.int .i64 ((rd_T33 l0 x25_2).f1))) (fun _ hk => hk.2) (.int .i64 ((rd_T33 l0 x25_2).f2))) (fun _ hk => hk.2) (.int .i64 ((rd_T33 l0 x25_2).f3))) (fun _ hk => trivial)⟩, ⟨by (with_reducible repeat (first | refine bn_ ?_ _ | refine bd_ ?_ | refine bl_ ?_ _)); refine blk_put (cs := #[.int .i64 ((rd_T33 l0 x25_2).f0), .int .i64 ((rd_T33 l0 x25_2).f1), .int .i64 ((rd_T33 l0 x25_2).f2), .int .i64 0]) ?_ 3 _ rfl; (with_reducible repeat (first | refine bn_ ?_ _ | refine bd_ ?_ | refine bl_ ?_ _)); refine blk_put (cs := #[.int .i64 ((rd_T33 l0 x25_2).f0), .int .i64 ((rd_T33 l0 x25_2).f1), .int .i64 0, .int .i64 0]) ?_ 2 _ rfl; (with_reducible repeat (first | refine bn_ ?_ _ | refine bd_ ?_ | refine bl_ ?_ _)); refine blk_put (cs := #[.int .i64 ((rd_T33 l0 x25_2).f0), .int .i64 0, .int .i64 0, .int .i64 0]) ?_ 1 _ rfl; (with_reducible repeat (first | refine bn_ ?_ _ | refine bd_ ?_ | refine bl_ ?_ _)); refine blk_put (cs := #[.int .i64 0, .int .i64 0, .int .i64 0, .int .i64 0]) ?_ 0 _ rfl; (with_reducible repeat (first | refine bn_ ?_ _ | refine bd_ ?_ | refine bl_ ?_ _)); exact BK138.out⟩, ⟨by repeat (first | (with_reducible first | exact HB.out | apply wa_ | apply wn_ | apply w1_ | refine ws_ ?_ GE138.out) | exact HB.out)⟩⟩
           case round =>
            clear H'
            try clear c1; try clear p1; try clear q1; try clear hx1; try clear c2; try clear p2; try clear c5; try clear c10; try clear c11; try clear c11b0; try clear c11b1; try clear c12; try clear c12b0; try clear c12b1; try clear p13; try clear q13; try clear hx13; try clear c15; try clear c15b0; try clear c16; try clear c16b0; try clear c17; try clear c17b0; try clear hcz19_0; try clear hcz19_1; try clear hcz19_2; try clear hcz19_3; try clear hfz19_0; try clear hfz19_1; try clear hfz19_2; try clear hfz19_3; try clear hx137_0; try clear hx137_1; try clear hx137_2; try clear hx137_3; try clear p137; try clear p2; try clear q137
            obtain ⟨x5_3, x9_3, x31_3, rfl, rfl, HA, HK3, HO_5, HO_6, BK138, HB⟩ := hrel
            cases gk with
            | zero => exact absurd HA.out (by simp [impl_MatchBooks.l1])
            | succ k3 =>
             have H := HA.out
             clear HA
             simp only [impl_MatchBooks.l1] at H
             by_cases c20 : x31_3 < (l1.length : Int)
             ·rw [if_pos c20] at H
              have c20b0 : decide (x31_3 < (l1.length : Int)) = true := decide_eq_true c20
              clear c20
              by_cases c21 : 0 ≤ x31_3
              ·rw [if_pos c21] at H
               have c21b0 : decide (0 ≤ x31_3) = true := decide_eq_true c21
               clear c21
               by_cases c22 : x31_3 < (l1.length : Int)
               ·rw [if_pos c22] at H
                have c22b0 : decide (x31_3 < (l1.length : Int)) = true := decide_eq_true c22
                clear c22
                by_cases c23 : x31_3 < (x5_3.length : Int)
                ·rw [if_pos c23] at H
                 have c23b0 : decide (x31_3 < (x5_3.length : Int)) = true := decide_eq_true c23
                 clear c23
                 obtain ⟨bq24, hbq24⟩ : ∃ b_ : Bool, b_ = (rdOf false x5_3 x31_3) := ⟨_, rfl⟩
                 replace H : (if bq24 = true then (impl_MatchBooks.l1 k3 l1 x5_3 x6_2 x9_3 l0 (l0.length : Int) x25_2 l1 (l1.length : Int) (wrap64 (x31_3 + 1)) ((rd_T33 l0 x25_2).f0) ((rd_T33 l0 x25_2).f1) ((rd_T33 l0 x25_2).f2) ((rd_T33 l0 x25_2).f3)) else (if (((rd_T33 l1 x31_3).f0) == ((rd_T33 l0 x25_2).f0) && (((rd_T33 l1 x31_3).f1) == ((rd_T33 l0 x25_2).f1) && (((rd_T33 l1 x31_3).f2) == ((rd_T33 l0 x25_2).f2) && (((rd_T33 l1 x31_3).f3) == ((rd_T33 l0 x25_2).f3))))) = true then (if x6_2.length < 17592186044416 then (impl_MatchBooks.l0 k3 l1 (x5_3.set (x31_3 : Int).toNat true) (x6_2 ++ [x31_3]) l0 (l0.length : Int) (wrap64 (x25_2 + 1))) else (none)) else (impl_MatchBooks.l1 k3 l1 x5_3 x6_2 x9_3 l0 (l0.length : Int) x25_2 l1 (l1.length : Int) (wrap64 (x31_3 + 1)) ((rd_T33 l0 x25_2).f0) ((rd_T33 l0 x25_2).f1) ((rd_T33 l0 x25_2).f2) ((rd_T33 l0 x25_2).f3)))) = some r := by rw [← hbq24] at H; exact H
                 have Nbq24 := am_ hbq24
                 clear hbq24
                 by_cases c25 : bq24 = true
                 ·subst c25
                  have H1 : (impl_MatchBooks.l1 k3 l1 x5_3 x6_2 x9_3 l0 (l0.length : Int) x25_2 l1 (l1.length : Int) (wrap64 (x31_3 + 1)) ((rd_T33 l0 x25_2).f0) ((rd_T33 l0 x25_2).f1) ((rd_T33 l0 x25_2).f2) ((rd_T33 l0 x25_2).f3)) = some r := by rw [if_pos rfl] at H; exact H
                  clear H
                  have H := H1
                  clear H1
                  have H' := am_ H
                  clear H
                  have p139 : 0 ≤ (x31_3 : Int) := of_decide_eq_true (by first | (with_reducible assumption) | assumption)
                  have q139 : x31_3 < (l1.length : Int) := of_decide_eq_true (by first | (with_reducible assumption) | assumption)
                  obtain ⟨ad139, e139, hx139_0, hx139_1, hx139_2, hx139_3⟩ := at_T33 HR1.out x31_3 p139 q139
                  cases e139
                  replace hx139_0 := (HB.out.cell (World.block_lt_of_cell? w _ hx139_0)).trans hx139_0
                  replace hx139_1 := (HB.out.cell (World.block_lt_of_cell? w _ hx139_1)).trans hx139_1
                  replace hx139_2 := (HB.out.cell (World.block_lt_of_cell? w _ hx139_2)).trans hx139_2
                  replace hx139_3 := (HB.out.cell (World.block_lt_of_cell? w _ hx139_3)).trans hx139_3
                  replace p139 := eq_true p139
                  replace q139 := eq_true q139
                  go_wp2_with (first | ((with_reducible refine gate_dst (N := 11) rfl ?_); refine box_event ?hg (N := 11) ?hd (cs := #[.int .i64 0, .int .i64 0, .int .i64 0, .int .i64 0]) (t := 33) ?hr ?_; (case hd => rfl); (case hg => rfl); (case hr => first | (go_simp; done) | (go_simp; rfl)); intro gb140 hg w26 hbox hb; have n0_ := am_ (Kd.R_below (by (with_reducible repeat (first | apply ra_ | apply rn_ | apply re_)); exact HO_5.out) hb); have n1_ := am_ (Kd.R_below (by (with_reducible repeat (first | apply ra_ | apply rn_ | apply re_)); exact HO_6.out) hb); have n2_ := am_ (bb_ (g := gb138) (o := .cells #[.int .i64 ((rd_T33 l0 x25_2).f0), .int .i64 ((rd_T33 l0 x25_2).f1), .int .i64 ((rd_T33 l0 x25_2).f2), .int .i64 ((rd_T33 l0 x25_2).f3)] 33 (0, 0)) (by (with_reducible repeat (first | refine bn_ ?_ _ | refine bd_ ?_ | refine bl_ ?_ _)); exact BK138.out) hb); have n3_ := am_ (below_step (by repeat (first | (with_reducible first | exact HB.out | apply wa_ | apply wn_ | apply w1_ | refine ws_ ?_ GE138.out) | exact HB.out)) hb); have n4_ := am_ (hbox); have n5_ := am_ ((by rw [hg]; exact (below_size (by repeat (first | (with_reducible first | exact HB.out | apply wa_ | apply wn_ | apply w1_ | refine ws_ ?_ GE138.out) | exact HB.out))) : w.heap.size ≤ gb140)); have n6_ := am_ ((by rw [hg]; exact (below_size (by repeat (first | (with_reducible first | exact HB.out | apply wa_ | apply wn_ | apply w1_ | refine ws_ ?_ GE138.out) | exact HB.out))) : w.heap.size ≤ gb140)); have n7_ := am_ ((by rw [hg]; exact Nat.ne_of_lt (blk_lt (g := gb138) (o := .cells #[.int .i64 ((rd_T33 l0 x25_2).f0), .int .i64 ((rd_T33 l0 x25_2).f1), .int .i64 ((rd_T33 l0 x25_2).f2), .int .i64 ((rd_T33 l0 x25_2).f3)] 33 (0, 0)) (by (with_reducible repeat (first | refine bn_ ?_ _ | refine bd_ ?_ | refine bl_ ?_ _)); exact BK138.out)) : gb138 ≠ gb140)); have n8_ := am_ ((by rw [hg]; exact Nat.ne_of_gt (blk_lt (g := gb138) (o := .cells #[.int .i64 ((rd_T33 l0 x25_2).f0), .int .i64 ((rd_T33 l0 x25_2).f1), .int .i64 ((rd_T33 l0 x25_2).f2), .int .i64 ((rd_T33 l0 x25_2).f3)] 33 (0, 0)) (by (with_reducible repeat (first | refine bn_ ?_ _ | refine bd_ ?_ | refine bl_ ?_ _)); exact BK138.out)) : gb140 ≠ gb138)); clear HO_5 HO_6 BK138 HB; have HO_5 := n0_; have HO_6 := n1_; have BK138 := n2_; have HB := n3_; have BK140 := n4_; have GW140 := n5_; have GE140 := n6_; have NB138_140 := n7_; have NB140_138 := n8_; clear n0_ n1_ n2_ n3_ n4_ n5_ n6_ n7_ n8_; clear hb hbox hg; have hnb27 := NB140_138.out; have hnc27 := NB138_140.out; have hcz28_0 : w26.cell? ⟨gb140, 0, none⟩ = some (.int .i64 0) := (bc_ BK140.out 0).trans rfl; have hcz28_1 : w26.cell? ⟨gb140, 1, none⟩ = some (.int .i64 0) := (bc_ BK140.out 1).trans rfl; have hcz28_2 : w26.cell? ⟨gb140, 2, none⟩ = some (.int .i64 0) := (bc_ BK140.out 2).trans rfl; have hcz28_3 : w26.cell? ⟨gb140, 3, none⟩ = some (.int .i64 0) := (bc_ BK140.out 3).trans rfl; have hfz28_0 := blk_frozen BK140.out 0; have hfz28_1 := blk_frozen BK140.out 1; have hfz28_2 := blk_frozen BK140.out 2; have hfz28_3 := blk_frozen BK140.out 3; obtain ⟨Ao29, co29, eo29⟩ := Kd.R_slice HO_5.out; subst eo29; have p141 : 0 ≤ (x31_3 : Int) := of_decide_eq_true (by first | (with_reducible assumption) | assumption); have q141 : x31_3 < (x5_3.length : Int) := of_decide_eq_true (by first | (with_reducible assumption) | assumption); obtain ⟨ad141, e141, hx141_0⟩ := Kd.at_bool (Kd.R_reads' HO_5.out).2.2 x31_3 p141 q141; (try rw [← Nbq24.out] at hx141_0); cases e141; have hn141_0 : ad141.block ≠ gb140 := Kd.own_blk (Kd.R_ne HO_5.out BK140.out (by decide)); have hn141_1 : ad141.block ≠ gb140 := Kd.own_blk (Kd.R_ne HO_5.out BK140.out (by decide)); have hn141_2 : ad141.block ≠ gb140 := Kd.own_blk (Kd.R_ne HO_5.out BK140.out (by decide)); have hn141_3 : ad141.block ≠ gb140 := Kd.own_blk (Kd.R_ne HO_5.out BK140.out (by decide)); replace hx141_0 := (cell_far (p := ⟨gb140, 0, none⟩) (by first | (rw [add_block]; exact hn141_0) | (show (Addr.add _ _).block ≠ _; rw [add_block]; exact hn141_0) | exact hn141_0) (.int .i64 ((rd_T33 l1 x31_3).f0))).trans hx141_0; replace hx141_0 := (cell_far (p := ⟨gb140, 1, none⟩) (by first | (rw [add_block]; exact hn141_1) | (show (Addr.add _ _).block ≠ _; rw [add_block]; exact hn141_1) | exact hn141_1) (.int .i64 ((rd_T33 l1 x31_3).f1))).trans hx141_0; replace hx141_0 := (cell_far (p := ⟨gb140, 2, none⟩) (by first | (rw [add_block]; exact hn141_2) | (show (Addr.add _ _).block ≠ _; rw [add_block]; exact hn141_2) | exact hn141_2) (.int .i64 ((rd_T33 l1 x31_3).f2))).trans hx141_0; replace hx141_0 := (cell_far (p := ⟨gb140, 3, none⟩) (by first | (rw [add_block]; exact hn141_3) | (show (Addr.add _ _).block ≠ _; rw [add_block]; exact hn141_3) | exact hn141_3) (.int .i64 ((rd_T33 l1 x31_3).f3))).trans hx141_0; clear hn141_0 hn141_1 hn141_2 hn141_3; replace p141 := eq_true p141; replace q141 := eq_true q141))
                  go_roundg k3
                  case measure => have := HJ2.out; have := HK2.out; have := HK3.out; omega
                  case rel => exact ⟨(x5_3), (x9_3), (wrap64 (x31_3 + 1)), (by first | rfl | (simp; done) | (simp [*]; done)), (by first | rfl | (simp; done) | (simp [*]; done)), H', ⟨by have := HJ2.out; have := HK2.out; have := HK3.out; omega⟩, ⟨by (with_reducible repeat (first | apply ra_ | apply rn_ | apply re_)); exact Kd.R_mono (Kd.R_far (p := ⟨gb140, 3, none⟩) (Kd.R_far (p := ⟨gb140, 2, none⟩) (Kd.R_far (p := ⟨gb140, 1, none⟩) (Kd.R_far (p := ⟨gb140, 0, none⟩) (Kd.R_types HO_5.out BK140.out (by decide)) (fun _ hk => hk.2) (.int .i64 ((rd_T33 l1 x31_3).f0))) (fun _ hk => hk.2) (.int .i64 ((rd_T33 l1 x31_3).f1))) (fun _ hk => hk.2) (.int .i64 ((rd_T33 l1 x31_3).f2))) (fun _ hk => hk.2) (.int .i64 ((rd_T33 l1 x31_3).f3))) (fun _ hk => trivial)⟩, ⟨by (with_reducible repeat (first | apply ra_ | apply rn_ | apply re_)); exact Kd.R_mono (Kd.R_far (p := ⟨gb140, 3, none⟩) (Kd.R_far (p := ⟨gb140, 2, none⟩) (Kd.R_far (p := ⟨gb140, 1, none⟩) (Kd.R_far (p := ⟨gb140, 0, none⟩) (Kd.R_types HO_6.out BK140.out (by decide)) (fun _ hk => hk.2) (.int .i64 ((rd_T33 l1 x31_3).f0))) (fun _ hk => hk.2) (.int .i64 ((rd_T33 l1 x31_3).f1))) (fun _ hk => hk.2) (.int .i64 ((rd_T33 l1 x31_3).f2))) (fun _ hk => hk.2) (.int .i64 ((rd_T33 l1 x31_3).f3))) (fun _ hk => trivial)⟩, ⟨by (with_reducible repeat (first | refine bn_ ?_ _ | refine bd_ ?_ | refine bl_ ?_ _)); refine bf_ ?_ NB138_140.out _; (with_reducible repeat (first | refine bn_ ?_ _ | refine bd_ ?_ | refine bl_ ?_ _)); refine bf_ ?_ NB138_140.out _; (with_reducible repeat (first | refine bn_ ?_ _ | refine bd_ ?_ | refine bl_ ?_ _)); refine bf_ ?_ NB138_140.out _; (with_reducible repeat (first | refine bn_ ?_ _ | refine bd_ ?_ | refine bl_ ?_ _)); refine bf_ ?_ NB138_140.out _; (with_reducible repeat (first | refine bn_ ?_ _ | refine bd_ ?_ | refine bl_ ?_ _)); exact BK138.out⟩, ⟨by repeat (first | (with_reducible first | exact HB.out | apply wa_ | apply wn_ | apply w1_ | refine ws_ ?_ GE138.out | refine ws_ ?_ GE140.out) | exact HB.out)⟩⟩
                 ·replace c25 := Bool.eq_false_iff.mpr c25
                  subst c25
                  have H1 : (if (((rd_T33 l1 x31_3).f0) == ((rd_T33 l0 x25_2).f0) && (((rd_T33 l1 x31_3).f1) == ((rd_T33 l0 x25_2).f1) && (((rd_T33 l1 x31_3).f2) == ((rd_T33 l0 x25_2).f2) && (((rd_T33 l1 x31_3).f3) == ((rd_T33 l0 x25_2).f3))))) = true then (if x6_2.length < 17592186044416 then (impl_MatchBooks.l0 k3 l1 (x5_3.set (x31_3 : Int).toNat true) (x6_2 ++ [x31_3]) l0 (l0.length : Int) (wrap64 (x25_2 + 1))) else (none)) else (impl_MatchBooks.l1 k3 l1 x5_3 x6_2 x9_3 l0 (l0.length : Int) x25_2 l1 (l1.length : Int) (wrap64 (x31_3 + 1)) ((rd_T33 l0 x25_2).f0) ((rd_T33 l0 x25_2).f1) ((rd_T33 l0 x25_2).f2) ((rd_T33 l0 x25_2).f3))) = some r := by rw [if_neg (show ¬ (false = true) by decide)] at H; exact H
                  clear H
                  have H := H1
                  clear H1
                  by_cases c30 : (((rd_T33 l1 x31_3).f0) == ((rd_T33 l0 x25_2).f0) && (((rd_T33 l1 x31_3).f1) == ((rd_T33 l0 x25_2).f1) && (((rd_T33 l1 x31_3).f2) == ((rd_T33 l0 x25_2).f2) && (((rd_T33 l1 x31_3).f3) == ((rd_T33 l0 x25_2).f3))))) = true
                  ·rw [if_pos c30] at H
                   have c30b0 : (((rd_T33 l1 x31_3).f0) == ((rd_T33 l0 x25_2).f0) && (((rd_T33 l1 x31_3).f1) == ((rd_T33 l0 x25_2).f1) && (((rd_T33 l1 x31_3).f2) == ((rd_T33 l0 x25_2).f2) && (((rd_T33 l1 x31_3).f3) == ((rd_T33 l0 x25_2).f3))))) = true := c30
                   (try (have c30b1 : decide (((rd_T33 l1 x31_3).f0) = ((rd_T33 l0 x25_2).f0) && (((rd_T33 l1 x31_3).f1) == ((rd_T33 l0 x25_2).f1) && (((rd_T33 l1 x31_3).f2) == ((rd_T33 l0 x25_2).f2) && (((rd_T33 l1 x31_3).f3) == ((rd_T33 l0 x25_2).f3))))) = true := by simpa using c30))
                   (try (have c30b2 : (((rd_T33 l1 x31_3).f0) == ((rd_T33 l0 x25_2).f0) && (((rd_T33 l1 x31_3).f1) == ((rd_T33 l0 x25_2).f1) && (((rd_T33 l1 x31_3).f2) == ((rd_T33 l0 x25_2).f2) && (((rd_T33 l1 x31_3).f3) == ((rd_T33 l0 x25_2).f3))))) = true := by simpa using c30))
                   clear c30
                   obtain ⟨y142, hy142⟩ : ∃ y_ : List Bool, y_ = (x5_3.set (x31_3 : Int).toNat true) := ⟨_, rfl⟩
                   replace H : (if x6_2.length < 17592186044416 then (impl_MatchBooks.l0 k3 l1 y142 (x6_2 ++ [x31_3]) l0 (l0.length : Int) (wrap64 (x25_2 + 1))) else (none)) = some r := by first | (rw [hy142]; with_reducible exact H) | (have H2_ := (q7_ _ _).symm.trans H; rw [hy142]; with_reducible exact H2_) | (have H2_ := (q7_ _ _).symm.trans H; with_reducible exact H2_) | with_reducible exact H | (rw [hy142]; exact H) | exact H
                   have Ny142 := am_ hy142
                   clear hy142
                   by_cases c32 : x6_2.length < 17592186044416
                   ·rw [if_pos c32] at H
                    have LMc32 := am_ c32
                    clear c32
                    obtain ⟨y143, hy143⟩ : ∃ y_ : List Int, y_ = (x6_2 ++ [x31_3]) := ⟨_, rfl⟩
                    replace H : (impl_MatchBooks.l0 k3 l1 y142 y143 l0 (l0.length : Int) (wrap64 (x25_2 + 1))) = some r := by first | (rw [hy143]; with_reducible exact H) | (have H2_ := (q7_ _ _).symm.trans H; rw [hy143]; with_reducible exact H2_) | (have H2_ := (q7_ _ _).symm.trans H; with_reducible exact H2_) | with_reducible exact H | (rw [hy143]; exact H) | exact H
                    have Ny143 := am_ hy143
                    clear hy143
                    have H' := am_ H
                    clear H
                    have p139 : 0 ≤ (x31_3 : Int) := of_decide_eq_true (by first | (with_reducible assumption) | assumption)
                    have q139 : x31_3 < (l1.length : Int) := of_decide_eq_true (by first | (with_reducible assumption) | assumption)
                    obtain ⟨ad139, e139, hx139_0, hx139_1, hx139_2, hx139_3⟩ := at_T33 HR1.out x31_3 p139 q139
                    cases e139
                    replace hx139_0 := (HB.out.cell (World.block_lt_of_cell? w _ hx139_0)).trans hx139_0
                    replace hx139_1 := (HB.out.cell (World.block_lt_of_cell? w _ hx139_1)).trans hx139_1
                    replace hx139_2 := (HB.out.cell (World.block_lt_of_cell? w _ hx139_2)).trans hx139_2
                    replace hx139_3 := (HB.out.cell (World.block_lt_of_cell? w _ hx139_3)).trans hx139_3
                    replace p139 := eq_true p139
                    replace q139 := eq_true q139
                    go_wp2_with (first | ((with_reducible refine gate_dst (N := 11) rfl ?_); refine box_event ?hg (N := 11) ?hd (cs := #[.int .i64 0, .int .i64 0, .int .i64 0, .int .i64 0]) (t := 33) ?hr ?_; (case hd => rfl); (case hg => rfl); (case hr => first | (go_simp; done) | (go_simp; rfl)); intro gb140 hg w33 hbox hb; have n0_ := am_ (Kd.R_below (by (with_reducible repeat (first | apply ra_ | apply rn_ | apply re_)); exact HO_5.out) hb); have n1_ := am_ (Kd.R_below (by (with_reducible repeat (first | apply ra_ | apply rn_ | apply re_)); exact HO_6.out) hb); have n2_ := am_ (bb_ (g := gb138) (o := .cells #[.int .i64 ((rd_T33 l0 x25_2).f0), .int .i64 ((rd_T33 l0 x25_2).f1), .int .i64 ((rd_T33 l0 x25_2).f2), .int .i64 ((rd_T33 l0 x25_2).f3)] 33 (0, 0)) (by (with_reducible repeat (first | refine bn_ ?_ _ | refine bd_ ?_ | refine bl_ ?_ _)); exact BK138.out) hb); have n3_ := am_ (below_step (by repeat (first | (with_reducible first | exact HB.out | apply wa_ | apply wn_ | apply w1_ | refine ws_ ?_ GE138.out) | exact HB.out)) hb); have n4_ := am_ (hbox); have n5_ := am_ ((by rw [hg]; exact (below_size (by repeat (first | (with_reducible first | exact HB.out | apply wa_ | apply wn_ | apply w1_ | refine ws_ ?_ GE138.out) | exact HB.out))) : w.heap.size ≤ gb140)); have n6_ := am_ ((by rw [hg]; exact (below_size (by repeat (first | (with_reducible first | exact HB.out | apply wa_ | apply wn_ | apply w1_ | refine ws_ ?_ GE138.out) | exact HB.out))) : w.heap.size ≤ gb140)); have n7_ := am_ ((by rw [hg]; exact Nat.ne_of_lt (blk_lt (g := gb138) (o := .cells #[.int .i64 ((rd_T33 l0 x25_2).f0), .int .i64 ((rd_T33 l0 x25_2).f1), .int .i64 ((rd_T33 l0 x25_2).f2), .int .i64 ((rd_T33 l0 x25_2).f3)] 33 (0, 0)) (by (with_reducible repeat (first | refine bn_ ?_ _ | refine bd_ ?_ | refine bl_ ?_ _)); exact BK138.out)) : gb138 ≠ gb140)); have n8_ := am_ ((by rw [hg]; exact Nat.ne_of_gt (blk_lt (g := gb138) (o := .cells #[.int .i64 ((rd_T33 l0 x25_2).f0), .int .i64 ((rd_T33 l0 x25_2).f1), .int .i64 ((rd_T33 l0 x25_2).f2), .int .i64 ((rd_T33 l0 x25_2).f3)] 33 (0, 0)) (by (with_reducible repeat (first | refine bn_ ?_ _ | refine bd_ ?_ | refine bl_ ?_ _)); exact BK138.out)) : gb140 ≠ gb138)); clear HO_5 HO_6 BK138 HB; have HO_5 := n0_; have HO_6 := n1_; have BK138 := n2_; have HB := n3_; have BK140 := n4_; have GW140 := n5_; have GE140 := n6_; have NB138_140 := n7_; have NB140_138 := n8_; clear n0_ n1_ n2_ n3_ n4_ n5_ n6_ n7_ n8_; clear hb hbox hg; have hnb34 := NB140_138.out; have hnc34 := NB138_140.out; have hcz35_0 : w33.cell? ⟨gb140, 0, none⟩ = some (.int .i64 0) := (bc_ BK140.out 0).trans rfl; have hcz35_1 : w33.cell? ⟨gb140, 1, none⟩ = some (.int .i64 0) := (bc_ BK140.out 1).trans rfl; have hcz35_2 : w33.cell? ⟨gb140, 2, none⟩ = some (.int .i64 0) := (bc_ BK140.out 2).trans rfl; have hcz35_3 : w33.cell? ⟨gb140, 3, none⟩ = some (.int .i64 0) := (bc_ BK140.out 3).trans rfl; have hfz35_0 := blk_frozen BK140.out 0; have hfz35_1 := blk_frozen BK140.out 1; have hfz35_2 := blk_frozen BK140.out 2; have hfz35_3 := blk_frozen BK140.out 3) | ((with_reducible refine gate_store (t := 33) (p := 11) rfl ?_); refine store_event (t := 33) (p := 11) (v := ?vo_w36) (w1 := ((((w33.setCell ⟨gb140, 0, none⟩ (.int .i64 ((rd_T33 l1 x31_3).f0))).setCell ⟨gb140, 1, none⟩ (.int .i64 ((rd_T33 l1 x31_3).f1))).setCell ⟨gb140, 2, none⟩ (.int .i64 ((rd_T33 l1 x31_3).f2))).setCell ⟨gb140, 3, none⟩ (.int .i64 ((rd_T33 l1 x31_3).f3)))) ?hg ?ho ?hn ?hr ?_; (case ho => rfl); (case hg => rfl); (case hn => rfl); (case hr => first | (go_simp; done) | (go_simp; rfl)); intro w36 hw; have n0_ : Aside0 (Kd.R Kd.bool 4 w36 w.heap.size (fun _ => True) v135 x5_3) := ⟨(by rw [hw]; exact (by (with_reducible repeat (first | apply ra_ | apply rn_ | apply re_)); exact Kd.R_mono (Kd.R_far (p := ⟨gb140, 3, none⟩) (Kd.R_far (p := ⟨gb140, 2, none⟩) (Kd.R_far (p := ⟨gb140, 1, none⟩) (Kd.R_far (p := ⟨gb140, 0, none⟩) (Kd.R_types HO_5.out BK140.out (by decide)) (fun _ hk => hk.2) (.int .i64 ((rd_T33 l1 x31_3).f0))) (fun _ hk => hk.2) (.int .i64 ((rd_T33 l1 x31_3).f1))) (fun _ hk => hk.2) (.int .i64 ((rd_T33 l1 x31_3).f2))) (fun _ hk => hk.2) (.int .i64 ((rd_T33 l1 x31_3).f3))) (fun _ hk => trivial)))⟩; have n1_ : Aside0 (Kd.R (Kd.int .i64) 3 w36 w.heap.size (fun _ => True) u6 x6_2) := ⟨(by rw [hw]; exact (by (with_reducible repeat (first | apply ra_ | apply rn_ | apply re_)); exact Kd.R_mono (Kd.R_far (p := ⟨gb140, 3, none⟩) (Kd.R_far (p := ⟨gb140, 2, none⟩) (Kd.R_far (p := ⟨gb140, 1, none⟩) (Kd.R_far (p := ⟨gb140, 0, none⟩) (Kd.R_types HO_6.out BK140.out (by decide)) (fun _ hk => hk.2) (.int .i64 ((rd_T33 l1 x31_3).f0))) (fun _ hk => hk.2) (.int .i64 ((rd_T33 l1 x31_3).f1))) (fun _ hk => hk.2) (.int .i64 ((rd_T33 l1 x31_3).f2))) (fun _ hk => hk.2) (.int .i64 ((rd_T33 l1 x31_3).f3))) (fun _ hk => trivial)))⟩; have n2_ : Aside0 (w36.heap[gb138]? = some (.cells #[.int .i64 ((rd_T33 l0 x25_2).f0), .int .i64 ((rd_T33 l0 x25_2).f1), .int .i64 ((rd_T33 l0 x25_2).f2), .int .i64 ((rd_T33 l0 x25_2).f3)] 33 (0, 0))) := ⟨(by rw [hw]; exact (by (with_reducible repeat (first | refine bn_ ?_ _ | refine bd_ ?_ | refine bl_ ?_ _)); refine bf_ ?_ NB138_140.out _; (with_reducible repeat (first | refine bn_ ?_ _ | refine bd_ ?_ | refine bl_ ?_ _)); refine bf_ ?_ NB138_140.out _; (with_reducible repeat (first | refine bn_ ?_ _ | refine bd_ ?_ | refine bl_ ?_ _)); refine bf_ ?_ NB138_140.out _; (with_reducible repeat (first | refine bn_ ?_ _ | refine bd_ ?_ | refine bl_ ?_ _)); refine bf_ ?_ NB138_140.out _; (with_reducible repeat (first | refine bn_ ?_ _ | refine bd_ ?_ | refine bl_ ?_ _)); exact BK138.out))⟩; have n3_ : Aside0 (w36.heap[gb140]? = some (.cells #[.int .i64 ((rd_T33 l1 x31_3).f0), .int .i64 ((rd_T33 l1 x31_3).f1), .int .i64 ((rd_T33 l1 x31_3).f2), .int .i64 ((rd_T33 l1 x31_3).f3)] 33 (0, 0))) := ⟨(by rw [hw]; exact (by (with_reducible repeat (first | refine bn_ ?_ _ | refine bd_ ?_ | refine bl_ ?_ _)); refine blk_put (cs := #[.int .i64 ((rd_T33 l1 x31_3).f0), .int .i64 ((rd_T33 l1 x31_3).f1), .int .i64 ((rd_T33 l1 x31_3).f2), .int .i64 0]) ?_ 3 _ rfl; (with_reducible repeat (first | refine bn_ ?_ _ | refine bd_ ?_ | refine bl_ ?_ _)); refine blk_put (cs := #[.int .i64 ((rd_T33 l1 x31_3).f0), .int .i64 ((rd_T33 l1 x31_3).f1), .int .i64 0, .int .i64 0]) ?_ 2 _ rfl; (with_reducible repeat (first | refine bn_ ?_ _ | refine bd_ ?_ | refine bl_ ?_ _)); refine blk_put (cs := #[.int .i64 ((rd_T33 l1 x31_3).f0), .int .i64 0, .int .i64 0, .int .i64 0]) ?_ 1 _ rfl; (with_reducible repeat (first | refine bn_ ?_ _ | refine bd_ ?_ | refine bl_ ?_ _)); refine blk_put (cs := #[.int .i64 0, .int .i64 0, .int .i64 0, .int .i64 0]) ?_ 0 _ rfl; (with_reducible repeat (first | refine bn_ ?_ _ | refine bd_ ?_ | refine bl_ ?_ _)); exact BK140.out))⟩; have n4_ : Aside0 (Below w.heap.size w w36) := ⟨(by rw [hw]; exact (by repeat (first | (with_reducible first | exact HB.out | apply wa_ | apply wn_ | apply w1_ | refine ws_ ?_ GE138.out | refine ws_ ?_ GE140.out) | exact HB.out)))⟩; clear hw HO_5 HO_6 BK138 BK140 HB; have HO_5 := n0_; have HO_6 := n1_; have BK138 := n2_; have BK140 := n3_; have HB := n4_; clear n0_ n1_ n2_ n3_ n4_; obtain ⟨Ao37, co37, eo37⟩ := Kd.R_slice HO_5.out; subst eo37; have p141 : 0 ≤ (x31_3 : Int) := of_decide_eq_true (by first | (with_reducible assumption) | assumption); have q141 : x31_3 < (x5_3.length : Int) := of_decide_eq_true (by first | (with_reducible assumption) | assumption); obtain ⟨ad141, e141, hx141_0⟩ := Kd.at_bool (Kd.R_reads' HO_5.out).2.2 x31_3 p141 q141; (try rw [← Nbq24.out] at hx141_0); cases e141; replace p141 := eq_true p141; replace q141 := eq_true q141; have hcz38_0 : w36.cell? ⟨gb140, 0, none⟩ = some (.int .i64 ((rd_T33 l1 x31_3).f0)) := (bc_ BK140.out 0).trans rfl; have hcz38_1 : w36.cell? ⟨gb140, 1, none⟩ = some (.int .i64 ((rd_T33 l1 x31_3).f1)) := (bc_ BK140.out 1).trans rfl; have hcz38_2 : w36.cell? ⟨gb140, 2, none⟩ = some (.int .i64 ((rd_T33 l1 x31_3).f2)) := (bc_ BK140.out 2).trans rfl; have hcz38_3 : w36.cell? ⟨gb140, 3, none⟩ = some (.int .i64 ((rd_T33 l1 x31_3).f3)) := (bc_ BK140.out 3).trans rfl; have hfz38_0 := blk_frozen BK140.out 0; have hfz38_1 := blk_frozen BK140.out 1; have hfz38_2 := blk_frozen BK140.out 2; have hfz38_3 := blk_frozen BK140.out 3; have hcz39_0 : w36.cell? ⟨gb138, 0, none⟩ = some (.int .i64 ((rd_T33 l0 x25_2).f0)) := (bc_ BK138.out 0).trans rfl; have hcz39_1 : w36.cell? ⟨gb138, 1, none⟩ = some (.int .i64 ((rd_T33 l0 x25_2).f1)) := (bc_ BK138.out 1).trans rfl; have hcz39_2 : w36.cell? ⟨gb138, 2, none⟩ = some (.int .i64 ((rd_T33 l0 x25_2).f2)) := (bc_ BK138.out 2).trans rfl; have hcz39_3 : w36.cell? ⟨gb138, 3, none⟩ = some (.int .i64 ((rd_T33 l0 x25_2).f3)) := (bc_ BK138.out 3).trans rfl; have hfz39_0 := blk_frozen BK138.out 0; have hfz39_1 := blk_frozen BK138.out 1; have hfz39_2 := blk_frozen BK138.out 2; have hfz39_3 := blk_frozen BK138.out 3; have p31 : 0 ≤ (x31_3 : Int) := of_decide_eq_true (by first | (with_reducible assumption) | assumption); have q31 : (x31_3 : Int) < ((x5_3.length : Int) : Int) := of_decide_eq_true (by first | (with_reducible assumption) | assumption); obtain ⟨go31, co31, eo31, gb31, gl31, cl31, HG31⟩ := Kd.R_form HO_5.out (by omega); (first | cases eo31 | (injection eo31 with ea_ en_ ec_; (first | subst ea_ | (injection ea_ with ea_; subst ea_)); subst ec_; clear en_)); have GB31 := am_ gb31; have GG31 := am_ HG31; clear gb31 gl31 HG31; (first | simp only [add_plain] at hx141_0 | skip); obtain ⟨hx31_0, hf31_0⟩ := Kd.R_celln false HO_5.out (x31_3 : Int) p31 q31; replace p31 := eq_true p31; replace q31 := eq_true q31; obtain ⟨hy40_, hz40_⟩ := Kd.R_celln false HO_5.out (x31_3 : Int) (of_decide_eq_true (by first | (with_reducible assumption) | assumption)) (of_decide_eq_true (by first | (with_reducible assumption) | assumption)); have HP40 := Kd.R_putg HO_5.out (x31_3 : Int) true) | ((with_reducible refine gate_store (t := 4) (p := 48) rfl ?_); refine store_event (t := 4) (p := 48) (v := ?vo_w41) (w1 := (w36.setCell ⟨go31, (x31_3 : Int).toNat, none⟩ (.bool true))) ?hg ?ho ?hn ?hr ?_; (case ho => rfl); (case hg => rfl); (case hn => rfl); (case hr => first | (go_simp; done) | (go_simp; rfl)); intro w41 hw; have hg : w36.grownBy w41 (some go31) := (by rw [hw]; exact HP40.2); have hp_ : Kd.R Kd.bool 4 w41 w.heap.size (fun _ => True) (.slice (some ⟨go31, 0, none⟩) x5_3.length co37) y142 := (by rw [hw, Ny142.out]; exact HP40.1); clear HP40; have n0_ := am_ (hp_); have n1_ := am_ (Kd.R_over' (v := (.slice (some ⟨go31, 0, none⟩) x5_3.length co37)) (by (with_reducible repeat (first | apply ra_ | apply rn_ | apply re_)); exact HO_6.out) (Kd.R_typed HO_5.out) (by decide) hg); have n2_ := am_ (blk_grown (g := gb138) (o := .cells #[.int .i64 ((rd_T33 l0 x25_2).f0), .int .i64 ((rd_T33 l0 x25_2).f1), .int .i64 ((rd_T33 l0 x25_2).f2), .int .i64 ((rd_T33 l0 x25_2).f3)] 33 (0, 0)) (by (with_reducible repeat (first | refine bn_ ?_ _ | refine bd_ ?_ | refine bl_ ?_ _)); exact BK138.out) hg (Kd.R_ne HO_5.out BK138.out (by decide))); have n3_ := am_ (blk_grown (g := gb140) (o := .cells #[.int .i64 ((rd_T33 l1 x31_3).f0), .int .i64 ((rd_T33 l1 x31_3).f1), .int .i64 ((rd_T33 l1 x31_3).f2), .int .i64 ((rd_T33 l1 x31_3).f3)] 33 (0, 0)) (by (with_reducible repeat (first | refine bn_ ?_ _ | refine bd_ ?_ | refine bl_ ?_ _)); exact BK140.out) hg (Kd.R_ne HO_5.out BK140.out (by decide))); have n4_ := am_ ((by rw [hw]; exact ws_ (HB.out) GB31.out : Below w.heap.size w w41)); clear HO_5 HO_6 BK138 BK140 HB; have HO_5 := n0_; have HO_6 := n1_; have BK138 := n2_; have BK140 := n3_; have HB := n4_; clear n0_ n1_ n2_ n3_ n4_; clear hg hw hp_) | ((with_reducible refine gate_builtin (b := .append) (xs := #[.tmp 51, .tmp 53]) rfl ?_); at_builtin; refine Kd.R_append (Kd.int .i64) (w0 := w) w.heap.size rfl (.tmp 51) (.tmp 53) 28 3 (.int .i64 0) 8 rfl Try.underlying28 info3 rfl (by decide) (by omega) u6 x6_2 x31_3 [.int .i64 x31_3] (fun _ => True) (fun _ => False) rfl rfl ?aP (fun _ hk => hk.elim) ?aF ?aO ?aB ?aS ?aL ?_; (case aP => exact rfl); (case aB => exact (by repeat (first | (with_reducible first | exact HB.out | apply wa_ | apply wn_ | apply w1_ | refine ws_ ?_ GE138.out | refine ws_ ?_ GE140.out) | exact HB.out))); (case aF => exact (fun _ _ => trivial)); (case aO => exact (by (with_reducible repeat (first | apply ra_ | apply rn_ | apply re_)); exact HO_6.out)); (case aS => exact (below_size (by repeat (first | (with_reducible first | exact HB.out | apply wa_ | apply wn_ | apply w1_ | refine ws_ ?_ GE138.out | refine ws_ ?_ GE140.out) | exact HB.out)))); (case aL => have := LMc32.out; omega); intro v144 w42 ho hb hg hat; rw [← Ny143.out] at ho; have n0_ := am_ (Kd.R_over' (by (with_reducible repeat (first | apply ra_ | apply rn_ | apply re_)); exact HO_5.out) (Kd.R_typed (by (with_reducible repeat (first | apply ra_ | apply rn_ | apply re_)); exact HO_6.out)) (by decide) hg); have n1_ := am_ (blk_grown (g := gb138) (o := .cells #[.int .i64 ((rd_T33 l0 x25_2).f0), .int .i64 ((rd_T33 l0 x25_2).f1), .int .i64 ((rd_T33 l0 x25_2).f2), .int .i64 ((rd_T33 l0 x25_2).f3)] 33 (0, 0)) (by (with_reducible repeat (first | refine bn_ ?_ _ | refine bd_ ?_ | refine bl_ ?_ _)); exact BK138.out) hg (Kd.R_ne HO_6.out BK138.out (by decide))); have n2_ := am_ (blk_grown (g := gb140) (o := .cells #[.int .i64 ((rd_T33 l1 x31_3).f0), .int .i64 ((rd_T33 l1 x31_3).f1), .int .i64 ((rd_T33 l1 x31_3).f2), .int .i64 ((rd_T33 l1 x31_3).f3)] 33 (0, 0)) (by (with_reducible repeat (first | refine bn_ ?_ _ | refine bd_ ?_ | refine bl_ ?_ _)); exact BK140.out) hg (Kd.R_ne HO_6.out BK140.out (by decide))); have n3_ := am_ (hb); have n4_ := am_ (ho); clear HO_5 BK138 BK140 HB HO_6; have HO_5 := n0_; have BK138 := n1_; have BK140 := n2_; have HB := n3_; have HO145 := n4_; clear n0_ n1_ n2_ n3_ n4_; clear ho hb hg hat))
                    go_roundg k3
                    case measure => have := HJ2.out; have := HK2.out; have := HK3.out; omega
                    case rel => exact ⟨(y142), (y143), (wrap64 (x25_2 + 1)), (by first | rfl | (simp; done) | (simp [*]; done)), H', ⟨by have := HJ2.out; have := HK2.out; have := HK3.out; omega⟩, ⟨by (with_reducible repeat (first | apply ra_ | apply rn_ | apply re_)); exact HO_5.out⟩, ⟨by (with_reducible repeat (first | apply ra_ | apply rn_ | apply re_)); exact HO145.out⟩, ⟨by repeat (first | (with_reducible first | exact HB.out | apply wa_ | apply wn_ | apply w1_ | refine ws_ ?_ GE138.out | refine ws_ ?_ GE140.out) | exact HB.out)⟩⟩
                   ·rw [if_neg c32] at H
                    exact absurd H (by simp)
                  ·rw [if_neg c30] at H
                   have c30b0 : (((rd_T33 l1 x31_3).f0) == ((rd_T33 l0 x25_2).f0) && (((rd_T33 l1 x31_3).f1) == ((rd_T33 l0 x25_2).f1) && (((rd_T33 l1 x31_3).f2) == ((rd_T33 l0 x25_2).f2) && (((rd_T33 l1 x31_3).f3) == ((rd_T33 l0 x25_2).f3))))) = false := by simpa using c30
                   (try (have c30b1 : decide (((rd_T33 l1 x31_3).f0) = ((rd_T33 l0 x25_2).f0) && (((rd_T33 l1 x31_3).f1) == ((rd_T33 l0 x25_2).f1) && (((rd_T33 l1 x31_3).f2) == ((rd_T33 l0 x25_2).f2) && (((rd_T33 l1 x31_3).f3) == ((rd_T33 l0 x25_2).f3))))) = false := by simpa using c30))
                   (try (have c30b2 : (((rd_T33 l1 x31_3).f0) == ((rd_T33 l0 x25_2).f0) && (((rd_T33 l1 x31_3).f1) == ((rd_T33 l0 x25_2).f1) && (((rd_T33 l1 x31_3).f2) == ((rd_T33 l0 x25_2).f2) && (((rd_T33 l1 x31_3).f3) == ((rd_T33 l0 x25_2).f3))))) = false := by simpa using c30))
                   (try (have c30b3 : ¬ (((rd_T33 l1 x31_3).f0) = ((rd_T33 l0 x25_2).f0) && (((rd_T33 l1 x31_3).f1) == ((rd_T33 l0 x25_2).f1) && (((rd_T33 l1 x31_3).f2) == ((rd_T33 l0 x25_2).f2) && (((rd_T33 l1 x31_3).f3) == ((rd_T33 l0 x25_2).f3))))) := by simpa using c30))
                   clear c30
                   have H' := am_ H
                   clear H
                   have p139 : 0 ≤ (x31_3 : Int) := of_decide_eq_true (by first | (with_reducible assumption) | assumption)
                   have q139 : x31_3 < (l1.length : Int) := of_decide_eq_true (by first | (with_reducible assumption) | assumption)
                   obtain ⟨ad139, e139, hx139_0, hx139_1, hx139_2, hx139_3⟩ := at_T33 HR1.out x31_3 p139 q139
                   cases e139
                   replace hx139_0 := (HB.out.cell (World.block_lt_of_cell? w _ hx139_0)).trans hx139_0
                   replace hx139_1 := (HB.out.cell (World.block_lt_of_cell? w _ hx139_1)).trans hx139_1
                   replace hx139_2 := (HB.out.cell (World.block_lt_of_cell? w _ hx139_2)).trans hx139_2
                   replace hx139_3 := (HB.out.cell (World.block_lt_of_cell? w _ hx139_3)).trans hx139_3
                   replace p139 := eq_true p139
                   replace q139 := eq_true q139
                   go_wp2_with (first | ((with_reducible refine gate_dst (N := 11) rfl ?_); refine box_event ?hg (N := 11) ?hd (cs := #[.int .i64 0, .int .i64 0, .int .i64 0, .int .i64 0]) (t := 33) ?hr ?_; (case hd => rfl); (case hg => rfl); (case hr => first | (go_simp; done) | (go_simp; rfl)); intro gb140 hg w43 hbox hb; have n0_ := am_ (Kd.R_below (by (with_reducible repeat (first | apply ra_ | apply rn_ | apply re_)); exact HO_5.out) hb); have n1_ := am_ (Kd.R_below (by (with_reducible repeat (first | apply ra_ | apply rn_ | apply re_)); exact HO_6.out) hb); have n2_ := am_ (bb_ (g := gb138) (o := .cells #[.int .i64 ((rd_T33 l0 x25_2).f0), .int .i64 ((rd_T33 l0 x25_2).f1), .int .i64 ((rd_T33 l0 x25_2).f2), .int .i64 ((rd_T33 l0 x25_2).f3)] 33 (0, 0)) (by (with_reducible repeat (first | refine bn_ ?_ _ | refine bd_ ?_ | refine bl_ ?_ _)); exact BK138.out) hb); have n3_ := am_ (below_step (by repeat (first | (with_reducible first | exact HB.out | apply wa_ | apply wn_ | apply w1_ | refine ws_ ?_ GE138.out) | exact HB.out)) hb); have n4_ := am_ (hbox); have n5_ := am_ ((by rw [hg]; exact (below_size (by repeat (first | (with_reducible first | exact HB.out | apply wa_ | apply wn_ | apply w1_ | refine ws_ ?_ GE138.out) | exact HB.out))) : w.heap.size ≤ gb140)); have n6_ := am_ ((by rw [hg]; exact (below_size (by repeat (first | (with_reducible first | exact HB.out | apply wa_ | apply wn_ | apply w1_ | refine ws_ ?_ GE138.out) | exact HB.out))) : w.heap.size ≤ gb140)); have n7_ := am_ ((by rw [hg]; exact Nat.ne_of_lt (blk_lt (g := gb138) (o := .cells #[.int .i64 ((rd_T33 l0 x25_2).f0), .int .i64 ((rd_T33 l0 x25_2).f1), .int .i64 ((rd_T33 l0 x25_2).f2), .int .i64 ((rd_T33 l0 x25_2).f3)] 33 (0, 0)) (by (with_reducible repeat (first | refine bn_ ?_ _ | refine bd_ ?_ | refine bl_ ?_ _)); exact BK138.out)) : gb138 ≠ gb140)); have n8_ := am_ ((by rw [hg]; exact Nat.ne_of_gt (blk_lt (g := gb138) (o := .cells #[.int .i64 ((rd_T33 l0 x25_2).f0), .int .i64 ((rd_T33 l0 x25_2).f1), .int .i64 ((rd_T33 l0 x25_2).f2), .int .i64 ((rd_T33 l0 x25_2).f3)] 33 (0, 0)) (by (with_reducible repeat (first | refine bn_ ?_ _ | refine bd_ ?_ | refine bl_ ?_ _)); exact BK138.out)) : gb140 ≠ gb138)); clear HO_5 HO_6 BK138 HB; have HO_5 := n0_; have HO_6 := n1_; have BK138 := n2_; have HB := n3_; have BK140 := n4_; have GW140 := n5_; have GE140 := n6_; have NB138_140 := n7_; have NB140_138 := n8_; clear n0_ n1_ n2_ n3_ n4_ n5_ n6_ n7_ n8_; clear hb hbox hg; have hnb44 := NB140_138.out; have hnc44 := NB138_140.out; have hcz45_0 : w43.cell? ⟨gb140, 0, none⟩ = some (.int .i64 0) := (bc_ BK140.out 0).trans rfl; have hcz45_1 : w43.cell? ⟨gb140, 1, none⟩ = some (.int .i64 0) := (bc_ BK140.out 1).trans rfl; have hcz45_2 : w43.cell? ⟨gb140, 2, none⟩ = some (.int .i64 0) := (bc_ BK140.out 2).trans rfl; have hcz45_3 : w43.cell? ⟨gb140, 3, none⟩ = some (.int .i64 0) := (bc_ BK140.out 3).trans rfl; have hfz45_0 := blk_frozen BK140.out 0; have hfz45_1 := blk_frozen BK140.out 1; have hfz45_2 := blk_frozen BK140.out 2; have hfz45_3 := blk_frozen BK140.out 3; obtain ⟨Ao46, co46, eo46⟩ := Kd.R_slice HO_5.out; subst eo46; have p141 : 0 ≤ (x31_3 : Int) := of_decide_eq_true (by first | (with_reducible assumption) | assumption); have q141 : x31_3 < (x5_3.length : Int) := of_decide_eq_true (by first | (with_reducible assumption) | assumption); obtain ⟨ad141, e141, hx141_0⟩ := Kd.at_bool (Kd.R_reads' HO_5.out).2.2 x31_3 p141 q141; (try rw [← Nbq24.out] at hx141_0); cases e141; have hn141_0 : ad141.block ≠ gb140 := Kd.own_blk (Kd.R_ne HO_5.out BK140.out (by decide)); have hn141_1 : ad141.block ≠ gb140 := Kd.own_blk (Kd.R_ne HO_5.out BK140.out (by decide)); have hn141_2 : ad141.block ≠ gb140 := Kd.own_blk (Kd.R_ne HO_5.out BK140.out (by decide)); have hn141_3 : ad141.block ≠ gb140 := Kd.own_blk (Kd.R_ne HO_5.out BK140.out (by decide)); replace hx141_0 := (cell_far (p := ⟨gb140, 0, none⟩) (by first | (rw [add_block]; exact hn141_0) | (show (Addr.add _ _).block ≠ _; rw [add_block]; exact hn141_0) | exact hn141_0) (.int .i64 ((rd_T33 l1 x31_3).f0))).trans hx141_0; replace hx141_0 := (cell_far (p := ⟨gb140, 1, none⟩) (by first | (rw [add_block]; exact hn141_1) | (show (Addr.add _ _).block ≠ _; rw [add_block]; exact hn141_1) | exact hn141_1) (.int .i64 ((rd_T33 l1 x31_3).f1))).trans hx141_0; replace hx141_0 := (cell_far (p := ⟨gb140, 2, none⟩) (by first | (rw [add_block]; exact hn141_2) | (show (Addr.add _ _).block ≠ _; rw [add_block]; exact hn141_2) | exact hn141_2) (.int .i64 ((rd_T33 l1 x31_3).f2))).trans hx141_0; replace hx141_0 := (cell_far (p := ⟨gb140, 3, none⟩) (by first | (rw [add_block]; exact hn141_3) | (show (Addr.add _ _).block ≠ _; rw [add_block]; exact hn141_3) | exact hn141_3) (.int .i64 ((rd_T33 l1 x31_3).f3))).trans hx141_0; clear hn141_0 hn141_1 hn141_2 hn141_3; replace p141 := eq_true p141; replace q141 := eq_true q141; have hcz47_0 : w43.cell? ⟨gb138, 0, none⟩ = some (.int .i64 ((rd_T33 l0 x25_2).f0)) := (bc_ BK138.out 0).trans rfl; have hcz47_1 : w43.cell? ⟨gb138, 1, none⟩ = some (.int .i64 ((rd_T33 l0 x25_2).f1)) := (bc_ BK138.out 1).trans rfl; have hcz47_2 : w43.cell? ⟨gb138, 2, none⟩ = some (.int .i64 ((rd_T33 l0 x25_2).f2)) := (bc_ BK138.out 2).trans rfl; have hcz47_3 : w43.cell? ⟨gb138, 3, none⟩ = some (.int .i64 ((rd_T33 l0 x25_2).f3)) := (bc_ BK138.out 3).trans rfl; have hfz47_0 := blk_frozen BK138.out 0; have hfz47_1 := blk_frozen BK138.out 1; have hfz47_2 := blk_frozen BK138.out 2; have hfz47_3 := blk_frozen BK138.out 3))
                   go_roundg k3
                   case measure => have := HJ2.out; have := HK2.out; have := HK3.out; omega
                   case rel => exact ⟨(x5_3), (x9_3), (wrap64 (x31_3 + 1)), (by first | rfl | (simp; done) | (simp [*]; done)), (by first | rfl | (simp; done) | (simp [*]; done)), H', ⟨by have := HJ2.out; have := HK2.out; have := HK3.out; omega⟩, ⟨by (with_reducible repeat (first | apply ra_ | apply rn_ | apply re_)); exact Kd.R_mono (Kd.R_far (p := ⟨gb140, 3, none⟩) (Kd.R_far (p := ⟨gb140, 2, none⟩) (Kd.R_far (p := ⟨gb140, 1, none⟩) (Kd.R_far (p := ⟨gb140, 0, none⟩) (Kd.R_types HO_5.out BK140.out (by decide)) (fun _ hk => hk.2) (.int .i64 ((rd_T33 l1 x31_3).f0))) (fun _ hk => hk.2) (.int .i64 ((rd_T33 l1 x31_3).f1))) (fun _ hk => hk.2) (.int .i64 ((rd_T33 l1 x31_3).f2))) (fun _ hk => hk.2) (.int .i64 ((rd_T33 l1 x31_3).f3))) (fun _ hk => trivial)⟩, ⟨by (with_reducible repeat (first | apply ra_ | apply rn_ | apply re_)); exact Kd.R_mono (Kd.R_far (p := ⟨gb140, 3, none⟩) (Kd.R_far (p := ⟨gb140, 2, none⟩) (Kd.R_far (p := ⟨gb140, 1, none⟩) (Kd.R_far (p := ⟨gb140, 0, none⟩) (Kd.R_types HO_6.out BK140.out (by decide)) (fun _ hk => hk.2) (.int .i64 ((rd_T33 l1 x31_3).f0))) (fun _ hk => hk.2) (.int .i64 ((rd_T33 l1 x31_3).f1))) (fun _ hk => hk.2) (.int .i64 ((rd_T33 l1 x31_3).f2))) (fun _ hk => hk.2) (.int .i64 ((rd_T33 l1 x31_3).f3))) (fun _ hk => trivial)⟩, ⟨by (with_reducible repeat (first | refine bn_ ?_ _ | refine bd_ ?_ | refine bl_ ?_ _)); refine bf_ ?_ NB138_140.out _; (with_reducible repeat (first | refine bn_ ?_ _ | refine bd_ ?_ | refine bl_ ?_ _)); refine bf_ ?_ NB138_140.out _; (with_reducible repeat (first | refine bn_ ?_ _ | refine bd_ ?_ | refine bl_ ?_ _)); refine bf_ ?_ NB138_140.out _; (with_reducible repeat (first | refine bn_ ?_ _ | refine bd_ ?_ | refine bl_ ?_ _)); refine bf_ ?_ NB138_140.out _; (with_reducible repeat (first | refine bn_ ?_ _ | refine bd_ ?_ | refine bl_ ?_ _)); exact BK138.out⟩, ⟨by repeat (first | (with_reducible first | exact HB.out | apply wa_ | apply wn_ | apply w1_ | refine ws_ ?_ GE138.out | refine ws_ ?_ GE140.out) | exact HB.out)⟩⟩
                ·rw [if_neg c23] at H
                 exact absurd H (by simp)
               ·rw [if_neg c22] at H
                exact absurd H (by simp)
              ·rw [if_neg c21] at H
               exact absurd H (by simp)
             ·rw [if_neg c20] at H
              have c20b0 : decide (x31_3 < (l1.length : Int)) = false := decide_eq_false c20
              clear c20
              by_cases c48 : x6_2.length < 17592186044416
              ·rw [if_pos c48] at H
               have LMc48 := am_ c48
               clear c48
               obtain ⟨y146, hy146⟩ : ∃ y_ : List Int, y_ = (x6_2 ++ [x9_3]) := ⟨_, rfl⟩
               replace H : (impl_MatchBooks.l0 k3 l1 x5_3 y146 l0 (l0.length : Int) (wrap64 (x25_2 + 1))) = some r := by first | (rw [hy146]; with_reducible exact H) | (have H2_ := (q7_ _ _).symm.trans H; rw [hy146]; with_reducible exact H2_) | (have H2_ := (q7_ _ _).symm.trans H; with_reducible exact H2_) | with_reducible exact H | (rw [hy146]; exact H) | exact H
               have Ny146 := am_ hy146
               clear hy146
               have H' := am_ H
               clear H
               go_wp2_with (first | ((with_reducible refine gate_builtin (b := .append) (xs := #[.tmp 51, .tmp 53]) rfl ?_); at_builtin; refine Kd.R_append (Kd.int .i64) (w0 := w) w.heap.size rfl (.tmp 51) (.tmp 53) 28 3 (.int .i64 0) 8 rfl Try.underlying28 info3 rfl (by decide) (by omega) u6 x6_2 x9_3 [.int .i64 x9_3] (fun _ => True) (fun _ => False) rfl rfl ?aP (fun _ hk => hk.elim) ?aF ?aO ?aB ?aS ?aL ?_; (case aP => exact rfl); (case aB => exact (by repeat (first | (with_reducible first | exact HB.out | apply wa_ | apply wn_ | apply w1_ | refine ws_ ?_ GE138.out) | exact HB.out))); (case aF => exact (fun _ _ => trivial)); (case aO => exact (by (with_reducible repeat (first | apply ra_ | apply rn_ | apply re_)); exact HO_6.out)); (case aS => exact (below_size (by repeat (first | (with_reducible first | exact HB.out | apply wa_ | apply wn_ | apply w1_ | refine ws_ ?_ GE138.out) | exact HB.out)))); (case aL => have := LMc48.out; omega); intro v147 w49 ho hb hg hat; rw [← Ny146.out] at ho; have n0_ := am_ (Kd.R_over' (by (with_reducible repeat (first | apply ra_ | apply rn_ | apply re_)); exact HO_5.out) (Kd.R_typed (by (with_reducible repeat (first | apply ra_ | apply rn_ | apply re_)); exact HO_6.out)) (by decide) hg); have n1_ := am_ (blk_grown (g := gb138) (o := .cells #[.int .i64 ((rd_T33 l0 x25_2).f0), .int .i64 ((rd_T33 l0 x25_2).f1), .int .i64 ((rd_T33 l0 x25_2).f2), .int .i64 ((rd_T33 l0 x25_2).f3)] 33 (0, 0)) (by (with_reducible repeat (first | refine bn_ ?_ _ | refine bd_ ?_ | refine bl_ ?_ _)); exact BK138.out) hg (Kd.R_ne HO_6.out BK138.out (by decide))); have n2_ := am_ (hb); have n3_ := am_ (ho); clear HO_5 BK138 HB HO_6; have HO_5 := n0_; have BK138 := n1_; have HB := n2_; have HO148 := n3_; clear n0_ n1_ n2_ n3_; clear ho hb hg hat))
               go_roundg k3
               case measure => have := HJ2.out; have := HK2.out; have := HK3.out; omega
               case rel => exact ⟨(x5_3), (y146), (wrap64 (x25_2 + 1)), (by first | rfl | (simp; done) | (simp [*]; done)), H', ⟨by have := HJ2.out; have := HK2.out; have := HK3.out; omega⟩, ⟨by (with_reducible repeat (first | apply ra_ | apply rn_ | apply re_)); exact HO_5.out⟩, ⟨by (with_reducible repeat (first | apply ra_ | apply rn_ | apply re_)); exact HO148.out⟩, ⟨by repeat (first | (with_reducible first | exact HB.out | apply wa_ | apply wn_ | apply w1_ | refine ws_ ?_ GE138.out) | exact HB.out)⟩⟩
              ·rw [if_neg c48] at H
               exact absurd H (by simp)
          ·rw [if_neg c17] at H
           exact absurd H (by simp)
         ·rw [if_neg c16] at H
          exact absurd H (by simp)
        ·rw [if_neg c15] at H
         have c15b0 : decide (x25_2 < (l0.length : Int)) = false := decide_eq_false c15
         clear c15
         obtain rfl := Option.some.inj H
         go_wp2
         go_ret
         exact ⟨_, by first | rfl | (simp [errW_none, errW_some] <;> rfl) | (simp [*, errW_none, errW_some] <;> rfl), by (with_reducible repeat (first | apply ra_ | apply rn_ | apply re_)); exact HO_6.out, by repeat (first | (with_reducible first | exact HB.out | apply wa_ | apply wn_ | apply w1_) | exact HB.out)⟩
     ·rw [if_neg c12] at H
      exact absurd H (by simp)
    ·rw [if_neg c11] at H
     exact absurd H (by simp)

end Go.Proofs.Ytgapjelooefofaa.PFnMatchBooks

-- PRINTED BY print.sh 35421559b90ae4d0a3588c463048766b98c2df88dd9212a6774a882060cdf62d: not written by this session
import Derived.Test.YtgapjelooefofaaPFnMistakeOfx0
import Derived.Test.YtgapjelooefofaaPFnMistakeOfx2
namespace Go.Proofs.Ytgapjelooefofaa.PFnMistakeOf
open Go.RowKit Go.Proofs.YtgapjelooefofaaW.PrintWords Go.Proofs.YtgapjelooefofaaW.PrintLast Go.Proofs.YtgapjelooefofaaW.PrintMore
attribute [local go_sem] max2_int min2_int max_two min_two max_three min_three max_four min_four   -- for this text's walks alone
set_option linter.unusedVariables false
set_option linter.unusedSimpArgs false

/-! ### spec_DrawMistakeOf: function 16 -/
def spec_DrawMistakeOf.j0 : Nat → Int → Bool → List Int → Int → Int → Int → Int → Int → Int → Int → Int → Int → Option (Int × Int × Int × Int × Int × Int × Int × Int)
  | 0, _, _, _, _, _, _, _, _, _, _, _, _ => none
  | k + 1, x24, x25, x151000, x151001, x166000, x166001, x166002, x166003, x167000, x167001, x167002, x167003 => if x25 = true then ((spec_swaps.f k x166003).bind fun t169 => (if (t169.length : Int) > 0 then ((spec_reader_pick.f k x151000 x151001 (t169.length : Int)).bind fun bt172 => (if 0 ≤ bt172.1 then (if bt172.1 < (t169.length : Int) then (some (x166000, x166001, x166002, x166003, x167000, x167001, x167002, rd t169 bt172.1)) else (none)) else (none))) else (some (x166000, x166001, x166002, x166003, x167000, x167001, x167002, x167003)))) else (if x24 = 2 then (some (x166000, x166001, x166002, x166003, x167000, x166002, x166001, x167003)) else (if x24 = 3 then ((spec_reader_pick.f k x151000 x151001 4).bind fun bt175 => (some (x166000, x166001, x166002, x166003, bt175.1, x167001, x167002, x167003))) else (if x24 = 4 then ((spec_reader_one.f k x151000 x151001 (([2100, 5, 0] : List Int))).bind fun bt180 => (some (x166000, x166001, x166002, x166003, x167000, x167001, x167002, bt180.1))) else (some (x166000, x166001, x166002, x166003, x167000, x167001, x167002, x167003)))))
def spec_DrawMistakeOf.f (k : Nat) (l0 : List Int) : Option (Int × Int × Int × Int × Int × Int × Int × Int) := (spec_newReader.f l0).bind fun bt148 => ((spec_reader_pick.f k bt148.1 bt148.2 4).bind fun bt151 => ((spec_reader_one.f k bt148.1 bt151.2 (([2, 3, 1] : List Int))).bind fun bt156 => ((spec_reader_pick.f k bt148.1 bt156.2 250).bind fun bt158 => ((spec_reader_one.f k bt148.1 bt158.2 (([1200, 1234, 50, wrap64 (1 + bt158.1)] : List Int))).bind fun bt163 => ((spec_reader_pick.f k bt148.1 bt163.2 6).bind fun bt167 => (if bt167.1 = 0 then (spec_DrawMistakeOf.j0 k bt167.1 (bt167.1 == 0) bt148.1 bt167.2 bt151.1 1 bt156.1 bt163.1 bt151.1 1 bt156.1 bt163.1) else (spec_DrawMistakeOf.j0 k bt167.1 (bt167.1 == 1) bt148.1 bt167.2 bt151.1 1 bt156.1 bt163.1 bt151.1 1 bt156.1 bt163.1)))))))
theorem spec_DrawMistakeOf.mono_l : ∀ k, (∀ y0 y1 y2 y3 y4 y5 y6 y7 y8 y9 y10 y11, LeO (spec_DrawMistakeOf.j0 k y0 y1 y2 y3 y4 y5 y6 y7 y8 y9 y10 y11) (spec_DrawMistakeOf.j0 (k + 1) y0 y1 y2 y3 y4 y5 y6 y7 y8 y9 y10 y11))
  | 0 => fun _ _ _ _ _ _ _ _ _ _ _ _ r h => by simp [spec_DrawMistakeOf.j0] at h
  | k + 1 => by
    have ih0 := spec_DrawMistakeOf.mono_l k
    · intro y0 y1 y2 y3 y4 y5 y6 y7 y8 y9 y10 y11
      unfold spec_DrawMistakeOf.j0
      repeat' first
      | (with_reducible exact ih0 _ _ _ _ _ _ _ _ _ _ _ _)
      | (with_reducible exact spec_reader_one.mono _ _ _ _)
      | (with_reducible exact spec_reader_pick.mono _ _ _ _)
      | (with_reducible exact spec_swaps.mono _ _)
      | (with_reducible exact LeO.refl _)
      | (with_reducible exact LeO.none _)
      | (with_reducible refine LeO.ite ?_ ?_)
      | (with_reducible refine LeO.bind ?_ (fun _ => ?_))
      | exact ih0 _ _ _ _ _ _ _ _ _ _ _ _
      | exact spec_reader_one.mono _ _ _ _
      | exact spec_reader_pick.mono _ _ _ _
      | exact spec_swaps.mono _ _
      | exact LeO.none _
      | refine LeO.ite ?_ ?_
      | refine LeO.bind ?_ (fun _ => ?_)
theorem spec_DrawMistakeOf.mono : ∀ a0 k, LeO (spec_DrawMistakeOf.f k a0) (spec_DrawMistakeOf.f (k + 1) a0) := by
  intro a0 k
  have ih0 := spec_DrawMistakeOf.mono_l k
  unfold spec_DrawMistakeOf.f
  repeat' first
      | (with_reducible exact ih0 _ _ _ _ _ _ _ _ _ _ _ _)
      | (with_reducible exact spec_reader_one.mono _ _ _ _)
      | (with_reducible exact spec_reader_pick.mono _ _ _ _)
      | (with_reducible exact spec_swaps.mono _ _)
      | (with_reducible exact LeO.refl _)
      | (with_reducible exact LeO.none _)
      | (with_reducible refine LeO.ite ?_ ?_)
      | (with_reducible refine LeO.bind ?_ (fun _ => ?_))
      | exact ih0 _ _ _ _ _ _ _ _ _ _ _ _
      | exact spec_reader_one.mono _ _ _ _
      | exact spec_reader_pick.mono _ _ _ _
      | exact spec_swaps.mono _ _
      | exact LeO.none _
      | refine LeO.ite ?_ ?_
      | refine LeO.bind ?_ (fun _ => ?_)
set_option maxHeartbeats 8000000 in
set_option maxRecDepth 100000 in
theorem spec_DrawMistakeOf.calls (k : Nat) (A0 : Option Addr) (c0 : Nat) (l0 : List Int) (r1 : Int) (r2 : Int) (r3 : Int) (r4 : Int) (r5 : Int) (r6 : Int) (r7 : Int) (r8 : Int) (w : World) (hr0 : Kd.C (Kd.int .u8) w A0 l0.length l0) (hc0 : l0.length ≤ c0) (h : spec_DrawMistakeOf.f k l0 = some (r1, r2, r3, r4, r5, r6, r7, r8)) :
    Calls Try.prog 16 #[.slice A0 l0.length c0] w fun e w' => e = .returned (.tuple #[.agg #[.int .i64 r1, .int .i64 r2, .int .i64 r3, .int .i64 r4], .agg #[.int .i64 r5, .int .i64 r6, .int .i64 r7, .int .i64 r8]]) ∧ Below w.heap.size w w' := by
  have hu33 := Try.underlying33
  have HR0 := Aside0.mk hr0
  have HC0 := Aside0.mk hc0
  clear hr0 hc0
  have HB := Aside0.mk (Below.refl w.heap.size w)
  have H : ((spec_newReader.f l0).bind fun bt148 => ((spec_reader_pick.f k bt148.1 bt148.2 4).bind fun bt151 => ((spec_reader_one.f k bt148.1 bt151.2 (([2, 3, 1] : List Int))).bind fun bt156 => ((spec_reader_pick.f k bt148.1 bt156.2 250).bind fun bt158 => ((spec_reader_one.f k bt148.1 bt158.2 (([1200, 1234, 50, wrap64 (1 + bt158.1)] : List Int))).bind fun bt163 => ((spec_reader_pick.f k bt148.1 bt163.2 6).bind fun bt167 => (if bt167.1 = 0 then (spec_DrawMistakeOf.j0 k bt167.1 (bt167.1 == 0) bt148.1 bt167.2 bt151.1 1 bt156.1 bt163.1 bt151.1 1 bt156.1 bt163.1) else (spec_DrawMistakeOf.j0 k bt167.1 (bt167.1 == 1) bt148.1 bt167.2 bt151.1 1 bt156.1 bt163.1 bt151.1 1 bt156.1 bt163.1)))))))) = some (r1, r2, r3, r4, r5, r6, r7, r8) := h
  clear h
  replace H := Option.bind_eq_some_iff.mp H
  obtain ⟨⟨t148, t149⟩, A20, H⟩ := H
  replace H : ((spec_reader_pick.f k t148 t149 4).bind fun bt151 => ((spec_reader_one.f k t148 bt151.2 (([2, 3, 1] : List Int))).bind fun bt156 => ((spec_reader_pick.f k t148 bt156.2 250).bind fun bt158 => ((spec_reader_one.f k t148 bt158.2 (([1200, 1234, 50, wrap64 (1 + bt158.1)] : List Int))).bind fun bt163 => ((spec_reader_pick.f k t148 bt163.2 6).bind fun bt167 => (if bt167.1 = 0 then (spec_DrawMistakeOf.j0 k bt167.1 (bt167.1 == 0) t148 bt167.2 bt151.1 1 bt156.1 bt163.1 bt151.1 1 bt156.1 bt163.1) else (spec_DrawMistakeOf.j0 k bt167.1 (bt167.1 == 1) t148 bt167.2 bt151.1 1 bt156.1 bt163.1 bt151.1 1 bt156.1 bt163.1))))))) = some (r1, r2, r3, r4, r5, r6, r7, r8) := H
  have A2 := Aside0.mk A20
  clear A20
  replace H := Option.bind_eq_some_iff.mp H
  obtain ⟨⟨t151, t152⟩, A30, H⟩ := H
  replace H : ((spec_reader_one.f k t148 t152 (([2, 3, 1] : List Int))).bind fun bt156 => ((spec_reader_pick.f k t148 bt156.2 250).bind fun bt158 => ((spec_reader_one.f k t148 bt158.2 (([1200, 1234, 50, wrap64 (1 + bt158.1)] : List Int))).bind fun bt163 => ((spec_reader_pick.f k t148 bt163.2 6).bind fun bt167 => (if bt167.1 = 0 then (spec_DrawMistakeOf.j0 k bt167.1 (bt167.1 == 0) t148 bt167.2 t151 1 bt156.1 bt163.1 t151 1 bt156.1 bt163.1) else (spec_DrawMistakeOf.j0 k bt167.1 (bt167.1 == 1) t148 bt167.2 t151 1 bt156.1 bt163.1 t151 1 bt156.1 bt163.1)))))) = some (r1, r2, r3, r4, r5, r6, r7, r8) := H
  have A3 := Aside0.mk A30
  clear A30
  obtain ⟨y153, hy153⟩ : ∃ y_ : List Int, y_ = (([2, 3, 1] : List Int)) := ⟨_, rfl⟩
  replace H : ((spec_reader_one.f k t148 t152 y153).bind fun bt156 => ((spec_reader_pick.f k t148 bt156.2 250).bind fun bt158 => ((spec_reader_one.f k t148 bt158.2 (([1200, 1234, 50, wrap64 (1 + bt158.1)] : List Int))).bind fun bt163 => ((spec_reader_pick.f k t148 bt163.2 6).bind fun bt167 => (if bt167.1 = 0 then (spec_DrawMistakeOf.j0 k bt167.1 (bt167.1 == 0) t148 bt167.2 t151 1 bt156.1 bt163.1 t151 1 bt156.1 bt163.1) else (spec_DrawMistakeOf.j0 k bt167.1 (bt167.1 == 1) t148 bt167.2 t151 1 bt156.1 bt163.1 t151 1 bt156.1 bt163.1)))))) = some (r1, r2, r3, r4, r5, r6, r7, r8) := by first | (rw [hy153]; with_reducible exact H) | (have H2_ := (Option.bind_some _ _).symm.trans H; rw [hy153]; with_reducible exact H2_) | (have H2_ := (Option.bind_some _ _).symm.trans H; with_reducible exact H2_) | with_reducible exact H | (rw [hy153]; exact H) | exact H
  have Ny153 := Aside0.mk hy153
  clear hy153
  replace H := Option.bind_eq_some_iff.mp H
  obtain ⟨⟨t156, t157⟩, A40, H⟩ := H
  replace H : ((spec_reader_pick.f k t148 t157 250).bind fun bt158 => ((spec_reader_one.f k t148 bt158.2 (([1200, 1234, 50, wrap64 (1 + bt158.1)] : List Int))).bind fun bt163 => ((spec_reader_pick.f k t148 bt163.2 6).bind fun bt167 => (if bt167.1 = 0 then (spec_DrawMistakeOf.j0 k bt167.1 (bt167.1 == 0) t148 bt167.2 t151 1 t156 bt163.1 t151 1 t156 bt163.1) else (spec_DrawMistakeOf.j0 k bt167.1 (bt167.1 == 1) t148 bt167.2 t151 1 t156 bt163.1 t151 1 t156 bt163.1))))) = some (r1, r2, r3, r4, r5, r6, r7, r8) := H
  have A4 := Aside0.mk A40
  clear A40
  replace H := Option.bind_eq_some_iff.mp H
  obtain ⟨⟨t158, t159⟩, A50, H⟩ := H
  replace H : ((spec_reader_one.f k t148 t159 (([1200, 1234, 50, wrap64 (1 + t158)] : List Int))).bind fun bt163 => ((spec_reader_pick.f k t148 bt163.2 6).bind fun bt167 => (if bt167.1 = 0 then (spec_DrawMistakeOf.j0 k bt167.1 (bt167.1 == 0) t148 bt167.2 t151 1 t156 bt163.1 t151 1 t156 bt163.1) else (spec_DrawMistakeOf.j0 k bt167.1 (bt167.1 == 1) t148 bt167.2 t151 1 t156 bt163.1 t151 1 t156 bt163.1)))) = some (r1, r2, r3, r4, r5, r6, r7, r8) := H
  have A5 := Aside0.mk A50
  clear A50
  obtain ⟨y160, hy160⟩ : ∃ y_ : List Int, y_ = (([1200, 1234, 50, wrap64 (1 + t158)] : List Int)) := ⟨_, rfl⟩
  replace H : ((spec_reader_one.f k t148 t159 y160).bind fun bt163 => ((spec_reader_pick.f k t148 bt163.2 6).bind fun bt167 => (if bt167.1 = 0 then (spec_DrawMistakeOf.j0 k bt167.1 (bt167.1 == 0) t148 bt167.2 t151 1 t156 bt163.1 t151 1 t156 bt163.1) else (spec_DrawMistakeOf.j0 k bt167.1 (bt167.1 == 1) t148 bt167.2 t151 1 t156 bt163.1 t151 1 t156 bt163.1)))) = some (r1, r2, r3, r4, r5, r6, r7, r8) := by first | (rw [hy160]; with_reducible exact H) | (have H2_ := (Option.bind_some _ _).symm.trans H; rw [hy160]; with_reducible exact H2_) | (have H2_ := (Option.bind_some _ _).symm.trans H; with_reducible exact H2_) | with_reducible exact H | (rw [hy160]; exact H) | exact H
  have Ny160 := Aside0.mk hy160
  clear hy160
  replace H := Option.bind_eq_some_iff.mp H
  obtain ⟨⟨t163, t164⟩, A60, H⟩ := H
  replace H : ((spec_reader_pick.f k t148 t164 6).bind fun bt167 => (if bt167.1 = 0 then (spec_DrawMistakeOf.j0 k bt167.1 (bt167.1 == 0) t148 bt167.2 t151 1 t156 t163 t151 1 t156 t163) else (spec_DrawMistakeOf.j0 k bt167.1 (bt167.1 == 1) t148 bt167.2 t151 1 t156 t163 t151 1 t156 t163))) = some (r1, r2, r3, r4, r5, r6, r7, r8) := H
  have A6 := Aside0.mk A60
  clear A60
  replace H := Option.bind_eq_some_iff.mp H
  obtain ⟨⟨t167, t168⟩, A70, H⟩ := H
  replace H : (if t167 = 0 then (spec_DrawMistakeOf.j0 k t167 (t167 == 0) t148 t168 t151 1 t156 t163 t151 1 t156 t163) else (spec_DrawMistakeOf.j0 k t167 (t167 == 1) t148 t168 t151 1 t156 t163 t151 1 t156 t163)) = some (r1, r2, r3, r4, r5, r6, r7, r8) := H
  have A7 := Aside0.mk A70
  clear A70
  have HC8 := Aside0.mk H
  clear H
  go_enter Try.func16, Try.ntmps16
  go_upto_if 25 with (first | ((with_reducible refine gate_dst (N := 2) rfl ?_); refine box_event ?hg (N := 2) ?hd (cs := #[.int .i64 0, .int .i64 0, .int .i64 0, .int .i64 0]) (t := 33) ?hr ?_; (case hd => rfl); (case hg => rfl); (case hr => first | (go_simp; done) | (go_simp; rfl)); intro gb146 hg w9 hbox hb; have n0_ := Aside0.mk (below_step (by repeat (first | (with_reducible first | exact HB.out | apply below_alloc | apply pw_below_drewN | apply below_drew1) | exact HB.out)) hb); have n1_ := Aside0.mk (hbox); have n2_ := Aside0.mk ((by rw [hg]; exact (below_size (by repeat (first | (with_reducible first | exact HB.out | apply below_alloc | apply pw_below_drewN | apply below_drew1) | exact HB.out))) : w.heap.size ≤ gb146)); have n3_ := Aside0.mk ((by rw [hg]; exact (below_size (by repeat (first | (with_reducible first | exact HB.out | apply below_alloc | apply pw_below_drewN | apply below_drew1) | exact HB.out))) : w.heap.size ≤ gb146)); clear HB; have HB := n0_; have BK146 := n1_; have GW146 := n2_; have GE146 := n3_; clear n0_ n1_ n2_ n3_; clear hb hbox hg) | ((with_reducible refine gate_dst (N := 3) rfl ?_); refine box_event ?hg (N := 3) ?hd (cs := #[.int .i64 0, .int .i64 0, .int .i64 0, .int .i64 0]) (t := 33) ?hr ?_; (case hd => rfl); (case hg => rfl); (case hr => first | (go_simp; done) | (go_simp; rfl)); intro gb147 hg w10 hbox hb; have n0_ := Aside0.mk (blk_below (g := gb146) (o := .cells #[.int .i64 0, .int .i64 0, .int .i64 0, .int .i64 0] 33 (0, 0)) (by (with_reducible repeat (first | refine blk_drewN ?_ _ | refine blk_drew ?_ | refine blk_alloc ?_ _)); exact BK146.out) hb); have n1_ := Aside0.mk (below_step (by repeat (first | (with_reducible first | exact HB.out | apply below_alloc | apply pw_below_drewN | apply below_drew1 | refine below_set ?_ GE146.out) | exact HB.out)) hb); have n2_ := Aside0.mk (hbox); have n3_ := Aside0.mk ((by rw [hg]; exact (below_size (by repeat (first | (with_reducible first | exact HB.out | apply below_alloc | apply pw_below_drewN | apply below_drew1 | refine below_set ?_ GE146.out) | exact HB.out))) : w.heap.size ≤ gb147)); have n4_ := Aside0.mk ((by rw [hg]; exact (below_size (by repeat (first | (with_reducible first | exact HB.out | apply below_alloc | apply pw_below_drewN | apply below_drew1 | refine below_set ?_ GE146.out) | exact HB.out))) : w.heap.size ≤ gb147)); have n5_ := Aside0.mk ((by rw [hg]; exact Nat.ne_of_lt (blk_lt (g := gb146) (o := .cells #[.int .i64 0, .int .i64 0, .int .i64 0, .int .i64 0] 33 (0, 0)) (by (with_reducible repeat (first | refine blk_drewN ?_ _ | refine blk_drew ?_ | refine blk_alloc ?_ _)); exact BK146.out)) : gb146 ≠ gb147)); have n6_ := Aside0.mk ((by rw [hg]; exact Nat.ne_of_gt (blk_lt (g := gb146) (o := .cells #[.int .i64 0, .int .i64 0, .int .i64 0, .int .i64 0] 33 (0, 0)) (by (with_reducible repeat (first | refine blk_drewN ?_ _ | refine blk_drew ?_ | refine blk_alloc ?_ _)); exact BK146.out)) : gb147 ≠ gb146)); clear BK146; clear HB; have BK146 := n0_; have HB := n1_; have BK147 := n2_; have GW147 := n3_; have GE147 := n4_; have NB146_147 := n5_; have NB147_146 := n6_; clear n0_ n1_ n2_ n3_ n4_ n5_ n6_; clear hb hbox hg) | ((with_reducible refine gate_callee (f := 36) rfl ?_); refine goesL_ (some 9) rfl rfl Try.func36 (by kernel_rfl) rfl #[.slice A0 l0.length c0] rfl (by (try simp only [List.map_toArray, List.map_cons, List.map_nil]); first | done | rfl | (simp only [List.length_drop, List.length_take]; rfl)) ?_; (with_reducible refine (spec_newReader.calls _ _ l0 t148 t149 w _ ?side1 ?side2 ?side3 A2.out).mono ?_); (case side1 => repeat (first | (with_reducible first | exact HB.out | apply below_alloc | apply pw_below_drewN | apply below_drew1 | refine below_set ?_ GE146.out | refine below_set ?_ GE147.out) | exact HB.out)); (case side2 => exact HR0.out); (case side3 => exact HC0.out); rintro e w11 ⟨g150, rfl, hi, hb, hb2⟩; refine ⟨_, rfl, ?_⟩; have n0_ := Aside0.mk (blk_below (g := gb146) (o := .cells #[.int .i64 0, .int .i64 0, .int .i64 0, .int .i64 0] 33 (0, 0)) (by (with_reducible repeat (first | refine blk_drewN ?_ _ | refine blk_drew ?_ | refine blk_alloc ?_ _)); exact BK146.out) hb2); have n1_ := Aside0.mk (blk_below (g := gb147) (o := .cells #[.int .i64 0, .int .i64 0, .int .i64 0, .int .i64 0] 33 (0, 0)) (by (with_reducible repeat (first | refine blk_drewN ?_ _ | refine blk_drew ?_ | refine blk_alloc ?_ _)); exact BK147.out) hb2); have n2_ := Aside0.mk (hb); have n3_ := Aside0.mk (hi); have n4_ := Aside0.mk (IsS65.ne_blk hi (blk_below (g := gb146) (o := .cells #[.int .i64 0, .int .i64 0, .int .i64 0, .int .i64 0] 33 (0, 0)) (by (with_reducible repeat (first | refine blk_drewN ?_ _ | refine blk_drew ?_ | refine blk_alloc ?_ _)); exact BK146.out) hb2) (by decide)); have n5_ := Aside0.mk (Ne.symm (IsS65.ne_blk hi (blk_below (g := gb146) (o := .cells #[.int .i64 0, .int .i64 0, .int .i64 0, .int .i64 0] 33 (0, 0)) (by (with_reducible repeat (first | refine blk_drewN ?_ _ | refine blk_drew ?_ | refine blk_alloc ?_ _)); exact BK146.out) hb2) (by decide))); have n6_ := Aside0.mk (IsS65.ne_blk hi (blk_below (g := gb147) (o := .cells #[.int .i64 0, .int .i64 0, .int .i64 0, .int .i64 0] 33 (0, 0)) (by (with_reducible repeat (first | refine blk_drewN ?_ _ | refine blk_drew ?_ | refine blk_alloc ?_ _)); exact BK147.out) hb2) (by decide)); have n7_ := Aside0.mk (Ne.symm (IsS65.ne_blk hi (blk_below (g := gb147) (o := .cells #[.int .i64 0, .int .i64 0, .int .i64 0, .int .i64 0] 33 (0, 0)) (by (with_reducible repeat (first | refine blk_drewN ?_ _ | refine blk_drew ?_ | refine blk_alloc ?_ _)); exact BK147.out) hb2) (by decide))); clear BK146; clear BK147; clear HB; have BK146 := n0_; have BK147 := n1_; have HB := n2_; have HI150 := n3_; have NB150_146 := n4_; have NB146_150 := n5_; have NB150_147 := n6_; have NB147_150 := n7_; clear n0_ n1_ n2_ n3_ n4_ n5_ n6_ n7_; (try clear hb); (try clear hb2); (try clear hk); (try clear hi)) | ((with_reducible refine gate_callee (f := 45) rfl ?_); refine goesL_ (some 11) rfl rfl Try.func45 (by kernel_rfl) rfl #[.pointer (some ⟨g150, 0, none⟩), .int .i64 4] rfl (by (try simp only [List.map_toArray, List.map_cons, List.map_nil]); first | done | rfl | (simp only [List.length_drop, List.length_take]; rfl)) ?_; (with_reducible refine (spec_reader_pick.calls k g150 t148 t149 4 t151 t152 w _ ?side1 ?side2 A3.out).mono ?_); (case side1 => repeat (first | (with_reducible first | exact HI150.out | apply IsS65.alloc | apply IsS65.drewN | apply IsS65.drew | apply IsS65.set_1 | refine IsS65.far ?_ NB150_146.out _ | refine IsS65.far ?_ NB150_147.out _) | exact HI150.out)); (case side2 => repeat (first | (with_reducible first | exact HB.out | apply below_alloc | apply pw_below_drewN | apply below_drew1 | refine below_set ?_ (IsS65.ge HI150.out) | refine below_set ?_ GE146.out | refine below_set ?_ GE147.out) | exact HB.out)); rintro e w12 ⟨rfl, hi, hb, hk⟩; refine ⟨_, rfl, ?_⟩; have n0_ := Aside0.mk (KeepBut.blk hk (g' := gb146) (o := .cells #[.int .i64 0, .int .i64 0, .int .i64 0, .int .i64 0] 33 (0, 0)) (by (with_reducible repeat (first | refine blk_drewN ?_ _ | refine blk_drew ?_ | refine blk_alloc ?_ _)); exact BK146.out) NB146_150.out (by simp)); have n1_ := Aside0.mk (KeepBut.blk hk (g' := gb147) (o := .cells #[.int .i64 0, .int .i64 0, .int .i64 0, .int .i64 0] 33 (0, 0)) (by (with_reducible repeat (first | refine blk_drewN ?_ _ | refine blk_drew ?_ | refine blk_alloc ?_ _)); exact BK147.out) NB147_150.out (by simp)); have n2_ := Aside0.mk (hb); have n3_ := Aside0.mk (hi); clear BK146; clear BK147; clear HB; clear HI150; have BK146 := n0_; have BK147 := n1_; have HB := n2_; have HI150 := n3_; clear n0_ n1_ n2_ n3_; (try clear hb); (try clear hb2); (try clear hk); (try clear hi)) | ((with_reducible refine gate_dst (N := 13) rfl ?_); refine Kd.R_lit (Kd.int .i64) _ 3 ?hg (N := 13) ?hd (xs := ([2, 3, 1] : List Int)) (inner := [.int .i64 2, .int .i64 3, .int .i64 1]) (ok := fun _ => True) (okp := fun _ => True) ?hr ?hp (fun _ hk => hk) trivial (Below.refl _ _) (Nat.le_refl _) (by simp) ?_; (case hd => rfl); (case hg => rfl); (case hr => first | (go_simp; done) | (go_simp; rfl)); (case hp => exact (Reps.one (show Kd.M (Kd.int .i64) _ _ _ 2 [.int .i64 2] from rfl) (Reps.one (show Kd.M (Kd.int .i64) _ _ _ 3 [.int .i64 3] from rfl) (Reps.one (show Kd.M (Kd.int .i64) _ _ _ 1 [.int .i64 1] from rfl) (Reps.none _ _))))); intro v154 w13 ho14 hb hg_ hnew_; clear hg_ hnew_; (first | rw [← Ny153.out] at ho14 | (simp only [Int.reduceToNat] at ho14; rw [← Ny153.out] at ho14)); have n0_ := Aside0.mk (Kd.R_lower ho14 (below_size (by repeat (first | (with_reducible first | exact HB.out | apply below_alloc | apply pw_below_drewN | apply below_drew1 | refine below_set ?_ (IsS65.ge HI150.out) | refine below_set ?_ GE146.out | refine below_set ?_ GE147.out) | exact HB.out)))); have n1_ := Aside0.mk (blk_below (g := gb146) (o := .cells #[.int .i64 0, .int .i64 0, .int .i64 0, .int .i64 0] 33 (0, 0)) (by (with_reducible repeat (first | refine blk_drewN ?_ _ | refine blk_drew ?_ | refine blk_alloc ?_ _)); exact BK146.out) hb); have n2_ := Aside0.mk (blk_below (g := gb147) (o := .cells #[.int .i64 0, .int .i64 0, .int .i64 0, .int .i64 0] 33 (0, 0)) (by (with_reducible repeat (first | refine blk_drewN ?_ _ | refine blk_drew ?_ | refine blk_alloc ?_ _)); exact BK147.out) hb); have n3_ := Aside0.mk (IsS65.below (by repeat (first | (with_reducible first | exact HI150.out | apply IsS65.alloc | apply IsS65.drewN | apply IsS65.drew | apply IsS65.set_1 | refine IsS65.far ?_ NB150_146.out _ | refine IsS65.far ?_ NB150_147.out _) | exact HI150.out)) hb); have n4_ := Aside0.mk (below_step (by repeat (first | (with_reducible first | exact HB.out | apply below_alloc | apply pw_below_drewN | apply below_drew1 | refine below_set ?_ (IsS65.ge HI150.out) | refine below_set ?_ GE146.out | refine below_set ?_ GE147.out) | exact HB.out)) hb); clear BK146; clear BK147; clear HI150; clear HB; have HO155 := n0_; have BK146 := n1_; have BK147 := n2_; have HI150 := n3_; have HB := n4_; clear n0_ n1_ n2_ n3_ n4_; clear hb ho14; obtain ⟨Ao15, co15, eo15⟩ := Kd.R_slice HO155.out; subst eo15) | ((with_reducible refine gate_callee (f := 38) rfl ?_); refine goesL_ (some 14) rfl rfl Try.func38 (by kernel_rfl) rfl #[.pointer (some ⟨g150, 0, none⟩), .slice Ao15 y153.length co15] rfl (by (try simp only [List.map_toArray, List.map_cons, List.map_nil]); first | done | rfl | (simp only [List.length_drop, List.length_take]; rfl)) ?_; (with_reducible refine (spec_reader_one.calls k g150 t148 t152 _ _ y153 t156 t157 w _ ?side1 ?side2 ?side3 ?side4 ?side5 A4.out).mono ?_); (case side1 => repeat (first | (with_reducible first | exact HI150.out | apply IsS65.alloc | apply IsS65.drewN | apply IsS65.drew | apply IsS65.set_1 | refine IsS65.far ?_ NB150_146.out _ | refine IsS65.far ?_ NB150_147.out _) | exact HI150.out)); (case side2 => repeat (first | (with_reducible first | exact HB.out | apply below_alloc | apply pw_below_drewN | apply below_drew1 | refine below_set ?_ (IsS65.ge HI150.out) | refine below_set ?_ GE146.out | refine below_set ?_ GE147.out) | exact HB.out)); (case side3 => repeat (first | exact (Kd.R_reads' HO155.out).2.2 | (with_reducible refine Kd.C_alloc ?_ _) | (with_reducible refine Kd.C_drewN ?_ _) | (with_reducible refine Kd.C_drew ?_))); (case side4 => exact (Kd.R_reads' HO155.out).2.1); (case side5 => exact far_slice (IsS65.own_ne HI150.out HO155.out (by decide))); rintro e w16 ⟨rfl, hi, hb, hk⟩; refine ⟨_, rfl, ?_⟩; have n0_ := Aside0.mk (KeepBut.blk hk (g' := gb146) (o := .cells #[.int .i64 0, .int .i64 0, .int .i64 0, .int .i64 0] 33 (0, 0)) (by (with_reducible repeat (first | refine blk_drewN ?_ _ | refine blk_drew ?_ | refine blk_alloc ?_ _)); exact BK146.out) NB146_150.out (by simp)); have n1_ := Aside0.mk (KeepBut.blk hk (g' := gb147) (o := .cells #[.int .i64 0, .int .i64 0, .int .i64 0, .int .i64 0] 33 (0, 0)) (by (with_reducible repeat (first | refine blk_drewN ?_ _ | refine blk_drew ?_ | refine blk_alloc ?_ _)); exact BK147.out) NB147_150.out (by simp)); have n2_ := Aside0.mk (Kd.R_mono (Kd.R_keep (IsS65.apart (show IsS65 w _ g150 t148 t152 from by repeat (first | (with_reducible first | exact HI150.out | apply IsS65.alloc | apply IsS65.drewN | apply IsS65.drew | apply IsS65.set_1 | refine IsS65.far ?_ NB150_146.out _ | refine IsS65.far ?_ NB150_147.out _) | exact HI150.out)) (by (with_reducible repeat (first | apply Kd.R_alloc | apply Kd.R_drewN | apply Kd.R_drew)); exact HO155.out) (by decide)) hk (fun _ h => h.2)) (fun _ h => h.1)); have n3_ := Aside0.mk (hb); have n4_ := Aside0.mk (hi); clear BK146; clear BK147; clear HO155; clear HB; clear HI150; have BK146 := n0_; have BK147 := n1_; have HO155 := n2_; have HB := n3_; have HI150 := n4_; clear n0_ n1_ n2_ n3_ n4_; (try clear hb); (try clear hb2); (try clear hk); (try clear hi)) | ((with_reducible refine gate_callee (f := 45) rfl ?_); refine goesL_ (some 17) rfl rfl Try.func45 (by kernel_rfl) rfl #[.pointer (some ⟨g150, 0, none⟩), .int .i64 250] rfl (by (try simp only [List.map_toArray, List.map_cons, List.map_nil]); first | done | rfl | (simp only [List.length_drop, List.length_take]; rfl)) ?_; (with_reducible refine (spec_reader_pick.calls k g150 t148 t157 250 t158 t159 w _ ?side1 ?side2 A5.out).mono ?_); (case side1 => repeat (first | (with_reducible first | exact HI150.out | apply IsS65.alloc | apply IsS65.drewN | apply IsS65.drew | apply IsS65.set_1 | refine IsS65.far ?_ NB150_146.out _ | refine IsS65.far ?_ NB150_147.out _) | exact HI150.out)); (case side2 => repeat (first | (with_reducible first | exact HB.out | apply below_alloc | apply pw_below_drewN | apply below_drew1 | refine below_set ?_ (IsS65.ge HI150.out) | refine below_set ?_ GE146.out | refine below_set ?_ GE147.out) | exact HB.out)); rintro e w17 ⟨rfl, hi, hb, hk⟩; refine ⟨_, rfl, ?_⟩; have n0_ := Aside0.mk (KeepBut.blk hk (g' := gb146) (o := .cells #[.int .i64 0, .int .i64 0, .int .i64 0, .int .i64 0] 33 (0, 0)) (by (with_reducible repeat (first | refine blk_drewN ?_ _ | refine blk_drew ?_ | refine blk_alloc ?_ _)); exact BK146.out) NB146_150.out (by simp)); have n1_ := Aside0.mk (KeepBut.blk hk (g' := gb147) (o := .cells #[.int .i64 0, .int .i64 0, .int .i64 0, .int .i64 0] 33 (0, 0)) (by (with_reducible repeat (first | refine blk_drewN ?_ _ | refine blk_drew ?_ | refine blk_alloc ?_ _)); exact BK147.out) NB147_150.out (by simp)); have n2_ := Aside0.mk (Kd.R_mono (Kd.R_keep (IsS65.apart (show IsS65 w _ g150 t148 t157 from by repeat (first | (with_reducible first | exact HI150.out | apply IsS65.alloc | apply IsS65.drewN | apply IsS65.drew | apply IsS65.set_1 | refine IsS65.far ?_ NB150_146.out _ | refine IsS65.far ?_ NB150_147.out _) | exact HI150.out)) (by (with_reducible repeat (first | apply Kd.R_alloc | apply Kd.R_drewN | apply Kd.R_drew)); exact HO155.out) (by decide)) hk (fun _ h => h.2)) (fun _ h => h.1)); have n3_ := Aside0.mk (hb); have n4_ := Aside0.mk (hi); clear BK146; clear BK147; clear HO155; clear HB; clear HI150; have BK146 := n0_; have BK147 := n1_; have HO155 := n2_; have HB := n3_; have HI150 := n4_; clear n0_ n1_ n2_ n3_ n4_; (try clear hb); (try clear hb2); (try clear hk); (try clear hi)) | ((with_reducible refine gate_dst (N := 19) rfl ?_); refine Kd.R_lit (Kd.int .i64) _ 3 ?hg (N := 19) ?hd (xs := ([1200, 1234, 50, wrap64 (1 + t158)] : List Int)) (inner := [.int .i64 1200, .int .i64 1234, .int .i64 50, .int .i64 (wrap64 (1 + t158))]) (ok := fun _ => True) (okp := fun _ => True) ?hr ?hp (fun _ hk => hk) trivial (Below.refl _ _) (Nat.le_refl _) (by simp) ?_; (case hd => rfl); (case hg => rfl); (case hr => first | (go_simp; done) | (go_simp; rfl)); (case hp => exact (Reps.one (show Kd.M (Kd.int .i64) _ _ _ 1200 [.int .i64 1200] from rfl) (Reps.one (show Kd.M (Kd.int .i64) _ _ _ 1234 [.int .i64 1234] from rfl) (Reps.one (show Kd.M (Kd.int .i64) _ _ _ 50 [.int .i64 50] from rfl) (Reps.one (show Kd.M (Kd.int .i64) _ _ _ (wrap64 (1 + t158)) [.int .i64 (wrap64 (1 + t158))] from rfl) (Reps.none _ _)))))); intro v161 w18 ho19 hb hg_ hnew_; clear hg_ hnew_; (first | rw [← Ny160.out] at ho19 | (simp only [Int.reduceToNat] at ho19; rw [← Ny160.out] at ho19)); have n0_ := Aside0.mk (Kd.R_elder' (by (with_reducible repeat (first | apply Kd.R_alloc | apply Kd.R_drewN | apply Kd.R_drew)); exact HO155.out) (Kd.R_base ho19) hb); have n1_ := Aside0.mk (Kd.R_lower (Kd.R_new' ho19 (Kd.R_lt (by (with_reducible repeat (first | apply Kd.R_alloc | apply Kd.R_drewN | apply Kd.R_drew)); exact HO155.out))) (below_size (by repeat (first | (with_reducible first | exact HB.out | apply below_alloc | apply pw_below_drewN | apply below_drew1 | refine below_set ?_ (IsS65.ge HI150.out) | refine below_set ?_ GE146.out | refine below_set ?_ GE147.out) | exact HB.out)))); have n2_ := Aside0.mk (blk_below (g := gb146) (o := .cells #[.int .i64 0, .int .i64 0, .int .i64 0, .int .i64 0] 33 (0, 0)) (by (with_reducible repeat (first | refine blk_drewN ?_ _ | refine blk_drew ?_ | refine blk_alloc ?_ _)); exact BK146.out) hb); have n3_ := Aside0.mk (blk_below (g := gb147) (o := .cells #[.int .i64 0, .int .i64 0, .int .i64 0, .int .i64 0] 33 (0, 0)) (by (with_reducible repeat (first | refine blk_drewN ?_ _ | refine blk_drew ?_ | refine blk_alloc ?_ _)); exact BK147.out) hb); have n4_ := Aside0.mk (IsS65.below (by repeat (first | (with_reducible first | exact HI150.out | apply IsS65.alloc | apply IsS65.drewN | apply IsS65.drew | apply IsS65.set_1 | refine IsS65.far ?_ NB150_146.out _ | refine IsS65.far ?_ NB150_147.out _) | exact HI150.out)) hb); have n5_ := Aside0.mk (below_step (by repeat (first | (with_reducible first | exact HB.out | apply below_alloc | apply pw_below_drewN | apply below_drew1 | refine below_set ?_ (IsS65.ge HI150.out) | refine below_set ?_ GE146.out | refine below_set ?_ GE147.out) | exact HB.out)) hb); clear HO155; clear BK146; clear BK147; clear HI150; clear HB; have HO155 := n0_; have HO162 := n1_; have BK146 := n2_; have BK147 := n3_; have HI150 := n4_; have HB := n5_; clear n0_ n1_ n2_ n3_ n4_ n5_; clear hb ho19; obtain ⟨Ao20, co20, eo20⟩ := Kd.R_slice HO162.out; subst eo20) | ((with_reducible refine gate_callee (f := 38) rfl ?_); refine goesL_ (some 20) rfl rfl Try.func38 (by kernel_rfl) rfl #[.pointer (some ⟨g150, 0, none⟩), .slice Ao20 y160.length co20] rfl (by (try simp only [List.map_toArray, List.map_cons, List.map_nil]); first | done | rfl | (simp only [List.length_drop, List.length_take]; rfl)) ?_; (with_reducible refine (spec_reader_one.calls k g150 t148 t159 _ _ y160 t163 t164 w _ ?side1 ?side2 ?side3 ?side4 ?side5 A6.out).mono ?_); (case side1 => repeat (first | (with_reducible first | exact HI150.out | apply IsS65.alloc | apply IsS65.drewN | apply IsS65.drew | apply IsS65.set_1 | refine IsS65.far ?_ NB150_146.out _ | refine IsS65.far ?_ NB150_147.out _) | exact HI150.out)); (case side2 => repeat (first | (with_reducible first | exact HB.out | apply below_alloc | apply pw_below_drewN | apply below_drew1 | refine below_set ?_ (IsS65.ge HI150.out) | refine below_set ?_ GE146.out | refine below_set ?_ GE147.out) | exact HB.out)); (case side3 => repeat (first | exact (Kd.R_reads' HO162.out).2.2 | (with_reducible refine Kd.C_alloc ?_ _) | (with_reducible refine Kd.C_drewN ?_ _) | (with_reducible refine Kd.C_drew ?_))); (case side4 => exact (Kd.R_reads' HO162.out).2.1); (case side5 => exact far_slice (IsS65.own_ne HI150.out HO162.out (by decide))); rintro e w21 ⟨rfl, hi, hb, hk⟩; refine ⟨_, rfl, ?_⟩; have n0_ := Aside0.mk (KeepBut.blk hk (g' := gb146) (o := .cells #[.int .i64 0, .int .i64 0, .int .i64 0, .int .i64 0] 33 (0, 0)) (by (with_reducible repeat (first | refine blk_drewN ?_ _ | refine blk_drew ?_ | refine blk_alloc ?_ _)); exact BK146.out) NB146_150.out (by simp)); have n1_ := Aside0.mk (KeepBut.blk hk (g' := gb147) (o := .cells #[.int .i64 0, .int .i64 0, .int .i64 0, .int .i64 0] 33 (0, 0)) (by (with_reducible repeat (first | refine blk_drewN ?_ _ | refine blk_drew ?_ | refine blk_alloc ?_ _)); exact BK147.out) NB147_150.out (by simp)); have n2_ := Aside0.mk (Kd.R_mono (Kd.R_keep (IsS65.apart (show IsS65 w _ g150 t148 t159 from by repeat (first | (with_reducible first | exact HI150.out | apply IsS65.alloc | apply IsS65.drewN | apply IsS65.drew | apply IsS65.set_1 | refine IsS65.far ?_ NB150_146.out _ | refine IsS65.far ?_ NB150_147.out _) | exact HI150.out)) (by (with_reducible repeat (first | apply Kd.R_alloc | apply Kd.R_drewN | apply Kd.R_drew)); exact HO155.out) (by decide)) hk (fun _ h => h.2)) (fun _ h => h.1)); have n3_ := Aside0.mk (Kd.R_mono (Kd.R_keep (IsS65.apart (show IsS65 w _ g150 t148 t159 from by repeat (first | (with_reducible first | exact HI150.out | apply IsS65.alloc | apply IsS65.drewN | apply IsS65.drew | apply IsS65.set_1 | refine IsS65.far ?_ NB150_146.out _ | refine IsS65.far ?_ NB150_147.out _) | exact HI150.out)) (by (with_reducible repeat (first | apply Kd.R_alloc | apply Kd.R_drewN | apply Kd.R_drew)); exact HO162.out) (by decide)) hk (fun _ h => h.2)) (fun _ h => h.1)); have n4_ := Aside0.mk (hb); have n5_ := Aside0.mk (hi); clear BK146; clear BK147; clear HO155; clear HO162; clear HB; clear HI150; have BK146 := n0_; have BK147 := n1_; have HO155 := n2_; have HO162 := n3_; have HB := n4_; have HI150 := n5_; clear n0_ n1_ n2_ n3_ n4_ n5_; (try clear hb); (try clear hb2); (try clear hk); (try clear hi)) | ((with_reducible refine gate_dst (N := 5) rfl ?_); refine box_event ?hg (N := 5) ?hd (cs := #[.int .i64 0, .int .i64 0, .int .i64 0, .int .i64 0]) (t := 33) ?hr ?_; (case hd => rfl); (case hg => rfl); (case hr => first | (go_simp; done) | (go_simp; rfl)); intro gb165 hg w22 hbox hb; have n0_ := Aside0.mk (Kd.R_below (by (with_reducible repeat (first | apply Kd.R_alloc | apply Kd.R_drewN | apply Kd.R_drew)); exact HO155.out) hb); have n1_ := Aside0.mk (Kd.R_below (by (with_reducible repeat (first | apply Kd.R_alloc | apply Kd.R_drewN | apply Kd.R_drew)); exact HO162.out) hb); have n2_ := Aside0.mk (blk_below (g := gb146) (o := .cells #[.int .i64 0, .int .i64 0, .int .i64 0, .int .i64 0] 33 (0, 0)) (by (with_reducible repeat (first | refine blk_drewN ?_ _ | refine blk_drew ?_ | refine blk_alloc ?_ _)); exact BK146.out) hb); have n3_ := Aside0.mk (blk_below (g := gb147) (o := .cells #[.int .i64 0, .int .i64 0, .int .i64 0, .int .i64 0] 33 (0, 0)) (by (with_reducible repeat (first | refine blk_drewN ?_ _ | refine blk_drew ?_ | refine blk_alloc ?_ _)); exact BK147.out) hb); have n4_ := Aside0.mk (IsS65.below (by repeat (first | (with_reducible first | exact HI150.out | apply IsS65.alloc | apply IsS65.drewN | apply IsS65.drew | apply IsS65.set_1 | refine IsS65.far ?_ NB150_146.out _ | refine IsS65.far ?_ NB150_147.out _) | exact HI150.out)) hb); have n5_ := Aside0.mk (below_step (by repeat (first | (with_reducible first | exact HB.out | apply below_alloc | apply pw_below_drewN | apply below_drew1 | refine below_set ?_ (IsS65.ge HI150.out) | refine below_set ?_ GE146.out | refine below_set ?_ GE147.out) | exact HB.out)) hb); have n6_ := Aside0.mk (hbox); have n7_ := Aside0.mk ((by rw [hg]; exact (below_size (by repeat (first | (with_reducible first | exact HB.out | apply below_alloc | apply pw_below_drewN | apply below_drew1 | refine below_set ?_ (IsS65.ge HI150.out) | refine below_set ?_ GE146.out | refine below_set ?_ GE147.out) | exact HB.out))) : w.heap.size ≤ gb165)); have n8_ := Aside0.mk ((by rw [hg]; exact (below_size (by repeat (first | (with_reducible first | exact HB.out | apply below_alloc | apply pw_below_drewN | apply below_drew1 | refine below_set ?_ (IsS65.ge HI150.out) | refine below_set ?_ GE146.out | refine below_set ?_ GE147.out) | exact HB.out))) : w.heap.size ≤ gb165)); have n9_ := Aside0.mk ((by rw [hg]; exact Nat.ne_of_lt (blk_lt (g := gb146) (o := .cells #[.int .i64 0, .int .i64 0, .int .i64 0, .int .i64 0] 33 (0, 0)) (by (with_reducible repeat (first | refine blk_drewN ?_ _ | refine blk_drew ?_ | refine blk_alloc ?_ _)); exact BK146.out)) : gb146 ≠ gb165)); have n10_ := Aside0.mk ((by rw [hg]; exact Nat.ne_of_gt (blk_lt (g := gb146) (o := .cells #[.int .i64 0, .int .i64 0, .int .i64 0, .int .i64 0] 33 (0, 0)) (by (with_reducible repeat (first | refine blk_drewN ?_ _ | refine blk_drew ?_ | refine blk_alloc ?_ _)); exact BK146.out)) : gb165 ≠ gb146)); have n11_ := Aside0.mk ((by rw [hg]; exact Nat.ne_of_lt (blk_lt (g := gb147) (o := .cells #[.int .i64 0, .int .i64 0, .int .i64 0, .int .i64 0] 33 (0, 0)) (by (with_reducible repeat (first | refine blk_drewN ?_ _ | refine blk_drew ?_ | refine blk_alloc ?_ _)); exact BK147.out)) : gb147 ≠ gb165)); have n12_ := Aside0.mk ((by rw [hg]; exact Nat.ne_of_gt (blk_lt (g := gb147) (o := .cells #[.int .i64 0, .int .i64 0, .int .i64 0, .int .i64 0] 33 (0, 0)) (by (with_reducible repeat (first | refine blk_drewN ?_ _ | refine blk_drew ?_ | refine blk_alloc ?_ _)); exact BK147.out)) : gb165 ≠ gb147)); have n13_ := Aside0.mk ((by rw [hg]; exact Nat.ne_of_lt (IsS65.lt (show IsS65 w _ g150 t148 t164 from by repeat (first | (with_reducible first | exact HI150.out | apply IsS65.alloc | apply IsS65.drewN | apply IsS65.drew | apply IsS65.set_1 | refine IsS65.far ?_ NB150_146.out _ | refine IsS65.far ?_ NB150_147.out _) | exact HI150.out))) : g150 ≠ gb165)); have n14_ := Aside0.mk ((by rw [hg]; exact Nat.ne_of_gt (IsS65.lt (show IsS65 w _ g150 t148 t164 from by repeat (first | (with_reducible first | exact HI150.out | apply IsS65.alloc | apply IsS65.drewN | apply IsS65.drew | apply IsS65.set_1 | refine IsS65.far ?_ NB150_146.out _ | refine IsS65.far ?_ NB150_147.out _) | exact HI150.out))) : gb165 ≠ g150)); clear HO155; clear HO162; clear BK146; clear BK147; clear HI150; clear HB; have HO155 := n0_; have HO162 := n1_; have BK146 := n2_; have BK147 := n3_; have HI150 := n4_; have HB := n5_; have BK165 := n6_; have GW165 := n7_; have GE165 := n8_; have NB146_165 := n9_; have NB165_146 := n10_; have NB147_165 := n11_; have NB165_147 := n12_; have NB150_165 := n13_; have NB165_150 := n14_; clear n0_ n1_ n2_ n3_ n4_ n5_ n6_ n7_ n8_ n9_ n10_ n11_ n12_ n13_ n14_; clear hb hbox hg; have hnb23 := NB165_146.out; have hnc23 := NB146_165.out; have hnb24 := NB165_147.out; have hnc24 := NB147_165.out; have hnb25 := NB165_150.out; have hnc25 := NB150_165.out; have hcz26_0 : w22.cell? ⟨gb165, 0, none⟩ = some (.int .i64 0) := (blk_cell BK165.out 0).trans rfl; have hcz26_1 : w22.cell? ⟨gb165, 1, none⟩ = some (.int .i64 0) := (blk_cell BK165.out 1).trans rfl; have hcz26_2 : w22.cell? ⟨gb165, 2, none⟩ = some (.int .i64 0) := (blk_cell BK165.out 2).trans rfl; have hcz26_3 : w22.cell? ⟨gb165, 3, none⟩ = some (.int .i64 0) := (blk_cell BK165.out 3).trans rfl; have hfz26_0 := blk_frozen BK165.out 0; have hfz26_1 := blk_frozen BK165.out 1; have hfz26_2 := blk_frozen BK165.out 2; have hfz26_3 := blk_frozen BK165.out 3) | ((with_reducible refine gate_dst (N := 6) rfl ?_); refine box_event ?hg (N := 6) ?hd (cs := #[.int .i64 0, .int .i64 0, .int .i64 0, .int .i64 0]) (t := 33) ?hr ?_; (case hd => rfl); (case hg => rfl); (case hr => first | (go_simp; done) | (go_simp; rfl)); intro gb166 hg w27 hbox hb; have n0_ := Aside0.mk (Kd.R_below (by (with_reducible repeat (first | apply Kd.R_alloc | apply Kd.R_drewN | apply Kd.R_drew)); exact (Kd.R_mono (Kd.R_far (p := ⟨gb165, 3, none⟩) (Kd.R_far (p := ⟨gb165, 2, none⟩) (Kd.R_far (p := ⟨gb165, 1, none⟩) (Kd.R_far (p := ⟨gb165, 0, none⟩) (Kd.R_types HO155.out BK165.out (by decide)) (fun _ hk => hk.2) (.int .i64 t151)) (fun _ hk => hk.2) (.int .i64 1)) (fun _ hk => hk.2) (.int .i64 t156)) (fun _ hk => hk.2) (.int .i64 t163)) (fun _ h_ => h_.1))) hb); have n1_ := Aside0.mk (Kd.R_below (by (with_reducible repeat (first | apply Kd.R_alloc | apply Kd.R_drewN | apply Kd.R_drew)); exact (Kd.R_mono (Kd.R_far (p := ⟨gb165, 3, none⟩) (Kd.R_far (p := ⟨gb165, 2, none⟩) (Kd.R_far (p := ⟨gb165, 1, none⟩) (Kd.R_far (p := ⟨gb165, 0, none⟩) (Kd.R_types HO162.out BK165.out (by decide)) (fun _ hk => hk.2) (.int .i64 t151)) (fun _ hk => hk.2) (.int .i64 1)) (fun _ hk => hk.2) (.int .i64 t156)) (fun _ hk => hk.2) (.int .i64 t163)) (fun _ h_ => h_.1))) hb); have n2_ := Aside0.mk (blk_below (g := gb146) (o := .cells #[.int .i64 0, .int .i64 0, .int .i64 0, .int .i64 0] 33 (0, 0)) (by (with_reducible repeat (first | refine blk_drewN ?_ _ | refine blk_drew ?_ | refine blk_alloc ?_ _)); refine blk_far ?_ NB146_165.out _; (with_reducible repeat (first | refine blk_drewN ?_ _ | refine blk_drew ?_ | refine blk_alloc ?_ _)); refine blk_far ?_ NB146_165.out _; (with_reducible repeat (first | refine blk_drewN ?_ _ | refine blk_drew ?_ | refine blk_alloc ?_ _)); refine blk_far ?_ NB146_165.out _; (with_reducible repeat (first | refine blk_drewN ?_ _ | refine blk_drew ?_ | refine blk_alloc ?_ _)); refine blk_far ?_ NB146_165.out _; (with_reducible repeat (first | refine blk_drewN ?_ _ | refine blk_drew ?_ | refine blk_alloc ?_ _)); exact BK146.out) hb); have n3_ := Aside0.mk (blk_below (g := gb147) (o := .cells #[.int .i64 0, .int .i64 0, .int .i64 0, .int .i64 0] 33 (0, 0)) (by (with_reducible repeat (first | refine blk_drewN ?_ _ | refine blk_drew ?_ | refine blk_alloc ?_ _)); refine blk_far ?_ NB147_165.out _; (with_reducible repeat (first | refine blk_drewN ?_ _ | refine blk_drew ?_ | refine blk_alloc ?_ _)); refine blk_far ?_ NB147_165.out _; (with_reducible repeat (first | refine blk_drewN ?_ _ | refine blk_drew ?_ | refine blk_alloc ?_ _)); refine blk_far ?_ NB147_165.out _; (with_reducible repeat (first | refine blk_drewN ?_ _ | refine blk_drew ?_ | refine blk_alloc ?_ _)); refine blk_far ?_ NB147_165.out _; (with_reducible repeat (first | refine blk_drewN ?_ _ | refine blk_drew ?_ | refine blk_alloc ?_ _)); exact BK147.out) hb); have n4_ := Aside0.mk (IsS65.below (show IsS65 w ((((w22.setCell ⟨gb165, 0, none⟩ (.int .i64 t151)).setCell ⟨gb165, 1, none⟩ (.int .i64 1)).setCell ⟨gb165, 2, none⟩ (.int .i64 t156)).setCell ⟨gb165, 3, none⟩ (.int .i64 t163)) g150 t148 t164 from by repeat (first | (with_reducible first | exact HI150.out | apply IsS65.alloc | apply IsS65.drewN | apply IsS65.drew | apply IsS65.set_1 | refine IsS65.far ?_ NB150_146.out _ | refine IsS65.far ?_ NB150_147.out _ | refine IsS65.far ?_ NB150_165.out _) | exact HI150.out)) hb); have n5_ := Aside0.mk (blk_below (g := gb165) (o := .cells #[.int .i64 t151, .int .i64 1, .int .i64 t156, .int .i64 t163] 33 (0, 0)) (by (with_reducible repeat (first | refine blk_drewN ?_ _ | refine blk_drew ?_ | refine blk_alloc ?_ _)); refine blk_put (cs := #[.int .i64 t151, .int .i64 1, .int .i64 t156, .int .i64 0]) ?_ 3 _ rfl; (with_reducible repeat (first | refine blk_drewN ?_ _ | refine blk_drew ?_ | refine blk_alloc ?_ _)); refine blk_put (cs := #[.int .i64 t151, .int .i64 1, .int .i64 0, .int .i64 0]) ?_ 2 _ rfl; (with_reducible repeat (first | refine blk_drewN ?_ _ | refine blk_drew ?_ | refine blk_alloc ?_ _)); refine blk_put (cs := #[.int .i64 t151, .int .i64 0, .int .i64 0, .int .i64 0]) ?_ 1 _ rfl; (with_reducible repeat (first | refine blk_drewN ?_ _ | refine blk_drew ?_ | refine blk_alloc ?_ _)); refine blk_put (cs := #[.int .i64 0, .int .i64 0, .int .i64 0, .int .i64 0]) ?_ 0 _ rfl; (with_reducible repeat (first | refine blk_drewN ?_ _ | refine blk_drew ?_ | refine blk_alloc ?_ _)); exact BK165.out) hb); have n6_ := Aside0.mk (below_step (by repeat (first | (with_reducible first | exact HB.out | apply below_alloc | apply pw_below_drewN | apply below_drew1 | refine below_set ?_ (IsS65.ge HI150.out) | refine below_set ?_ GE146.out | refine below_set ?_ GE147.out | refine below_set ?_ GE165.out) | exact HB.out)) hb); have n7_ := Aside0.mk (hbox); have n8_ := Aside0.mk ((by rw [hg]; exact (below_size (by repeat (first | (with_reducible first | exact HB.out | apply below_alloc | apply pw_below_drewN | apply below_drew1 | refine below_set ?_ (IsS65.ge HI150.out) | refine below_set ?_ GE146.out | refine below_set ?_ GE147.out | refine below_set ?_ GE165.out) | exact HB.out))) : w.heap.size ≤ gb166)); have n9_ := Aside0.mk ((by rw [hg]; exact (below_size (by repeat (first | (with_reducible first | exact HB.out | apply below_alloc | apply pw_below_drewN | apply below_drew1 | refine below_set ?_ (IsS65.ge HI150.out) | refine below_set ?_ GE146.out | refine below_set ?_ GE147.out | refine below_set ?_ GE165.out) | exact HB.out))) : w.heap.size ≤ gb166)); have n10_ := Aside0.mk ((by rw [hg]; exact Nat.ne_of_lt (blk_lt (g := gb146) (o := .cells #[.int .i64 0, .int .i64 0, .int .i64 0, .int .i64 0] 33 (0, 0)) (by (with_reducible repeat (first | refine blk_drewN ?_ _ | refine blk_drew ?_ | refine blk_alloc ?_ _)); refine blk_far ?_ NB146_165.out _; (with_reducible repeat (first | refine blk_drewN ?_ _ | refine blk_drew ?_ | refine blk_alloc ?_ _)); refine blk_far ?_ NB146_165.out _; (with_reducible repeat (first | refine blk_drewN ?_ _ | refine blk_drew ?_ | refine blk_alloc ?_ _)); refine blk_far ?_ NB146_165.out _; (with_reducible repeat (first | refine blk_drewN ?_ _ | refine blk_drew ?_ | refine blk_alloc ?_ _)); refine blk_far ?_ NB146_165.out _; (with_reducible repeat (first | refine blk_drewN ?_ _ | refine blk_drew ?_ | refine blk_alloc ?_ _)); exact BK146.out)) : gb146 ≠ gb166)); have n11_ := Aside0.mk ((by rw [hg]; exact Nat.ne_of_gt (blk_lt (g := gb146) (o := .cells #[.int .i64 0, .int .i64 0, .int .i64 0, .int .i64 0] 33 (0, 0)) (by (with_reducible repeat (first | refine blk_drewN ?_ _ | refine blk_drew ?_ | refine blk_alloc ?_ _)); refine blk_far ?_ NB146_165.out _; (with_reducible repeat (first | refine blk_drewN ?_ _ | refine blk_drew ?_ | refine blk_alloc ?_ _)); refine blk_far ?_ NB146_165.out _; (with_reducible repeat (first | refine blk_drewN ?_ _ | refine blk_drew ?_ | refine blk_alloc ?_ _)); refine blk_far ?_ NB146_165.out _; (with_reducible repeat (first | refine blk_drewN ?_ _ | refine blk_drew ?_ | refine blk_alloc ?_ _)); refine blk_far ?_ NB146_165.out _; (with_reducible repeat (first | refine blk_drewN ?_ _ | refine blk_drew ?_ | refine blk_alloc ?_ _)); exact BK146.out)) : gb166 ≠ gb146)); have n12_ := Aside0.mk ((by rw [hg]; exact Nat.ne_of_lt (blk_lt (g := gb147) (o := .cells #[.int .i64 0, .int .i64 0, .int .i64 0, .int .i64 0] 33 (0, 0)) (by (with_reducible repeat (first | refine blk_drewN ?_ _ | refine blk_drew ?_ | refine blk_alloc ?_ _)); refine blk_far ?_ NB147_165.out _; (with_reducible repeat (first | refine blk_drewN ?_ _ | refine blk_drew ?_ | refine blk_alloc ?_ _)); refine blk_far ?_ NB147_165.out _; (with_reducible repeat (first | refine blk_drewN ?_ _ | refine blk_drew ?_ | refine blk_alloc ?_ _)); refine blk_far ?_ NB147_165.out _; (with_reducible repeat (first | refine blk_drewN ?_ _ | refine blk_drew ?_ | refine blk_alloc ?_ _)); refine blk_far ?_ NB147_165.out _; (with_reducible repeat (first | refine blk_drewN ?_ _ | refine blk_drew ?_ | refine blk_alloc ?_ _)); exact BK147.out)) : gb147 ≠ gb166)); have n13_ := Aside0.mk ((by rw [hg]; exact Nat.ne_of_gt (blk_lt (g := gb147) (o := .cells #[.int .i64 0, .int .i64 0, .int .i64 0, .int .i64 0] 33 (0, 0)) (by (with_reducible repeat (first | refine blk_drewN ?_ _ | refine blk_drew ?_ | refine blk_alloc ?_ _)); refine blk_far ?_ NB147_165.out _; (with_reducible repeat (first | refine blk_drewN ?_ _ | refine blk_drew ?_ | refine blk_alloc ?_ _)); refine blk_far ?_ NB147_165.out _; (with_reducible repeat (first | refine blk_drewN ?_ _ | refine blk_drew ?_ | refine blk_alloc ?_ _)); refine blk_far ?_ NB147_165.out _; (with_reducible repeat (first | refine blk_drewN ?_ _ | refine blk_drew ?_ | refine blk_alloc ?_ _)); refine blk_far ?_ NB147_165.out _; (with_reducible repeat (first | refine blk_drewN ?_ _ | refine blk_drew ?_ | refine blk_alloc ?_ _)); exact BK147.out)) : gb166 ≠ gb147)); have n14_ := Aside0.mk ((by rw [hg]; exact Nat.ne_of_lt (blk_lt (g := gb165) (o := .cells #[.int .i64 t151, .int .i64 1, .int .i64 t156, .int .i64 t163] 33 (0, 0)) (by (with_reducible repeat (first | refine blk_drewN ?_ _ | refine blk_drew ?_ | refine blk_alloc ?_ _)); refine blk_put (cs := #[.int .i64 t151, .int .i64 1, .int .i64 t156, .int .i64 0]) ?_ 3 _ rfl; (with_reducible repeat (first | refine blk_drewN ?_ _ | refine blk_drew ?_ | refine blk_alloc ?_ _)); refine blk_put (cs := #[.int .i64 t151, .int .i64 1, .int .i64 0, .int .i64 0]) ?_ 2 _ rfl; (with_reducible repeat (first | refine blk_drewN ?_ _ | refine blk_drew ?_ | refine blk_alloc ?_ _)); refine blk_put (cs := #[.int .i64 t151, .int .i64 0, .int .i64 0, .int .i64 0]) ?_ 1 _ rfl; (with_reducible repeat (first | refine blk_drewN ?_ _ | refine blk_drew ?_ | refine blk_alloc ?_ _)); refine blk_put (cs := #[.int .i64 0, .int .i64 0, .int .i64 0, .int .i64 0]) ?_ 0 _ rfl; (with_reducible repeat (first | refine blk_drewN ?_ _ | refine blk_drew ?_ | refine blk_alloc ?_ _)); exact BK165.out)) : gb165 ≠ gb166)); have n15_ := Aside0.mk ((by rw [hg]; exact Nat.ne_of_gt (blk_lt (g := gb165) (o := .cells #[.int .i64 t151, .int .i64 1, .int .i64 t156, .int .i64 t163] 33 (0, 0)) (by (with_reducible repeat (first | refine blk_drewN ?_ _ | refine blk_drew ?_ | refine blk_alloc ?_ _)); refine blk_put (cs := #[.int .i64 t151, .int .i64 1, .int .i64 t156, .int .i64 0]) ?_ 3 _ rfl; (with_reducible repeat (first | refine blk_drewN ?_ _ | refine blk_drew ?_ | refine blk_alloc ?_ _)); refine blk_put (cs := #[.int .i64 t151, .int .i64 1, .int .i64 0, .int .i64 0]) ?_ 2 _ rfl; (with_reducible repeat (first | refine blk_drewN ?_ _ | refine blk_drew ?_ | refine blk_alloc ?_ _)); refine blk_put (cs := #[.int .i64 t151, .int .i64 0, .int .i64 0, .int .i64 0]) ?_ 1 _ rfl; (with_reducible repeat (first | refine blk_drewN ?_ _ | refine blk_drew ?_ | refine blk_alloc ?_ _)); refine blk_put (cs := #[.int .i64 0, .int .i64 0, .int .i64 0, .int .i64 0]) ?_ 0 _ rfl; (with_reducible repeat (first | refine blk_drewN ?_ _ | refine blk_drew ?_ | refine blk_alloc ?_ _)); exact BK165.out)) : gb166 ≠ gb165)); have n16_ := Aside0.mk ((by rw [hg]; exact Nat.ne_of_lt (IsS65.lt (show IsS65 w _ g150 t148 t164 from by repeat (first | (with_reducible first | exact HI150.out | apply IsS65.alloc | apply IsS65.drewN | apply IsS65.drew | apply IsS65.set_1 | refine IsS65.far ?_ NB150_146.out _ | refine IsS65.far ?_ NB150_147.out _ | refine IsS65.far ?_ NB150_165.out _) | exact HI150.out))) : g150 ≠ gb166)); have n17_ := Aside0.mk ((by rw [hg]; exact Nat.ne_of_gt (IsS65.lt (show IsS65 w _ g150 t148 t164 from by repeat (first | (with_reducible first | exact HI150.out | apply IsS65.alloc | apply IsS65.drewN | apply IsS65.drew | apply IsS65.set_1 | refine IsS65.far ?_ NB150_146.out _ | refine IsS65.far ?_ NB150_147.out _ | refine IsS65.far ?_ NB150_165.out _) | exact HI150.out))) : gb166 ≠ g150)); clear HO155; clear HO162; clear BK146; clear BK147; clear HI150; clear BK165; clear HB; have HO155 := n0_; have HO162 := n1_; have BK146 := n2_; have BK147 := n3_; have HI150 := n4_; have BK165 := n5_; have HB := n6_; have BK166 := n7_; have GW166 := n8_; have GE166 := n9_; have NB146_166 := n10_; have NB166_146 := n11_; have NB147_166 := n12_; have NB166_147 := n13_; have NB165_166 := n14_; have NB166_165 := n15_; have NB150_166 := n16_; have NB166_150 := n17_; clear n0_ n1_ n2_ n3_ n4_ n5_ n6_ n7_ n8_ n9_ n10_ n11_ n12_ n13_ n14_ n15_ n16_ n17_; clear hb hbox hg; have hnb28 := NB166_146.out; have hnc28 := NB146_166.out; have hnb29 := NB166_147.out; have hnc29 := NB147_166.out; have hnb30 := NB166_165.out; have hnc30 := NB165_166.out; have hnb31 := NB166_150.out; have hnc31 := NB150_166.out; have hcz32_0 : w27.cell? ⟨gb166, 0, none⟩ = some (.int .i64 0) := (blk_cell BK166.out 0).trans rfl; have hcz32_1 : w27.cell? ⟨gb166, 1, none⟩ = some (.int .i64 0) := (blk_cell BK166.out 1).trans rfl; have hcz32_2 : w27.cell? ⟨gb166, 2, none⟩ = some (.int .i64 0) := (blk_cell BK166.out 2).trans rfl; have hcz32_3 : w27.cell? ⟨gb166, 3, none⟩ = some (.int .i64 0) := (blk_cell BK166.out 3).trans rfl; have hfz32_0 := blk_frozen BK166.out 0; have hfz32_1 := blk_frozen BK166.out 1; have hfz32_2 := blk_frozen BK166.out 2; have hfz32_3 := blk_frozen BK166.out 3) | ((with_reducible refine gate_callee (f := 45) rfl ?_); refine goesL_ (some 24) rfl rfl Try.func45 (by kernel_rfl) rfl #[.pointer (some ⟨g150, 0, none⟩), .int .i64 6] rfl (by (try simp only [List.map_toArray, List.map_cons, List.map_nil]); first | done | rfl | (simp only [List.length_drop, List.length_take]; rfl)) ?_; (with_reducible refine (spec_reader_pick.calls k g150 t148 t164 6 t167 t168 w _ ?side1 ?side2 A7.out).mono ?_); (case side1 => repeat (first | (with_reducible first | exact HI150.out | apply IsS65.alloc | apply IsS65.drewN | apply IsS65.drew | apply IsS65.set_1 | refine IsS65.far ?_ NB150_146.out _ | refine IsS65.far ?_ NB150_147.out _ | refine IsS65.far ?_ NB150_165.out _ | refine IsS65.far ?_ NB150_166.out _) | exact HI150.out)); (case side2 => repeat (first | (with_reducible first | exact HB.out | apply below_alloc | apply pw_below_drewN | apply below_drew1 | refine below_set ?_ (IsS65.ge HI150.out) | refine below_set ?_ GE146.out | refine below_set ?_ GE147.out | refine below_set ?_ GE165.out | refine below_set ?_ GE166.out) | exact HB.out)); rintro e w33 ⟨rfl, hi, hb, hk⟩; refine ⟨_, rfl, ?_⟩; have n0_ := Aside0.mk (KeepBut.blk hk (g' := gb146) (o := .cells #[.int .i64 0, .int .i64 0, .int .i64 0, .int .i64 0] 33 (0, 0)) (by (with_reducible repeat (first | refine blk_drewN ?_ _ | refine blk_drew ?_ | refine blk_alloc ?_ _)); refine blk_far ?_ NB146_166.out _; (with_reducible repeat (first | refine blk_drewN ?_ _ | refine blk_drew ?_ | refine blk_alloc ?_ _)); refine blk_far ?_ NB146_166.out _; (with_reducible repeat (first | refine blk_drewN ?_ _ | refine blk_drew ?_ | refine blk_alloc ?_ _)); refine blk_far ?_ NB146_166.out _; (with_reducible repeat (first | refine blk_drewN ?_ _ | refine blk_drew ?_ | refine blk_alloc ?_ _)); refine blk_far ?_ NB146_166.out _; (with_reducible repeat (first | refine blk_drewN ?_ _ | refine blk_drew ?_ | refine blk_alloc ?_ _)); exact BK146.out) NB146_150.out (by simp)); have n1_ := Aside0.mk (KeepBut.blk hk (g' := gb147) (o := .cells #[.int .i64 0, .int .i64 0, .int .i64 0, .int .i64 0] 33 (0, 0)) (by (with_reducible repeat (first | refine blk_drewN ?_ _ | refine blk_drew ?_ | refine blk_alloc ?_ _)); refine blk_far ?_ NB147_166.out _; (with_reducible repeat (first | refine blk_drewN ?_ _ | refine blk_drew ?_ | refine blk_alloc ?_ _)); refine blk_far ?_ NB147_166.out _; (with_reducible repeat (first | refine blk_drewN ?_ _ | refine blk_drew ?_ | refine blk_alloc ?_ _)); refine blk_far ?_ NB147_166.out _; (with_reducible repeat (first | refine blk_drewN ?_ _ | refine blk_drew ?_ | refine blk_alloc ?_ _)); refine blk_far ?_ NB147_166.out _; (with_reducible repeat (first | refine blk_drewN ?_ _ | refine blk_drew ?_ | refine blk_alloc ?_ _)); exact BK147.out) NB147_150.out (by simp)); have n2_ := Aside0.mk (Kd.R_mono (Kd.R_keep (IsS65.apart (show IsS65 w _ g150 t148 t164 from by repeat (first | (with_reducible first | exact HI150.out | apply IsS65.alloc | apply IsS65.drewN | apply IsS65.drew | apply IsS65.set_1 | refine IsS65.far ?_ NB150_146.out _ | refine IsS65.far ?_ NB150_147.out _ | refine IsS65.far ?_ NB150_165.out _ | refine IsS65.far ?_ NB150_166.out _) | exact HI150.out)) (by (with_reducible repeat (first | apply Kd.R_alloc | apply Kd.R_drewN | apply Kd.R_drew)); exact (Kd.R_mono (Kd.R_far (p := ⟨gb166, 3, none⟩) (Kd.R_far (p := ⟨gb166, 2, none⟩) (Kd.R_far (p := ⟨gb166, 1, none⟩) (Kd.R_far (p := ⟨gb166, 0, none⟩) (Kd.R_types HO155.out BK166.out (by decide)) (fun _ hk => hk.2) (.int .i64 t151)) (fun _ hk => hk.2) (.int .i64 1)) (fun _ hk => hk.2) (.int .i64 t156)) (fun _ hk => hk.2) (.int .i64 t163)) (fun _ h_ => h_.1))) (by decide)) hk (fun _ h => h.2)) (fun _ h => h.1)); have n3_ := Aside0.mk (Kd.R_mono (Kd.R_keep (IsS65.apart (show IsS65 w _ g150 t148 t164 from by repeat (first | (with_reducible first | exact HI150.out | apply IsS65.alloc | apply IsS65.drewN | apply IsS65.drew | apply IsS65.set_1 | refine IsS65.far ?_ NB150_146.out _ | refine IsS65.far ?_ NB150_147.out _ | refine IsS65.far ?_ NB150_165.out _ | refine IsS65.far ?_ NB150_166.out _) | exact HI150.out)) (by (with_reducible repeat (first | apply Kd.R_alloc | apply Kd.R_drewN | apply Kd.R_drew)); exact (Kd.R_mono (Kd.R_far (p := ⟨gb166, 3, none⟩) (Kd.R_far (p := ⟨gb166, 2, none⟩) (Kd.R_far (p := ⟨gb166, 1, none⟩) (Kd.R_far (p := ⟨gb166, 0, none⟩) (Kd.R_types HO162.out BK166.out (by decide)) (fun _ hk => hk.2) (.int .i64 t151)) (fun _ hk => hk.2) (.int .i64 1)) (fun _ hk => hk.2) (.int .i64 t156)) (fun _ hk => hk.2) (.int .i64 t163)) (fun _ h_ => h_.1))) (by decide)) hk (fun _ h => h.2)) (fun _ h => h.1)); have n4_ := Aside0.mk (KeepBut.blk hk (g' := gb165) (o := .cells #[.int .i64 t151, .int .i64 1, .int .i64 t156, .int .i64 t163] 33 (0, 0)) (by (with_reducible repeat (first | refine blk_drewN ?_ _ | refine blk_drew ?_ | refine blk_alloc ?_ _)); refine blk_far ?_ NB165_166.out _; (with_reducible repeat (first | refine blk_drewN ?_ _ | refine blk_drew ?_ | refine blk_alloc ?_ _)); refine blk_far ?_ NB165_166.out _; (with_reducible repeat (first | refine blk_drewN ?_ _ | refine blk_drew ?_ | refine blk_alloc ?_ _)); refine blk_far ?_ NB165_166.out _; (with_reducible repeat (first | refine blk_drewN ?_ _ | refine blk_drew ?_ | refine blk_alloc ?_ _)); refine blk_far ?_ NB165_166.out _; (with_reducible repeat (first | refine blk_drewN ?_ _ | refine blk_drew ?_ | refine blk_alloc ?_ _)); exact BK165.out) NB165_150.out (by simp)); have n5_ := Aside0.mk (KeepBut.blk hk (g' := gb166) (o := .cells #[.int .i64 t151, .int .i64 1, .int .i64 t156, .int .i64 t163] 33 (0, 0)) (by (with_reducible repeat (first | refine blk_drewN ?_ _ | refine blk_drew ?_ | refine blk_alloc ?_ _)); refine blk_put (cs := #[.int .i64 t151, .int .i64 1, .int .i64 t156, .int .i64 0]) ?_ 3 _ rfl; (with_reducible repeat (first | refine blk_drewN ?_ _ | refine blk_drew ?_ | refine blk_alloc ?_ _)); refine blk_put (cs := #[.int .i64 t151, .int .i64 1, .int .i64 0, .int .i64 0]) ?_ 2 _ rfl; (with_reducible repeat (first | refine blk_drewN ?_ _ | refine blk_drew ?_ | refine blk_alloc ?_ _)); refine blk_put (cs := #[.int .i64 t151, .int .i64 0, .int .i64 0, .int .i64 0]) ?_ 1 _ rfl; (with_reducible repeat (first | refine blk_drewN ?_ _ | refine blk_drew ?_ | refine blk_alloc ?_ _)); refine blk_put (cs := #[.int .i64 0, .int .i64 0, .int .i64 0, .int .i64 0]) ?_ 0 _ rfl; (with_reducible repeat (first | refine blk_drewN ?_ _ | refine blk_drew ?_ | refine blk_alloc ?_ _)); exact BK166.out) NB166_150.out (by simp)); have n6_ := Aside0.mk (hb); have n7_ := Aside0.mk (hi); clear BK146; clear BK147; clear HO155; clear HO162; clear BK165; clear BK166; clear HB; clear HI150; have BK146 := n0_; have BK147 := n1_; have HO155 := n2_; have HO162 := n3_; have BK165 := n4_; have BK166 := n5_; have HB := n6_; have HI150 := n7_; clear n0_ n1_ n2_ n3_ n4_ n5_ n6_ n7_; (try clear hb); (try clear hb2); (try clear hk); (try clear hi)))
  (try simp only [Act.put, List.setIfInBounds_toArray, List.set_cons_zero, List.set_cons_succ])
  go_cut [25] (fun v25 wc => ∃ (kq : Nat) (x25_7 : Bool), v25 = .bool x25_7 ∧ Aside0 (spec_DrawMistakeOf.j0 kq t167 x25_7 t148 t168 t151 1 t156 t163 t151 1 t156 t163 = some (r1, r2, r3, r4, r5, r6, r7, r8)) ∧ Aside0 (kq ≤ k) ∧ Aside0 (wc.heap[gb146]? = some (.cells #[.int .i64 0, .int .i64 0, .int .i64 0, .int .i64 0] 33 (0, 0))) ∧ Aside0 (wc.heap[gb147]? = some (.cells #[.int .i64 0, .int .i64 0, .int .i64 0, .int .i64 0] 33 (0, 0))) ∧ Aside0 (wc.heap[gb165]? = some (.cells #[.int .i64 t151, .int .i64 1, .int .i64 t156, .int .i64 t163] 33 (0, 0))) ∧ Aside0 (wc.heap[gb166]? = some (.cells #[.int .i64 t151, .int .i64 1, .int .i64 t156, .int .i64 t163] 33 (0, 0))) ∧ Aside0 (IsS65 w wc g150 t148 t168) ∧ Aside0 (Below w.heap.size w wc))
  case first =>
    have H := HC8.out
    clear HC8
    by_cases c34 : t167 = 0
    · rw [if_pos c34] at H
      have c34b0 : (t167 == 0) = true := beq_iff_eq.mpr c34
      have c34b1 : (t167 != 0) = false := bne_eq_false_iff_eq.mpr c34
      clear c34
      (first | rw [c34b0] | (simp only [i64_w, i32_w]; rw [c34b0]) | skip)
      have H' := Aside0.mk H
      clear H
      go_wp2
      go_meet
      case rel => exact ⟨_, ((t167 == 0)), (by first | rfl | (simp; done) | (simp [*]; done)), H', ⟨by first | omega | exact Nat.le_refl _⟩, ⟨by (with_reducible repeat (first | refine blk_drewN ?_ _ | refine blk_drew ?_ | refine blk_alloc ?_ _)); exact BK146.out⟩, ⟨by (with_reducible repeat (first | refine blk_drewN ?_ _ | refine blk_drew ?_ | refine blk_alloc ?_ _)); exact BK147.out⟩, ⟨by (with_reducible repeat (first | refine blk_drewN ?_ _ | refine blk_drew ?_ | refine blk_alloc ?_ _)); exact BK165.out⟩, ⟨by (with_reducible repeat (first | refine blk_drewN ?_ _ | refine blk_drew ?_ | refine blk_alloc ?_ _)); exact BK166.out⟩, ⟨by repeat (first | (with_reducible first | exact HI150.out | apply IsS65.alloc | apply IsS65.drewN | apply IsS65.drew | apply IsS65.set_1 | refine IsS65.far ?_ NB150_146.out _ | refine IsS65.far ?_ NB150_147.out _ | refine IsS65.far ?_ NB150_165.out _ | refine IsS65.far ?_ NB150_166.out _) | exact HI150.out)⟩, ⟨by repeat (first | (with_reducible first | exact HB.out | apply below_alloc | apply pw_below_drewN | apply below_drew1 | refine below_set ?_ (IsS65.ge HI150.out) | refine below_set ?_ GE146.out | refine below_set ?_ GE147.out | refine below_set ?_ GE165.out | refine below_set ?_ GE166.out) | exact HB.out)⟩⟩
    · rw [if_neg c34] at H
      have c34b0 : (t167 == 0) = false := beq_eq_false_iff_ne.mpr c34
      have c34b1 : (t167 != 0) = true := bne_iff_ne.mpr c34
      (first | rw [c34b0] | (simp only [i64_w, i32_w]; rw [c34b0]) | skip)
      have H' := Aside0.mk H
      clear H
      go_wp2
      go_meet
      case rel => exact ⟨_, ((t167 == 1)), (by first | rfl | (simp; done) | (simp [*]; done)), H', ⟨by first | omega | exact Nat.le_refl _⟩, ⟨by (with_reducible repeat (first | refine blk_drewN ?_ _ | refine blk_drew ?_ | refine blk_alloc ?_ _)); exact BK146.out⟩, ⟨by (with_reducible repeat (first | refine blk_drewN ?_ _ | refine blk_drew ?_ | refine blk_alloc ?_ _)); exact BK147.out⟩, ⟨by (with_reducible repeat (first | refine blk_drewN ?_ _ | refine blk_drew ?_ | refine blk_alloc ?_ _)); exact BK165.out⟩, ⟨by (with_reducible repeat (first | refine blk_drewN ?_ _ | refine blk_drew ?_ | refine blk_alloc ?_ _)); exact BK166.out⟩, ⟨by repeat (first | (with_reducible first | exact HI150.out | apply IsS65.alloc | apply IsS65.drewN | apply IsS65.drew | apply IsS65.set_1 | refine IsS65.far ?_ NB150_146.out _ | refine IsS65.far ?_ NB150_147.out _ | refine IsS65.far ?_ NB150_165.out _ | refine IsS65.far ?_ NB150_166.out _) | exact HI150.out)⟩, ⟨by repeat (first | (with_reducible first | exact HB.out | apply below_alloc | apply pw_below_drewN | apply below_drew1 | refine below_set ?_ (IsS65.ge HI150.out) | refine below_set ?_ GE146.out | refine below_set ?_ GE147.out | refine below_set ?_ GE165.out | refine below_set ?_ GE166.out) | exact HB.out)⟩⟩
  case rest =>
    clear HC8
    try clear c1
    try clear c2
    try clear p2
    try clear c3
    try clear c4
    try clear p6
    try clear c16
    try clear c23
    try clear c24
    try clear c25
    try clear c28
    try clear c29
    try clear c30
    try clear c31
    try clear c34
    try clear c34b0
    try clear c34b1
    try clear hcz26_0
    try clear hcz26_1
    try clear hcz26_2
    try clear hcz26_3
    try clear hcz32_0
    try clear hcz32_1
    try clear hcz32_2
    try clear hcz32_3
    try clear hfz26_0
    try clear hfz26_1
    try clear hfz26_2
    try clear hfz26_3
    try clear hfz32_0
    try clear hfz32_1
    try clear hfz32_2
    try clear hfz32_3
    obtain ⟨kq, x25_7, rfl, HA, HJ7, BK146, BK147, BK165, BK166, HI150, HB⟩ := hcut
    cases kq with
    | zero => exact absurd HA.out (by simp [spec_DrawMistakeOf.j0])
    | succ kj7 =>
      have H := HA.out
      clear HA
      simp only [spec_DrawMistakeOf.j0] at H
      by_cases c35 : x25_7 = true
      · subst c35
        have H1 : ((spec_swaps.f kj7 t163).bind fun t169 => (if (t169.length : Int) > 0 then ((spec_reader_pick.f kj7 t148 t168 (t169.length : Int)).bind fun bt172 => (if 0 ≤ bt172.1 then (if bt172.1 < (t169.length : Int) then (some (t151, 1, t156, t163, t151, 1, t156, rd t169 bt172.1)) else (none)) else (none))) else (some (t151, 1, t156, t163, t151, 1, t156, t163)))) = some (r1, r2, r3, r4, r5, r6, r7, r8) := by rw [if_pos rfl] at H; exact H
        clear H
        have H := H1
        clear H1
        replace H := Option.bind_eq_some_iff.mp H
        obtain ⟨t169, A360, H⟩ := H
        replace H : (if (t169.length : Int) > 0 then ((spec_reader_pick.f kj7 t148 t168 (t169.length : Int)).bind fun bt172 => (if 0 ≤ bt172.1 then (if bt172.1 < (t169.length : Int) then (some (t151, 1, t156, t163, t151, 1, t156, rd t169 bt172.1)) else (none)) else (none))) else (some (t151, 1, t156, t163, t151, 1, t156, t163))) = some (r1, r2, r3, r4, r5, r6, r7, r8) := H
        have A36 := Aside0.mk A360
        clear A360
        by_cases c37 : (t169.length : Int) > 0
        · rw [if_pos c37] at H
          have c37b0 : decide (0 < (t169.length : Int)) = true := decide_eq_true c37
          have c37b1 : decide (0 < t169.length) = true := decide_eq_true (by omega)
          clear c37
          replace H := Option.bind_eq_some_iff.mp H
          obtain ⟨⟨t172, t173⟩, A380, H⟩ := H
          replace H : (if 0 ≤ t172 then (if t172 < (t169.length : Int) then (some (t151, 1, t156, t163, t151, 1, t156, rd t169 t172)) else (none)) else (none)) = some (r1, r2, r3, r4, r5, r6, r7, r8) := H
          have A38 := Aside0.mk A380
          clear A380
          by_cases c39 : 0 ≤ t172
          · rw [if_pos c39] at H
            have c39b0 : decide (0 ≤ t172) = true := decide_eq_true c39
            clear c39
            by_cases c40 : t172 < (t169.length : Int)
            · rw [if_pos c40] at H
              have c40b0 : decide (t172 < (t169.length : Int)) = true := decide_eq_true c40
              clear c40
              simp only [Option.some.injEq, Prod.mk.injEq] at H
              obtain ⟨rfl, rfl, rfl, rfl, rfl, rfl, rfl, rfl⟩ := H
              have hnb41 := NB165_146.out
              have hnc41 := NB146_165.out
              have hnb42 := NB165_147.out
              have hnc42 := NB147_165.out
              have hnb43 := NB165_166.out
              have hnc43 := NB166_165.out
              have hnb44 := NB165_150.out
              have hnc44 := NB150_165.out
              have hcz45_0 : wc.cell? ⟨gb165, 0, none⟩ = some (.int .i64 t151) := (blk_cell BK165.out 0).trans rfl
              have hcz45_1 : wc.cell? ⟨gb165, 1, none⟩ = some (.int .i64 1) := (blk_cell BK165.out 1).trans rfl
              have hcz45_2 : wc.cell? ⟨gb165, 2, none⟩ = some (.int .i64 t156) := (blk_cell BK165.out 2).trans rfl
              have hcz45_3 : wc.cell? ⟨gb165, 3, none⟩ = some (.int .i64 t163) := (blk_cell BK165.out 3).trans rfl
              have hfz45_0 := blk_frozen BK165.out 0
              have hfz45_1 := blk_frozen BK165.out 1
              have hfz45_2 := blk_frozen BK165.out 2
              have hfz45_3 := blk_frozen BK165.out 3
              try go_wp2_with (first | ((with_reducible refine gate_callee (f := 46) rfl ?_); refine goesL_ (some 30) rfl rfl Try.func46 (by kernel_rfl) rfl #[.int .i64 t163] rfl (by (try simp only [List.map_toArray, List.map_cons, List.map_nil]); first | done | rfl | (simp only [List.length_drop, List.length_take]; rfl)) ?_; (with_reducible refine (spec_swaps.calls kj7 t163 t169 _ A36.out).mono ?_); rintro e w46 ⟨v170, rfl, ho0, hb⟩; refine ⟨_, rfl, ?_⟩; have n0_ := Aside0.mk (Kd.R_lower ho0 (below_size (by repeat (first | (with_reducible first | exact HB.out | apply below_alloc | apply pw_below_drewN | apply below_drew1 | refine below_set ?_ (IsS65.ge HI150.out) | refine below_set ?_ GE146.out | refine below_set ?_ GE147.out | refine below_set ?_ GE165.out | refine below_set ?_ GE166.out) | exact HB.out)))); have n1_ := Aside0.mk (blk_below (g := gb146) (o := .cells #[.int .i64 0, .int .i64 0, .int .i64 0, .int .i64 0] 33 (0, 0)) (by (with_reducible repeat (first | refine blk_drewN ?_ _ | refine blk_drew ?_ | refine blk_alloc ?_ _)); exact BK146.out) hb); have n2_ := Aside0.mk (blk_below (g := gb147) (o := .cells #[.int .i64 0, .int .i64 0, .int .i64 0, .int .i64 0] 33 (0, 0)) (by (with_reducible repeat (first | refine blk_drewN ?_ _ | refine blk_drew ?_ | refine blk_alloc ?_ _)); exact BK147.out) hb); have n3_ := Aside0.mk (blk_below (g := gb165) (o := .cells #[.int .i64 t151, .int .i64 1, .int .i64 t156, .int .i64 t163] 33 (0, 0)) (by (with_reducible repeat (first | refine blk_drewN ?_ _ | refine blk_drew ?_ | refine blk_alloc ?_ _)); exact BK165.out) hb); have n4_ := Aside0.mk (blk_below (g := gb166) (o := .cells #[.int .i64 t151, .int .i64 1, .int .i64 t156, .int .i64 t163] 33 (0, 0)) (by (with_reducible repeat (first | refine blk_drewN ?_ _ | refine blk_drew ?_ | refine blk_alloc ?_ _)); exact BK166.out) hb); have n5_ := Aside0.mk (IsS65.below (by repeat (first | (with_reducible first | exact HI150.out | apply IsS65.alloc | apply IsS65.drewN | apply IsS65.drew | apply IsS65.set_1 | refine IsS65.far ?_ NB150_146.out _ | refine IsS65.far ?_ NB150_147.out _ | refine IsS65.far ?_ NB150_165.out _ | refine IsS65.far ?_ NB150_166.out _) | exact HI150.out)) hb); have n6_ := Aside0.mk (below_step (by repeat (first | (with_reducible first | exact HB.out | apply below_alloc | apply pw_below_drewN | apply below_drew1 | refine below_set ?_ (IsS65.ge HI150.out) | refine below_set ?_ GE146.out | refine below_set ?_ GE147.out | refine below_set ?_ GE165.out | refine below_set ?_ GE166.out) | exact HB.out)) hb); clear BK146; clear BK147; clear BK165; clear BK166; clear HI150; clear HB; have HO171 := n0_; have BK146 := n1_; have BK147 := n2_; have BK165 := n3_; have BK166 := n4_; have HI150 := n5_; have HB := n6_; clear n0_ n1_ n2_ n3_ n4_ n5_ n6_; (try clear hb); (try clear hb2); (try clear hk); (try clear hi); (try clear ho0); obtain ⟨Ao47, co47, eo47⟩ := Kd.R_slice HO171.out; subst eo47) | ((with_reducible refine gate_callee (f := 45) rfl ?_); refine goesL_ (some 38) rfl rfl Try.func45 (by kernel_rfl) rfl #[.pointer (some ⟨g150, 0, none⟩), .int .i64 (t169.length : Int)] rfl (by (try simp only [List.map_toArray, List.map_cons, List.map_nil]); first | done | rfl | (simp only [List.length_drop, List.length_take]; rfl)) ?_; (with_reducible refine (spec_reader_pick.calls kj7 g150 t148 t168 (t169.length : Int) t172 t173 w _ ?side1 ?side2 A38.out).mono ?_); (case side1 => repeat (first | (with_reducible first | exact HI150.out | apply IsS65.alloc | apply IsS65.drewN | apply IsS65.drew | apply IsS65.set_1 | refine IsS65.far ?_ NB150_146.out _ | refine IsS65.far ?_ NB150_147.out _ | refine IsS65.far ?_ NB150_165.out _ | refine IsS65.far ?_ NB150_166.out _) | exact HI150.out)); (case side2 => repeat (first | (with_reducible first | exact HB.out | apply below_alloc | apply pw_below_drewN | apply below_drew1 | refine below_set ?_ (IsS65.ge HI150.out) | refine below_set ?_ GE146.out | refine below_set ?_ GE147.out | refine below_set ?_ GE165.out | refine below_set ?_ GE166.out) | exact HB.out)); rintro e w48 ⟨rfl, hi, hb, hk⟩; refine ⟨_, rfl, ?_⟩; have n0_ := Aside0.mk (KeepBut.blk hk (g' := gb146) (o := .cells #[.int .i64 0, .int .i64 0, .int .i64 0, .int .i64 0] 33 (0, 0)) (by (with_reducible repeat (first | refine blk_drewN ?_ _ | refine blk_drew ?_ | refine blk_alloc ?_ _)); exact BK146.out) NB146_150.out (by simp)); have n1_ := Aside0.mk (KeepBut.blk hk (g' := gb147) (o := .cells #[.int .i64 0, .int .i64 0, .int .i64 0, .int .i64 0] 33 (0, 0)) (by (with_reducible repeat (first | refine blk_drewN ?_ _ | refine blk_drew ?_ | refine blk_alloc ?_ _)); exact BK147.out) NB147_150.out (by simp)); have n2_ := Aside0.mk (KeepBut.blk hk (g' := gb165) (o := .cells #[.int .i64 t151, .int .i64 1, .int .i64 t156, .int .i64 t163] 33 (0, 0)) (by (with_reducible repeat (first | refine blk_drewN ?_ _ | refine blk_drew ?_ | refine blk_alloc ?_ _)); exact BK165.out) NB165_150.out (by simp)); have n3_ := Aside0.mk (KeepBut.blk hk (g' := gb166) (o := .cells #[.int .i64 t151, .int .i64 1, .int .i64 t156, .int .i64 t163] 33 (0, 0)) (by (with_reducible repeat (first | refine blk_drewN ?_ _ | refine blk_drew ?_ | refine blk_alloc ?_ _)); exact BK166.out) NB166_150.out (by simp)); have n4_ := Aside0.mk (Kd.R_mono (Kd.R_keep (IsS65.apart (show IsS65 w _ g150 t148 t168 from by repeat (first | (with_reducible first | exact HI150.out | apply IsS65.alloc | apply IsS65.drewN | apply IsS65.drew | apply IsS65.set_1 | refine IsS65.far ?_ NB150_146.out _ | refine IsS65.far ?_ NB150_147.out _ | refine IsS65.far ?_ NB150_165.out _ | refine IsS65.far ?_ NB150_166.out _) | exact HI150.out)) (by (with_reducible repeat (first | apply Kd.R_alloc | apply Kd.R_drewN | apply Kd.R_drew)); exact HO171.out) (by decide)) hk (fun _ h => h.2)) (fun _ h => h.1)); have n5_ := Aside0.mk (hb); have n6_ := Aside0.mk (hi); clear BK146; clear BK147; clear BK165; clear BK166; clear HO171; clear HB; clear HI150; have BK146 := n0_; have BK147 := n1_; have BK165 := n2_; have BK166 := n3_; have HO171 := n4_; have HB := n5_; have HI150 := n6_; clear n0_ n1_ n2_ n3_ n4_ n5_ n6_; (try clear hb); (try clear hb2); (try clear hk); (try clear hi); have p174 : 0 ≤ (t172 : Int) := of_decide_eq_true (by first | (with_reducible assumption) | assumption); have q174 : t172 < (t169.length : Int) := of_decide_eq_true (by first | (with_reducible assumption) | assumption); obtain ⟨ad174, e174, hx174_0⟩ := Kd.at_int (Kd.R_reads' HO171.out).2.2 t172 p174 q174; cases e174; replace p174 := eq_true p174; replace q174 := eq_true q174; have hnb49 := NB166_146.out; have hnc49 := NB146_166.out; have hnb50 := NB166_147.out; have hnc50 := NB147_166.out; have hnb51 := NB166_150.out; have hnc51 := NB150_166.out; have hcz52_0 : w48.cell? ⟨gb166, 0, none⟩ = some (.int .i64 t151) := (blk_cell BK166.out 0).trans rfl; have hcz52_1 : w48.cell? ⟨gb166, 1, none⟩ = some (.int .i64 1) := (blk_cell BK166.out 1).trans rfl; have hcz52_2 : w48.cell? ⟨gb166, 2, none⟩ = some (.int .i64 t156) := (blk_cell BK166.out 2).trans rfl; have hcz52_3 : w48.cell? ⟨gb166, 3, none⟩ = some (.int .i64 t163) := (blk_cell BK166.out 3).trans rfl; have hfz52_0 := blk_frozen BK166.out 0; have hfz52_1 := blk_frozen BK166.out 1; have hfz52_2 := blk_frozen BK166.out 2; have hfz52_3 := blk_frozen BK166.out 3))
              have n0_ : Aside0 (Kd.R (Kd.int .i64) 3 (w48.setCell ⟨gb166, 3, none⟩ (.int .i64 (rd t169 t172))) w.heap.size (fun _ => True) (.slice (some ad174) t169.length co47) t169) := ⟨by (with_reducible repeat (first | apply Kd.R_alloc | apply Kd.R_drewN | apply Kd.R_drew)); exact Kd.R_mono (Kd.R_far (p := ⟨gb166, 3, none⟩) (Kd.R_types HO171.out BK166.out (by decide)) (fun _ hk => hk.2) (.int .i64 (rd t169 t172))) (fun _ hk => trivial)⟩
              have n1_ : Aside0 ((w48.setCell ⟨gb166, 3, none⟩ (.int .i64 (rd t169 t172))).heap[gb146]? = some (.cells #[.int .i64 0, .int .i64 0, .int .i64 0, .int .i64 0] 33 (0, 0))) := ⟨by (with_reducible repeat (first | refine blk_drewN ?_ _ | refine blk_drew ?_ | refine blk_alloc ?_ _)); refine blk_far ?_ NB146_166.out _; (with_reducible repeat (first | refine blk_drewN ?_ _ | refine blk_drew ?_ | refine blk_alloc ?_ _)); exact BK146.out⟩
              have n2_ : Aside0 ((w48.setCell ⟨gb166, 3, none⟩ (.int .i64 (rd t169 t172))).heap[gb147]? = some (.cells #[.int .i64 0, .int .i64 0, .int .i64 0, .int .i64 0] 33 (0, 0))) := ⟨by (with_reducible repeat (first | refine blk_drewN ?_ _ | refine blk_drew ?_ | refine blk_alloc ?_ _)); refine blk_far ?_ NB147_166.out _; (with_reducible repeat (first | refine blk_drewN ?_ _ | refine blk_drew ?_ | refine blk_alloc ?_ _)); exact BK147.out⟩
              have n3_ : Aside0 ((w48.setCell ⟨gb166, 3, none⟩ (.int .i64 (rd t169 t172))).heap[gb165]? = some (.cells #[.int .i64 t151, .int .i64 1, .int .i64 t156, .int .i64 t163] 33 (0, 0))) := ⟨by (with_reducible repeat (first | refine blk_drewN ?_ _ | refine blk_drew ?_ | refine blk_alloc ?_ _)); refine blk_far ?_ NB165_166.out _; (with_reducible repeat (first | refine blk_drewN ?_ _ | refine blk_drew ?_ | refine blk_alloc ?_ _)); exact BK165.out⟩
              have n4_ : Aside0 ((w48.setCell ⟨gb166, 3, none⟩ (.int .i64 (rd t169 t172))).heap[gb166]? = some (.cells #[.int .i64 t151, .int .i64 1, .int .i64 t156, .int .i64 (rd t169 t172)] 33 (0, 0))) := ⟨by (with_reducible repeat (first | refine blk_drewN ?_ _ | refine blk_drew ?_ | refine blk_alloc ?_ _)); refine blk_put (cs := #[.int .i64 t151, .int .i64 1, .int .i64 t156, .int .i64 t163]) ?_ 3 _ rfl; (with_reducible repeat (first | refine blk_drewN ?_ _ | refine blk_drew ?_ | refine blk_alloc ?_ _)); exact BK166.out⟩
              have n5_ : Aside0 (IsS65 w (w48.setCell ⟨gb166, 3, none⟩ (.int .i64 (rd t169 t172))) g150 t148 t173) := ⟨by repeat (first | (with_reducible first | exact HI150.out | apply IsS65.alloc | apply IsS65.drewN | apply IsS65.drew | apply IsS65.set_1 | refine IsS65.far ?_ NB150_146.out _ | refine IsS65.far ?_ NB150_147.out _ | refine IsS65.far ?_ NB150_165.out _ | refine IsS65.far ?_ NB150_166.out _) | exact HI150.out)⟩
              have n6_ : Aside0 (Below w.heap.size w (w48.setCell ⟨gb166, 3, none⟩ (.int .i64 (rd t169 t172)))) := ⟨by repeat (first | (with_reducible first | exact HB.out | apply below_alloc | apply pw_below_drewN | apply below_drew1 | refine below_set ?_ (IsS65.ge HI150.out) | refine below_set ?_ GE146.out | refine below_set ?_ GE147.out | refine below_set ?_ GE165.out | refine below_set ?_ GE166.out) | exact HB.out)⟩
              (try clear HO171)
              (try clear BK146)
              (try clear BK147)
              (try clear BK165)
              (try clear BK166)
              (try clear HI150)
              (try clear HB)
              generalize (w48.setCell ⟨gb166, 3, none⟩ (.int .i64 (rd t169 t172))) = w53 at n0_ n1_ n2_ n3_ n4_ n5_ n6_ ⊢
              have HO171 := n0_
              have BK146 := n1_
              have BK147 := n2_
              have BK165 := n3_
              have BK166 := n4_
              have HI150 := n5_
              have HB := n6_
              clear n0_ n1_ n2_ n3_ n4_ n5_ n6_
              have n0_ := Aside0.mk (Kd.R_drew HO171.out)
              have n1_ := Aside0.mk (blk_drew BK146.out)
              have n2_ := Aside0.mk (blk_drew BK147.out)
              have n3_ := Aside0.mk (blk_drew BK165.out)
              have n4_ := Aside0.mk (blk_drew BK166.out)
              have n5_ := Aside0.mk (IsS65.drew HI150.out)
              have n6_ := Aside0.mk (below_drew1 HB.out)
              clear HO171
              clear BK146
              clear BK147
              clear BK165
              clear BK166
              clear HI150
              clear HB
              have HO171 := n0_
              have BK146 := n1_
              have BK147 := n2_
              have BK165 := n3_
              have BK166 := n4_
              have HI150 := n5_
              have HB := n6_
              clear n0_ n1_ n2_ n3_ n4_ n5_ n6_
              refine start_ (n := 4) (S := fun w' => w'.cell? ⟨gb165, 0, none⟩ = some (.int .i64 t151) ∧ w'.cell? ⟨gb165, 1, none⟩ = some (.int .i64 1) ∧ w'.cell? ⟨gb165, 2, none⟩ = some (.int .i64 t156) ∧ w'.cell? ⟨gb165, 3, none⟩ = some (.int .i64 t163) ∧ w'.cell? ⟨gb166, 0, none⟩ = some (.int .i64 t151) ∧ w'.cell? ⟨gb166, 1, none⟩ = some (.int .i64 1) ∧ w'.cell? ⟨gb166, 2, none⟩ = some (.int .i64 t156) ∧ w'.cell? ⟨gb166, 3, none⟩ = some (.int .i64 (rd t169 t172))) (ds := []) #[false, false, false, false] (by kernel_rfl) rfl rfl ⟨(blk_cell BK165.out 0).trans rfl, (blk_cell BK165.out 1).trans rfl, (blk_cell BK165.out 2).trans rfl, (blk_cell BK165.out 3).trans rfl, (blk_cell BK166.out 0).trans rfl, (blk_cell BK166.out 1).trans rfl, (blk_cell BK166.out 2).trans rfl, (blk_cell BK166.out 3).trans rfl⟩ (fun hHeld => ?_)
              generalize w53.drew = w54 at HO171 BK146 BK147 BK165 BK166 HI150 HB hHeld ⊢
              refine take_ (i := 0) (N := some 61) (v := ?_) (a' := ?_) #[true, false, false, false] rfl rfl (by kernel_rfl) (fun _ _ _ h => h) (Or.inl ⟨by rfl, ?_⟩) hHeld ?_ ?_
              rotate_left
              · rintro w' ⟨s0, s1, s2, s3, s4, s5, s6, s7⟩
                go_simp
                with_reducible rfl
              rotate_left
              · simp only [Act.put, List.setIfInBounds_toArray, List.set_cons_zero, List.set_cons_succ, i64_w, i32_w]
                rfl
              refine take_ (i := 1) (N := some 62) (v := ?_) (a' := ?_) #[true, true, false, false] rfl rfl (by kernel_rfl) (fun _ _ _ h => h) (Or.inl ⟨by rfl, ?_⟩) hHeld ?_ ?_
              rotate_left
              · rintro w' ⟨s0, s1, s2, s3, s4, s5, s6, s7⟩
                go_simp
                with_reducible rfl
              rotate_left
              · simp only [Act.put, List.setIfInBounds_toArray, List.set_cons_zero, List.set_cons_succ, i64_w, i32_w]
                rfl
              refine one_ (i := 2) (N := none) #[true, true, true, false] rfl rfl (by kernel_rfl) (by decide) (fun K hK => ?_)
              have hs55 : w54.cell? ⟨gb146, 0, none⟩ = some (.int .i64 0) := (blk_cell BK146.out 0).trans rfl
              have hfs55 := blk_frozen BK146.out 0
              have hns55_1 := NB147_146.out
              have hns55_2 := NB165_146.out
              have hns55_3 := NB166_146.out
              have hms55_1 := NB146_147.out
              have hms55_2 := NB146_165.out
              have hms55_3 := NB146_166.out
              have hs56 : w54.cell? ⟨gb146, 1, none⟩ = some (.int .i64 0) := (blk_cell BK146.out 1).trans rfl
              have hfs56 := blk_frozen BK146.out 1
              have hns56_1 := NB147_146.out
              have hns56_2 := NB165_146.out
              have hns56_3 := NB166_146.out
              have hms56_1 := NB146_147.out
              have hms56_2 := NB146_165.out
              have hms56_3 := NB146_166.out
              have hs57 : w54.cell? ⟨gb146, 2, none⟩ = some (.int .i64 0) := (blk_cell BK146.out 2).trans rfl
              have hfs57 := blk_frozen BK146.out 2
              have hns57_1 := NB147_146.out
              have hns57_2 := NB165_146.out
              have hns57_3 := NB166_146.out
              have hms57_1 := NB146_147.out
              have hms57_2 := NB146_165.out
              have hms57_3 := NB146_166.out
              have hs58 : w54.cell? ⟨gb146, 3, none⟩ = some (.int .i64 0) := (blk_cell BK146.out 3).trans rfl
              have hfs58 := blk_frozen BK146.out 3
              have hns58_1 := NB147_146.out
              have hns58_2 := NB165_146.out
              have hns58_3 := NB166_146.out
              have hms58_1 := NB146_147.out
              have hms58_2 := NB146_165.out
              have hms58_3 := NB146_166.out
              refine skip_ (w1 := ?_) (by rfl) rfl ?_ ?_
              rotate_left
              · go_simp
                rfl
              refine hK.out _ _ ⟨((cell_far (p := ⟨gb146, _, none⟩) NB165_146.out _).trans (((cell_far (p := ⟨gb146, _, none⟩) NB165_146.out _).trans (((cell_far (p := ⟨gb146, _, none⟩) NB165_146.out _).trans (((cell_far (p := ⟨gb146, _, none⟩) NB165_146.out _).trans (hHeld.1)))))))), ((cell_far (p := ⟨gb146, _, none⟩) NB165_146.out _).trans (((cell_far (p := ⟨gb146, _, none⟩) NB165_146.out _).trans (((cell_far (p := ⟨gb146, _, none⟩) NB165_146.out _).trans (((cell_far (p := ⟨gb146, _, none⟩) NB165_146.out _).trans (hHeld.2.1)))))))), ((cell_far (p := ⟨gb146, _, none⟩) NB165_146.out _).trans (((cell_far (p := ⟨gb146, _, none⟩) NB165_146.out _).trans (((cell_far (p := ⟨gb146, _, none⟩) NB165_146.out _).trans (((cell_far (p := ⟨gb146, _, none⟩) NB165_146.out _).trans (hHeld.2.2.1)))))))), ((cell_far (p := ⟨gb146, _, none⟩) NB165_146.out _).trans (((cell_far (p := ⟨gb146, _, none⟩) NB165_146.out _).trans (((cell_far (p := ⟨gb146, _, none⟩) NB165_146.out _).trans (((cell_far (p := ⟨gb146, _, none⟩) NB165_146.out _).trans (hHeld.2.2.2.1)))))))), ((cell_far (p := ⟨gb146, _, none⟩) NB166_146.out _).trans (((cell_far (p := ⟨gb146, _, none⟩) NB166_146.out _).trans (((cell_far (p := ⟨gb146, _, none⟩) NB166_146.out _).trans (((cell_far (p := ⟨gb146, _, none⟩) NB166_146.out _).trans (hHeld.2.2.2.2.1)))))))), ((cell_far (p := ⟨gb146, _, none⟩) NB166_146.out _).trans (((cell_far (p := ⟨gb146, _, none⟩) NB166_146.out _).trans (((cell_far (p := ⟨gb146, _, none⟩) NB166_146.out _).trans (((cell_far (p := ⟨gb146, _, none⟩) NB166_146.out _).trans (hHeld.2.2.2.2.2.1)))))))), ((cell_far (p := ⟨gb146, _, none⟩) NB166_146.out _).trans (((cell_far (p := ⟨gb146, _, none⟩) NB166_146.out _).trans (((cell_far (p := ⟨gb146, _, none⟩) NB166_146.out _).trans (((cell_far (p := ⟨gb146, _, none⟩) NB166_146.out _).trans (hHeld.2.2.2.2.2.2.1)))))))), ((cell_far (p := ⟨gb146, _, none⟩) NB166_146.out _).trans (((cell_far (p := ⟨gb146, _, none⟩) NB166_146.out _).trans (((cell_far (p := ⟨gb146, _, none⟩) NB166_146.out _).trans (((cell_far (p := ⟨gb146, _, none⟩) NB166_146.out _).trans (hHeld.2.2.2.2.2.2.2))))))))⟩ (fun hHeld => ?_)
              clear hK K
              refine one_ (i := 3) (N := none) #[true, true, true, true] rfl rfl (by kernel_rfl) (by decide) (fun K hK => ?_)
              have hs59 : w54.cell? ⟨gb147, 0, none⟩ = some (.int .i64 0) := (blk_cell BK147.out 0).trans rfl
              have hfs59 := blk_frozen BK147.out 0
              have hns59_0 := NB146_147.out
              have hns59_2 := NB165_147.out
              have hns59_3 := NB166_147.out
              have hms59_0 := NB147_146.out
              have hms59_2 := NB147_165.out
              have hms59_3 := NB147_166.out
              have hs60 : w54.cell? ⟨gb147, 1, none⟩ = some (.int .i64 0) := (blk_cell BK147.out 1).trans rfl
              have hfs60 := blk_frozen BK147.out 1
              have hns60_0 := NB146_147.out
              have hns60_2 := NB165_147.out
              have hns60_3 := NB166_147.out
              have hms60_0 := NB147_146.out
              have hms60_2 := NB147_165.out
              have hms60_3 := NB147_166.out
              have hs61 : w54.cell? ⟨gb147, 2, none⟩ = some (.int .i64 0) := (blk_cell BK147.out 2).trans rfl
              have hfs61 := blk_frozen BK147.out 2
              have hns61_0 := NB146_147.out
              have hns61_2 := NB165_147.out
              have hns61_3 := NB166_147.out
              have hms61_0 := NB147_146.out
              have hms61_2 := NB147_165.out
              have hms61_3 := NB147_166.out
              have hs62 : w54.cell? ⟨gb147, 3, none⟩ = some (.int .i64 0) := (blk_cell BK147.out 3).trans rfl
              have hfs62 := blk_frozen BK147.out 3
              have hns62_0 := NB146_147.out
              have hns62_2 := NB165_147.out
              have hns62_3 := NB166_147.out
              have hms62_0 := NB147_146.out
              have hms62_2 := NB147_165.out
              have hms62_3 := NB147_166.out
              refine skip_ (w1 := ?_) (by rfl) rfl ?_ ?_
              rotate_left
              · go_simp
                rfl
              refine hK.out _ _ ⟨((cell_far (p := ⟨gb147, _, none⟩) NB165_147.out _).trans (((cell_far (p := ⟨gb147, _, none⟩) NB165_147.out _).trans (((cell_far (p := ⟨gb147, _, none⟩) NB165_147.out _).trans (((cell_far (p := ⟨gb147, _, none⟩) NB165_147.out _).trans (hHeld.1)))))))), ((cell_far (p := ⟨gb147, _, none⟩) NB165_147.out _).trans (((cell_far (p := ⟨gb147, _, none⟩) NB165_147.out _).trans (((cell_far (p := ⟨gb147, _, none⟩) NB165_147.out _).trans (((cell_far (p := ⟨gb147, _, none⟩) NB165_147.out _).trans (hHeld.2.1)))))))), ((cell_far (p := ⟨gb147, _, none⟩) NB165_147.out _).trans (((cell_far (p := ⟨gb147, _, none⟩) NB165_147.out _).trans (((cell_far (p := ⟨gb147, _, none⟩) NB165_147.out _).trans (((cell_far (p := ⟨gb147, _, none⟩) NB165_147.out _).trans (hHeld.2.2.1)))))))), ((cell_far (p := ⟨gb147, _, none⟩) NB165_147.out _).trans (((cell_far (p := ⟨gb147, _, none⟩) NB165_147.out _).trans (((cell_far (p := ⟨gb147, _, none⟩) NB165_147.out _).trans (((cell_far (p := ⟨gb147, _, none⟩) NB165_147.out _).trans (hHeld.2.2.2.1)))))))), ((cell_far (p := ⟨gb147, _, none⟩) NB166_147.out _).trans (((cell_far (p := ⟨gb147, _, none⟩) NB166_147.out _).trans (((cell_far (p := ⟨gb147, _, none⟩) NB166_147.out _).trans (((cell_far (p := ⟨gb147, _, none⟩) NB166_147.out _).trans (hHeld.2.2.2.2.1)))))))), ((cell_far (p := ⟨gb147, _, none⟩) NB166_147.out _).trans (((cell_far (p := ⟨gb147, _, none⟩) NB166_147.out _).trans (((cell_far (p := ⟨gb147, _, none⟩) NB166_147.out _).trans (((cell_far (p := ⟨gb147, _, none⟩) NB166_147.out _).trans (hHeld.2.2.2.2.2.1)))))))), ((cell_far (p := ⟨gb147, _, none⟩) NB166_147.out _).trans (((cell_far (p := ⟨gb147, _, none⟩) NB166_147.out _).trans (((cell_far (p := ⟨gb147, _, none⟩) NB166_147.out _).trans (((cell_far (p := ⟨gb147, _, none⟩) NB166_147.out _).trans (hHeld.2.2.2.2.2.2.1)))))))), ((cell_far (p := ⟨gb147, _, none⟩) NB166_147.out _).trans (((cell_far (p := ⟨gb147, _, none⟩) NB166_147.out _).trans (((cell_far (p := ⟨gb147, _, none⟩) NB166_147.out _).trans (((cell_far (p := ⟨gb147, _, none⟩) NB166_147.out _).trans (hHeld.2.2.2.2.2.2.2))))))))⟩ (fun hHeld => ?_)
              clear hK K
              refine done_ (by kernel_rfl) ?_
              try go_wp2
              refine bodyPost_ret (results_cc rfl _ _ gb146 gb147 33 33 #[.int .i64 t151, .int .i64 1, .int .i64 t156, .int .i64 t163] #[.int .i64 t151, .int .i64 1, .int .i64 t156, .int .i64 (rd t169 t172)] (0, 0) (0, 0) _ _ rfl (by (with_reducible repeat (first | refine blk_drewN ?_ _ | refine blk_drew ?_ | refine blk_alloc ?_ _)); refine blk_far ?_ NB146_147.out _; (with_reducible repeat (first | refine blk_drewN ?_ _ | refine blk_drew ?_ | refine blk_alloc ?_ _)); refine blk_far ?_ NB146_147.out _; (with_reducible repeat (first | refine blk_drewN ?_ _ | refine blk_drew ?_ | refine blk_alloc ?_ _)); refine blk_far ?_ NB146_147.out _; (with_reducible repeat (first | refine blk_drewN ?_ _ | refine blk_drew ?_ | refine blk_alloc ?_ _)); refine blk_far ?_ NB146_147.out _; (with_reducible repeat (first | refine blk_drewN ?_ _ | refine blk_drew ?_ | refine blk_alloc ?_ _)); refine blk_put (cs := #[.int .i64 t151, .int .i64 1, .int .i64 t156, .int .i64 0]) ?_ 3 _ rfl; (with_reducible repeat (first | refine blk_drewN ?_ _ | refine blk_drew ?_ | refine blk_alloc ?_ _)); refine blk_put (cs := #[.int .i64 t151, .int .i64 1, .int .i64 0, .int .i64 0]) ?_ 2 _ rfl; (with_reducible repeat (first | refine blk_drewN ?_ _ | refine blk_drew ?_ | refine blk_alloc ?_ _)); refine blk_put (cs := #[.int .i64 t151, .int .i64 0, .int .i64 0, .int .i64 0]) ?_ 1 _ rfl; (with_reducible repeat (first | refine blk_drewN ?_ _ | refine blk_drew ?_ | refine blk_alloc ?_ _)); refine blk_put (cs := #[.int .i64 0, .int .i64 0, .int .i64 0, .int .i64 0]) ?_ 0 _ rfl; (with_reducible repeat (first | refine blk_drewN ?_ _ | refine blk_drew ?_ | refine blk_alloc ?_ _)); exact BK146.out) Try.underlying33 rfl (by kernel_rfl) rfl (by (with_reducible repeat (first | refine blk_drewN ?_ _ | refine blk_drew ?_ | refine blk_alloc ?_ _)); refine blk_put (cs := #[.int .i64 t151, .int .i64 1, .int .i64 t156, .int .i64 0]) ?_ 3 _ rfl; (with_reducible repeat (first | refine blk_drewN ?_ _ | refine blk_drew ?_ | refine blk_alloc ?_ _)); refine blk_put (cs := #[.int .i64 t151, .int .i64 1, .int .i64 0, .int .i64 0]) ?_ 2 _ rfl; (with_reducible repeat (first | refine blk_drewN ?_ _ | refine blk_drew ?_ | refine blk_alloc ?_ _)); refine blk_put (cs := #[.int .i64 t151, .int .i64 0, .int .i64 0, .int .i64 0]) ?_ 1 _ rfl; (with_reducible repeat (first | refine blk_drewN ?_ _ | refine blk_drew ?_ | refine blk_alloc ?_ _)); refine blk_put (cs := #[.int .i64 0, .int .i64 0, .int .i64 0, .int .i64 0]) ?_ 0 _ rfl; (with_reducible repeat (first | refine blk_drewN ?_ _ | refine blk_drew ?_ | refine blk_alloc ?_ _)); refine blk_far ?_ NB147_146.out _; (with_reducible repeat (first | refine blk_drewN ?_ _ | refine blk_drew ?_ | refine blk_alloc ?_ _)); refine blk_far ?_ NB147_146.out _; (with_reducible repeat (first | refine blk_drewN ?_ _ | refine blk_drew ?_ | refine blk_alloc ?_ _)); refine blk_far ?_ NB147_146.out _; (with_reducible repeat (first | refine blk_drewN ?_ _ | refine blk_drew ?_ | refine blk_alloc ?_ _)); refine blk_far ?_ NB147_146.out _; (with_reducible repeat (first | refine blk_drewN ?_ _ | refine blk_drew ?_ | refine blk_alloc ?_ _)); exact BK147.out) Try.underlying33 rfl (by kernel_rfl)) rfl ?_
              exact ⟨by first | rfl | (simp [errW_none, errW_some] <;> rfl) | (simp [*, errW_none, errW_some] <;> rfl), by repeat (first | (with_reducible first | exact HB.out | apply below_alloc | apply pw_below_drewN | apply below_drew1 | refine below_set ?_ (IsS65.ge HI150.out) | refine below_set ?_ GE146.out | refine below_set ?_ GE147.out | refine below_set ?_ GE165.out | refine below_set ?_ GE166.out) | exact HB.out)⟩
            · rw [if_neg c40] at H
              exact absurd H (by simp)
          · rw [if_neg c39] at H
            exact absurd H (by simp)
        · rw [if_neg c37] at H
          have c37b0 : decide (0 < (t169.length : Int)) = false := decide_eq_false c37
          have c37b1 : decide (0 < t169.length) = false := decide_eq_false (by omega)
          clear c37
          simp only [Option.some.injEq, Prod.mk.injEq] at H
          obtain ⟨rfl, rfl, rfl, rfl, rfl, rfl, rfl, rfl⟩ := H
          have hnb63 := NB165_146.out
          have hnc63 := NB146_165.out
          have hnb64 := NB165_147.out
          have hnc64 := NB147_165.out
          have hnb65 := NB165_166.out
          have hnc65 := NB166_165.out
          have hnb66 := NB165_150.out
          have hnc66 := NB150_165.out
          have hcz67_0 : wc.cell? ⟨gb165, 0, none⟩ = some (.int .i64 t151) := (blk_cell BK165.out 0).trans rfl
          have hcz67_1 : wc.cell? ⟨gb165, 1, none⟩ = some (.int .i64 1) := (blk_cell BK165.out 1).trans rfl
          have hcz67_2 : wc.cell? ⟨gb165, 2, none⟩ = some (.int .i64 t156) := (blk_cell BK165.out 2).trans rfl
          have hcz67_3 : wc.cell? ⟨gb165, 3, none⟩ = some (.int .i64 t163) := (blk_cell BK165.out 3).trans rfl
          have hfz67_0 := blk_frozen BK165.out 0
          have hfz67_1 := blk_frozen BK165.out 1
          have hfz67_2 := blk_frozen BK165.out 2
          have hfz67_3 := blk_frozen BK165.out 3
          try go_wp2_with (first | ((with_reducible refine gate_callee (f := 46) rfl ?_); refine goesL_ (some 30) rfl rfl Try.func46 (by kernel_rfl) rfl #[.int .i64 t163] rfl (by (try simp only [List.map_toArray, List.map_cons, List.map_nil]); first | done | rfl | (simp only [List.length_drop, List.length_take]; rfl)) ?_; (with_reducible refine (spec_swaps.calls kj7 t163 t169 _ A36.out).mono ?_); rintro e w68 ⟨v170, rfl, ho0, hb⟩; refine ⟨_, rfl, ?_⟩; have n0_ := Aside0.mk (Kd.R_lower ho0 (below_size (by repeat (first | (with_reducible first | exact HB.out | apply below_alloc | apply pw_below_drewN | apply below_drew1 | refine below_set ?_ (IsS65.ge HI150.out) | refine below_set ?_ GE146.out | refine below_set ?_ GE147.out | refine below_set ?_ GE165.out | refine below_set ?_ GE166.out) | exact HB.out)))); have n1_ := Aside0.mk (blk_below (g := gb146) (o := .cells #[.int .i64 0, .int .i64 0, .int .i64 0, .int .i64 0] 33 (0, 0)) (by (with_reducible repeat (first | refine blk_drewN ?_ _ | refine blk_drew ?_ | refine blk_alloc ?_ _)); exact BK146.out) hb); have n2_ := Aside0.mk (blk_below (g := gb147) (o := .cells #[.int .i64 0, .int .i64 0, .int .i64 0, .int .i64 0] 33 (0, 0)) (by (with_reducible repeat (first | refine blk_drewN ?_ _ | refine blk_drew ?_ | refine blk_alloc ?_ _)); exact BK147.out) hb); have n3_ := Aside0.mk (blk_below (g := gb165) (o := .cells #[.int .i64 t151, .int .i64 1, .int .i64 t156, .int .i64 t163] 33 (0, 0)) (by (with_reducible repeat (first | refine blk_drewN ?_ _ | refine blk_drew ?_ | refine blk_alloc ?_ _)); exact BK165.out) hb); have n4_ := Aside0.mk (blk_below (g := gb166) (o := .cells #[.int .i64 t151, .int .i64 1, .int .i64 t156, .int .i64 t163] 33 (0, 0)) (by (with_reducible repeat (first | refine blk_drewN ?_ _ | refine blk_drew ?_ | refine blk_alloc ?_ _)); exact BK166.out) hb); have n5_ := Aside0.mk (IsS65.below (by repeat (first | (with_reducible first | exact HI150.out | apply IsS65.alloc | apply IsS65.drewN | apply IsS65.drew | apply IsS65.set_1 | refine IsS65.far ?_ NB150_146.out _ | refine IsS65.far ?_ NB150_147.out _ | refine IsS65.far ?_ NB150_165.out _ | refine IsS65.far ?_ NB150_166.out _) | exact HI150.out)) hb); have n6_ := Aside0.mk (below_step (by repeat (first | (with_reducible first | exact HB.out | apply below_alloc | apply pw_below_drewN | apply below_drew1 | refine below_set ?_ (IsS65.ge HI150.out) | refine below_set ?_ GE146.out | refine below_set ?_ GE147.out | refine below_set ?_ GE165.out | refine below_set ?_ GE166.out) | exact HB.out)) hb); clear BK146; clear BK147; clear BK165; clear BK166; clear HI150; clear HB; have HO171 := n0_; have BK146 := n1_; have BK147 := n2_; have BK165 := n3_; have BK166 := n4_; have HI150 := n5_; have HB := n6_; clear n0_ n1_ n2_ n3_ n4_ n5_ n6_; (try clear hb); (try clear hb2); (try clear hk); (try clear hi); (try clear ho0); obtain ⟨Ao69, co69, eo69⟩ := Kd.R_slice HO171.out; subst eo69))
          have n0_ := Aside0.mk (Kd.R_drew HO171.out)
          have n1_ := Aside0.mk (blk_drew BK146.out)
          have n2_ := Aside0.mk (blk_drew BK147.out)
          have n3_ := Aside0.mk (blk_drew BK165.out)
          have n4_ := Aside0.mk (blk_drew BK166.out)
          have n5_ := Aside0.mk (IsS65.drew HI150.out)
          have n6_ := Aside0.mk (below_drew1 HB.out)
          clear HO171
          clear BK146
          clear BK147
          clear BK165
          clear BK166
          clear HI150
          clear HB
          have HO171 := n0_
          have BK146 := n1_
          have BK147 := n2_
          have BK165 := n3_
          have BK166 := n4_
          have HI150 := n5_
          have HB := n6_
          clear n0_ n1_ n2_ n3_ n4_ n5_ n6_
          refine start_ (n := 4) (S := fun w' => w'.cell? ⟨gb165, 0, none⟩ = some (.int .i64 t151) ∧ w'.cell? ⟨gb165, 1, none⟩ = some (.int .i64 1) ∧ w'.cell? ⟨gb165, 2, none⟩ = some (.int .i64 t156) ∧ w'.cell? ⟨gb165, 3, none⟩ = some (.int .i64 t163) ∧ w'.cell? ⟨gb166, 0, none⟩ = some (.int .i64 t151) ∧ w'.cell? ⟨gb166, 1, none⟩ = some (.int .i64 1) ∧ w'.cell? ⟨gb166, 2, none⟩ = some (.int .i64 t156) ∧ w'.cell? ⟨gb166, 3, none⟩ = some (.int .i64 t163)) (ds := []) #[false, false, false, false] (by kernel_rfl) rfl rfl ⟨(blk_cell BK165.out 0).trans rfl, (blk_cell BK165.out 1).trans rfl, (blk_cell BK165.out 2).trans rfl, (blk_cell BK165.out 3).trans rfl, (blk_cell BK166.out 0).trans rfl, (blk_cell BK166.out 1).trans rfl, (blk_cell BK166.out 2).trans rfl, (blk_cell BK166.out 3).trans rfl⟩ (fun hHeld => ?_)
          generalize w68.drew = w70 at HO171 BK146 BK147 BK165 BK166 HI150 HB hHeld ⊢
          refine take_ (i := 0) (N := some 61) (v := ?_) (a' := ?_) #[true, false, false, false] rfl rfl (by kernel_rfl) (fun _ _ _ h => h) (Or.inl ⟨by rfl, ?_⟩) hHeld ?_ ?_
          rotate_left
          · rintro w' ⟨s0, s1, s2, s3, s4, s5, s6, s7⟩
            go_simp
            with_reducible rfl
          rotate_left
          · simp only [Act.put, List.setIfInBounds_toArray, List.set_cons_zero, List.set_cons_succ, i64_w, i32_w]
            rfl
          refine take_ (i := 1) (N := some 62) (v := ?_) (a' := ?_) #[true, true, false, false] rfl rfl (by kernel_rfl) (fun _ _ _ h => h) (Or.inl ⟨by rfl, ?_⟩) hHeld ?_ ?_
          rotate_left
          · rintro w' ⟨s0, s1, s2, s3, s4, s5, s6, s7⟩
            go_simp
            with_reducible rfl
          rotate_left
          · simp only [Act.put, List.setIfInBounds_toArray, List.set_cons_zero, List.set_cons_succ, i64_w, i32_w]
            rfl
          refine one_ (i := 2) (N := none) #[true, true, true, false] rfl rfl (by kernel_rfl) (by decide) (fun K hK => ?_)
          have hs71 : w70.cell? ⟨gb146, 0, none⟩ = some (.int .i64 0) := (blk_cell BK146.out 0).trans rfl
          have hfs71 := blk_frozen BK146.out 0
          have hns71_1 := NB147_146.out
          have hns71_2 := NB165_146.out
          have hns71_3 := NB166_146.out
          have hms71_1 := NB146_147.out
          have hms71_2 := NB146_165.out
          have hms71_3 := NB146_166.out
          have hs72 : w70.cell? ⟨gb146, 1, none⟩ = some (.int .i64 0) := (blk_cell BK146.out 1).trans rfl
          have hfs72 := blk_frozen BK146.out 1
          have hns72_1 := NB147_146.out
          have hns72_2 := NB165_146.out
          have hns72_3 := NB166_146.out
          have hms72_1 := NB146_147.out
          have hms72_2 := NB146_165.out
          have hms72_3 := NB146_166.out
          have hs73 : w70.cell? ⟨gb146, 2, none⟩ = some (.int .i64 0) := (blk_cell BK146.out 2).trans rfl
          have hfs73 := blk_frozen BK146.out 2
          have hns73_1 := NB147_146.out
          have hns73_2 := NB165_146.out
          have hns73_3 := NB166_146.out
          have hms73_1 := NB146_147.out
          have hms73_2 := NB146_165.out
          have hms73_3 := NB146_166.out
          have hs74 : w70.cell? ⟨gb146, 3, none⟩ = some (.int .i64 0) := (blk_cell BK146.out 3).trans rfl
          have hfs74 := blk_frozen BK146.out 3
          have hns74_1 := NB147_146.out
          have hns74_2 := NB165_146.out
          have hns74_3 := NB166_146.out
          have hms74_1 := NB146_147.out
          have hms74_2 := NB146_165.out
          have hms74_3 := NB146_166.out
          refine skip_ (w1 := ?_) (by rfl) rfl ?_ ?_
          rotate_left
          · go_simp
            rfl
          refine hK.out _ _ ⟨((cell_far (p := ⟨gb146, _, none⟩) NB165_146.out _).trans (((cell_far (p := ⟨gb146, _, none⟩) NB165_146.out _).trans (((cell_far (p := ⟨gb146, _, none⟩) NB165_146.out _).trans (((cell_far (p := ⟨gb146, _, none⟩) NB165_146.out _).trans (hHeld.1)))))))), ((cell_far (p := ⟨gb146, _, none⟩) NB165_146.out _).trans (((cell_far (p := ⟨gb146, _, none⟩) NB165_146.out _).trans (((cell_far (p := ⟨gb146, _, none⟩) NB165_146.out _).trans (((cell_far (p := ⟨gb146, _, none⟩) NB165_146.out _).trans (hHeld.2.1)))))))), ((cell_far (p := ⟨gb146, _, none⟩) NB165_146.out _).trans (((cell_far (p := ⟨gb146, _, none⟩) NB165_146.out _).trans (((cell_far (p := ⟨gb146, _, none⟩) NB165_146.out _).trans (((cell_far (p := ⟨gb146, _, none⟩) NB165_146.out _).trans (hHeld.2.2.1)))))))), ((cell_far (p := ⟨gb146, _, none⟩) NB165_146.out _).trans (((cell_far (p := ⟨gb146, _, none⟩) NB165_146.out _).trans (((cell_far (p := ⟨gb146, _, none⟩) NB165_146.out _).trans (((cell_far (p := ⟨gb146, _, none⟩) NB165_146.out _).trans (hHeld.2.2.2.1)))))))), ((cell_far (p := ⟨gb146, _, none⟩) NB166_146.out _).trans (((cell_far (p := ⟨gb146, _, none⟩) NB166_146.out _).trans (((cell_far (p := ⟨gb146, _, none⟩) NB166_146.out _).trans (((cell_far (p := ⟨gb146, _, none⟩) NB166_146.out _).trans (hHeld.2.2.2.2.1)))))))), ((cell_far (p := ⟨gb146, _, none⟩) NB166_146.out _).trans (((cell_far (p := ⟨gb146, _, none⟩) NB166_146.out _).trans (((cell_far (p := ⟨gb146, _, none⟩) NB166_146.out _).trans (((cell_far (p := ⟨gb146, _, none⟩) NB166_146.out _).trans (hHeld.2.2.2.2.2.1)))))))), ((cell_far (p := ⟨gb146, _, none⟩) NB166_146.out _).trans (((cell_far (p := ⟨gb146, _, none⟩) NB166_146.out _).trans (((cell_far (p := ⟨gb146, _, none⟩) NB166_146.out _).trans (((cell_far (p := ⟨gb146, _, none⟩) NB166_146.out _).trans (hHeld.2.2.2.2.2.2.1)))))))), ((cell_far (p := ⟨gb146, _, none⟩) NB166_146.out _).trans (((cell_far (p := ⟨gb146, _, none⟩) NB166_146.out _).trans (((cell_far (p := ⟨gb146, _, none⟩) NB166_146.out _).trans (((cell_far (p := ⟨gb146, _, none⟩) NB166_146.out _).trans (hHeld.2.2.2.2.2.2.2))))))))⟩ (fun hHeld => ?_)
          clear hK K
          refine one_ (i := 3) (N := none) #[true, true, true, true] rfl rfl (by kernel_rfl) (by decide) (fun K hK => ?_)
          have hs75 : w70.cell? ⟨gb147, 0, none⟩ = some (.int .i64 0) := (blk_cell BK147.out 0).trans rfl
          have hfs75 := blk_frozen BK147.out 0
          have hns75_0 := NB146_147.out
          have hns75_2 := NB165_147.out
          have hns75_3 := NB166_147.out
          have hms75_0 := NB147_146.out
          have hms75_2 := NB147_165.out
          have hms75_3 := NB147_166.out
          have hs76 : w70.cell? ⟨gb147, 1, none⟩ = some (.int .i64 0) := (blk_cell BK147.out 1).trans rfl
          have hfs76 := blk_frozen BK147.out 1
          have hns76_0 := NB146_147.out
          have hns76_2 := NB165_147.out
          have hns76_3 := NB166_147.out
          have hms76_0 := NB147_146.out
          have hms76_2 := NB147_165.out
          have hms76_3 := NB147_166.out
          have hs77 : w70.cell? ⟨gb147, 2, none⟩ = some (.int .i64 0) := (blk_cell BK147.out 2).trans rfl
          have hfs77 := blk_frozen BK147.out 2
          have hns77_0 := NB146_147.out
          have hns77_2 := NB165_147.out
          have hns77_3 := NB166_147.out
          have hms77_0 := NB147_146.out
          have hms77_2 := NB147_165.out
          have hms77_3 := NB147_166.out
          have hs78 : w70.cell? ⟨gb147, 3, none⟩ = some (.int .i64 0) := (blk_cell BK147.out 3).trans rfl
          have hfs78 := blk_frozen BK147.out 3
          have hns78_0 := NB146_147.out
          have hns78_2 := NB165_147.out
          have hns78_3 := NB166_147.out
          have hms78_0 := NB147_146.out
          have hms78_2 := NB147_165.out
          have hms78_3 := NB147_166.out
          refine skip_ (w1 := ?_) (by rfl) rfl ?_ ?_
          rotate_left
          · go_simp
            rfl
          refine hK.out _ _ ⟨((cell_far (p := ⟨gb147, _, none⟩) NB165_147.out _).trans (((cell_far (p := ⟨gb147, _, none⟩) NB165_147.out _).trans (((cell_far (p := ⟨gb147, _, none⟩) NB165_147.out _).trans (((cell_far (p := ⟨gb147, _, none⟩) NB165_147.out _).trans (hHeld.1)))))))), ((cell_far (p := ⟨gb147, _, none⟩) NB165_147.out _).trans (((cell_far (p := ⟨gb147, _, none⟩) NB165_147.out _).trans (((cell_far (p := ⟨gb147, _, none⟩) NB165_147.out _).trans (((cell_far (p := ⟨gb147, _, none⟩) NB165_147.out _).trans (hHeld.2.1)))))))), ((cell_far (p := ⟨gb147, _, none⟩) NB165_147.out _).trans (((cell_far (p := ⟨gb147, _, none⟩) NB165_147.out _).trans (((cell_far (p := ⟨gb147, _, none⟩) NB165_147.out _).trans (((cell_far (p := ⟨gb147, _, none⟩) NB165_147.out _).trans (hHeld.2.2.1)))))))), ((cell_far (p := ⟨gb147, _, none⟩) NB165_147.out _).trans (((cell_far (p := ⟨gb147, _, none⟩) NB165_147.out _).trans (((cell_far (p := ⟨gb147, _, none⟩) NB165_147.out _).trans (((cell_far (p := ⟨gb147, _, none⟩) NB165_147.out _).trans (hHeld.2.2.2.1)))))))), ((cell_far (p := ⟨gb147, _, none⟩) NB166_147.out _).trans (((cell_far (p := ⟨gb147, _, none⟩) NB166_147.out _).trans (((cell_far (p := ⟨gb147, _, none⟩) NB166_147.out _).trans (((cell_far (p := ⟨gb147, _, none⟩) NB166_147.out _).trans (hHeld.2.2.2.2.1)))))))), ((cell_far (p := ⟨gb147, _, none⟩) NB166_147.out _).trans (((cell_far (p := ⟨gb147, _, none⟩) NB166_147.out _).trans (((cell_far (p := ⟨gb147, _, none⟩) NB166_147.out _).trans (((cell_far (p := ⟨gb147, _, none⟩) NB166_147.out _).trans (hHeld.2.2.2.2.2.1)))))))), ((cell_far (p := ⟨gb147, _, none⟩) NB166_147.out _).trans (((cell_far (p := ⟨gb147, _, none⟩) NB166_147.out _).trans (((cell_far (p := ⟨gb147, _, none⟩) NB166_147.out _).trans (((cell_far (p := ⟨gb147, _, none⟩) NB166_147.out _).trans (hHeld.2.2.2.2.2.2.1)))))))), ((cell_far (p := ⟨gb147, _, none⟩) NB166_147.out _).trans (((cell_far (p := ⟨gb147, _, none⟩) NB166_147.out _).trans (((cell_far (p := ⟨gb147, _, none⟩) NB166_147.out _).trans (((cell_far (p := ⟨gb147, _, none⟩) NB166_147.out _).trans (hHeld.2.2.2.2.2.2.2))))))))⟩ (fun hHeld => ?_)
          clear hK K
          refine done_ (by kernel_rfl) ?_
          try go_wp2
          refine bodyPost_ret (results_cc rfl _ _ gb146 gb147 33 33 #[.int .i64 t151, .int .i64 1, .int .i64 t156, .int .i64 t163] #[.int .i64 t151, .int .i64 1, .int .i64 t156, .int .i64 t163] (0, 0) (0, 0) _ _ rfl (by (with_reducible repeat (first | refine blk_drewN ?_ _ | refine blk_drew ?_ | refine blk_alloc ?_ _)); refine blk_far ?_ NB146_147.out _; (with_reducible repeat (first | refine blk_drewN ?_ _ | refine blk_drew ?_ | refine blk_alloc ?_ _)); refine blk_far ?_ NB146_147.out _; (with_reducible repeat (first | refine blk_drewN ?_ _ | refine blk_drew ?_ | refine blk_alloc ?_ _)); refine blk_far ?_ NB146_147.out _; (with_reducible repeat (first | refine blk_drewN ?_ _ | refine blk_drew ?_ | refine blk_alloc ?_ _)); refine blk_far ?_ NB146_147.out _; (with_reducible repeat (first | refine blk_drewN ?_ _ | refine blk_drew ?_ | refine blk_alloc ?_ _)); refine blk_put (cs := #[.int .i64 t151, .int .i64 1, .int .i64 t156, .int .i64 0]) ?_ 3 _ rfl; (with_reducible repeat (first | refine blk_drewN ?_ _ | refine blk_drew ?_ | refine blk_alloc ?_ _)); refine blk_put (cs := #[.int .i64 t151, .int .i64 1, .int .i64 0, .int .i64 0]) ?_ 2 _ rfl; (with_reducible repeat (first | refine blk_drewN ?_ _ | refine blk_drew ?_ | refine blk_alloc ?_ _)); refine blk_put (cs := #[.int .i64 t151, .int .i64 0, .int .i64 0, .int .i64 0]) ?_ 1 _ rfl; (with_reducible repeat (first | refine blk_drewN ?_ _ | refine blk_drew ?_ | refine blk_alloc ?_ _)); refine blk_put (cs := #[.int .i64 0, .int .i64 0, .int .i64 0, .int .i64 0]) ?_ 0 _ rfl; (with_reducible repeat (first | refine blk_drewN ?_ _ | refine blk_drew ?_ | refine blk_alloc ?_ _)); exact BK146.out) Try.underlying33 rfl (by kernel_rfl) rfl (by (with_reducible repeat (first | refine blk_drewN ?_ _ | refine blk_drew ?_ | refine blk_alloc ?_ _)); refine blk_put (cs := #[.int .i64 t151, .int .i64 1, .int .i64 t156, .int .i64 0]) ?_ 3 _ rfl; (with_reducible repeat (first | refine blk_drewN ?_ _ | refine blk_drew ?_ | refine blk_alloc ?_ _)); refine blk_put (cs := #[.int .i64 t151, .int .i64 1, .int .i64 0, .int .i64 0]) ?_ 2 _ rfl; (with_reducible repeat (first | refine blk_drewN ?_ _ | refine blk_drew ?_ | refine blk_alloc ?_ _)); refine blk_put (cs := #[.int .i64 t151, .int .i64 0, .int .i64 0, .int .i64 0]) ?_ 1 _ rfl; (with_reducible repeat (first | refine blk_drewN ?_ _ | refine blk_drew ?_ | refine blk_alloc ?_ _)); refine blk_put (cs := #[.int .i64 0, .int .i64 0, .int .i64 0, .int .i64 0]) ?_ 0 _ rfl; (with_reducible repeat (first | refine blk_drewN ?_ _ | refine blk_drew ?_ | refine blk_alloc ?_ _)); refine blk_far ?_ NB147_146.out _; (with_reducible repeat (first | refine blk_drewN ?_ _ | refine blk_drew ?_ | refine blk_alloc ?_ _)); refine blk_far ?_ NB147_146.out _; (with_reducible repeat (first | refine blk_drewN ?_ _ | refine blk_drew ?_ | refine blk_alloc ?_ _)); refine blk_far ?_ NB147_146.out _; (with_reducible repeat (first | refine blk_drewN ?_ _ | refine blk_drew ?_ | refine blk_alloc ?_ _)); refine blk_far ?_ NB147_146.out _; (with_reducible repeat (first | refine blk_drewN ?_ _ | refine blk_drew ?_ | refine blk_alloc ?_ _)); exact BK147.out) Try.underlying33 rfl (by kernel_rfl)) rfl ?_
          exact ⟨by first | rfl | (simp [errW_none, errW_some] <;> rfl) | (simp [*, errW_none, errW_some] <;> rfl), by repeat (first | (with_reducible first | exact HB.out | apply below_alloc | apply pw_below_drewN | apply below_drew1 | refine below_set ?_ (IsS65.ge HI150.out) | refine below_set ?_ GE146.out | refine below_set ?_ GE147.out | refine below_set ?_ GE165.out | refine below_set ?_ GE166.out) | exact HB.out)⟩
      · replace c35 := Bool.eq_false_iff.mpr c35
        subst c35
        have H1 : (if t167 = 2 then (some (t151, 1, t156, t163, t151, t156, 1, t163)) else (if t167 = 3 then ((spec_reader_pick.f kj7 t148 t168 4).bind fun bt175 => (some (t151, 1, t156, t163, bt175.1, 1, t156, t163))) else (if t167 = 4 then ((spec_reader_one.f kj7 t148 t168 (([2100, 5, 0] : List Int))).bind fun bt180 => (some (t151, 1, t156, t163, t151, 1, t156, bt180.1))) else (some (t151, 1, t156, t163, t151, 1, t156, t163))))) = some (r1, r2, r3, r4, r5, r6, r7, r8) := by rw [if_neg (show ¬ (false = true) by decide)] at H; exact H
        clear H
        have H := H1
        clear H1
        by_cases c79 : t167 = 2
        · rw [if_pos c79] at H
          have c79b0 : (t167 == 2) = true := beq_iff_eq.mpr c79
          have c79b1 : (t167 != 2) = false := bne_eq_false_iff_eq.mpr c79
          clear c79
          simp only [Option.some.injEq, Prod.mk.injEq] at H
          obtain ⟨rfl, rfl, rfl, rfl, rfl, rfl, rfl, rfl⟩ := H
          have hnb80 := NB165_146.out
          have hnc80 := NB146_165.out
          have hnb81 := NB165_147.out
          have hnc81 := NB147_165.out
          have hnb82 := NB165_166.out
          have hnc82 := NB166_165.out
          have hnb83 := NB165_150.out
          have hnc83 := NB150_165.out
          have hcz84_0 : wc.cell? ⟨gb165, 0, none⟩ = some (.int .i64 t151) := (blk_cell BK165.out 0).trans rfl
          have hcz84_1 : wc.cell? ⟨gb165, 1, none⟩ = some (.int .i64 1) := (blk_cell BK165.out 1).trans rfl
          have hcz84_2 : wc.cell? ⟨gb165, 2, none⟩ = some (.int .i64 t156) := (blk_cell BK165.out 2).trans rfl
          have hcz84_3 : wc.cell? ⟨gb165, 3, none⟩ = some (.int .i64 t163) := (blk_cell BK165.out 3).trans rfl
          have hfz84_0 := blk_frozen BK165.out 0
          have hfz84_1 := blk_frozen BK165.out 1
          have hfz84_2 := blk_frozen BK165.out 2
          have hfz84_3 := blk_frozen BK165.out 3
          have hnb85 := NB166_146.out
          have hnc85 := NB146_166.out
          have hnb86 := NB166_147.out
          have hnc86 := NB147_166.out
          have hnb87 := NB166_150.out
          have hnc87 := NB150_166.out
          have hcz88_0 : wc.cell? ⟨gb166, 0, none⟩ = some (.int .i64 t151) := (blk_cell BK166.out 0).trans rfl
          have hcz88_1 : wc.cell? ⟨gb166, 1, none⟩ = some (.int .i64 1) := (blk_cell BK166.out 1).trans rfl
          have hcz88_2 : wc.cell? ⟨gb166, 2, none⟩ = some (.int .i64 t156) := (blk_cell BK166.out 2).trans rfl
          have hcz88_3 : wc.cell? ⟨gb166, 3, none⟩ = some (.int .i64 t163) := (blk_cell BK166.out 3).trans rfl
          have hfz88_0 := blk_frozen BK166.out 0
          have hfz88_1 := blk_frozen BK166.out 1
          have hfz88_2 := blk_frozen BK166.out 2
          have hfz88_3 := blk_frozen BK166.out 3
          try go_wp2
          have n0_ : Aside0 (((wc.setCell ⟨gb166, 1, none⟩ (.int .i64 t156)).setCell ⟨gb166, 2, none⟩ (.int .i64 1)).heap[gb146]? = some (.cells #[.int .i64 0, .int .i64 0, .int .i64 0, .int .i64 0] 33 (0, 0))) := ⟨by (with_reducible repeat (first | refine blk_drewN ?_ _ | refine blk_drew ?_ | refine blk_alloc ?_ _)); refine blk_far ?_ NB146_166.out _; (with_reducible repeat (first | refine blk_drewN ?_ _ | refine blk_drew ?_ | refine blk_alloc ?_ _)); refine blk_far ?_ NB146_166.out _; (with_reducible repeat (first | refine blk_drewN ?_ _ | refine blk_drew ?_ | refine blk_alloc ?_ _)); exact BK146.out⟩
          have n1_ : Aside0 (((wc.setCell ⟨gb166, 1, none⟩ (.int .i64 t156)).setCell ⟨gb166, 2, none⟩ (.int .i64 1)).heap[gb147]? = some (.cells #[.int .i64 0, .int .i64 0, .int .i64 0, .int .i64 0] 33 (0, 0))) := ⟨by (with_reducible repeat (first | refine blk_drewN ?_ _ | refine blk_drew ?_ | refine blk_alloc ?_ _)); refine blk_far ?_ NB147_166.out _; (with_reducible repeat (first | refine blk_drewN ?_ _ | refine blk_drew ?_ | refine blk_alloc ?_ _)); refine blk_far ?_ NB147_166.out _; (with_reducible repeat (first | refine blk_drewN ?_ _ | refine blk_drew ?_ | refine blk_alloc ?_ _)); exact BK147.out⟩
          have n2_ : Aside0 (((wc.setCell ⟨gb166, 1, none⟩ (.int .i64 t156)).setCell ⟨gb166, 2, none⟩ (.int .i64 1)).heap[gb165]? = some (.cells #[.int .i64 t151, .int .i64 1, .int .i64 t156, .int .i64 t163] 33 (0, 0))) := ⟨by (with_reducible repeat (first | refine blk_drewN ?_ _ | refine blk_drew ?_ | refine blk_alloc ?_ _)); refine blk_far ?_ NB165_166.out _; (with_reducible repeat (first | refine blk_drewN ?_ _ | refine blk_drew ?_ | refine blk_alloc ?_ _)); refine blk_far ?_ NB165_166.out _; (with_reducible repeat (first | refine blk_drewN ?_ _ | refine blk_drew ?_ | refine blk_alloc ?_ _)); exact BK165.out⟩
          have n3_ : Aside0 (((wc.setCell ⟨gb166, 1, none⟩ (.int .i64 t156)).setCell ⟨gb166, 2, none⟩ (.int .i64 1)).heap[gb166]? = some (.cells #[.int .i64 t151, .int .i64 t156, .int .i64 1, .int .i64 t163] 33 (0, 0))) := ⟨by (with_reducible repeat (first | refine blk_drewN ?_ _ | refine blk_drew ?_ | refine blk_alloc ?_ _)); refine blk_put (cs := #[.int .i64 t151, .int .i64 t156, .int .i64 t156, .int .i64 t163]) ?_ 2 _ rfl; (with_reducible repeat (first | refine blk_drewN ?_ _ | refine blk_drew ?_ | refine blk_alloc ?_ _)); refine blk_put (cs := #[.int .i64 t151, .int .i64 1, .int .i64 t156, .int .i64 t163]) ?_ 1 _ rfl; (with_reducible repeat (first | refine blk_drewN ?_ _ | refine blk_drew ?_ | refine blk_alloc ?_ _)); exact BK166.out⟩
          have n4_ : Aside0 (IsS65 w ((wc.setCell ⟨gb166, 1, none⟩ (.int .i64 t156)).setCell ⟨gb166, 2, none⟩ (.int .i64 1)) g150 t148 t168) := ⟨by repeat (first | (with_reducible first | exact HI150.out | apply IsS65.alloc | apply IsS65.drewN | apply IsS65.drew | apply IsS65.set_1 | refine IsS65.far ?_ NB150_146.out _ | refine IsS65.far ?_ NB150_147.out _ | refine IsS65.far ?_ NB150_165.out _ | refine IsS65.far ?_ NB150_166.out _) | exact HI150.out)⟩
          have n5_ : Aside0 (Below w.heap.size w ((wc.setCell ⟨gb166, 1, none⟩ (.int .i64 t156)).setCell ⟨gb166, 2, none⟩ (.int .i64 1))) := ⟨by repeat (first | (with_reducible first | exact HB.out | apply below_alloc | apply pw_below_drewN | apply below_drew1 | refine below_set ?_ (IsS65.ge HI150.out) | refine below_set ?_ GE146.out | refine below_set ?_ GE147.out | refine below_set ?_ GE165.out | refine below_set ?_ GE166.out) | exact HB.out)⟩
          (try clear BK146)
          (try clear BK147)
          (try clear BK165)
          (try clear BK166)
          (try clear HI150)
          (try clear HB)
          generalize ((wc.setCell ⟨gb166, 1, none⟩ (.int .i64 t156)).setCell ⟨gb166, 2, none⟩ (.int .i64 1)) = w89 at n0_ n1_ n2_ n3_ n4_ n5_ ⊢
          have BK146 := n0_
          have BK147 := n1_
          have BK165 := n2_
          have BK166 := n3_
          have HI150 := n4_
          have HB := n5_
          clear n0_ n1_ n2_ n3_ n4_ n5_
          have n0_ := Aside0.mk (blk_drew BK146.out)
          have n1_ := Aside0.mk (blk_drew BK147.out)
          have n2_ := Aside0.mk (blk_drew BK165.out)
          have n3_ := Aside0.mk (blk_drew BK166.out)
          have n4_ := Aside0.mk (IsS65.drew HI150.out)
          have n5_ := Aside0.mk (below_drew1 HB.out)
          clear BK146
          clear BK147
          clear BK165
          clear BK166
          clear HI150
          clear HB
          have BK146 := n0_
          have BK147 := n1_
          have BK165 := n2_
          have BK166 := n3_
          have HI150 := n4_
          have HB := n5_
          clear n0_ n1_ n2_ n3_ n4_ n5_
          refine start_ (n := 4) (S := fun w' => w'.cell? ⟨gb165, 0, none⟩ = some (.int .i64 t151) ∧ w'.cell? ⟨gb165, 1, none⟩ = some (.int .i64 1) ∧ w'.cell? ⟨gb165, 2, none⟩ = some (.int .i64 t156) ∧ w'.cell? ⟨gb165, 3, none⟩ = some (.int .i64 t163) ∧ w'.cell? ⟨gb166, 0, none⟩ = some (.int .i64 t151) ∧ w'.cell? ⟨gb166, 1, none⟩ = some (.int .i64 t156) ∧ w'.cell? ⟨gb166, 2, none⟩ = some (.int .i64 1) ∧ w'.cell? ⟨gb166, 3, none⟩ = some (.int .i64 t163)) (ds := []) #[false, false, false, false] (by kernel_rfl) rfl rfl ⟨(blk_cell BK165.out 0).trans rfl, (blk_cell BK165.out 1).trans rfl, (blk_cell BK165.out 2).trans rfl, (blk_cell BK165.out 3).trans rfl, (blk_cell BK166.out 0).trans rfl, (blk_cell BK166.out 1).trans rfl, (blk_cell BK166.out 2).trans rfl, (blk_cell BK166.out 3).trans rfl⟩ (fun hHeld => ?_)
          generalize w89.drew = w90 at BK146 BK147 BK165 BK166 HI150 HB hHeld ⊢
          refine take_ (i := 0) (N := some 61) (v := ?_) (a' := ?_) #[true, false, false, false] rfl rfl (by kernel_rfl) (fun _ _ _ h => h) (Or.inl ⟨by rfl, ?_⟩) hHeld ?_ ?_
          rotate_left
          · rintro w' ⟨s0, s1, s2, s3, s4, s5, s6, s7⟩
            go_simp
            with_reducible rfl
          rotate_left
          · simp only [Act.put, List.setIfInBounds_toArray, List.set_cons_zero, List.set_cons_succ, i64_w, i32_w]
            rfl
          refine take_ (i := 1) (N := some 62) (v := ?_) (a' := ?_) #[true, true, false, false] rfl rfl (by kernel_rfl) (fun _ _ _ h => h) (Or.inl ⟨by rfl, ?_⟩) hHeld ?_ ?_
          rotate_left
          · rintro w' ⟨s0, s1, s2, s3, s4, s5, s6, s7⟩
            go_simp
            with_reducible rfl
          rotate_left
          · simp only [Act.put, List.setIfInBounds_toArray, List.set_cons_zero, List.set_cons_succ, i64_w, i32_w]
            rfl
          refine one_ (i := 2) (N := none) #[true, true, true, false] rfl rfl (by kernel_rfl) (by decide) (fun K hK => ?_)
          have hs91 : w90.cell? ⟨gb146, 0, none⟩ = some (.int .i64 0) := (blk_cell BK146.out 0).trans rfl
          have hfs91 := blk_frozen BK146.out 0
          have hns91_1 := NB147_146.out
          have hns91_2 := NB165_146.out
          have hns91_3 := NB166_146.out
          have hms91_1 := NB146_147.out
          have hms91_2 := NB146_165.out
          have hms91_3 := NB146_166.out
          have hs92 : w90.cell? ⟨gb146, 1, none⟩ = some (.int .i64 0) := (blk_cell BK146.out 1).trans rfl
          have hfs92 := blk_frozen BK146.out 1
          have hns92_1 := NB147_146.out
          have hns92_2 := NB165_146.out
          have hns92_3 := NB166_146.out
          have hms92_1 := NB146_147.out
          have hms92_2 := NB146_165.out
          have hms92_3 := NB146_166.out
          have hs93 : w90.cell? ⟨gb146, 2, none⟩ = some (.int .i64 0) := (blk_cell BK146.out 2).trans rfl
          have hfs93 := blk_frozen BK146.out 2
          have hns93_1 := NB147_146.out
          have hns93_2 := NB165_146.out
          have hns93_3 := NB166_146.out
          have hms93_1 := NB146_147.out
          have hms93_2 := NB146_165.out
          have hms93_3 := NB146_166.out
          have hs94 : w90.cell? ⟨gb146, 3, none⟩ = some (.int .i64 0) := (blk_cell BK146.out 3).trans rfl
          have hfs94 := blk_frozen BK146.out 3
          have hns94_1 := NB147_146.out
          have hns94_2 := NB165_146.out
          have hns94_3 := NB166_146.out
          have hms94_1 := NB146_147.out
          have hms94_2 := NB146_165.out
          have hms94_3 := NB146_166.out
          refine skip_ (w1 := ?_) (by rfl) rfl ?_ ?_
          rotate_left
          · go_simp
            rfl
          refine hK.out _ _ ⟨((cell_far (p := ⟨gb146, _, none⟩) NB165_146.out _).trans (((cell_far (p := ⟨gb146, _, none⟩) NB165_146.out _).trans (((cell_far (p := ⟨gb146, _, none⟩) NB165_146.out _).trans (((cell_far (p := ⟨gb146, _, none⟩) NB165_146.out _).trans (hHeld.1)))))))), ((cell_far (p := ⟨gb146, _, none⟩) NB165_146.out _).trans (((cell_far (p := ⟨gb146, _, none⟩) NB165_146.out _).trans (((cell_far (p := ⟨gb146, _, none⟩) NB165_146.out _).trans (((cell_far (p := ⟨gb146, _, none⟩) NB165_146.out _).trans (hHeld.2.1)))))))), ((cell_far (p := ⟨gb146, _, none⟩) NB165_146.out _).trans (((cell_far (p := ⟨gb146, _, none⟩) NB165_146.out _).trans (((cell_far (p := ⟨gb146, _, none⟩) NB165_146.out _).trans (((cell_far (p := ⟨gb146, _, none⟩) NB165_146.out _).trans (hHeld.2.2.1)))))))), ((cell_far (p := ⟨gb146, _, none⟩) NB165_146.out _).trans (((cell_far (p := ⟨gb146, _, none⟩) NB165_146.out _).trans (((cell_far (p := ⟨gb146, _, none⟩) NB165_146.out _).trans (((cell_far (p := ⟨gb146, _, none⟩) NB165_146.out _).trans (hHeld.2.2.2.1)))))))), ((cell_far (p := ⟨gb146, _, none⟩) NB166_146.out _).trans (((cell_far (p := ⟨gb146, _, none⟩) NB166_146.out _).trans (((cell_far (p := ⟨gb146, _, none⟩) NB166_146.out _).trans (((cell_far (p := ⟨gb146, _, none⟩) NB166_146.out _).trans (hHeld.2.2.2.2.1)))))))), ((cell_far (p := ⟨gb146, _, none⟩) NB166_146.out _).trans (((cell_far (p := ⟨gb146, _, none⟩) NB166_146.out _).trans (((cell_far (p := ⟨gb146, _, none⟩) NB166_146.out _).trans (((cell_far (p := ⟨gb146, _, none⟩) NB166_146.out _).trans (hHeld.2.2.2.2.2.1)))))))), ((cell_far (p := ⟨gb146, _, none⟩) NB166_146.out _).trans (((cell_far (p := ⟨gb146, _, none⟩) NB166_146.out _).trans (((cell_far (p := ⟨gb146, _, none⟩) NB166_146.out _).trans (((cell_far (p := ⟨gb146, _, none⟩) NB166_146.out _).trans (hHeld.2.2.2.2.2.2.1)))))))), ((cell_far (p := ⟨gb146, _, none⟩) NB166_146.out _).trans (((cell_far (p := ⟨gb146, _, none⟩) NB166_146.out _).trans (((cell_far (p := ⟨gb146, _, none⟩) NB166_146.out _).trans (((cell_far (p := ⟨gb146, _, none⟩) NB166_146.out _).trans (hHeld.2.2.2.2.2.2.2))))))))⟩ (fun hHeld => ?_)
          clear hK K
          refine one_ (i := 3) (N := none) #[true, true, true, true] rfl rfl (by kernel_rfl) (by decide) (fun K hK => ?_)
          have hs95 : w90.cell? ⟨gb147, 0, none⟩ = some (.int .i64 0) := (blk_cell BK147.out 0).trans rfl
          have hfs95 := blk_frozen BK147.out 0
          have hns95_0 := NB146_147.out
          have hns95_2 := NB165_147.out
          have hns95_3 := NB166_147.out
          have hms95_0 := NB147_146.out
          have hms95_2 := NB147_165.out
          have hms95_3 := NB147_166.out
          have hs96 : w90.cell? ⟨gb147, 1, none⟩ = some (.int .i64 0) := (blk_cell BK147.out 1).trans rfl
          have hfs96 := blk_frozen BK147.out 1
          have hns96_0 := NB146_147.out
          have hns96_2 := NB165_147.out
          have hns96_3 := NB166_147.out
          have hms96_0 := NB147_146.out
          have hms96_2 := NB147_165.out
          have hms96_3 := NB147_166.out
          have hs97 : w90.cell? ⟨gb147, 2, none⟩ = some (.int .i64 0) := (blk_cell BK147.out 2).trans rfl
          have hfs97 := blk_frozen BK147.out 2
          have hns97_0 := NB146_147.out
          have hns97_2 := NB165_147.out
          have hns97_3 := NB166_147.out
          have hms97_0 := NB147_146.out
          have hms97_2 := NB147_165.out
          have hms97_3 := NB147_166.out
          have hs98 : w90.cell? ⟨gb147, 3, none⟩ = some (.int .i64 0) := (blk_cell BK147.out 3).trans rfl
          have hfs98 := blk_frozen BK147.out 3
          have hns98_0 := NB146_147.out
          have hns98_2 := NB165_147.out
          have hns98_3 := NB166_147.out
          have hms98_0 := NB147_146.out
          have hms98_2 := NB147_165.out
          have hms98_3 := NB147_166.out
          refine skip_ (w1 := ?_) (by rfl) rfl ?_ ?_
          rotate_left
          · go_simp
            rfl
          refine hK.out _ _ ⟨((cell_far (p := ⟨gb147, _, none⟩) NB165_147.out _).trans (((cell_far (p := ⟨gb147, _, none⟩) NB165_147.out _).trans (((cell_far (p := ⟨gb147, _, none⟩) NB165_147.out _).trans (((cell_far (p := ⟨gb147, _, none⟩) NB165_147.out _).trans (hHeld.1)))))))), ((cell_far (p := ⟨gb147, _, none⟩) NB165_147.out _).trans (((cell_far (p := ⟨gb147, _, none⟩) NB165_147.out _).trans (((cell_far (p := ⟨gb147, _, none⟩) NB165_147.out _).trans (((cell_far (p := ⟨gb147, _, none⟩) NB165_147.out _).trans (hHeld.2.1)))))))), ((cell_far (p := ⟨gb147, _, none⟩) NB165_147.out _).trans (((cell_far (p := ⟨gb147, _, none⟩) NB165_147.out _).trans (((cell_far (p := ⟨gb147, _, none⟩) NB165_147.out _).trans (((cell_far (p := ⟨gb147, _, none⟩) NB165_147.out _).trans (hHeld.2.2.1)))))))), ((cell_far (p := ⟨gb147, _, none⟩) NB165_147.out _).trans (((cell_far (p := ⟨gb147, _, none⟩) NB165_147.out _).trans (((cell_far (p := ⟨gb147, _, none⟩) NB165_147.out _).trans (((cell_far (p := ⟨gb147, _, none⟩) NB165_147.out _).trans (hHeld.2.2.2.1)))))))), ((cell_far (p := ⟨gb147, _, none⟩) NB166_147.out _).trans (((cell_far (p := ⟨gb147, _, none⟩) NB166_147.out _).trans (((cell_far (p := ⟨gb147, _, none⟩) NB166_147.out _).trans (((cell_far (p := ⟨gb147, _, none⟩) NB166_147.out _).trans (hHeld.2.2.2.2.1)))))))), ((cell_far (p := ⟨gb147, _, none⟩) NB166_147.out _).trans (((cell_far (p := ⟨gb147, _, none⟩) NB166_147.out _).trans (((cell_far (p := ⟨gb147, _, none⟩) NB166_147.out _).trans (((cell_far (p := ⟨gb147, _, none⟩) NB166_147.out _).trans (hHeld.2.2.2.2.2.1)))))))), ((cell_far (p := ⟨gb147, _, none⟩) NB166_147.out _).trans (((cell_far (p := ⟨gb147, _, none⟩) NB166_147.out _).trans (((cell_far (p := ⟨gb147, _, none⟩) NB166_147.out _).trans (((cell_far (p := ⟨gb147, _, none⟩) NB166_147.out _).trans (hHeld.2.2.2.2.2.2.1)))))))), ((cell_far (p := ⟨gb147, _, none⟩) NB166_147.out _).trans (((cell_far (p := ⟨gb147, _, none⟩) NB166_147.out _).trans (((cell_far (p := ⟨gb147, _, none⟩) NB166_147.out _).trans (((cell_far (p := ⟨gb147, _, none⟩) NB166_147.out _).trans (hHeld.2.2.2.2.2.2.2))))))))⟩ (fun hHeld => ?_)
          clear hK K
          refine done_ (by kernel_rfl) ?_
          try go_wp2
          refine bodyPost_ret (results_cc rfl _ _ gb146 gb147 33 33 #[.int .i64 t151, .int .i64 1, .int .i64 t156, .int .i64 t163] #[.int .i64 t151, .int .i64 t156, .int .i64 1, .int .i64 t163] (0, 0) (0, 0) _ _ rfl (by (with_reducible repeat (first | refine blk_drewN ?_ _ | refine blk_drew ?_ | refine blk_alloc ?_ _)); refine blk_far ?_ NB146_147.out _; (with_reducible repeat (first | refine blk_drewN ?_ _ | refine blk_drew ?_ | refine blk_alloc ?_ _)); refine blk_far ?_ NB146_147.out _; (with_reducible repeat (first | refine blk_drewN ?_ _ | refine blk_drew ?_ | refine blk_alloc ?_ _)); refine blk_far ?_ NB146_147.out _; (with_reducible repeat (first | refine blk_drewN ?_ _ | refine blk_drew ?_ | refine blk_alloc ?_ _)); refine blk_far ?_ NB146_147.out _; (with_reducible repeat (first | refine blk_drewN ?_ _ | refine blk_drew ?_ | refine blk_alloc ?_ _)); refine blk_put (cs := #[.int .i64 t151, .int .i64 1, .int .i64 t156, .int .i64 0]) ?_ 3 _ rfl; (with_reducible repeat (first | refine blk_drewN ?_ _ | refine blk_drew ?_ | refine blk_alloc ?_ _)); refine blk_put (cs := #[.int .i64 t151, .int .i64 1, .int .i64 0, .int .i64 0]) ?_ 2 _ rfl; (with_reducible repeat (first | refine blk_drewN ?_ _ | refine blk_drew ?_ | refine blk_alloc ?_ _)); refine blk_put (cs := #[.int .i64 t151, .int .i64 0, .int .i64 0, .int .i64 0]) ?_ 1 _ rfl; (with_reducible repeat (first | refine blk_drewN ?_ _ | refine blk_drew ?_ | refine blk_alloc ?_ _)); refine blk_put (cs := #[.int .i64 0, .int .i64 0, .int .i64 0, .int .i64 0]) ?_ 0 _ rfl; (with_reducible repeat (first | refine blk_drewN ?_ _ | refine blk_drew ?_ | refine blk_alloc ?_ _)); exact BK146.out) Try.underlying33 rfl (by kernel_rfl) rfl (by (with_reducible repeat (first | refine blk_drewN ?_ _ | refine blk_drew ?_ | refine blk_alloc ?_ _)); refine blk_put (cs := #[.int .i64 t151, .int .i64 t156, .int .i64 1, .int .i64 0]) ?_ 3 _ rfl; (with_reducible repeat (first | refine blk_drewN ?_ _ | refine blk_drew ?_ | refine blk_alloc ?_ _)); refine blk_put (cs := #[.int .i64 t151, .int .i64 t156, .int .i64 0, .int .i64 0]) ?_ 2 _ rfl; (with_reducible repeat (first | refine blk_drewN ?_ _ | refine blk_drew ?_ | refine blk_alloc ?_ _)); refine blk_put (cs := #[.int .i64 t151, .int .i64 0, .int .i64 0, .int .i64 0]) ?_ 1 _ rfl; (with_reducible repeat (first | refine blk_drewN ?_ _ | refine blk_drew ?_ | refine blk_alloc ?_ _)); refine blk_put (cs := #[.int .i64 0, .int .i64 0, .int .i64 0, .int .i64 0]) ?_ 0 _ rfl; (with_reducible repeat (first | refine blk_drewN ?_ _ | refine blk_drew ?_ | refine blk_alloc ?_ _)); refine blk_far ?_ NB147_146.out _; (with_reducible repeat (first | refine blk_drewN ?_ _ | refine blk_drew ?_ | refine blk_alloc ?_ _)); refine blk_far ?_ NB147_146.out _; (with_reducible repeat (first | refine blk_drewN ?_ _ | refine blk_drew ?_ | refine blk_alloc ?_ _)); refine blk_far ?_ NB147_146.out _; (with_reducible repeat (first | refine blk_drewN ?_ _ | refine blk_drew ?_ | refine blk_alloc ?_ _)); refine blk_far ?_ NB147_146.out _; (with_reducible repeat (first | refine blk_drewN ?_ _ | refine blk_drew ?_ | refine blk_alloc ?_ _)); exact BK147.out) Try.underlying33 rfl (by kernel_rfl)) rfl ?_
          exact ⟨by first | rfl | (simp [errW_none, errW_some] <;> rfl) | (simp [*, errW_none, errW_some] <;> rfl), by repeat (first | (with_reducible first | exact HB.out | apply below_alloc | apply pw_below_drewN | apply below_drew1 | refine below_set ?_ (IsS65.ge HI150.out) | refine below_set ?_ GE146.out | refine below_set ?_ GE147.out | refine below_set ?_ GE165.out | refine below_set ?_ GE166.out) | exact HB.out)⟩
        · rw [if_neg c79] at H
          have c79b0 : (t167 == 2) = false := beq_eq_false_iff_ne.mpr c79
          have c79b1 : (t167 != 2) = true := bne_iff_ne.mpr c79
          by_cases c99 : t167 = 3
          · rw [if_pos c99] at H
            have c99b0 : (t167 == 3) = true := beq_iff_eq.mpr c99
            have c99b1 : (t167 != 3) = false := bne_eq_false_iff_eq.mpr c99
            clear c99
            replace H := Option.bind_eq_some_iff.mp H
            obtain ⟨⟨t175, t176⟩, A1000, H⟩ := H
            replace H : (some (t151, 1, t156, t163, t175, 1, t156, t163)) = some (r1, r2, r3, r4, r5, r6, r7, r8) := H
            have A100 := Aside0.mk A1000
            clear A1000
            simp only [Option.some.injEq, Prod.mk.injEq] at H
            obtain ⟨rfl, rfl, rfl, rfl, rfl, rfl, rfl, rfl⟩ := H
            try go_wp2_with (first | ((with_reducible refine gate_callee (f := 45) rfl ?_); refine goesL_ (some 53) rfl rfl Try.func45 (by kernel_rfl) rfl #[.pointer (some ⟨g150, 0, none⟩), .int .i64 4] rfl (by (try simp only [List.map_toArray, List.map_cons, List.map_nil]); first | done | rfl | (simp only [List.length_drop, List.length_take]; rfl)) ?_; (with_reducible refine (spec_reader_pick.calls kj7 g150 t148 t168 4 t175 t176 w _ ?side1 ?side2 A100.out).mono ?_); (case side1 => repeat (first | (with_reducible first | exact HI150.out | apply IsS65.alloc | apply IsS65.drewN | apply IsS65.drew | apply IsS65.set_1 | refine IsS65.far ?_ NB150_146.out _ | refine IsS65.far ?_ NB150_147.out _ | refine IsS65.far ?_ NB150_165.out _ | refine IsS65.far ?_ NB150_166.out _) | exact HI150.out)); (case side2 => repeat (first | (with_reducible first | exact HB.out | apply below_alloc | apply pw_below_drewN | apply below_drew1 | refine below_set ?_ (IsS65.ge HI150.out) | refine below_set ?_ GE146.out | refine below_set ?_ GE147.out | refine below_set ?_ GE165.out | refine below_set ?_ GE166.out) | exact HB.out)); rintro e w101 ⟨rfl, hi, hb, hk⟩; refine ⟨_, rfl, ?_⟩; have n0_ := Aside0.mk (KeepBut.blk hk (g' := gb146) (o := .cells #[.int .i64 0, .int .i64 0, .int .i64 0, .int .i64 0] 33 (0, 0)) (by (with_reducible repeat (first | refine blk_drewN ?_ _ | refine blk_drew ?_ | refine blk_alloc ?_ _)); exact BK146.out) NB146_150.out (by simp)); have n1_ := Aside0.mk (KeepBut.blk hk (g' := gb147) (o := .cells #[.int .i64 0, .int .i64 0, .int .i64 0, .int .i64 0] 33 (0, 0)) (by (with_reducible repeat (first | refine blk_drewN ?_ _ | refine blk_drew ?_ | refine blk_alloc ?_ _)); exact BK147.out) NB147_150.out (by simp)); have n2_ := Aside0.mk (KeepBut.blk hk (g' := gb165) (o := .cells #[.int .i64 t151, .int .i64 1, .int .i64 t156, .int .i64 t163] 33 (0, 0)) (by (with_reducible repeat (first | refine blk_drewN ?_ _ | refine blk_drew ?_ | refine blk_alloc ?_ _)); exact BK165.out) NB165_150.out (by simp)); have n3_ := Aside0.mk (KeepBut.blk hk (g' := gb166) (o := .cells #[.int .i64 t151, .int .i64 1, .int .i64 t156, .int .i64 t163] 33 (0, 0)) (by (with_reducible repeat (first | refine blk_drewN ?_ _ | refine blk_drew ?_ | refine blk_alloc ?_ _)); exact BK166.out) NB166_150.out (by simp)); have n4_ := Aside0.mk (hb); have n5_ := Aside0.mk (hi); clear BK146; clear BK147; clear BK165; clear BK166; clear HB; clear HI150; have BK146 := n0_; have BK147 := n1_; have BK165 := n2_; have BK166 := n3_; have HB := n4_; have HI150 := n5_; clear n0_ n1_ n2_ n3_ n4_ n5_; (try clear hb); (try clear hb2); (try clear hk); (try clear hi); have hnb102 := NB166_146.out; have hnc102 := NB146_166.out; have hnb103 := NB166_147.out; have hnc103 := NB147_166.out; have hnb104 := NB166_165.out; have hnc104 := NB165_166.out; have hnb105 := NB166_150.out; have hnc105 := NB150_166.out; have hcz106_0 : w101.cell? ⟨gb166, 0, none⟩ = some (.int .i64 t151) := (blk_cell BK166.out 0).trans rfl; have hcz106_1 : w101.cell? ⟨gb166, 1, none⟩ = some (.int .i64 1) := (blk_cell BK166.out 1).trans rfl; have hcz106_2 : w101.cell? ⟨gb166, 2, none⟩ = some (.int .i64 t156) := (blk_cell BK166.out 2).trans rfl; have hcz106_3 : w101.cell? ⟨gb166, 3, none⟩ = some (.int .i64 t163) := (blk_cell BK166.out 3).trans rfl; have hfz106_0 := blk_frozen BK166.out 0; have hfz106_1 := blk_frozen BK166.out 1; have hfz106_2 := blk_frozen BK166.out 2; have hfz106_3 := blk_frozen BK166.out 3))
            have n0_ : Aside0 ((w101.setCell ⟨gb166, 0, none⟩ (.int .i64 t175)).heap[gb146]? = some (.cells #[.int .i64 0, .int .i64 0, .int .i64 0, .int .i64 0] 33 (0, 0))) := ⟨by (with_reducible repeat (first | refine blk_drewN ?_ _ | refine blk_drew ?_ | refine blk_alloc ?_ _)); refine blk_far ?_ NB146_166.out _; (with_reducible repeat (first | refine blk_drewN ?_ _ | refine blk_drew ?_ | refine blk_alloc ?_ _)); exact BK146.out⟩
            have n1_ : Aside0 ((w101.setCell ⟨gb166, 0, none⟩ (.int .i64 t175)).heap[gb147]? = some (.cells #[.int .i64 0, .int .i64 0, .int .i64 0, .int .i64 0] 33 (0, 0))) := ⟨by (with_reducible repeat (first | refine blk_drewN ?_ _ | refine blk_drew ?_ | refine blk_alloc ?_ _)); refine blk_far ?_ NB147_166.out _; (with_reducible repeat (first | refine blk_drewN ?_ _ | refine blk_drew ?_ | refine blk_alloc ?_ _)); exact BK147.out⟩
            have n2_ : Aside0 ((w101.setCell ⟨gb166, 0, none⟩ (.int .i64 t175)).heap[gb165]? = some (.cells #[.int .i64 t151, .int .i64 1, .int .i64 t156, .int .i64 t163] 33 (0, 0))) := ⟨by (with_reducible repeat (first | refine blk_drewN ?_ _ | refine blk_drew ?_ | refine blk_alloc ?_ _)); refine blk_far ?_ NB165_166.out _; (with_reducible repeat (first | refine blk_drewN ?_ _ | refine blk_drew ?_ | refine blk_alloc ?_ _)); exact BK165.out⟩
            have n3_ : Aside0 ((w101.setCell ⟨gb166, 0, none⟩ (.int .i64 t175)).heap[gb166]? = some (.cells #[.int .i64 t175, .int .i64 1, .int .i64 t156, .int .i64 t163] 33 (0, 0))) := ⟨by (with_reducible repeat (first | refine blk_drewN ?_ _ | refine blk_drew ?_ | refine blk_alloc ?_ _)); refine blk_put (cs := #[.int .i64 t151, .int .i64 1, .int .i64 t156, .int .i64 t163]) ?_ 0 _ rfl; (with_reducible repeat (first | refine blk_drewN ?_ _ | refine blk_drew ?_ | refine blk_alloc ?_ _)); exact BK166.out⟩
            have n4_ : Aside0 (IsS65 w (w101.setCell ⟨gb166, 0, none⟩ (.int .i64 t175)) g150 t148 t176) := ⟨by repeat (first | (with_reducible first | exact HI150.out | apply IsS65.alloc | apply IsS65.drewN | apply IsS65.drew | apply IsS65.set_1 | refine IsS65.far ?_ NB150_146.out _ | refine IsS65.far ?_ NB150_147.out _ | refine IsS65.far ?_ NB150_165.out _ | refine IsS65.far ?_ NB150_166.out _) | exact HI150.out)⟩
            have n5_ : Aside0 (Below w.heap.size w (w101.setCell ⟨gb166, 0, none⟩ (.int .i64 t175))) := ⟨by repeat (first | (with_reducible first | exact HB.out | apply below_alloc | apply pw_below_drewN | apply below_drew1 | refine below_set ?_ (IsS65.ge HI150.out) | refine below_set ?_ GE146.out | refine below_set ?_ GE147.out | refine below_set ?_ GE165.out | refine below_set ?_ GE166.out) | exact HB.out)⟩
            (try clear BK146)
            (try clear BK147)
            (try clear BK165)
            (try clear BK166)
            (try clear HI150)
            (try clear HB)
            generalize (w101.setCell ⟨gb166, 0, none⟩ (.int .i64 t175)) = w107 at n0_ n1_ n2_ n3_ n4_ n5_ ⊢
            have BK146 := n0_
            have BK147 := n1_
            have BK165 := n2_
            have BK166 := n3_
            have HI150 := n4_
            have HB := n5_
            clear n0_ n1_ n2_ n3_ n4_ n5_
            have n0_ := Aside0.mk (blk_drew BK146.out)
            have n1_ := Aside0.mk (blk_drew BK147.out)
            have n2_ := Aside0.mk (blk_drew BK165.out)
            have n3_ := Aside0.mk (blk_drew BK166.out)
            have n4_ := Aside0.mk (IsS65.drew HI150.out)
            have n5_ := Aside0.mk (below_drew1 HB.out)
            clear BK146
            clear BK147
            clear BK165
            clear BK166
            clear HI150
            clear HB
            have BK146 := n0_
            have BK147 := n1_
            have BK165 := n2_
            have BK166 := n3_
            have HI150 := n4_
            have HB := n5_
            clear n0_ n1_ n2_ n3_ n4_ n5_
            refine start_ (n := 4) (S := fun w' => w'.cell? ⟨gb165, 0, none⟩ = some (.int .i64 t151) ∧ w'.cell? ⟨gb165, 1, none⟩ = some (.int .i64 1) ∧ w'.cell? ⟨gb165, 2, none⟩ = some (.int .i64 t156) ∧ w'.cell? ⟨gb165, 3, none⟩ = some (.int .i64 t163) ∧ w'.cell? ⟨gb166, 0, none⟩ = some (.int .i64 t175) ∧ w'.cell? ⟨gb166, 1, none⟩ = some (.int .i64 1) ∧ w'.cell? ⟨gb166, 2, none⟩ = some (.int .i64 t156) ∧ w'.cell? ⟨gb166, 3, none⟩ = some (.int .i64 t163)) (ds := []) #[false, false, false, false] (by kernel_rfl) rfl rfl ⟨(blk_cell BK165.out 0).trans rfl, (blk_cell BK165.out 1).trans rfl, (blk_cell BK165.out 2).trans rfl, (blk_cell BK165.out 3).trans rfl, (blk_cell BK166.out 0).trans rfl, (blk_cell BK166.out 1).trans rfl, (blk_cell BK166.out 2).trans rfl, (blk_cell BK166.out 3).trans rfl⟩ (fun hHeld => ?_)
            generalize w107.drew = w108 at BK146 BK147 BK165 BK166 HI150 HB hHeld ⊢
            refine take_ (i := 0) (N := some 61) (v := ?_) (a' := ?_) #[true, false, false, false] rfl rfl (by kernel_rfl) (fun _ _ _ h => h) (Or.inl ⟨by rfl, ?_⟩) hHeld ?_ ?_
            rotate_left
            · rintro w' ⟨s0, s1, s2, s3, s4, s5, s6, s7⟩
              go_simp
              with_reducible rfl
            rotate_left
            · simp only [Act.put, List.setIfInBounds_toArray, List.set_cons_zero, List.set_cons_succ, i64_w, i32_w]
              rfl
            refine take_ (i := 1) (N := some 62) (v := ?_) (a' := ?_) #[true, true, false, false] rfl rfl (by kernel_rfl) (fun _ _ _ h => h) (Or.inl ⟨by rfl, ?_⟩) hHeld ?_ ?_
            rotate_left
            · rintro w' ⟨s0, s1, s2, s3, s4, s5, s6, s7⟩
              go_simp
              with_reducible rfl
            rotate_left
            · simp only [Act.put, List.setIfInBounds_toArray, List.set_cons_zero, List.set_cons_succ, i64_w, i32_w]
              rfl
            refine one_ (i := 2) (N := none) #[true, true, true, false] rfl rfl (by kernel_rfl) (by decide) (fun K hK => ?_)
            have hs109 : w108.cell? ⟨gb146, 0, none⟩ = some (.int .i64 0) := (blk_cell BK146.out 0).trans rfl
            have hfs109 := blk_frozen BK146.out 0
            have hns109_1 := NB147_146.out
            have hns109_2 := NB165_146.out
            have hns109_3 := NB166_146.out
            have hms109_1 := NB146_147.out
            have hms109_2 := NB146_165.out
            have hms109_3 := NB146_166.out
            have hs110 : w108.cell? ⟨gb146, 1, none⟩ = some (.int .i64 0) := (blk_cell BK146.out 1).trans rfl
            have hfs110 := blk_frozen BK146.out 1
            have hns110_1 := NB147_146.out
            have hns110_2 := NB165_146.out
            have hns110_3 := NB166_146.out
            have hms110_1 := NB146_147.out
            have hms110_2 := NB146_165.out
            have hms110_3 := NB146_166.out
            have hs111 : w108.cell? ⟨gb146, 2, none⟩ = some (.int .i64 0) := (blk_cell BK146.out 2).trans rfl
            have hfs111 := blk_frozen BK146.out 2
            have hns111_1 := NB147_146.out
            have hns111_2 := NB165_146.out
            have hns111_3 := NB166_146.out
            have hms111_1 := NB146_147.out
            have hms111_2 := NB146_165.out
            have hms111_3 := NB146_166.out
            have hs112 : w108.cell? ⟨gb146, 3, none⟩ = some (.int .i64 0) := (blk_cell BK146.out 3).trans rfl
            have hfs112 := blk_frozen BK146.out 3
            have hns112_1 := NB147_146.out
            have hns112_2 := NB165_146.out
            have hns112_3 := NB166_146.out
            have hms112_1 := NB146_147.out
            have hms112_2 := NB146_165.out
            have hms112_3 := NB146_166.out
            refine skip_ (w1 := ?_) (by rfl) rfl ?_ ?_
            rotate_left
            · go_simp
              rfl
            refine hK.out _ _ ⟨((cell_far (p := ⟨gb146, _, none⟩) NB165_146.out _).trans (((cell_far (p := ⟨gb146, _, none⟩) NB165_146.out _).trans (((cell_far (p := ⟨gb146, _, none⟩) NB165_146.out _).trans (((cell_far (p := ⟨gb146, _, none⟩) NB165_146.out _).trans (hHeld.1)))))))), ((cell_far (p := ⟨gb146, _, none⟩) NB165_146.out _).trans (((cell_far (p := ⟨gb146, _, none⟩) NB165_146.out _).trans (((cell_far (p := ⟨gb146, _, none⟩) NB165_146.out _).trans (((cell_far (p := ⟨gb146, _, none⟩) NB165_146.out _).trans (hHeld.2.1)))))))), ((cell_far (p := ⟨gb146, _, none⟩) NB165_146.out _).trans (((cell_far (p := ⟨gb146, _, none⟩) NB165_146.out _).trans (((cell_far (p := ⟨gb146, _, none⟩) NB165_146.out _).trans (((cell_far (p := ⟨gb146, _, none⟩) NB165_146.out _).trans (hHeld.2.2.1)))))))), ((cell_far (p := ⟨gb146, _, none⟩) NB165_146.out _).trans (((cell_far (p := ⟨gb146, _, none⟩) NB165_146.out _).trans (((cell_far (p := ⟨gb146, _, none⟩) NB165_146.out _).trans (((cell_far (p := ⟨gb146, _, none⟩) NB165_146.out _).trans (hHeld.2.2.2.1)))))))), ((cell_far (p := ⟨gb146, _, none⟩) NB166_146.out _).trans (((cell_far (p := ⟨gb146, _, none⟩) NB166_146.out _).trans (((cell_far (p := ⟨gb146, _, none⟩) NB166_146.out _).trans (((cell_far (p := ⟨gb146, _, none⟩) NB166_146.out _).trans (hHeld.2.2.2.2.1)))))))), ((cell_far (p := ⟨gb146, _, none⟩) NB166_146.out _).trans (((cell_far (p := ⟨gb146, _, none⟩) NB166_146.out _).trans (((cell_far (p := ⟨gb146, _, none⟩) NB166_146.out _).trans (((cell_far (p := ⟨gb146, _, none⟩) NB166_146.out _).trans (hHeld.2.2.2.2.2.1)))))))), ((cell_far (p := ⟨gb146, _, none⟩) NB166_146.out _).trans (((cell_far (p := ⟨gb146, _, none⟩) NB166_146.out _).trans (((cell_far (p := ⟨gb146, _, none⟩) NB166_146.out _).trans (((cell_far (p := ⟨gb146, _, none⟩) NB166_146.out _).trans (hHeld.2.2.2.2.2.2.1)))))))), ((cell_far (p := ⟨gb146, _, none⟩) NB166_146.out _).trans (((cell_far (p := ⟨gb146, _, none⟩) NB166_146.out _).trans (((cell_far (p := ⟨gb146, _, none⟩) NB166_146.out _).trans (((cell_far (p := ⟨gb146, _, none⟩) NB166_146.out _).trans (hHeld.2.2.2.2.2.2.2))))))))⟩ (fun hHeld => ?_)
            clear hK K
            refine one_ (i := 3) (N := none) #[true, true, true, true] rfl rfl (by kernel_rfl) (by decide) (fun K hK => ?_)
            have hs113 : w108.cell? ⟨gb147, 0, none⟩ = some (.int .i64 0) := (blk_cell BK147.out 0).trans rfl
            have hfs113 := blk_frozen BK147.out 0
            have hns113_0 := NB146_147.out
            have hns113_2 := NB165_147.out
            have hns113_3 := NB166_147.out
            have hms113_0 := NB147_146.out
            have hms113_2 := NB147_165.out
            have hms113_3 := NB147_166.out
            have hs114 : w108.cell? ⟨gb147, 1, none⟩ = some (.int .i64 0) := (blk_cell BK147.out 1).trans rfl
            have hfs114 := blk_frozen BK147.out 1
            have hns114_0 := NB146_147.out
            have hns114_2 := NB165_147.out
            have hns114_3 := NB166_147.out
            have hms114_0 := NB147_146.out
            have hms114_2 := NB147_165.out
            have hms114_3 := NB147_166.out
            have hs115 : w108.cell? ⟨gb147, 2, none⟩ = some (.int .i64 0) := (blk_cell BK147.out 2).trans rfl
            have hfs115 := blk_frozen BK147.out 2
            have hns115_0 := NB146_147.out
            have hns115_2 := NB165_147.out
            have hns115_3 := NB166_147.out
            have hms115_0 := NB147_146.out
            have hms115_2 := NB147_165.out
            have hms115_3 := NB147_166.out
            have hs116 : w108.cell? ⟨gb147, 3, none⟩ = some (.int .i64 0) := (blk_cell BK147.out 3).trans rfl
            have hfs116 := blk_frozen BK147.out 3
            have hns116_0 := NB146_147.out
            have hns116_2 := NB165_147.out
            have hns116_3 := NB166_147.out
            have hms116_0 := NB147_146.out
            have hms116_2 := NB147_165.out
            have hms116_3 := NB147_166.out
            refine skip_ (w1 := ?_) (by rfl) rfl ?_ ?_
            rotate_left
            · go_simp
              rfl
            refine hK.out _ _ ⟨((cell_far (p := ⟨gb147, _, none⟩) NB165_147.out _).trans (((cell_far (p := ⟨gb147, _, none⟩) NB165_147.out _).trans (((cell_far (p := ⟨gb147, _, none⟩) NB165_147.out _).trans (((cell_far (p := ⟨gb147, _, none⟩) NB165_147.out _).trans (hHeld.1)))))))), ((cell_far (p := ⟨gb147, _, none⟩) NB165_147.out _).trans (((cell_far (p := ⟨gb147, _, none⟩) NB165_147.out _).trans (((cell_far (p := ⟨gb147, _, none⟩) NB165_147.out _).trans (((cell_far (p := ⟨gb147, _, none⟩) NB165_147.out _).trans (hHeld.2.1)))))))), ((cell_far (p := ⟨gb147, _, none⟩) NB165_147.out _).trans (((cell_far (p := ⟨gb147, _, none⟩) NB165_147.out _).trans (((cell_far (p := ⟨gb147, _, none⟩) NB165_147.out _).trans (((cell_far (p := ⟨gb147, _, none⟩) NB165_147.out _).trans (hHeld.2.2.1)))))))), ((cell_far (p := ⟨gb147, _, none⟩) NB165_147.out _).trans (((cell_far (p := ⟨gb147, _, none⟩) NB165_147.out _).trans (((cell_far (p := ⟨gb147, _, none⟩) NB165_147.out _).trans (((cell_far (p := ⟨gb147, _, none⟩) NB165_147.out _).trans (hHeld.2.2.2.1)))))))), ((cell_far (p := ⟨gb147, _, none⟩) NB166_147.out _).trans (((cell_far (p := ⟨gb147, _, none⟩) NB166_147.out _).trans (((cell_far (p := ⟨gb147, _, none⟩) NB166_147.out _).trans (((cell_far (p := ⟨gb147, _, none⟩) NB166_147.out _).trans (hHeld.2.2.2.2.1)))))))), ((cell_far (p := ⟨gb147, _, none⟩) NB166_147.out _).trans (((cell_far (p := ⟨gb147, _, none⟩) NB166_147.out _).trans (((cell_far (p := ⟨gb147, _, none⟩) NB166_147.out _).trans (((cell_far (p := ⟨gb147, _, none⟩) NB166_147.out _).trans (hHeld.2.2.2.2.2.1)))))))), ((cell_far (p := ⟨gb147, _, none⟩) NB166_147.out _).trans (((cell_far (p := ⟨gb147, _, none⟩) NB166_147.out _).trans (((cell_far (p := ⟨gb147, _, none⟩) NB166_147.out _).trans (((cell_far (p := ⟨gb147, _, none⟩) NB166_147.out _).trans (hHeld.2.2.2.2.2.2.1)))))))), ((cell_far (p := ⟨gb147, _, none⟩) NB166_147.out _).trans (((cell_far (p := ⟨gb147, _, none⟩) NB166_147.out _).trans (((cell_far (p := ⟨gb147, _, none⟩) NB166_147.out _).trans (((cell_far (p := ⟨gb147, _, none⟩) NB166_147.out _).trans (hHeld.2.2.2.2.2.2.2))))))))⟩ (fun hHeld => ?_)
            clear hK K
            refine done_ (by kernel_rfl) ?_
            try go_wp2
            refine bodyPost_ret (results_cc rfl _ _ gb146 gb147 33 33 #[.int .i64 t151, .int .i64 1, .int .i64 t156, .int .i64 t163] #[.int .i64 t175, .int .i64 1, .int .i64 t156, .int .i64 t163] (0, 0) (0, 0) _ _ rfl (by (with_reducible repeat (first | refine blk_drewN ?_ _ | refine blk_drew ?_ | refine blk_alloc ?_ _)); refine blk_far ?_ NB146_147.out _; (with_reducible repeat (first | refine blk_drewN ?_ _ | refine blk_drew ?_ | refine blk_alloc ?_ _)); refine blk_far ?_ NB146_147.out _; (with_reducible repeat (first | refine blk_drewN ?_ _ | refine blk_drew ?_ | refine blk_alloc ?_ _)); refine blk_far ?_ NB146_147.out _; (with_reducible repeat (first | refine blk_drewN ?_ _ | refine blk_drew ?_ | refine blk_alloc ?_ _)); refine blk_far ?_ NB146_147.out _; (with_reducible repeat (first | refine blk_drewN ?_ _ | refine blk_drew ?_ | refine blk_alloc ?_ _)); refine blk_put (cs := #[.int .i64 t151, .int .i64 1, .int .i64 t156, .int .i64 0]) ?_ 3 _ rfl; (with_reducible repeat (first | refine blk_drewN ?_ _ | refine blk_drew ?_ | refine blk_alloc ?_ _)); refine blk_put (cs := #[.int .i64 t151, .int .i64 1, .int .i64 0, .int .i64 0]) ?_ 2 _ rfl; (with_reducible repeat (first | refine blk_drewN ?_ _ | refine blk_drew ?_ | refine blk_alloc ?_ _)); refine blk_put (cs := #[.int .i64 t151, .int .i64 0, .int .i64 0, .int .i64 0]) ?_ 1 _ rfl; (with_reducible repeat (first | refine blk_drewN ?_ _ | refine blk_drew ?_ | refine blk_alloc ?_ _)); refine blk_put (cs := #[.int .i64 0, .int .i64 0, .int .i64 0, .int .i64 0]) ?_ 0 _ rfl; (with_reducible repeat (first | refine blk_drewN ?_ _ | refine blk_drew ?_ | refine blk_alloc ?_ _)); exact BK146.out) Try.underlying33 rfl (by kernel_rfl) rfl (by (with_reducible repeat (first | refine blk_drewN ?_ _ | refine blk_drew ?_ | refine blk_alloc ?_ _)); refine blk_put (cs := #[.int .i64 t175, .int .i64 1, .int .i64 t156, .int .i64 0]) ?_ 3 _ rfl; (with_reducible repeat (first | refine blk_drewN ?_ _ | refine blk_drew ?_ | refine blk_alloc ?_ _)); refine blk_put (cs := #[.int .i64 t175, .int .i64 1, .int .i64 0, .int .i64 0]) ?_ 2 _ rfl; (with_reducible repeat (first | refine blk_drewN ?_ _ | refine blk_drew ?_ | refine blk_alloc ?_ _)); refine blk_put (cs := #[.int .i64 t175, .int .i64 0, .int .i64 0, .int .i64 0]) ?_ 1 _ rfl; (with_reducible repeat (first | refine blk_drewN ?_ _ | refine blk_drew ?_ | refine blk_alloc ?_ _)); refine blk_put (cs := #[.int .i64 0, .int .i64 0, .int .i64 0, .int .i64 0]) ?_ 0 _ rfl; (with_reducible repeat (first | refine blk_drewN ?_ _ | refine blk_drew ?_ | refine blk_alloc ?_ _)); refine blk_far ?_ NB147_146.out _; (with_reducible repeat (first | refine blk_drewN ?_ _ | refine blk_drew ?_ | refine blk_alloc ?_ _)); refine blk_far ?_ NB147_146.out _; (with_reducible repeat (first | refine blk_drewN ?_ _ | refine blk_drew ?_ | refine blk_alloc ?_ _)); refine blk_far ?_ NB147_146.out _; (with_reducible repeat (first | refine blk_drewN ?_ _ | refine blk_drew ?_ | refine blk_alloc ?_ _)); refine blk_far ?_ NB147_146.out _; (with_reducible repeat (first | refine blk_drewN ?_ _ | refine blk_drew ?_ | refine blk_alloc ?_ _)); exact BK147.out) Try.underlying33 rfl (by kernel_rfl)) rfl ?_
            exact ⟨by first | rfl | (simp [errW_none, errW_some] <;> rfl) | (simp [*, errW_none, errW_some] <;> rfl), by repeat (first | (with_reducible first | exact HB.out | apply below_alloc | apply pw_below_drewN | apply below_drew1 | refine below_set ?_ (IsS65.ge HI150.out) | refine below_set ?_ GE146.out | refine below_set ?_ GE147.out | refine below_set ?_ GE165.out | refine below_set ?_ GE166.out) | exact HB.out)⟩
          · rw [if_neg c99] at H
            have c99b0 : (t167 == 3) = false := beq_eq_false_iff_ne.mpr c99
            have c99b1 : (t167 != 3) = true := bne_iff_ne.mpr c99
            by_cases c117 : t167 = 4
            · rw [if_pos c117] at H
              have c117b0 : (t167 == 4) = true := beq_iff_eq.mpr c117
              have c117b1 : (t167 != 4) = false := bne_eq_false_iff_eq.mpr c117
              clear c117
              obtain ⟨y177, hy177⟩ : ∃ y_ : List Int, y_ = (([2100, 5, 0] : List Int)) := ⟨_, rfl⟩
              replace H : ((spec_reader_one.f kj7 t148 t168 y177).bind fun bt180 => (some (t151, 1, t156, t163, t151, 1, t156, bt180.1))) = some (r1, r2, r3, r4, r5, r6, r7, r8) := by first | (rw [hy177]; with_reducible exact H) | (have H2_ := (Option.bind_some _ _).symm.trans H; rw [hy177]; with_reducible exact H2_) | (have H2_ := (Option.bind_some _ _).symm.trans H; with_reducible exact H2_) | with_reducible exact H | (rw [hy177]; exact H) | exact H
              have Ny177 := Aside0.mk hy177
              clear hy177
              replace H := Option.bind_eq_some_iff.mp H
              obtain ⟨⟨t180, t181⟩, A1180, H⟩ := H
              replace H : (some (t151, 1, t156, t163, t151, 1, t156, t180)) = some (r1, r2, r3, r4, r5, r6, r7, r8) := H
              have A118 := Aside0.mk A1180
              clear A1180
              simp only [Option.some.injEq, Prod.mk.injEq] at H
              obtain ⟨rfl, rfl, rfl, rfl, rfl, rfl, rfl, rfl⟩ := H
              try go_wp2_with (first | ((with_reducible refine gate_dst (N := 58) rfl ?_); refine Kd.R_lit (Kd.int .i64) _ 3 ?hg (N := 58) ?hd (xs := ([2100, 5, 0] : List Int)) (inner := [.int .i64 2100, .int .i64 5, .int .i64 0]) (ok := fun _ => True) (okp := fun _ => True) ?hr ?hp (fun _ hk => hk) trivial (Below.refl _ _) (Nat.le_refl _) (by simp) ?_; (case hd => rfl); (case hg => rfl); (case hr => first | (go_simp; done) | (go_simp; rfl)); (case hp => exact (Reps.one (show Kd.M (Kd.int .i64) _ _ _ 2100 [.int .i64 2100] from rfl) (Reps.one (show Kd.M (Kd.int .i64) _ _ _ 5 [.int .i64 5] from rfl) (Reps.one (show Kd.M (Kd.int .i64) _ _ _ 0 [.int .i64 0] from rfl) (Reps.none _ _))))); intro v178 w119 ho120 hb hg_ hnew_; clear hg_ hnew_; (first | rw [← Ny177.out] at ho120 | (simp only [Int.reduceToNat] at ho120; rw [← Ny177.out] at ho120)); have n0_ := Aside0.mk (Kd.R_lower ho120 (below_size (by repeat (first | (with_reducible first | exact HB.out | apply below_alloc | apply pw_below_drewN | apply below_drew1 | refine below_set ?_ (IsS65.ge HI150.out) | refine below_set ?_ GE146.out | refine below_set ?_ GE147.out | refine below_set ?_ GE165.out | refine below_set ?_ GE166.out) | exact HB.out)))); have n1_ := Aside0.mk (blk_below (g := gb146) (o := .cells #[.int .i64 0, .int .i64 0, .int .i64 0, .int .i64 0] 33 (0, 0)) (by (with_reducible repeat (first | refine blk_drewN ?_ _ | refine blk_drew ?_ | refine blk_alloc ?_ _)); exact BK146.out) hb); have n2_ := Aside0.mk (blk_below (g := gb147) (o := .cells #[.int .i64 0, .int .i64 0, .int .i64 0, .int .i64 0] 33 (0, 0)) (by (with_reducible repeat (first | refine blk_drewN ?_ _ | refine blk_drew ?_ | refine blk_alloc ?_ _)); exact BK147.out) hb); have n3_ := Aside0.mk (blk_below (g := gb165) (o := .cells #[.int .i64 t151, .int .i64 1, .int .i64 t156, .int .i64 t163] 33 (0, 0)) (by (with_reducible repeat (first | refine blk_drewN ?_ _ | refine blk_drew ?_ | refine blk_alloc ?_ _)); exact BK165.out) hb); have n4_ := Aside0.mk (blk_below (g := gb166) (o := .cells #[.int .i64 t151, .int .i64 1, .int .i64 t156, .int .i64 t163] 33 (0, 0)) (by (with_reducible repeat (first | refine blk_drewN ?_ _ | refine blk_drew ?_ | refine blk_alloc ?_ _)); exact BK166.out) hb); have n5_ := Aside0.mk (IsS65.below (by repeat (first | (with_reducible first | exact HI150.out | apply IsS65.alloc | apply IsS65.drewN | apply IsS65.drew | apply IsS65.set_1 | refine IsS65.far ?_ NB150_146.out _ | refine IsS65.far ?_ NB150_147.out _ | refine IsS65.far ?_ NB150_165.out _ | refine IsS65.far ?_ NB150_166.out _) | exact HI150.out)) hb); have n6_ := Aside0.mk (below_step (by repeat (first | (with_reducible first | exact HB.out | apply below_alloc | apply pw_below_drewN | apply below_drew1 | refine below_set ?_ (IsS65.ge HI150.out) | refine below_set ?_ GE146.out | refine below_set ?_ GE147.out | refine below_set ?_ GE165.out | refine below_set ?_ GE166.out) | exact HB.out)) hb); clear BK146; clear BK147; clear BK165; clear BK166; clear HI150; clear HB; have HO179 := n0_; have BK146 := n1_; have BK147 := n2_; have BK165 := n3_; have BK166 := n4_; have HI150 := n5_; have HB := n6_; clear n0_ n1_ n2_ n3_ n4_ n5_ n6_; clear hb ho120; obtain ⟨Ao121, co121, eo121⟩ := Kd.R_slice HO179.out; subst eo121) | ((with_reducible refine gate_callee (f := 38) rfl ?_); refine goesL_ (some 59) rfl rfl Try.func38 (by kernel_rfl) rfl #[.pointer (some ⟨g150, 0, none⟩), .slice Ao121 y177.length co121] rfl (by (try simp only [List.map_toArray, List.map_cons, List.map_nil]); first | done | rfl | (simp only [List.length_drop, List.length_take]; rfl)) ?_; (with_reducible refine (spec_reader_one.calls kj7 g150 t148 t168 _ _ y177 t180 t181 w _ ?side1 ?side2 ?side3 ?side4 ?side5 A118.out).mono ?_); (case side1 => repeat (first | (with_reducible first | exact HI150.out | apply IsS65.alloc | apply IsS65.drewN | apply IsS65.drew | apply IsS65.set_1 | refine IsS65.far ?_ NB150_146.out _ | refine IsS65.far ?_ NB150_147.out _ | refine IsS65.far ?_ NB150_165.out _ | refine IsS65.far ?_ NB150_166.out _) | exact HI150.out)); (case side2 => repeat (first | (with_reducible first | exact HB.out | apply below_alloc | apply pw_below_drewN | apply below_drew1 | refine below_set ?_ (IsS65.ge HI150.out) | refine below_set ?_ GE146.out | refine below_set ?_ GE147.out | refine below_set ?_ GE165.out | refine below_set ?_ GE166.out) | exact HB.out)); (case side3 => repeat (first | exact (Kd.R_reads' HO179.out).2.2 | (with_reducible refine Kd.C_alloc ?_ _) | (with_reducible refine Kd.C_drewN ?_ _) | (with_reducible refine Kd.C_drew ?_))); (case side4 => exact (Kd.R_reads' HO179.out).2.1); (case side5 => exact far_slice (IsS65.own_ne HI150.out HO179.out (by decide))); rintro e w122 ⟨rfl, hi, hb, hk⟩; refine ⟨_, rfl, ?_⟩; have n0_ := Aside0.mk (KeepBut.blk hk (g' := gb146) (o := .cells #[.int .i64 0, .int .i64 0, .int .i64 0, .int .i64 0] 33 (0, 0)) (by (with_reducible repeat (first | refine blk_drewN ?_ _ | refine blk_drew ?_ | refine blk_alloc ?_ _)); exact BK146.out) NB146_150.out (by simp)); have n1_ := Aside0.mk (KeepBut.blk hk (g' := gb147) (o := .cells #[.int .i64 0, .int .i64 0, .int .i64 0, .int .i64 0] 33 (0, 0)) (by (with_reducible repeat (first | refine blk_drewN ?_ _ | refine blk_drew ?_ | refine blk_alloc ?_ _)); exact BK147.out) NB147_150.out (by simp)); have n2_ := Aside0.mk (KeepBut.blk hk (g' := gb165) (o := .cells #[.int .i64 t151, .int .i64 1, .int .i64 t156, .int .i64 t163] 33 (0, 0)) (by (with_reducible repeat (first | refine blk_drewN ?_ _ | refine blk_drew ?_ | refine blk_alloc ?_ _)); exact BK165.out) NB165_150.out (by simp)); have n3_ := Aside0.mk (KeepBut.blk hk (g' := gb166) (o := .cells #[.int .i64 t151, .int .i64 1, .int .i64 t156, .int .i64 t163] 33 (0, 0)) (by (with_reducible repeat (first | refine blk_drewN ?_ _ | refine blk_drew ?_ | refine blk_alloc ?_ _)); exact BK166.out) NB166_150.out (by simp)); have n4_ := Aside0.mk (Kd.R_mono (Kd.R_keep (IsS65.apart (show IsS65 w _ g150 t148 t168 from by repeat (first | (with_reducible first | exact HI150.out | apply IsS65.alloc | apply IsS65.drewN | apply IsS65.drew | apply IsS65.set_1 | refine IsS65.far ?_ NB150_146.out _ | refine IsS65.far ?_ NB150_147.out _ | refine IsS65.far ?_ NB150_165.out _ | refine IsS65.far ?_ NB150_166.out _) | exact HI150.out)) (by (with_reducible repeat (first | apply Kd.R_alloc | apply Kd.R_drewN | apply Kd.R_drew)); exact HO179.out) (by decide)) hk (fun _ h => h.2)) (fun _ h => h.1)); have n5_ := Aside0.mk (hb); have n6_ := Aside0.mk (hi); clear BK146; clear BK147; clear BK165; clear BK166; clear HO179; clear HB; clear HI150; have BK146 := n0_; have BK147 := n1_; have BK165 := n2_; have BK166 := n3_; have HO179 := n4_; have HB := n5_; have HI150 := n6_; clear n0_ n1_ n2_ n3_ n4_ n5_ n6_; (try clear hb); (try clear hb2); (try clear hk); (try clear hi); have hnb123 := NB166_146.out; have hnc123 := NB146_166.out; have hnb124 := NB166_147.out; have hnc124 := NB147_166.out; have hnb125 := NB166_165.out; have hnc125 := NB165_166.out; have hnb126 := NB166_150.out; have hnc126 := NB150_166.out; have hcz127_0 : w122.cell? ⟨gb166, 0, none⟩ = some (.int .i64 t151) := (blk_cell BK166.out 0).trans rfl; have hcz127_1 : w122.cell? ⟨gb166, 1, none⟩ = some (.int .i64 1) := (blk_cell BK166.out 1).trans rfl; have hcz127_2 : w122.cell? ⟨gb166, 2, none⟩ = some (.int .i64 t156) := (blk_cell BK166.out 2).trans rfl; have hcz127_3 : w122.cell? ⟨gb166, 3, none⟩ = some (.int .i64 t163) := (blk_cell BK166.out 3).trans rfl; have hfz127_0 := blk_frozen BK166.out 0; have hfz127_1 := blk_frozen BK166.out 1; have hfz127_2 := blk_frozen BK166.out 2; have hfz127_3 := blk_frozen BK166.out 3))
              have n0_ : Aside0 (Kd.R (Kd.int .i64) 3 (w122.setCell ⟨gb166, 3, none⟩ (.int .i64 t180)) w.heap.size (fun _ => True) (.slice Ao121 y177.length co121) y177) := ⟨by (with_reducible repeat (first | apply Kd.R_alloc | apply Kd.R_drewN | apply Kd.R_drew)); exact Kd.R_mono (Kd.R_far (p := ⟨gb166, 3, none⟩) (Kd.R_types HO179.out BK166.out (by decide)) (fun _ hk => hk.2) (.int .i64 t180)) (fun _ hk => trivial)⟩
              have n1_ : Aside0 ((w122.setCell ⟨gb166, 3, none⟩ (.int .i64 t180)).heap[gb146]? = some (.cells #[.int .i64 0, .int .i64 0, .int .i64 0, .int .i64 0] 33 (0, 0))) := ⟨by (with_reducible repeat (first | refine blk_drewN ?_ _ | refine blk_drew ?_ | refine blk_alloc ?_ _)); refine blk_far ?_ NB146_166.out _; (with_reducible repeat (first | refine blk_drewN ?_ _ | refine blk_drew ?_ | refine blk_alloc ?_ _)); exact BK146.out⟩
              have n2_ : Aside0 ((w122.setCell ⟨gb166, 3, none⟩ (.int .i64 t180)).heap[gb147]? = some (.cells #[.int .i64 0, .int .i64 0, .int .i64 0, .int .i64 0] 33 (0, 0))) := ⟨by (with_reducible repeat (first | refine blk_drewN ?_ _ | refine blk_drew ?_ | refine blk_alloc ?_ _)); refine blk_far ?_ NB147_166.out _; (with_reducible repeat (first | refine blk_drewN ?_ _ | refine blk_drew ?_ | refine blk_alloc ?_ _)); exact BK147.out⟩
              have n3_ : Aside0 ((w122.setCell ⟨gb166, 3, none⟩ (.int .i64 t180)).heap[gb165]? = some (.cells #[.int .i64 t151, .int .i64 1, .int .i64 t156, .int .i64 t163] 33 (0, 0))) := ⟨by (with_reducible repeat (first | refine blk_drewN ?_ _ | refine blk_drew ?_ | refine blk_alloc ?_ _)); refine blk_far ?_ NB165_166.out _; (with_reducible repeat (first | refine blk_drewN ?_ _ | refine blk_drew ?_ | refine blk_alloc ?_ _)); exact BK165.out⟩
              have n4_ : Aside0 ((w122.setCell ⟨gb166, 3, none⟩ (.int .i64 t180)).heap[gb166]? = some (.cells #[.int .i64 t151, .int .i64 1, .int .i64 t156, .int .i64 t180] 33 (0, 0))) := ⟨by (with_reducible repeat (first | refine blk_drewN ?_ _ | refine blk_drew ?_ | refine blk_alloc ?_ _)); refine blk_put (cs := #[.int .i64 t151, .int .i64 1, .int .i64 t156, .int .i64 t163]) ?_ 3 _ rfl; (with_reducible repeat (first | refine blk_drewN ?_ _ | refine blk_drew ?_ | refine blk_alloc ?_ _)); exact BK166.out⟩
              have n5_ : Aside0 (IsS65 w (w122.setCell ⟨gb166, 3, none⟩ (.int .i64 t180)) g150 t148 t181) := ⟨by repeat (first | (with_reducible first | exact HI150.out | apply IsS65.alloc | apply IsS65.drewN | apply IsS65.drew | apply IsS65.set_1 | refine IsS65.far ?_ NB150_146.out _ | refine IsS65.far ?_ NB150_147.out _ | refine IsS65.far ?_ NB150_165.out _ | refine IsS65.far ?_ NB150_166.out _) | exact HI150.out)⟩
              have n6_ : Aside0 (Below w.heap.size w (w122.setCell ⟨gb166, 3, none⟩ (.int .i64 t180))) := ⟨by repeat (first | (with_reducible first | exact HB.out | apply below_alloc | apply pw_below_drewN | apply below_drew1 | refine below_set ?_ (IsS65.ge HI150.out) | refine below_set ?_ GE146.out | refine below_set ?_ GE147.out | refine below_set ?_ GE165.out | refine below_set ?_ GE166.out) | exact HB.out)⟩
              (try clear HO179)
              (try clear BK146)
              (try clear BK147)
              (try clear BK165)
              (try clear BK166)
              (try clear HI150)
              (try clear HB)
              generalize (w122.setCell ⟨gb166, 3, none⟩ (.int .i64 t180)) = w128 at n0_ n1_ n2_ n3_ n4_ n5_ n6_ ⊢
              have HO179 := n0_
              have BK146 := n1_
              have BK147 := n2_
              have BK165 := n3_
              have BK166 := n4_
              have HI150 := n5_
              have HB := n6_
              clear n0_ n1_ n2_ n3_ n4_ n5_ n6_
              have n0_ := Aside0.mk (Kd.R_drew HO179.out)
              have n1_ := Aside0.mk (blk_drew BK146.out)
              have n2_ := Aside0.mk (blk_drew BK147.out)
              have n3_ := Aside0.mk (blk_drew BK165.out)
              have n4_ := Aside0.mk (blk_drew BK166.out)
              have n5_ := Aside0.mk (IsS65.drew HI150.out)
              have n6_ := Aside0.mk (below_drew1 HB.out)
              clear HO179
              clear BK146
              clear BK147
              clear BK165
              clear BK166
              clear HI150
              clear HB
              have HO179 := n0_
              have BK146 := n1_
              have BK147 := n2_
              have BK165 := n3_
              have BK166 := n4_
              have HI150 := n5_
              have HB := n6_
              clear n0_ n1_ n2_ n3_ n4_ n5_ n6_
              refine start_ (n := 4) (S := fun w' => w'.cell? ⟨gb165, 0, none⟩ = some (.int .i64 t151) ∧ w'.cell? ⟨gb165, 1, none⟩ = some (.int .i64 1) ∧ w'.cell? ⟨gb165, 2, none⟩ = some (.int .i64 t156) ∧ w'.cell? ⟨gb165, 3, none⟩ = some (.int .i64 t163) ∧ w'.cell? ⟨gb166, 0, none⟩ = some (.int .i64 t151) ∧ w'.cell? ⟨gb166, 1, none⟩ = some (.int .i64 1) ∧ w'.cell? ⟨gb166, 2, none⟩ = some (.int .i64 t156) ∧ w'.cell? ⟨gb166, 3, none⟩ = some (.int .i64 t180)) (ds := []) #[false, false, false, false] (by kernel_rfl) rfl rfl ⟨(blk_cell BK165.out 0).trans rfl, (blk_cell BK165.out 1).trans rfl, (blk_cell BK165.out 2).trans rfl, (blk_cell BK165.out 3).trans rfl, (blk_cell BK166.out 0).trans rfl, (blk_cell BK166.out 1).trans rfl, (blk_cell BK166.out 2).trans rfl, (blk_cell BK166.out 3).trans rfl⟩ (fun hHeld => ?_)
              generalize w128.drew = w129 at HO179 BK146 BK147 BK165 BK166 HI150 HB hHeld ⊢
              refine take_ (i := 0) (N := some 61) (v := ?_) (a' := ?_) #[true, false, false, false] rfl rfl (by kernel_rfl) (fun _ _ _ h => h) (Or.inl ⟨by rfl, ?_⟩) hHeld ?_ ?_
              rotate_left
              · rintro w' ⟨s0, s1, s2, s3, s4, s5, s6, s7⟩
                go_simp
                with_reducible rfl
              rotate_left
              · simp only [Act.put, List.setIfInBounds_toArray, List.set_cons_zero, List.set_cons_succ, i64_w, i32_w]
                rfl
              refine take_ (i := 1) (N := some 62) (v := ?_) (a' := ?_) #[true, true, false, false] rfl rfl (by kernel_rfl) (fun _ _ _ h => h) (Or.inl ⟨by rfl, ?_⟩) hHeld ?_ ?_
              rotate_left
              · rintro w' ⟨s0, s1, s2, s3, s4, s5, s6, s7⟩
                go_simp
                with_reducible rfl
              rotate_left
              · simp only [Act.put, List.setIfInBounds_toArray, List.set_cons_zero, List.set_cons_succ, i64_w, i32_w]
                rfl
              refine one_ (i := 2) (N := none) #[true, true, true, false] rfl rfl (by kernel_rfl) (by decide) (fun K hK => ?_)
              have hs130 : w129.cell? ⟨gb146, 0, none⟩ = some (.int .i64 0) := (blk_cell BK146.out 0).trans rfl
              have hfs130 := blk_frozen BK146.out 0
              have hns130_1 := NB147_146.out
              have hns130_2 := NB165_146.out
              have hns130_3 := NB166_146.out
              have hms130_1 := NB146_147.out
              have hms130_2 := NB146_165.out
              have hms130_3 := NB146_166.out
              have hs131 : w129.cell? ⟨gb146, 1, none⟩ = some (.int .i64 0) := (blk_cell BK146.out 1).trans rfl
              have hfs131 := blk_frozen BK146.out 1
              have hns131_1 := NB147_146.out
              have hns131_2 := NB165_146.out
              have hns131_3 := NB166_146.out
              have hms131_1 := NB146_147.out
              have hms131_2 := NB146_165.out
              have hms131_3 := NB146_166.out
              have hs132 : w129.cell? ⟨gb146, 2, none⟩ = some (.int .i64 0) := (blk_cell BK146.out 2).trans rfl
              have hfs132 := blk_frozen BK146.out 2
              have hns132_1 := NB147_146.out
              have hns132_2 := NB165_146.out
              have hns132_3 := NB166_146.out
              have hms132_1 := NB146_147.out
              have hms132_2 := NB146_165.out
              have hms132_3 := NB146_166.out
              have hs133 : w129.cell? ⟨gb146, 3, none⟩ = some (.int .i64 0) := (blk_cell BK146.out 3).trans rfl
              have hfs133 := blk_frozen BK146.out 3
              have hns133_1 := NB147_146.out
              have hns133_2 := NB165_146.out
              have hns133_3 := NB166_146.out
              have hms133_1 := NB146_147.out
              have hms133_2 := NB146_165.out
              have hms133_3 := NB146_166.out
              refine skip_ (w1 := ?_) (by rfl) rfl ?_ ?_
              rotate_left
              · go_simp
                rfl
              refine hK.out _ _ ⟨((cell_far (p := ⟨gb146, _, none⟩) NB165_146.out _).trans (((cell_far (p := ⟨gb146, _, none⟩) NB165_146.out _).trans (((cell_far (p := ⟨gb146, _, none⟩) NB165_146.out _).trans (((cell_far (p := ⟨gb146, _, none⟩) NB165_146.out _).trans (hHeld.1)))))))), ((cell_far (p := ⟨gb146, _, none⟩) NB165_146.out _).trans (((cell_far (p := ⟨gb146, _, none⟩) NB165_146.out _).trans (((cell_far (p := ⟨gb146, _, none⟩) NB165_146.out _).trans (((cell_far (p := ⟨gb146, _, none⟩) NB165_146.out _).trans (hHeld.2.1)))))))), ((cell_far (p := ⟨gb146, _, none⟩) NB165_146.out _).trans (((cell_far (p := ⟨gb146, _, none⟩) NB165_146.out _).trans (((cell_far (p := ⟨gb146, _, none⟩) NB165_146.out _).trans (((cell_far (p := ⟨gb146, _, none⟩) NB165_146.out _).trans (hHeld.2.2.1)))))))), ((cell_far (p := ⟨gb146, _, none⟩) NB165_146.out _).trans (((cell_far (p := ⟨gb146, _, none⟩) NB165_146.out _).trans (((cell_far (p := ⟨gb146, _, none⟩) NB165_146.out _).trans (((cell_far (p := ⟨gb146, _, none⟩) NB165_146.out _).trans (hHeld.2.2.2.1)))))))), ((cell_far (p := ⟨gb146, _, none⟩) NB166_146.out _).trans (((cell_far (p := ⟨gb146, _, none⟩) NB166_146.out _).trans (((cell_far (p := ⟨gb146, _, none⟩) NB166_146.out _).trans (((cell_far (p := ⟨gb146, _, none⟩) NB166_146.out _).trans (hHeld.2.2.2.2.1)))))))), ((cell_far (p := ⟨gb146, _, none⟩) NB166_146.out _).trans (((cell_far (p := ⟨gb146, _, none⟩) NB166_146.out _).trans (((cell_far (p := ⟨gb146, _, none⟩) NB166_146.out _).trans (((cell_far (p := ⟨gb146, _, none⟩) NB166_146.out _).trans (hHeld.2.2.2.2.2.1)))))))), ((cell_far (p := ⟨gb146, _, none⟩) NB166_146.out _).trans (((cell_far (p := ⟨gb146, _, none⟩) NB166_146.out _).trans (((cell_far (p := ⟨gb146, _, none⟩) NB166_146.out _).trans (((cell_far (p := ⟨gb146, _, none⟩) NB166_146.out _).trans (hHeld.2.2.2.2.2.2.1)))))))), ((cell_far (p := ⟨gb146, _, none⟩) NB166_146.out _).trans (((cell_far (p := ⟨gb146, _, none⟩) NB166_146.out _).trans (((cell_far (p := ⟨gb146, _, none⟩) NB166_146.out _).trans (((cell_far (p := ⟨gb146, _, none⟩) NB166_146.out _).trans (hHeld.2.2.2.2.2.2.2))))))))⟩ (fun hHeld => ?_)
              clear hK K
              refine one_ (i := 3) (N := none) #[true, true, true, true] rfl rfl (by kernel_rfl) (by decide) (fun K hK => ?_)
              have hs134 : w129.cell? ⟨gb147, 0, none⟩ = some (.int .i64 0) := (blk_cell BK147.out 0).trans rfl
              have hfs134 := blk_frozen BK147.out 0
              have hns134_0 := NB146_147.out
              have hns134_2 := NB165_147.out
              have hns134_3 := NB166_147.out
              have hms134_0 := NB147_146.out
              have hms134_2 := NB147_165.out
              have hms134_3 := NB147_166.out
              have hs135 : w129.cell? ⟨gb147, 1, none⟩ = some (.int .i64 0) := (blk_cell BK147.out 1).trans rfl
              have hfs135 := blk_frozen BK147.out 1
              have hns135_0 := NB146_147.out
              have hns135_2 := NB165_147.out
              have hns135_3 := NB166_147.out
              have hms135_0 := NB147_146.out
              have hms135_2 := NB147_165.out
              have hms135_3 := NB147_166.out
              have hs136 : w129.cell? ⟨gb147, 2, none⟩ = some (.int .i64 0) := (blk_cell BK147.out 2).trans rfl
              have hfs136 := blk_frozen BK147.out 2
              have hns136_0 := NB146_147.out
              have hns136_2 := NB165_147.out
              have hns136_3 := NB166_147.out
              have hms136_0 := NB147_146.out
              have hms136_2 := NB147_165.out
              have hms136_3 := NB147_166.out
              have hs137 : w129.cell? ⟨gb147, 3, none⟩ = some (.int .i64 0) := (blk_cell BK147.out 3).trans rfl
              have hfs137 := blk_frozen BK147.out 3
              have hns137_0 := NB146_147.out
              have hns137_2 := NB165_147.out
              have hns137_3 := NB166_147.out
              have hms137_0 := NB147_146.out
              have hms137_2 := NB147_165.out
              have hms137_3 := NB147_166.out
              refine skip_ (w1 := ?_) (by rfl) rfl ?_ ?_
              rotate_left
              · go_simp
                rfl
              refine hK.out _ _ ⟨((cell_far (p := ⟨gb147, _, none⟩) NB165_147.out _).trans (((cell_far (p := ⟨gb147, _, none⟩) NB165_147.out _).trans (((cell_far (p := ⟨gb147, _, none⟩) NB165_147.out _).trans (((cell_far (p := ⟨gb147, _, none⟩) NB165_147.out _).trans (hHeld.1)))))))), ((cell_far (p := ⟨gb147, _, none⟩) NB165_147.out _).trans (((cell_far (p := ⟨gb147, _, none⟩) NB165_147.out _).trans (((cell_far (p := ⟨gb147, _, none⟩) NB165_147.out _).trans (((cell_far (p := ⟨gb147, _, none⟩) NB165_147.out _).trans (hHeld.2.1)))))))), ((cell_far (p := ⟨gb147, _, none⟩) NB165_147.out _).trans (((cell_far (p := ⟨gb147, _, none⟩) NB165_147.out _).trans (((cell_far (p := ⟨gb147, _, none⟩) NB165_147.out _).trans (((cell_far (p := ⟨gb147, _, none⟩) NB165_147.out _).trans (hHeld.2.2.1)))))))), ((cell_far (p := ⟨gb147, _, none⟩) NB165_147.out _).trans (((cell_far (p := ⟨gb147, _, none⟩) NB165_147.out _).trans (((cell_far (p := ⟨gb147, _, none⟩) NB165_147.out _).trans (((cell_far (p := ⟨gb147, _, none⟩) NB165_147.out _).trans (hHeld.2.2.2.1)))))))), ((cell_far (p := ⟨gb147, _, none⟩) NB166_147.out _).trans (((cell_far (p := ⟨gb147, _, none⟩) NB166_147.out _).trans (((cell_far (p := ⟨gb147, _, none⟩) NB166_147.out _).trans (((cell_far (p := ⟨gb147, _, none⟩) NB166_147.out _).trans (hHeld.2.2.2.2.1)))))))), ((cell_far (p := ⟨gb147, _, none⟩) NB166_147.out _).trans (((cell_far (p := ⟨gb147, _, none⟩) NB166_147.out _).trans (((cell_far (p := ⟨gb147, _, none⟩) NB166_147.out _).trans (((cell_far (p := ⟨gb147, _, none⟩) NB166_147.out _).trans (hHeld.2.2.2.2.2.1)))))))), ((cell_far (p := ⟨gb147, _, none⟩) NB166_147.out _).trans (((cell_far (p := ⟨gb147, _, none⟩) NB166_147.out _).trans (((cell_far (p := ⟨gb147, _, none⟩) NB166_147.out _).trans (((cell_far (p := ⟨gb147, _, none⟩) NB166_147.out _).trans (hHeld.2.2.2.2.2.2.1)))))))), ((cell_far (p := ⟨gb147, _, none⟩) NB166_147.out _).trans (((cell_far (p := ⟨gb147, _, none⟩) NB166_147.out _).trans (((cell_far (p := ⟨gb147, _, none⟩) NB166_147.out _).trans (((cell_far (p := ⟨gb147, _, none⟩) NB166_147.out _).trans (hHeld.2.2.2.2.2.2.2))))))))⟩ (fun hHeld => ?_)
              clear hK K
              refine done_ (by kernel_rfl) ?_
              try go_wp2
              refine bodyPost_ret (results_cc rfl _ _ gb146 gb147 33 33 #[.int .i64 t151, .int .i64 1, .int .i64 t156, .int .i64 t163] #[.int .i64 t151, .int .i64 1, .int .i64 t156, .int .i64 t180] (0, 0) (0, 0) _ _ rfl (by (with_reducible repeat (first | refine blk_drewN ?_ _ | refine blk_drew ?_ | refine blk_alloc ?_ _)); refine blk_far ?_ NB146_147.out _; (with_reducible repeat (first | refine blk_drewN ?_ _ | refine blk_drew ?_ | refine blk_alloc ?_ _)); refine blk_far ?_ NB146_147.out _; (with_reducible repeat (first | refine blk_drewN ?_ _ | refine blk_drew ?_ | refine blk_alloc ?_ _)); refine blk_far ?_ NB146_147.out _; (with_reducible repeat (first | refine blk_drewN ?_ _ | refine blk_drew ?_ | refine blk_alloc ?_ _)); refine blk_far ?_ NB146_147.out _; (with_reducible repeat (first | refine blk_drewN ?_ _ | refine blk_drew ?_ | refine blk_alloc ?_ _)); refine blk_put (cs := #[.int .i64 t151, .int .i64 1, .int .i64 t156, .int .i64 0]) ?_ 3 _ rfl; (with_reducible repeat (first | refine blk_drewN ?_ _ | refine blk_drew ?_ | refine blk_alloc ?_ _)); refine blk_put (cs := #[.int .i64 t151, .int .i64 1, .int .i64 0, .int .i64 0]) ?_ 2 _ rfl; (with_reducible repeat (first | refine blk_drewN ?_ _ | refine blk_drew ?_ | refine blk_alloc ?_ _)); refine blk_put (cs := #[.int .i64 t151, .int .i64 0, .int .i64 0, .int .i64 0]) ?_ 1 _ rfl; (with_reducible repeat (first | refine blk_drewN ?_ _ | refine blk_drew ?_ | refine blk_alloc ?_ _)); refine blk_put (cs := #[.int .i64 0, .int .i64 0, .int .i64 0, .int .i64 0]) ?_ 0 _ rfl; (with_reducible repeat (first | refine blk_drewN ?_ _ | refine blk_drew ?_ | refine blk_alloc ?_ _)); exact BK146.out) Try.underlying33 rfl (by kernel_rfl) rfl (by (with_reducible repeat (first | refine blk_drewN ?_ _ | refine blk_drew ?_ | refine blk_alloc ?_ _)); refine blk_put (cs := #[.int .i64 t151, .int .i64 1, .int .i64 t156, .int .i64 0]) ?_ 3 _ rfl; (with_reducible repeat (first | refine blk_drewN ?_ _ | refine blk_drew ?_ | refine blk_alloc ?_ _)); refine blk_put (cs := #[.int .i64 t151, .int .i64 1, .int .i64 0, .int .i64 0]) ?_ 2 _ rfl; (with_reducible repeat (first | refine blk_drewN ?_ _ | refine blk_drew ?_ | refine blk_alloc ?_ _)); refine blk_put (cs := #[.int .i64 t151, .int .i64 0, .int .i64 0, .int .i64 0]) ?_ 1 _ rfl; (with_reducible repeat (first | refine blk_drewN ?_ _ | refine blk_drew ?_ | refine blk_alloc ?_ _)); refine blk_put (cs := #[.int .i64 0, .int .i64 0, .int .i64 0, .int .i64 0]) ?_ 0 _ rfl; (with_reducible repeat (first | refine blk_drewN ?_ _ | refine blk_drew ?_ | refine blk_alloc ?_ _)); refine blk_far ?_ NB147_146.out _; (with_reducible repeat (first | refine blk_drewN ?_ _ | refine blk_drew ?_ | refine blk_alloc ?_ _)); refine blk_far ?_ NB147_146.out _; (with_reducible repeat (first | refine blk_drewN ?_ _ | refine blk_drew ?_ | refine blk_alloc ?_ _)); refine blk_far ?_ NB147_146.out _; (with_reducible repeat (first | refine blk_drewN ?_ _ | refine blk_drew ?_ | refine blk_alloc ?_ _)); refine blk_far ?_ NB147_146.out _; (with_reducible repeat (first | refine blk_drewN ?_ _ | refine blk_drew ?_ | refine blk_alloc ?_ _)); exact BK147.out) Try.underlying33 rfl (by kernel_rfl)) rfl ?_
              exact ⟨by first | rfl | (simp [errW_none, errW_some] <;> rfl) | (simp [*, errW_none, errW_some] <;> rfl), by repeat (first | (with_reducible first | exact HB.out | apply below_alloc | apply pw_below_drewN | apply below_drew1 | refine below_set ?_ (IsS65.ge HI150.out) | refine below_set ?_ GE146.out | refine below_set ?_ GE147.out | refine below_set ?_ GE165.out | refine below_set ?_ GE166.out) | exact HB.out)⟩
            · rw [if_neg c117] at H
              have c117b0 : (t167 == 4) = false := beq_eq_false_iff_ne.mpr c117
              have c117b1 : (t167 != 4) = true := bne_iff_ne.mpr c117
              simp only [Option.some.injEq, Prod.mk.injEq] at H
              obtain ⟨rfl, rfl, rfl, rfl, rfl, rfl, rfl, rfl⟩ := H
              try go_wp2
              have n0_ := Aside0.mk (blk_drew BK146.out)
              have n1_ := Aside0.mk (blk_drew BK147.out)
              have n2_ := Aside0.mk (blk_drew BK165.out)
              have n3_ := Aside0.mk (blk_drew BK166.out)
              have n4_ := Aside0.mk (IsS65.drew HI150.out)
              have n5_ := Aside0.mk (below_drew1 HB.out)
              clear BK146
              clear BK147
              clear BK165
              clear BK166
              clear HI150
              clear HB
              have BK146 := n0_
              have BK147 := n1_
              have BK165 := n2_
              have BK166 := n3_
              have HI150 := n4_
              have HB := n5_
              clear n0_ n1_ n2_ n3_ n4_ n5_
              refine start_ (n := 4) (S := fun w' => w'.cell? ⟨gb165, 0, none⟩ = some (.int .i64 t151) ∧ w'.cell? ⟨gb165, 1, none⟩ = some (.int .i64 1) ∧ w'.cell? ⟨gb165, 2, none⟩ = some (.int .i64 t156) ∧ w'.cell? ⟨gb165, 3, none⟩ = some (.int .i64 t163) ∧ w'.cell? ⟨gb166, 0, none⟩ = some (.int .i64 t151) ∧ w'.cell? ⟨gb166, 1, none⟩ = some (.int .i64 1) ∧ w'.cell? ⟨gb166, 2, none⟩ = some (.int .i64 t156) ∧ w'.cell? ⟨gb166, 3, none⟩ = some (.int .i64 t163)) (ds := []) #[false, false, false, false] (by kernel_rfl) rfl rfl ⟨(blk_cell BK165.out 0).trans rfl, (blk_cell BK165.out 1).trans rfl, (blk_cell BK165.out 2).trans rfl, (blk_cell BK165.out 3).trans rfl, (blk_cell BK166.out 0).trans rfl, (blk_cell BK166.out 1).trans rfl, (blk_cell BK166.out 2).trans rfl, (blk_cell BK166.out 3).trans rfl⟩ (fun hHeld => ?_)
              generalize wc.drew = w138 at BK146 BK147 BK165 BK166 HI150 HB hHeld ⊢
              refine take_ (i := 0) (N := some 61) (v := ?_) (a' := ?_) #[true, false, false, false] rfl rfl (by kernel_rfl) (fun _ _ _ h => h) (Or.inl ⟨by rfl, ?_⟩) hHeld ?_ ?_
              rotate_left
              · rintro w' ⟨s0, s1, s2, s3, s4, s5, s6, s7⟩
                go_simp
                with_reducible rfl
              rotate_left
              · simp only [Act.put, List.setIfInBounds_toArray, List.set_cons_zero, List.set_cons_succ, i64_w, i32_w]
                rfl
              refine take_ (i := 1) (N := some 62) (v := ?_) (a' := ?_) #[true, true, false, false] rfl rfl (by kernel_rfl) (fun _ _ _ h => h) (Or.inl ⟨by rfl, ?_⟩) hHeld ?_ ?_
              rotate_left
              · rintro w' ⟨s0, s1, s2, s3, s4, s5, s6, s7⟩
                go_simp
                with_reducible rfl
              rotate_left
              · simp only [Act.put, List.setIfInBounds_toArray, List.set_cons_zero, List.set_cons_succ, i64_w, i32_w]
                rfl
              refine one_ (i := 2) (N := none) #[true, true, true, false] rfl rfl (by kernel_rfl) (by decide) (fun K hK => ?_)
              have hs139 : w138.cell? ⟨gb146, 0, none⟩ = some (.int .i64 0) := (blk_cell BK146.out 0).trans rfl
              have hfs139 := blk_frozen BK146.out 0
              have hns139_1 := NB147_146.out
              have hns139_2 := NB165_146.out
              have hns139_3 := NB166_146.out
              have hms139_1 := NB146_147.out
              have hms139_2 := NB146_165.out
              have hms139_3 := NB146_166.out
              have hs140 : w138.cell? ⟨gb146, 1, none⟩ = some (.int .i64 0) := (blk_cell BK146.out 1).trans rfl
              have hfs140 := blk_frozen BK146.out 1
              have hns140_1 := NB147_146.out
              have hns140_2 := NB165_146.out
              have hns140_3 := NB166_146.out
              have hms140_1 := NB146_147.out
              have hms140_2 := NB146_165.out
              have hms140_3 := NB146_166.out
              have hs141 : w138.cell? ⟨gb146, 2, none⟩ = some (.int .i64 0) := (blk_cell BK146.out 2).trans rfl
              have hfs141 := blk_frozen BK146.out 2
              have hns141_1 := NB147_146.out
              have hns141_2 := NB165_146.out
              have hns141_3 := NB166_146.out
              have hms141_1 := NB146_147.out
              have hms141_2 := NB146_165.out
              have hms141_3 := NB146_166.out
              have hs142 : w138.cell? ⟨gb146, 3, none⟩ = some (.int .i64 0) := (blk_cell BK146.out 3).trans rfl
              have hfs142 := blk_frozen BK146.out 3
              have hns142_1 := NB147_146.out
              have hns142_2 := NB165_146.out
              have hns142_3 := NB166_146.out
              have hms142_1 := NB146_147.out
              have hms142_2 := NB146_165.out
              have hms142_3 := NB146_166.out
              refine skip_ (w1 := ?_) (by rfl) rfl ?_ ?_
              rotate_left
              · go_simp
                rfl
              refine hK.out _ _ ⟨((cell_far (p := ⟨gb146, _, none⟩) NB165_146.out _).trans (((cell_far (p := ⟨gb146, _, none⟩) NB165_146.out _).trans (((cell_far (p := ⟨gb146, _, none⟩) NB165_146.out _).trans (((cell_far (p := ⟨gb146, _, none⟩) NB165_146.out _).trans (hHeld.1)))))))), ((cell_far (p := ⟨gb146, _, none⟩) NB165_146.out _).trans (((cell_far (p := ⟨gb146, _, none⟩) NB165_146.out _).trans (((cell_far (p := ⟨gb146, _, none⟩) NB165_146.out _).trans (((cell_far (p := ⟨gb146, _, none⟩) NB165_146.out _).trans (hHeld.2.1)))))))), ((cell_far (p := ⟨gb146, _, none⟩) NB165_146.out _).trans (((cell_far (p := ⟨gb146, _, none⟩) NB165_146.out _).trans (((cell_far (p := ⟨gb146, _, none⟩) NB165_146.out _).trans (((cell_far (p := ⟨gb146, _, none⟩) NB165_146.out _).trans (hHeld.2.2.1)))))))), ((cell_far (p := ⟨gb146, _, none⟩) NB165_146.out _).trans (((cell_far (p := ⟨gb146, _, none⟩) NB165_146.out _).trans (((cell_far (p := ⟨gb146, _, none⟩) NB165_146.out _).trans (((cell_far (p := ⟨gb146, _, none⟩) NB165_146.out _).trans (hHeld.2.2.2.1)))))))), ((cell_far (p := ⟨gb146, _, none⟩) NB166_146.out _).trans (((cell_far (p := ⟨gb146, _, none⟩) NB166_146.out _).trans (((cell_far (p := ⟨gb146, _, none⟩) NB166_146.out _).trans (((cell_far (p := ⟨gb146, _, none⟩) NB166_146.out _).trans (hHeld.2.2.2.2.1)))))))), ((cell_far (p := ⟨gb146, _, none⟩) NB166_146.out _).trans (((cell_far (p := ⟨gb146, _, none⟩) NB166_146.out _).trans (((cell_far (p := ⟨gb146, _, none⟩) NB166_146.out _).trans (((cell_far (p := ⟨gb146, _, none⟩) NB166_146.out _).trans (hHeld.2.2.2.2.2.1)))))))), ((cell_far (p := ⟨gb146, _, none⟩) NB166_146.out _).trans (((cell_far (p := ⟨gb146, _, none⟩) NB166_146.out _).trans (((cell_far (p := ⟨gb146, _, none⟩) NB166_146.out _).trans (((cell_far (p := ⟨gb146, _, none⟩) NB166_146.out _).trans (hHeld.2.2.2.2.2.2.1)))))))), ((cell_far (p := ⟨gb146, _, none⟩) NB166_146.out _).trans (((cell_far (p := ⟨gb146, _, none⟩) NB166_146.out _).trans (((cell_far (p := ⟨gb146, _, none⟩) NB166_146.out _).trans (((cell_far (p := ⟨gb146, _, none⟩) NB166_146.out _).trans (hHeld.2.2.2.2.2.2.2))))))))⟩ (fun hHeld => ?_)
              clear hK K
              refine one_ (i := 3) (N := none) #[true, true, true, true] rfl rfl (by kernel_rfl) (by decide) (fun K hK => ?_)
              have hs143 : w138.cell? ⟨gb147, 0, none⟩ = some (.int .i64 0) := (blk_cell BK147.out 0).trans rfl
              have hfs143 := blk_frozen BK147.out 0
              have hns143_0 := NB146_147.out
              have hns143_2 := NB165_147.out
              have hns143_3 := NB166_147.out
              have hms143_0 := NB147_146.out
              have hms143_2 := NB147_165.out
              have hms143_3 := NB147_166.out
              have hs144 : w138.cell? ⟨gb147, 1, none⟩ = some (.int .i64 0) := (blk_cell BK147.out 1).trans rfl
              have hfs144 := blk_frozen BK147.out 1
              have hns144_0 := NB146_147.out
              have hns144_2 := NB165_147.out
              have hns144_3 := NB166_147.out
              have hms144_0 := NB147_146.out
              have hms144_2 := NB147_165.out
              have hms144_3 := NB147_166.out
              have hs145 : w138.cell? ⟨gb147, 2, none⟩ = some (.int .i64 0) := (blk_cell BK147.out 2).trans rfl
              have hfs145 := blk_frozen BK147.out 2
              have hns145_0 := NB146_147.out
              have hns145_2 := NB165_147.out
              have hns145_3 := NB166_147.out
              have hms145_0 := NB147_146.out
              have hms145_2 := NB147_165.out
              have hms145_3 := NB147_166.out
              have hs146 : w138.cell? ⟨gb147, 3, none⟩ = some (.int .i64 0) := (blk_cell BK147.out 3).trans rfl
              have hfs146 := blk_frozen BK147.out 3
              have hns146_0 := NB146_147.out
              have hns146_2 := NB165_147.out
              have hns146_3 := NB166_147.out
              have hms146_0 := NB147_146.out
              have hms146_2 := NB147_165.out
              have hms146_3 := NB147_166.out
              refine skip_ (w1 := ?_) (by rfl) rfl ?_ ?_
              rotate_left
              · go_simp
                rfl
              refine hK.out _ _ ⟨((cell_far (p := ⟨gb147, _, none⟩) NB165_147.out _).trans (((cell_far (p := ⟨gb147, _, none⟩) NB165_147.out _).trans (((cell_far (p := ⟨gb147, _, none⟩) NB165_147.out _).trans (((cell_far (p := ⟨gb147, _, none⟩) NB165_147.out _).trans (hHeld.1)))))))), ((cell_far (p := ⟨gb147, _, none⟩) NB165_147.out _).trans (((cell_far (p := ⟨gb147, _, none⟩) NB165_147.out _).trans (((cell_far (p := ⟨gb147, _, none⟩) NB165_147.out _).trans (((cell_far (p := ⟨gb147, _, none⟩) NB165_147.out _).trans (hHeld.2.1)))))))), ((cell_far (p := ⟨gb147, _, none⟩) NB165_147.out _).trans (((cell_far (p := ⟨gb147, _, none⟩) NB165_147.out _).trans (((cell_far (p := ⟨gb147, _, none⟩) NB165_147.out _).trans (((cell_far (p := ⟨gb147, _, none⟩) NB165_147.out _).trans (hHeld.2.2.1)))))))), ((cell_far (p := ⟨gb147, _, none⟩) NB165_147.out _).trans (((cell_far (p := ⟨gb147, _, none⟩) NB165_147.out _).trans (((cell_far (p := ⟨gb147, _, none⟩) NB165_147.out _).trans (((cell_far (p := ⟨gb147, _, none⟩) NB165_147.out _).trans (hHeld.2.2.2.1)))))))), ((cell_far (p := ⟨gb147, _, none⟩) NB166_147.out _).trans (((cell_far (p := ⟨gb147, _, none⟩) NB166_147.out _).trans (((cell_far (p := ⟨gb147, _, none⟩) NB166_147.out _).trans (((cell_far (p := ⟨gb147, _, none⟩) NB166_147.out _).trans (hHeld.2.2.2.2.1)))))))), ((cell_far (p := ⟨gb147, _, none⟩) NB166_147.out _).trans (((cell_far (p := ⟨gb147, _, none⟩) NB166_147.out _).trans (((cell_far (p := ⟨gb147, _, none⟩) NB166_147.out _).trans (((cell_far (p := ⟨gb147, _, none⟩) NB166_147.out _).trans (hHeld.2.2.2.2.2.1)))))))), ((cell_far (p := ⟨gb147, _, none⟩) NB166_147.out _).trans (((cell_far (p := ⟨gb147, _, none⟩) NB166_147.out _).trans (((cell_far (p := ⟨gb147, _, none⟩) NB166_147.out _).trans (((cell_far (p := ⟨gb147, _, none⟩) NB166_147.out _).trans (hHeld.2.2.2.2.2.2.1)))))))), ((cell_far (p := ⟨gb147, _, none⟩) NB166_147.out _).trans (((cell_far (p := ⟨gb147, _, none⟩) NB166_147.out _).trans (((cell_far (p := ⟨gb147, _, none⟩) NB166_147.out _).trans (((cell_far (p := ⟨gb147, _, none⟩) NB166_147.out _).trans (hHeld.2.2.2.2.2.2.2))))))))⟩ (fun hHeld => ?_)
              clear hK K
              refine done_ (by kernel_rfl) ?_
              try go_wp2
              refine bodyPost_ret (results_cc rfl _ _ gb146 gb147 33 33 #[.int .i64 t151, .int .i64 1, .int .i64 t156, .int .i64 t163] #[.int .i64 t151, .int .i64 1, .int .i64 t156, .int .i64 t163] (0, 0) (0, 0) _ _ rfl (by (with_reducible repeat (first | refine blk_drewN ?_ _ | refine blk_drew ?_ | refine blk_alloc ?_ _)); refine blk_far ?_ NB146_147.out _; (with_reducible repeat (first | refine blk_drewN ?_ _ | refine blk_drew ?_ | refine blk_alloc ?_ _)); refine blk_far ?_ NB146_147.out _; (with_reducible repeat (first | refine blk_drewN ?_ _ | refine blk_drew ?_ | refine blk_alloc ?_ _)); refine blk_far ?_ NB146_147.out _; (with_reducible repeat (first | refine blk_drewN ?_ _ | refine blk_drew ?_ | refine blk_alloc ?_ _)); refine blk_far ?_ NB146_147.out _; (with_reducible repeat (first | refine blk_drewN ?_ _ | refine blk_drew ?_ | refine blk_alloc ?_ _)); refine blk_put (cs := #[.int .i64 t151, .int .i64 1, .int .i64 t156, .int .i64 0]) ?_ 3 _ rfl; (with_reducible repeat (first | refine blk_drewN ?_ _ | refine blk_drew ?_ | refine blk_alloc ?_ _)); refine blk_put (cs := #[.int .i64 t151, .int .i64 1, .int .i64 0, .int .i64 0]) ?_ 2 _ rfl; (with_reducible repeat (first | refine blk_drewN ?_ _ | refine blk_drew ?_ | refine blk_alloc ?_ _)); refine blk_put (cs := #[.int .i64 t151, .int .i64 0, .int .i64 0, .int .i64 0]) ?_ 1 _ rfl; (with_reducible repeat (first | refine blk_drewN ?_ _ | refine blk_drew ?_ | refine blk_alloc ?_ _)); refine blk_put (cs := #[.int .i64 0, .int .i64 0, .int .i64 0, .int .i64 0]) ?_ 0 _ rfl; (with_reducible repeat (first | refine blk_drewN ?_ _ | refine blk_drew ?_ | refine blk_alloc ?_ _)); exact BK146.out) Try.underlying33 rfl (by kernel_rfl) rfl (by (with_reducible repeat (first | refine blk_drewN ?_ _ | refine blk_drew ?_ | refine blk_alloc ?_ _)); refine blk_put (cs := #[.int .i64 t151, .int .i64 1, .int .i64 t156, .int .i64 0]) ?_ 3 _ rfl; (with_reducible repeat (first | refine blk_drewN ?_ _ | refine blk_drew ?_ | refine blk_alloc ?_ _)); refine blk_put (cs := #[.int .i64 t151, .int .i64 1, .int .i64 0, .int .i64 0]) ?_ 2 _ rfl; (with_reducible repeat (first | refine blk_drewN ?_ _ | refine blk_drew ?_ | refine blk_alloc ?_ _)); refine blk_put (cs := #[.int .i64 t151, .int .i64 0, .int .i64 0, .int .i64 0]) ?_ 1 _ rfl; (with_reducible repeat (first | refine blk_drewN ?_ _ | refine blk_drew ?_ | refine blk_alloc ?_ _)); refine blk_put (cs := #[.int .i64 0, .int .i64 0, .int .i64 0, .int .i64 0]) ?_ 0 _ rfl; (with_reducible repeat (first | refine blk_drewN ?_ _ | refine blk_drew ?_ | refine blk_alloc ?_ _)); refine blk_far ?_ NB147_146.out _; (with_reducible repeat (first | refine blk_drewN ?_ _ | refine blk_drew ?_ | refine blk_alloc ?_ _)); refine blk_far ?_ NB147_146.out _; (with_reducible repeat (first | refine blk_drewN ?_ _ | refine blk_drew ?_ | refine blk_alloc ?_ _)); refine blk_far ?_ NB147_146.out _; (with_reducible repeat (first | refine blk_drewN ?_ _ | refine blk_drew ?_ | refine blk_alloc ?_ _)); refine blk_far ?_ NB147_146.out _; (with_reducible repeat (first | refine blk_drewN ?_ _ | refine blk_drew ?_ | refine blk_alloc ?_ _)); exact BK147.out) Try.underlying33 rfl (by kernel_rfl)) rfl ?_
              exact ⟨by first | rfl | (simp [errW_none, errW_some] <;> rfl) | (simp [*, errW_none, errW_some] <;> rfl), by repeat (first | (with_reducible first | exact HB.out | apply below_alloc | apply pw_below_drewN | apply below_drew1 | refine below_set ?_ (IsS65.ge HI150.out) | refine below_set ?_ GE146.out | refine below_set ?_ GE147.out | refine below_set ?_ GE165.out | refine below_set ?_ GE166.out) | exact HB.out)⟩

end Go.Proofs.Ytgapjelooefofaa.PFnMistakeOf

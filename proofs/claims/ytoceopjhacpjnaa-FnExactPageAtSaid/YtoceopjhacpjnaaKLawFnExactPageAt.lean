/- FnExactPageAt: for all arguments the law answers true, and they read behind the call as they read before. No condition. -/
import Derived.Test.YtoceopjhacpjnaaKLawFnExactPageAtp22
import Derived.Test.YtoceopjhacpjnaaKLawFnExactPageAtp24
import Derived.Test.YtoceopjhacpjnaaKLawFnExactPageAtp23
import Derived.Test.YtoceopjhacpjnaaKLawFnExactPageAtp0
import Derived.WalkKit
import Derived.ProofKit
import Derived.OpenShut
import Derived.ShutString
import Derived.ChangeOld
import Derived.Below
import Derived.SizedLaws
import Derived.Deep.Slices
import Derived.Lib.SmallJoins
import Derived.Test.YtoceopjhacpjnaaKLawFnExactPageAtp11
import Derived.Lib.Bytealg
import Derived.Test.YtoceopjhacpjnaaKLawFnExactPageAtp12
import Derived.Test.YtoceopjhacpjnaaRows
import Derived.Carry
section
namespace Go.Proofs.Ytoceopjhacpjnaa.Q
open Go.RowKit Go.Proofs.YtoceopjhacpjnaaW.PrintWords Go.Proofs.YtoceopjhacpjnaaW.PrintLast Go.Proofs.YtoceopjhacpjnaaW.PrintMore
attribute [local go_sem] max2_int min2_int max_two min_two max_three min_three max_four min_four max2_str min2_str str_geq str_gtr str_leq   -- for this text's walks alone
set_option linter.unusedVariables false
set_option linter.unusedSimpArgs false

/-! ### impl_Tree_pageOf: function 73 -/
def impl_Tree_pageOf.l0 : Nat → Int → List (S76) → Int → Int → ByteArray → Int → Option (Int)
 | 0, _, _, _, _, _, _ => none
 | k + 1, x5, x9, x10, x11, x378000, x378001 => if x11 < x10 then (if 0 ≤ x11 then (if x11 < (x9.length : Int) then (if (((rd_T76 x9 x11).f1).length : Int) > 0 then (if 0 < (((rd_T76 x9 x11).f1).length : Int) then ((impl_compareEntries.f k ((rd_T52 ((rd_T76 x9 x11).f1) 0).f0) ((rd_T52 ((rd_T76 x9 x11).f1) 0).f1) x378000 x378001).bind fun t381 => (if t381 ≤ 0 then (impl_Tree_pageOf.l0 k x11 x9 x10 (wrap64 (x11 + 1)) x378000 x378001) else (impl_Tree_pageOf.l0 k x5 x9 x10 (wrap64 (x11 + 1)) x378000 x378001))) else (none)) else (impl_Tree_pageOf.l0 k x5 x9 x10 (wrap64 (x11 + 1)) x378000 x378001)) else (none)) else (none)) else (some x5)
def impl_Tree_pageOf.f (k : Nat) (l0_0 : List (S76)) (a0_1 : Int) (a1_0 : ByteArray) (a1_1 : Int) : Option (Int) := impl_Tree_pageOf.l0 k 0 l0_0 (l0_0.length : Int) 0 a1_0 a1_1
theorem impl_Tree_pageOf.mono_l : ∀ k, (∀ y0 y1 y2 y3 y4 y5, LeO (impl_Tree_pageOf.l0 k y0 y1 y2 y3 y4 y5) (impl_Tree_pageOf.l0 (k + 1) y0 y1 y2 y3 y4 y5))
 | 0 => fun _ _ _ _ _ _ r h => by simp [impl_Tree_pageOf.l0] at h
 | k + 1 => by
  have ih0 := impl_Tree_pageOf.mono_l k
  ·
   intro y0 y1 y2 y3 y4 y5
   unfold impl_Tree_pageOf.l0
   repeat' first
   | (with_reducible exact ih0 _ _ _ _ _ _)
   | (with_reducible exact impl_compareEntries.mono _ _ _ _ _)
   | (with_reducible exact LeO.refl _)
   | (with_reducible exact LeO.none _)
   | (with_reducible refine LeO.ite ?_ ?_)
   | (with_reducible refine LeO.bind ?_ (fun _ => ?_))
   | exact ih0 _ _ _ _ _ _
   | exact impl_compareEntries.mono _ _ _ _ _
   | exact LeO.none _
   | refine LeO.ite ?_ ?_
   | refine LeO.bind ?_ (fun _ => ?_)
theorem impl_Tree_pageOf.mono : ∀ a0 a1 a2 a3 k, LeO (impl_Tree_pageOf.f k a0 a1 a2 a3) (impl_Tree_pageOf.f (k + 1) a0 a1 a2 a3) := by
 intro a0 a1 a2 a3 k
 have ih0 := impl_Tree_pageOf.mono_l k
 unfold impl_Tree_pageOf.f
 repeat' first
   | (with_reducible exact ih0 _ _ _ _ _ _)
   | (with_reducible exact impl_compareEntries.mono _ _ _ _ _)
   | (with_reducible exact LeO.refl _)
   | (with_reducible exact LeO.none _)
   | (with_reducible refine LeO.ite ?_ ?_)
   | (with_reducible refine LeO.bind ?_ (fun _ => ?_))
   | exact ih0 _ _ _ _ _ _
   | exact impl_compareEntries.mono _ _ _ _ _
   | exact LeO.none _
   | refine LeO.ite ?_ ?_
   | refine LeO.bind ?_ (fun _ => ?_)
def impl_Tree_pageOf.T5 : Bool × List (List Nat × List Nat) := (true, [([], []), ([0], [0]), ([1], [1]), ([2], [2]), ([3], [3]), ([4], [4]), ([5, 4], [4, 5]), ([6, 4], [4, 6]), ([7, 4], [4, 7]), ([4], [4]), ([8, 9, 4, 4], [4, 8, 9]), ([10, 4], [4, 10]), ([4, 11], [4, 11])])
def impl_Tree_pageOf.B5 : List Nat := [0, 1, 3, 7, 15, 31, 63, 127, 255, 31, 1023, 2047, 4095]
theorem impl_Tree_pageOf.tab5 : rtab .any (opsOf Try.f73 5) = impl_Tree_pageOf.T5 := by kernel_rfl
theorem impl_Tree_pageOf.bits5 : waitsOk impl_Tree_pageOf.T5.2 impl_Tree_pageOf.B5 = true := by kernel_rfl
set_option maxHeartbeats 8000000 in
set_option maxRecDepth 100000 in
theorem impl_Tree_pageOf.calls (k : Nat) (A0_0 : Option Addr) (c0_0 : Nat) (l0_0 : List (S76)) (a0_1 : Int) (a1_0 : ByteArray) (a1_1 : Int) (r : Int) (w : World) (hr0_0 : Kd.C k76 w A0_0 l0_0.length l0_0) (hc0_0 : l0_0.length ≤ c0_0) (h : impl_Tree_pageOf.f k l0_0 a0_1 a1_0 a1_1 = some r) :
  Calls Try.prog 73 #[.agg #[.slice A0_0 l0_0.length c0_0, .int .i64 a0_1], .agg #[.string a1_0, .int .i64 a1_1]] w fun e w' => e = .returned (.int .i64 r) ∧ Below w.heap.size w w' := by
 have hu34 := Try.underlying34
 have hu52 := Try.underlying52
 have hu76 := Try.underlying76
 have HR0_0 := Aside0.mk hr0_0
 have HC0_0 := Aside0.mk hc0_0
 clear hr0_0 hc0_0
 have HB := Aside0.mk (Below.refl w.heap.size w)
 have H : (impl_Tree_pageOf.l0 k 0 l0_0 (l0_0.length : Int) 0 a1_0 a1_1) = some r := h
 clear h
 have H' := Aside0.mk H
 clear H
 go_enter Try.func73, Try.ntmps73
 go_wp2_with (first | ((with_reducible refine gate_dst (N := 2) rfl ?_); refine box_event ?hg (N := 2) ?hd (cs := #[.slice A0_0 l0_0.length c0_0, .int .i64 a0_1]) (t := 34) ?hr ?_; (case hd => rfl); (case hg => rfl); (case hr => first | (go_simp; done) | (go_simp; rfl)); intro gb376 hg w3 hbox hb; have n0_ := Aside0.mk (below_step (by repeat (first | (with_reducible first | exact HB.out | apply below_alloc | apply pw_below_drewN | apply below_drew1) | exact HB.out)) hb); have n1_ := Aside0.mk (hbox); have n2_ := Aside0.mk ((by rw [hg]; exact (below_size (by repeat (first | (with_reducible first | exact HB.out | apply below_alloc | apply pw_below_drewN | apply below_drew1) | exact HB.out))) : w.heap.size ≤ gb376)); have n3_ := Aside0.mk ((by rw [hg]; exact (below_size (by repeat (first | (with_reducible first | exact HB.out | apply below_alloc | apply pw_below_drewN | apply below_drew1) | exact HB.out))) : w.heap.size ≤ gb376)); clear HB; have HB := n0_; have BK376 := n1_; have GW376 := n2_; have GE376 := n3_; clear n0_ n1_ n2_ n3_; clear hb hbox hg) | ((with_reducible refine gate_dst (N := 3) rfl ?_); refine box_event ?hg (N := 3) ?hd (cs := #[.string a1_0, .int .i64 a1_1]) (t := 52) ?hr ?_; (case hd => rfl); (case hg => rfl); (case hr => first | (go_simp; done) | (go_simp; rfl)); intro gb377 hg w4 hbox hb; have n0_ := Aside0.mk (blk_below (g := gb376) (o := .cells #[.slice A0_0 l0_0.length c0_0, .int .i64 a0_1] 34 (0, 0)) (by (with_reducible repeat (first | refine blk_drewN ?_ _ | refine blk_drew ?_ | refine blk_alloc ?_ _)); exact BK376.out) hb); have n1_ := Aside0.mk (below_step (by repeat (first | (with_reducible first | exact HB.out | apply below_alloc | apply pw_below_drewN | apply below_drew1 | refine below_set ?_ GE376.out) | exact HB.out)) hb); have n2_ := Aside0.mk (hbox); have n3_ := Aside0.mk ((by rw [hg]; exact (below_size (by repeat (first | (with_reducible first | exact HB.out | apply below_alloc | apply pw_below_drewN | apply below_drew1 | refine below_set ?_ GE376.out) | exact HB.out))) : w.heap.size ≤ gb377)); have n4_ := Aside0.mk ((by rw [hg]; exact (below_size (by repeat (first | (with_reducible first | exact HB.out | apply below_alloc | apply pw_below_drewN | apply below_drew1 | refine below_set ?_ GE376.out) | exact HB.out))) : w.heap.size ≤ gb377)); have n5_ := Aside0.mk ((by rw [hg]; exact Nat.ne_of_lt (blk_lt (g := gb376) (o := .cells #[.slice A0_0 l0_0.length c0_0, .int .i64 a0_1] 34 (0, 0)) (by (with_reducible repeat (first | refine blk_drewN ?_ _ | refine blk_drew ?_ | refine blk_alloc ?_ _)); exact BK376.out)) : gb376 ≠ gb377)); have n6_ := Aside0.mk ((by rw [hg]; exact Nat.ne_of_gt (blk_lt (g := gb376) (o := .cells #[.slice A0_0 l0_0.length c0_0, .int .i64 a0_1] 34 (0, 0)) (by (with_reducible repeat (first | refine blk_drewN ?_ _ | refine blk_drew ?_ | refine blk_alloc ?_ _)); exact BK376.out)) : gb377 ≠ gb376)); clear BK376; clear HB; have BK376 := n0_; have HB := n1_; have BK377 := n2_; have GW377 := n3_; have GE377 := n4_; have NB376_377 := n5_; have NB377_376 := n6_; clear n0_ n1_ n2_ n3_ n4_ n5_ n6_; clear hb hbox hg; have hnb5 := NB376_377.out; have hnc5 := NB377_376.out; have hcz6_0 : w4.cell? ⟨gb376, 0, none⟩ = some (.slice A0_0 l0_0.length c0_0) := (blk_cell BK376.out 0).trans rfl; have hcz6_1 : w4.cell? ⟨gb376, 1, none⟩ = some (.int .i64 a0_1) := (blk_cell BK376.out 1).trans rfl; have hfz6_0 := blk_frozen BK376.out 0; have hfz6_1 := blk_frozen BK376.out 1))
 go_loopg [5, 11] k (fun kq v5 v11 w' => ∃ (x5_1 : Int) (x11_1 : Int), v5 = .int .i64 x5_1 ∧ v11 = .int .i64 x11_1 ∧ Aside0 (impl_Tree_pageOf.l0 kq x5_1 l0_0 (l0_0.length : Int) x11_1 a1_0 a1_1 = some r) ∧ Aside0 (kq ≤ k) ∧ Aside0 (w'.heap[gb376]? = some (.cells #[(.slice A0_0 l0_0.length c0_0), .int .i64 a0_1] 34 (0, 0))) ∧ Aside0 (w'.heap[gb377]? = some (.cells #[.string a1_0, .int .i64 a1_1] 52 (0, 0))) ∧ Aside0 (Below w.heap.size w w'))
 case atStart => exact ⟨(0), (0), (by first | rfl | (simp; done) | (simp [*]; done)), (by first | rfl | (simp; done) | (simp [*]; done)), H', ⟨Nat.le_refl _⟩, ⟨by (with_reducible repeat (first | refine blk_drewN ?_ _ | refine blk_drew ?_ | refine blk_alloc ?_ _)); exact BK376.out⟩, ⟨by (with_reducible repeat (first | refine blk_drewN ?_ _ | refine blk_drew ?_ | refine blk_alloc ?_ _)); exact BK377.out⟩, ⟨by repeat (first | (with_reducible first | exact HB.out | apply below_alloc | apply pw_below_drewN | apply below_drew1 | refine below_set ?_ GE376.out | refine below_set ?_ GE377.out) | exact HB.out)⟩⟩
 case round =>
  clear H'
  try clear p2
  try clear c5
  try clear hcz6_0
  try clear hcz6_1
  try clear hfz6_0
  try clear hfz6_1
  obtain ⟨x5_1, x11_1, rfl, rfl, HA, HK1, BK376, BK377, HB⟩ := hrel
  cases gk with
  | zero => exact absurd HA.out (by simp [impl_Tree_pageOf.l0])
  | succ k1 =>
   have H := HA.out
   clear HA
   simp only [impl_Tree_pageOf.l0] at H
   by_cases c7 : x11_1 < (l0_0.length : Int)
   ·
    rw [if_pos c7] at H
    have c7b0 : decide (x11_1 < (l0_0.length : Int)) = true := decide_eq_true c7
    clear c7
    by_cases c8 : 0 ≤ x11_1
    ·
     rw [if_pos c8] at H
     have c8b0 : decide (0 ≤ x11_1) = true := decide_eq_true c8
     clear c8
     by_cases c9 : x11_1 < (l0_0.length : Int)
     ·
      rw [if_pos c9] at H
      have c9b0 : decide (x11_1 < (l0_0.length : Int)) = true := decide_eq_true c9
      clear c9
      by_cases c10 : (((rd_T76 l0_0 x11_1).f1).length : Int) > 0
      ·
       rw [if_pos c10] at H
       have c10b0 : decide (0 < (((rd_T76 l0_0 x11_1).f1).length : Int)) = true := decide_eq_true c10
       have c10b1 : decide (0 < ((rd_T76 l0_0 x11_1).f1).length) = true := decide_eq_true (by omega)
       clear c10
       by_cases c11 : 0 < (((rd_T76 l0_0 x11_1).f1).length : Int)
       ·
        rw [if_pos c11] at H
        have c11b0 : decide (0 < (((rd_T76 l0_0 x11_1).f1).length : Int)) = true := decide_eq_true c11
        have c11b1 : decide (0 < ((rd_T76 l0_0 x11_1).f1).length) = true := decide_eq_true (by omega)
        clear c11
        replace H := Option.bind_eq_some_iff.mp H
        obtain ⟨t381, A120, H⟩ := H
        replace H : (if t381 ≤ 0 then (impl_Tree_pageOf.l0 k1 x11_1 l0_0 (l0_0.length : Int) (wrap64 (x11_1 + 1)) a1_0 a1_1) else (impl_Tree_pageOf.l0 k1 x5_1 l0_0 (l0_0.length : Int) (wrap64 (x11_1 + 1)) a1_0 a1_1)) = some r := H
        have A12 := Aside0.mk A120
        clear A120
        by_cases c13 : t381 ≤ 0
        ·
         rw [if_pos c13] at H
         have c13b0 : decide (t381 ≤ 0) = true := decide_eq_true c13
         clear c13
         have H' := Aside0.mk H
         clear H
         have p378 : 0 ≤ (x11_1 : Int) := of_decide_eq_true (by first | (with_reducible assumption) | assumption)
         have q378 : x11_1 < (l0_0.length : Int) := of_decide_eq_true (by first | (with_reducible assumption) | assumption)
         obtain ⟨ad378, A378_1, c378_1, e378, hx378_0, hx378_1, hl378_1, hi378_1⟩ := at_T76 HR0_0.out x11_1 p378 q378
         cases e378
         replace hx378_0 := (HB.out.cell (World.block_lt_of_cell? w _ hx378_0)).trans hx378_0
         replace hx378_1 := (HB.out.cell (World.block_lt_of_cell? w _ hx378_1)).trans hx378_1
         have HR378_1 := Aside0.mk hi378_1
         have HC378_1 := Aside0.mk hl378_1
         clear hi378_1 hl378_1
         replace p378 := eq_true p378
         replace q378 := eq_true q378
         try go_wp2_with (first | ((with_reducible refine gate_dst (N := 7) rfl ?_); refine box_event ?hg (N := 7) ?hd (cs := #[.int .i64 0, .slice none 0 0]) (t := 76) ?hr ?_; (case hd => rfl); (case hg => rfl); (case hr => first | (go_simp; done) | (go_simp; rfl)); intro gb379 hg w14 hbox hb; have n0_ := Aside0.mk (blk_below (g := gb376) (o := .cells #[.slice (some ad378) l0_0.length c0_0, .int .i64 a0_1] 34 (0, 0)) (by (with_reducible repeat (first | refine blk_drewN ?_ _ | refine blk_drew ?_ | refine blk_alloc ?_ _)); exact BK376.out) hb); have n1_ := Aside0.mk (blk_below (g := gb377) (o := .cells #[.string a1_0, .int .i64 a1_1] 52 (0, 0)) (by (with_reducible repeat (first | refine blk_drewN ?_ _ | refine blk_drew ?_ | refine blk_alloc ?_ _)); exact BK377.out) hb); have n2_ := Aside0.mk (below_step (by repeat (first | (with_reducible first | exact HB.out | apply below_alloc | apply pw_below_drewN | apply below_drew1 | refine below_set ?_ GE376.out | refine below_set ?_ GE377.out) | exact HB.out)) hb); have n3_ := Aside0.mk (hbox); have n4_ := Aside0.mk ((by rw [hg]; exact (below_size (by repeat (first | (with_reducible first | exact HB.out | apply below_alloc | apply pw_below_drewN | apply below_drew1 | refine below_set ?_ GE376.out | refine below_set ?_ GE377.out) | exact HB.out))) : w.heap.size ≤ gb379)); have n5_ := Aside0.mk ((by rw [hg]; exact (below_size (by repeat (first | (with_reducible first | exact HB.out | apply below_alloc | apply pw_below_drewN | apply below_drew1 | refine below_set ?_ GE376.out | refine below_set ?_ GE377.out) | exact HB.out))) : w.heap.size ≤ gb379)); have n6_ := Aside0.mk ((by rw [hg]; exact Nat.ne_of_lt (blk_lt (g := gb376) (o := .cells #[.slice (some ad378) l0_0.length c0_0, .int .i64 a0_1] 34 (0, 0)) (by (with_reducible repeat (first | refine blk_drewN ?_ _ | refine blk_drew ?_ | refine blk_alloc ?_ _)); exact BK376.out)) : gb376 ≠ gb379)); have n7_ := Aside0.mk ((by rw [hg]; exact Nat.ne_of_gt (blk_lt (g := gb376) (o := .cells #[.slice (some ad378) l0_0.length c0_0, .int .i64 a0_1] 34 (0, 0)) (by (with_reducible repeat (first | refine blk_drewN ?_ _ | refine blk_drew ?_ | refine blk_alloc ?_ _)); exact BK376.out)) : gb379 ≠ gb376)); have n8_ := Aside0.mk ((by rw [hg]; exact Nat.ne_of_lt (blk_lt (g := gb377) (o := .cells #[.string a1_0, .int .i64 a1_1] 52 (0, 0)) (by (with_reducible repeat (first | refine blk_drewN ?_ _ | refine blk_drew ?_ | refine blk_alloc ?_ _)); exact BK377.out)) : gb377 ≠ gb379)); have n9_ := Aside0.mk ((by rw [hg]; exact Nat.ne_of_gt (blk_lt (g := gb377) (o := .cells #[.string a1_0, .int .i64 a1_1] 52 (0, 0)) (by (with_reducible repeat (first | refine blk_drewN ?_ _ | refine blk_drew ?_ | refine blk_alloc ?_ _)); exact BK377.out)) : gb379 ≠ gb377)); clear BK376; clear BK377; clear HB; have BK376 := n0_; have BK377 := n1_; have HB := n2_; have BK379 := n3_; have GW379 := n4_; have GE379 := n5_; have NB376_379 := n6_; have NB379_376 := n7_; have NB377_379 := n8_; have NB379_377 := n9_; clear n0_ n1_ n2_ n3_ n4_ n5_ n6_ n7_ n8_ n9_; clear hb hbox hg; have hnb15 := NB379_376.out; have hnc15 := NB376_379.out; have hnb16 := NB379_377.out; have hnc16 := NB377_379.out; have hcz17_0 : w14.cell? ⟨gb379, 0, none⟩ = some (.int .i64 0) := (blk_cell BK379.out 0).trans rfl; have hcz17_1 : w14.cell? ⟨gb379, 1, none⟩ = some (.slice none 0 0) := (blk_cell BK379.out 1).trans rfl; have hfz17_0 := blk_frozen BK379.out 0; have hfz17_1 := blk_frozen BK379.out 1))
         have n0_ : Aside0 (((w14.setCell ⟨gb379, 0, none⟩ (.int .i64 ((rd_T76 l0_0 x11_1).f0))).setCell ⟨gb379, 1, none⟩ (.slice A378_1 ((rd_T76 l0_0 x11_1).f1).length c378_1)).heap[gb376]? = some (.cells #[.slice (some ad378) l0_0.length c0_0, .int .i64 a0_1] 34 (0, 0))) := ⟨by (with_reducible repeat (first | refine blk_drewN ?_ _ | refine blk_drew ?_ | refine blk_alloc ?_ _)); refine blk_far ?_ NB376_379.out _; (with_reducible repeat (first | refine blk_drewN ?_ _ | refine blk_drew ?_ | refine blk_alloc ?_ _)); refine blk_far ?_ NB376_379.out _; (with_reducible repeat (first | refine blk_drewN ?_ _ | refine blk_drew ?_ | refine blk_alloc ?_ _)); exact BK376.out⟩
         have n1_ : Aside0 (((w14.setCell ⟨gb379, 0, none⟩ (.int .i64 ((rd_T76 l0_0 x11_1).f0))).setCell ⟨gb379, 1, none⟩ (.slice A378_1 ((rd_T76 l0_0 x11_1).f1).length c378_1)).heap[gb377]? = some (.cells #[.string a1_0, .int .i64 a1_1] 52 (0, 0))) := ⟨by (with_reducible repeat (first | refine blk_drewN ?_ _ | refine blk_drew ?_ | refine blk_alloc ?_ _)); refine blk_far ?_ NB377_379.out _; (with_reducible repeat (first | refine blk_drewN ?_ _ | refine blk_drew ?_ | refine blk_alloc ?_ _)); refine blk_far ?_ NB377_379.out _; (with_reducible repeat (first | refine blk_drewN ?_ _ | refine blk_drew ?_ | refine blk_alloc ?_ _)); exact BK377.out⟩
         have n2_ : Aside0 (((w14.setCell ⟨gb379, 0, none⟩ (.int .i64 ((rd_T76 l0_0 x11_1).f0))).setCell ⟨gb379, 1, none⟩ (.slice A378_1 ((rd_T76 l0_0 x11_1).f1).length c378_1)).heap[gb379]? = some (.cells #[.int .i64 ((rd_T76 l0_0 x11_1).f0), .slice A378_1 ((rd_T76 l0_0 x11_1).f1).length c378_1] 76 (0, 0))) := ⟨by (with_reducible repeat (first | refine blk_drewN ?_ _ | refine blk_drew ?_ | refine blk_alloc ?_ _)); refine blk_put (cs := #[.int .i64 ((rd_T76 l0_0 x11_1).f0), .slice none 0 0]) ?_ 1 _ rfl; (with_reducible repeat (first | refine blk_drewN ?_ _ | refine blk_drew ?_ | refine blk_alloc ?_ _)); refine blk_put (cs := #[.int .i64 0, .slice none 0 0]) ?_ 0 _ rfl; (with_reducible repeat (first | refine blk_drewN ?_ _ | refine blk_drew ?_ | refine blk_alloc ?_ _)); exact BK379.out⟩
         have n3_ : Aside0 (Below w.heap.size w ((w14.setCell ⟨gb379, 0, none⟩ (.int .i64 ((rd_T76 l0_0 x11_1).f0))).setCell ⟨gb379, 1, none⟩ (.slice A378_1 ((rd_T76 l0_0 x11_1).f1).length c378_1))) := ⟨by repeat (first | (with_reducible first | exact HB.out | apply below_alloc | apply pw_below_drewN | apply below_drew1 | refine below_set ?_ GE376.out | refine below_set ?_ GE377.out | refine below_set ?_ GE379.out) | exact HB.out)⟩
         (try clear BK376)
         (try clear BK377)
         (try clear BK379)
         (try clear HB)
         generalize ((w14.setCell ⟨gb379, 0, none⟩ (.int .i64 ((rd_T76 l0_0 x11_1).f0))).setCell ⟨gb379, 1, none⟩ (.slice A378_1 ((rd_T76 l0_0 x11_1).f1).length c378_1)) = w18 at n0_ n1_ n2_ n3_ ⊢
         have BK376 := n0_
         have BK377 := n1_
         have BK379 := n2_
         have HB := n3_
         clear n0_ n1_ n2_ n3_
         have n0_ := Aside0.mk (blk_drew BK376.out)
         have n1_ := Aside0.mk (blk_drew BK377.out)
         have n2_ := Aside0.mk (blk_drew BK379.out)
         have n3_ := Aside0.mk (below_drew1 HB.out)
         clear BK376
         clear BK377
         clear BK379
         clear HB
         have BK376 := n0_
         have BK377 := n1_
         have BK379 := n2_
         have HB := n3_
         clear n0_ n1_ n2_ n3_
         have p380 : 0 ≤ (0 : Int) := (by omega)
         have q380 : 0 < (((rd_T76 l0_0 x11_1).f1).length : Int) := of_decide_eq_true (by first | (with_reducible assumption) | assumption)
         obtain ⟨ad380, e380, hx380_0, hx380_1⟩ := at_T52 HR378_1.out 0 p380 q380
         have hw380_1 := hx380_1
         (try rw [show ((0 : Int)).toNat = 0 from rfl] at hw380_1)
         (try rw [show 0 * 2 = 0 from rfl] at hw380_1)
         (try rw [Addr.add_zero'] at hw380_1)
         have hw380_0 := hx380_0
         (try rw [show ((0 : Int)).toNat = 0 from rfl] at hw380_0)
         (try rw [show 0 * 2 = 0 from rfl] at hw380_0)
         (try rw [Addr.add_zero'] at hw380_0)
         cases e380
         have qi380 : (0 < ((rd_T76 l0_0 x11_1).f1).length) = True := eq_true (by omega)
         (try rw [show ((0 : Int)).toNat = 0 from rfl] at hx380_0)
         (try rw [show 0 * 2 = 0 from rfl] at hx380_0)
         (try rw [Addr.add_zero'] at hx380_0)
         (try rw [show ((0 : Int)).toNat = 0 from rfl] at hx380_1)
         (try rw [show 0 * 2 = 0 from rfl] at hx380_1)
         (try rw [Addr.add_zero'] at hx380_1)
         replace hx380_0 := (HB.out.cell (World.block_lt_of_cell? w _ hx380_0)).trans hx380_0
         replace hx380_1 := (HB.out.cell (World.block_lt_of_cell? w _ hx380_1)).trans hx380_1
         replace p380 := eq_true p380
         replace q380 := eq_true q380
         refine start_ (n := 13) (S := fun w' => w'.cell? ⟨gb379, 0, none⟩ = some (.int .i64 ((rd_T76 l0_0 x11_1).f0)) ∧ w'.cell? ⟨gb379, 1, none⟩ = some (.slice (some ad380) ((rd_T76 l0_0 x11_1).f1).length c378_1) ∧ w'.cell? ⟨gb377, 0, none⟩ = some (.string a1_0) ∧ w'.cell? ⟨gb377, 1, none⟩ = some (.int .i64 a1_1) ∧ w'.cell? ad380 = some (.string ((rd_T52 ((rd_T76 l0_0 x11_1).f1) 0).f0)) ∧ w'.cell? ⟨ad380.block, ad380.off + 1, none⟩ = some (.int .i64 ((rd_T52 ((rd_T76 l0_0 x11_1).f1) 0).f1))) (ds := []) #[false, false, false, false, false, false, false, false, false, false, false, false, false] (by kernel_rfl) rfl rfl ⟨(blk_cell BK379.out 0).trans rfl, (blk_cell BK379.out 1).trans rfl, (blk_cell BK377.out 0).trans rfl, (blk_cell BK377.out 1).trans rfl, ((HB.out.cell (World.block_lt_of_cell? w _ hw380_0)).trans hw380_0), ((HB.out.cell (World.block_lt_of_cell? w _ hw380_1)).trans hw380_1)⟩ (fun hHeld => ?_); refine with_tabW impl_Tree_pageOf.tab5 impl_Tree_pageOf.bits5 (fun HT_ HW_ => ?_)
         generalize w18.drew = w19 at BK376 BK377 BK379 HB hx380_0 hx380_1 hHeld ⊢
         refine pure_ (i := 0) (N := some 16) (v := ?_) (a' := ?_) #[true, false, false, false, false, false, false, false, false, false, false, false, false] rfl rfl (any_of HT_.out (by kernel_rfl)) (fun _ _ _ h => h) (Or.inl ⟨by rfl, ?_⟩) ?_ ?_
         rotate_left
         ·
          intro w'
          go_simp
          with_reducible rfl
         rotate_left
         ·
          simp only [Act.put, List.setIfInBounds_toArray, List.set_cons_zero, List.set_cons_succ, i64_w, i32_w]
          rfl
         refine take_ (i := 1) (N := some 17) (v := ?_) (a' := ?_) #[true, true, false, false, false, false, false, false, false, false, false, false, false] rfl rfl (take_ofW HT_.out HW_.out (by kernel_rfl)) (fun _ _ _ h => h) (Or.inl ⟨by rfl, ?_⟩) hHeld ?_ ?_
         rotate_left
         ·
          rintro w' ⟨s0, s1, s2, s3, s4, s5⟩
          go_simp
          with_reducible rfl
         rotate_left
         ·
          simp only [Act.put, List.setIfInBounds_toArray, List.set_cons_zero, List.set_cons_succ, i64_w, i32_w]
          rfl
         refine pure_ (i := 2) (N := some 18) (v := ?_) (a' := ?_) #[true, true, true, false, false, false, false, false, false, false, false, false, false] rfl rfl (any_of HT_.out (by kernel_rfl)) (fun _ _ _ h => h) (Or.inl ⟨by rfl, ?_⟩) ?_ ?_
         rotate_left
         ·
          intro w'
          go_simp
          with_reducible rfl
         rotate_left
         ·
          simp only [Act.put, List.setIfInBounds_toArray, List.set_cons_zero, List.set_cons_succ, i64_w, i32_w]
          rfl
         refine pure_ (i := 3) (N := some 19) (v := ?_) (a' := ?_) #[true, true, true, true, false, false, false, false, false, false, false, false, false] rfl rfl (any_of HT_.out (by kernel_rfl)) (fun _ _ _ h => h) (Or.inl ⟨by rfl, ?_⟩) ?_ ?_
         rotate_left
         ·
          intro w'
          go_simp
          with_reducible rfl
         rotate_left
         ·
          simp only [Act.put, List.setIfInBounds_toArray, List.set_cons_zero, List.set_cons_succ, i64_w, i32_w]
          rfl
         refine pure_ (i := 4) (N := some 20) (v := ?_) (a' := ?_) #[true, true, true, true, true, false, false, false, false, false, false, false, false] rfl rfl (any_of HT_.out (by kernel_rfl)) (fun _ _ _ h => h) (Or.inl ⟨by rfl, ?_⟩) ?_ ?_
         rotate_left
         ·
          intro w'
          go_simp
          with_reducible rfl
         rotate_left
         ·
          simp only [Act.put, List.setIfInBounds_toArray, List.set_cons_zero, List.set_cons_succ, i64_w, i32_w]
          rfl
         refine pure_ (i := 5) (N := some 21) (v := ?_) (a' := ?_) #[true, true, true, true, true, true, false, false, false, false, false, false, false] rfl rfl (any_of HT_.out (by kernel_rfl)) (fun _ _ _ h => h) (Or.inl ⟨by rfl, ?_⟩) ?_ ?_
         rotate_left
         ·
          intro w'
          go_simp
          with_reducible rfl
         rotate_left
         ·
          simp only [Act.put, List.setIfInBounds_toArray, List.set_cons_zero, List.set_cons_succ, i64_w, i32_w]
          rfl
         refine take_ (i := 6) (N := some 22) (v := ?_) (a' := ?_) #[true, true, true, true, true, true, true, false, false, false, false, false, false] rfl rfl (take_ofW HT_.out HW_.out (by kernel_rfl)) (fun _ _ _ h => h) (Or.inl ⟨by rfl, ?_⟩) hHeld ?_ ?_
         rotate_left
         ·
          rintro w' ⟨s0, s1, s2, s3, s4, s5⟩
          go_simp
          with_reducible rfl
         rotate_left
         ·
          simp only [Act.put, List.setIfInBounds_toArray, List.set_cons_zero, List.set_cons_succ, i64_w, i32_w]
          rfl
         refine pure_ (i := 7) (N := some 23) (v := ?_) (a' := ?_) #[true, true, true, true, true, true, true, true, false, false, false, false, false] rfl rfl (any_of HT_.out (by kernel_rfl)) (fun _ _ _ h => h) (Or.inl ⟨by rfl, ?_⟩) ?_ ?_
         rotate_left
         ·
          intro w'
          go_simp
          with_reducible rfl
         rotate_left
         ·
          simp only [Act.put, List.setIfInBounds_toArray, List.set_cons_zero, List.set_cons_succ, i64_w, i32_w]
          rfl
         refine take_ (i := 8) (N := some 24) (v := ?_) (a' := ?_) #[true, true, true, true, true, true, true, true, true, false, false, false, false] rfl rfl (take_ofW HT_.out HW_.out (by kernel_rfl)) (fun _ _ _ h => h) (Or.inl ⟨by rfl, ?_⟩) hHeld ?_ ?_
         rotate_left
         ·
          rintro w' ⟨s0, s1, s2, s3, s4, s5⟩
          go_simp
          with_reducible rfl
         rotate_left
         ·
          simp only [Act.put, List.setIfInBounds_toArray, List.set_cons_zero, List.set_cons_succ, i64_w, i32_w]
          rfl
         refine take_ (i := 9) (N := some 25) (v := ?_) (a' := ?_) #[true, true, true, true, true, true, true, true, true, true, false, false, false] rfl rfl (take_ofW HT_.out HW_.out (by kernel_rfl)) (fun _ _ _ h => h) (Or.inl ⟨by rfl, ?_⟩) hHeld ?_ ?_
         rotate_left
         ·
          rintro w' ⟨s0, s1, s2, s3, s4, s5⟩
          go_simp
          with_reducible rfl
         rotate_left
         ·
          simp only [Act.put, List.setIfInBounds_toArray, List.set_cons_zero, List.set_cons_succ, i64_w, i32_w]
          rfl
         refine one_ (i := 10) (N := some 26) #[true, true, true, true, true, true, true, true, true, true, true, false, false] rfl rfl (one_of HT_.out (by kernel_rfl)) (by decide) (fun K hK => ?_)
         refine goes_ Try.func70 (by kernel_rfl) rfl #[.agg #[.string ((rd_T52 ((rd_T76 l0_0 x11_1).f1) 0).f0), .int .i64 ((rd_T52 ((rd_T76 l0_0 x11_1).f1) 0).f1)], .agg #[.string a1_0, .int .i64 a1_1]] (by rfl) rfl rfl (by (try simp only [List.map_toArray, List.map_cons, List.map_nil]); first | done | rfl | (simp only [List.length_drop, List.length_take]; rfl)) ?_
         with_reducible refine (impl_compareEntries.calls k1  ((rd_T52 ((rd_T76 l0_0 x11_1).f1) 0).f0) ((rd_T52 ((rd_T76 l0_0 x11_1).f1) 0).f1) a1_0 a1_1 t381 _ A12.out).mono ?_
         rintro e w20 ⟨rfl, hb⟩
         refine ⟨_, rfl, ?_⟩
         have n0_ := Aside0.mk (blk_below (g := gb376) (o := .cells #[.slice (some ad378) l0_0.length c0_0, .int .i64 a0_1] 34 (0, 0)) (by (with_reducible repeat (first | refine blk_drewN ?_ _ | refine blk_drew ?_ | refine blk_alloc ?_ _)); exact BK376.out) hb)
         have n1_ := Aside0.mk (blk_below (g := gb377) (o := .cells #[.string a1_0, .int .i64 a1_1] 52 (0, 0)) (by (with_reducible repeat (first | refine blk_drewN ?_ _ | refine blk_drew ?_ | refine blk_alloc ?_ _)); exact BK377.out) hb)
         have n2_ := Aside0.mk (blk_below (g := gb379) (o := .cells #[.int .i64 ((rd_T76 l0_0 x11_1).f0), .slice (some ad380) ((rd_T76 l0_0 x11_1).f1).length c378_1] 76 (0, 0)) (by (with_reducible repeat (first | refine blk_drewN ?_ _ | refine blk_drew ?_ | refine blk_alloc ?_ _)); exact BK379.out) hb)
         have n3_ := Aside0.mk (below_step (by repeat (first | (with_reducible first | exact HB.out | apply below_alloc | apply pw_below_drewN | apply below_drew1 | refine below_set ?_ GE376.out | refine below_set ?_ GE377.out | refine below_set ?_ GE379.out) | exact HB.out)) hb)
         clear BK376
         clear BK377
         clear BK379
         clear HB
         have BK376 := n0_
         have BK377 := n1_
         have BK379 := n2_
         have HB := n3_
         clear n0_ n1_ n2_ n3_
         (try clear hb)
         (try clear hb2)
         (try clear hk)
         (try clear hi)
         refine hK.out _ _ ⟨(blk_cell BK379.out 0).trans rfl, (blk_cell BK379.out 1).trans rfl, (blk_cell BK377.out 0).trans rfl, (blk_cell BK377.out 1).trans rfl, ((HB.out.cell (World.block_lt_of_cell? w _ hw380_0)).trans hw380_0), ((HB.out.cell (World.block_lt_of_cell? w _ hw380_1)).trans hw380_1)⟩ (fun hHeld => ?_)
         clear hK K
         refine norm_ (a' := ?_) ?_ ?_
         rotate_left
         ·
          show Act.put _ (some 26) _ = _
          simp only [Act.put, List.setIfInBounds_toArray, List.set_cons_zero, List.set_cons_succ, i64_w, i32_w]
          rfl
         refine pure_ (i := 11) (N := some 27) (v := ?_) (a' := ?_) #[true, true, true, true, true, true, true, true, true, true, true, true, false] rfl rfl (any_of HT_.out (by kernel_rfl)) (fun _ _ _ h => h) (Or.inl ⟨by rfl, ?_⟩) ?_ ?_
         rotate_left
         ·
          intro w'
          go_simp
          with_reducible rfl
         rotate_left
         ·
          simp only [Act.put, List.setIfInBounds_toArray, List.set_cons_zero, List.set_cons_succ, i64_w, i32_w]
          rfl
         refine pure_ (i := 12) (N := some 28) (v := ?_) (a' := ?_) #[true, true, true, true, true, true, true, true, true, true, true, true, true] rfl rfl (any_of HT_.out (by kernel_rfl)) (fun _ _ _ h => h) (Or.inl ⟨by rfl, ?_⟩) ?_ ?_
         rotate_left
         ·
          intro w'
          go_simp
          with_reducible rfl
         rotate_left
         ·
          simp only [Act.put, List.setIfInBounds_toArray, List.set_cons_zero, List.set_cons_succ, i64_w, i32_w]
          rfl
         refine done_ (done_of HT_.out (by kernel_rfl)) ?_
         try go_wp2
         go_roundg k1
         case measure => have := HK1.out; omega
         case rel => exact ⟨(x11_1), (wrap64 (x11_1 + 1)), (by first | rfl | (simp; done) | (simp [*]; done)), (by first | rfl | (simp; done) | (simp [*]; done)), H', ⟨by have := HK1.out; omega⟩, ⟨by (with_reducible repeat (first | refine blk_drewN ?_ _ | refine blk_drew ?_ | refine blk_alloc ?_ _)); exact BK376.out⟩, ⟨by (with_reducible repeat (first | refine blk_drewN ?_ _ | refine blk_drew ?_ | refine blk_alloc ?_ _)); exact BK377.out⟩, ⟨by repeat (first | (with_reducible first | exact HB.out | apply below_alloc | apply pw_below_drewN | apply below_drew1 | refine below_set ?_ GE376.out | refine below_set ?_ GE377.out | refine below_set ?_ GE379.out) | exact HB.out)⟩⟩
        ·
         rw [if_neg c13] at H
         have c13b0 : decide (t381 ≤ 0) = false := decide_eq_false c13
         clear c13
         have H' := Aside0.mk H
         clear H
         have p378 : 0 ≤ (x11_1 : Int) := of_decide_eq_true (by first | (with_reducible assumption) | assumption)
         have q378 : x11_1 < (l0_0.length : Int) := of_decide_eq_true (by first | (with_reducible assumption) | assumption)
         obtain ⟨ad378, A378_1, c378_1, e378, hx378_0, hx378_1, hl378_1, hi378_1⟩ := at_T76 HR0_0.out x11_1 p378 q378
         cases e378
         replace hx378_0 := (HB.out.cell (World.block_lt_of_cell? w _ hx378_0)).trans hx378_0
         replace hx378_1 := (HB.out.cell (World.block_lt_of_cell? w _ hx378_1)).trans hx378_1
         have HR378_1 := Aside0.mk hi378_1
         have HC378_1 := Aside0.mk hl378_1
         clear hi378_1 hl378_1
         replace p378 := eq_true p378
         replace q378 := eq_true q378
         try go_wp2_with (first | ((with_reducible refine gate_dst (N := 7) rfl ?_); refine box_event ?hg (N := 7) ?hd (cs := #[.int .i64 0, .slice none 0 0]) (t := 76) ?hr ?_; (case hd => rfl); (case hg => rfl); (case hr => first | (go_simp; done) | (go_simp; rfl)); intro gb379 hg w21 hbox hb; have n0_ := Aside0.mk (blk_below (g := gb376) (o := .cells #[.slice (some ad378) l0_0.length c0_0, .int .i64 a0_1] 34 (0, 0)) (by (with_reducible repeat (first | refine blk_drewN ?_ _ | refine blk_drew ?_ | refine blk_alloc ?_ _)); exact BK376.out) hb); have n1_ := Aside0.mk (blk_below (g := gb377) (o := .cells #[.string a1_0, .int .i64 a1_1] 52 (0, 0)) (by (with_reducible repeat (first | refine blk_drewN ?_ _ | refine blk_drew ?_ | refine blk_alloc ?_ _)); exact BK377.out) hb); have n2_ := Aside0.mk (below_step (by repeat (first | (with_reducible first | exact HB.out | apply below_alloc | apply pw_below_drewN | apply below_drew1 | refine below_set ?_ GE376.out | refine below_set ?_ GE377.out) | exact HB.out)) hb); have n3_ := Aside0.mk (hbox); have n4_ := Aside0.mk ((by rw [hg]; exact (below_size (by repeat (first | (with_reducible first | exact HB.out | apply below_alloc | apply pw_below_drewN | apply below_drew1 | refine below_set ?_ GE376.out | refine below_set ?_ GE377.out) | exact HB.out))) : w.heap.size ≤ gb379)); have n5_ := Aside0.mk ((by rw [hg]; exact (below_size (by repeat (first | (with_reducible first | exact HB.out | apply below_alloc | apply pw_below_drewN | apply below_drew1 | refine below_set ?_ GE376.out | refine below_set ?_ GE377.out) | exact HB.out))) : w.heap.size ≤ gb379)); have n6_ := Aside0.mk ((by rw [hg]; exact Nat.ne_of_lt (blk_lt (g := gb376) (o := .cells #[.slice (some ad378) l0_0.length c0_0, .int .i64 a0_1] 34 (0, 0)) (by (with_reducible repeat (first | refine blk_drewN ?_ _ | refine blk_drew ?_ | refine blk_alloc ?_ _)); exact BK376.out)) : gb376 ≠ gb379)); have n7_ := Aside0.mk ((by rw [hg]; exact Nat.ne_of_gt (blk_lt (g := gb376) (o := .cells #[.slice (some ad378) l0_0.length c0_0, .int .i64 a0_1] 34 (0, 0)) (by (with_reducible repeat (first | refine blk_drewN ?_ _ | refine blk_drew ?_ | refine blk_alloc ?_ _)); exact BK376.out)) : gb379 ≠ gb376)); have n8_ := Aside0.mk ((by rw [hg]; exact Nat.ne_of_lt (blk_lt (g := gb377) (o := .cells #[.string a1_0, .int .i64 a1_1] 52 (0, 0)) (by (with_reducible repeat (first | refine blk_drewN ?_ _ | refine blk_drew ?_ | refine blk_alloc ?_ _)); exact BK377.out)) : gb377 ≠ gb379)); have n9_ := Aside0.mk ((by rw [hg]; exact Nat.ne_of_gt (blk_lt (g := gb377) (o := .cells #[.string a1_0, .int .i64 a1_1] 52 (0, 0)) (by (with_reducible repeat (first | refine blk_drewN ?_ _ | refine blk_drew ?_ | refine blk_alloc ?_ _)); exact BK377.out)) : gb379 ≠ gb377)); clear BK376; clear BK377; clear HB; have BK376 := n0_; have BK377 := n1_; have HB := n2_; have BK379 := n3_; have GW379 := n4_; have GE379 := n5_; have NB376_379 := n6_; have NB379_376 := n7_; have NB377_379 := n8_; have NB379_377 := n9_; clear n0_ n1_ n2_ n3_ n4_ n5_ n6_ n7_ n8_ n9_; clear hb hbox hg; have hnb22 := NB379_376.out; have hnc22 := NB376_379.out; have hnb23 := NB379_377.out; have hnc23 := NB377_379.out; have hcz24_0 : w21.cell? ⟨gb379, 0, none⟩ = some (.int .i64 0) := (blk_cell BK379.out 0).trans rfl; have hcz24_1 : w21.cell? ⟨gb379, 1, none⟩ = some (.slice none 0 0) := (blk_cell BK379.out 1).trans rfl; have hfz24_0 := blk_frozen BK379.out 0; have hfz24_1 := blk_frozen BK379.out 1))
         have n0_ : Aside0 (((w21.setCell ⟨gb379, 0, none⟩ (.int .i64 ((rd_T76 l0_0 x11_1).f0))).setCell ⟨gb379, 1, none⟩ (.slice A378_1 ((rd_T76 l0_0 x11_1).f1).length c378_1)).heap[gb376]? = some (.cells #[.slice (some ad378) l0_0.length c0_0, .int .i64 a0_1] 34 (0, 0))) := ⟨by (with_reducible repeat (first | refine blk_drewN ?_ _ | refine blk_drew ?_ | refine blk_alloc ?_ _)); refine blk_far ?_ NB376_379.out _; (with_reducible repeat (first | refine blk_drewN ?_ _ | refine blk_drew ?_ | refine blk_alloc ?_ _)); refine blk_far ?_ NB376_379.out _; (with_reducible repeat (first | refine blk_drewN ?_ _ | refine blk_drew ?_ | refine blk_alloc ?_ _)); exact BK376.out⟩
         have n1_ : Aside0 (((w21.setCell ⟨gb379, 0, none⟩ (.int .i64 ((rd_T76 l0_0 x11_1).f0))).setCell ⟨gb379, 1, none⟩ (.slice A378_1 ((rd_T76 l0_0 x11_1).f1).length c378_1)).heap[gb377]? = some (.cells #[.string a1_0, .int .i64 a1_1] 52 (0, 0))) := ⟨by (with_reducible repeat (first | refine blk_drewN ?_ _ | refine blk_drew ?_ | refine blk_alloc ?_ _)); refine blk_far ?_ NB377_379.out _; (with_reducible repeat (first | refine blk_drewN ?_ _ | refine blk_drew ?_ | refine blk_alloc ?_ _)); refine blk_far ?_ NB377_379.out _; (with_reducible repeat (first | refine blk_drewN ?_ _ | refine blk_drew ?_ | refine blk_alloc ?_ _)); exact BK377.out⟩
         have n2_ : Aside0 (((w21.setCell ⟨gb379, 0, none⟩ (.int .i64 ((rd_T76 l0_0 x11_1).f0))).setCell ⟨gb379, 1, none⟩ (.slice A378_1 ((rd_T76 l0_0 x11_1).f1).length c378_1)).heap[gb379]? = some (.cells #[.int .i64 ((rd_T76 l0_0 x11_1).f0), .slice A378_1 ((rd_T76 l0_0 x11_1).f1).length c378_1] 76 (0, 0))) := ⟨by (with_reducible repeat (first | refine blk_drewN ?_ _ | refine blk_drew ?_ | refine blk_alloc ?_ _)); refine blk_put (cs := #[.int .i64 ((rd_T76 l0_0 x11_1).f0), .slice none 0 0]) ?_ 1 _ rfl; (with_reducible repeat (first | refine blk_drewN ?_ _ | refine blk_drew ?_ | refine blk_alloc ?_ _)); refine blk_put (cs := #[.int .i64 0, .slice none 0 0]) ?_ 0 _ rfl; (with_reducible repeat (first | refine blk_drewN ?_ _ | refine blk_drew ?_ | refine blk_alloc ?_ _)); exact BK379.out⟩
         have n3_ : Aside0 (Below w.heap.size w ((w21.setCell ⟨gb379, 0, none⟩ (.int .i64 ((rd_T76 l0_0 x11_1).f0))).setCell ⟨gb379, 1, none⟩ (.slice A378_1 ((rd_T76 l0_0 x11_1).f1).length c378_1))) := ⟨by repeat (first | (with_reducible first | exact HB.out | apply below_alloc | apply pw_below_drewN | apply below_drew1 | refine below_set ?_ GE376.out | refine below_set ?_ GE377.out | refine below_set ?_ GE379.out) | exact HB.out)⟩
         (try clear BK376)
         (try clear BK377)
         (try clear BK379)
         (try clear HB)
         generalize ((w21.setCell ⟨gb379, 0, none⟩ (.int .i64 ((rd_T76 l0_0 x11_1).f0))).setCell ⟨gb379, 1, none⟩ (.slice A378_1 ((rd_T76 l0_0 x11_1).f1).length c378_1)) = w25 at n0_ n1_ n2_ n3_ ⊢
         have BK376 := n0_
         have BK377 := n1_
         have BK379 := n2_
         have HB := n3_
         clear n0_ n1_ n2_ n3_
         have n0_ := Aside0.mk (blk_drew BK376.out)
         have n1_ := Aside0.mk (blk_drew BK377.out)
         have n2_ := Aside0.mk (blk_drew BK379.out)
         have n3_ := Aside0.mk (below_drew1 HB.out)
         clear BK376
         clear BK377
         clear BK379
         clear HB
         have BK376 := n0_
         have BK377 := n1_
         have BK379 := n2_
         have HB := n3_
         clear n0_ n1_ n2_ n3_
         have p380 : 0 ≤ (0 : Int) := (by omega)
         have q380 : 0 < (((rd_T76 l0_0 x11_1).f1).length : Int) := of_decide_eq_true (by first | (with_reducible assumption) | assumption)
         obtain ⟨ad380, e380, hx380_0, hx380_1⟩ := at_T52 HR378_1.out 0 p380 q380
         have hw380_1 := hx380_1
         (try rw [show ((0 : Int)).toNat = 0 from rfl] at hw380_1)
         (try rw [show 0 * 2 = 0 from rfl] at hw380_1)
         (try rw [Addr.add_zero'] at hw380_1)
         have hw380_0 := hx380_0
         (try rw [show ((0 : Int)).toNat = 0 from rfl] at hw380_0)
         (try rw [show 0 * 2 = 0 from rfl] at hw380_0)
         (try rw [Addr.add_zero'] at hw380_0)
         cases e380
         have qi380 : (0 < ((rd_T76 l0_0 x11_1).f1).length) = True := eq_true (by omega)
         (try rw [show ((0 : Int)).toNat = 0 from rfl] at hx380_0)
         (try rw [show 0 * 2 = 0 from rfl] at hx380_0)
         (try rw [Addr.add_zero'] at hx380_0)
         (try rw [show ((0 : Int)).toNat = 0 from rfl] at hx380_1)
         (try rw [show 0 * 2 = 0 from rfl] at hx380_1)
         (try rw [Addr.add_zero'] at hx380_1)
         replace hx380_0 := (HB.out.cell (World.block_lt_of_cell? w _ hx380_0)).trans hx380_0
         replace hx380_1 := (HB.out.cell (World.block_lt_of_cell? w _ hx380_1)).trans hx380_1
         replace p380 := eq_true p380
         replace q380 := eq_true q380
         refine start_ (n := 13) (S := fun w' => w'.cell? ⟨gb379, 0, none⟩ = some (.int .i64 ((rd_T76 l0_0 x11_1).f0)) ∧ w'.cell? ⟨gb379, 1, none⟩ = some (.slice (some ad380) ((rd_T76 l0_0 x11_1).f1).length c378_1) ∧ w'.cell? ⟨gb377, 0, none⟩ = some (.string a1_0) ∧ w'.cell? ⟨gb377, 1, none⟩ = some (.int .i64 a1_1) ∧ w'.cell? ad380 = some (.string ((rd_T52 ((rd_T76 l0_0 x11_1).f1) 0).f0)) ∧ w'.cell? ⟨ad380.block, ad380.off + 1, none⟩ = some (.int .i64 ((rd_T52 ((rd_T76 l0_0 x11_1).f1) 0).f1))) (ds := []) #[false, false, false, false, false, false, false, false, false, false, false, false, false] (by kernel_rfl) rfl rfl ⟨(blk_cell BK379.out 0).trans rfl, (blk_cell BK379.out 1).trans rfl, (blk_cell BK377.out 0).trans rfl, (blk_cell BK377.out 1).trans rfl, ((HB.out.cell (World.block_lt_of_cell? w _ hw380_0)).trans hw380_0), ((HB.out.cell (World.block_lt_of_cell? w _ hw380_1)).trans hw380_1)⟩ (fun hHeld => ?_); refine with_tabW impl_Tree_pageOf.tab5 impl_Tree_pageOf.bits5 (fun HT_ HW_ => ?_)
         generalize w25.drew = w26 at BK376 BK377 BK379 HB hx380_0 hx380_1 hHeld ⊢
         refine pure_ (i := 0) (N := some 16) (v := ?_) (a' := ?_) #[true, false, false, false, false, false, false, false, false, false, false, false, false] rfl rfl (any_of HT_.out (by kernel_rfl)) (fun _ _ _ h => h) (Or.inl ⟨by rfl, ?_⟩) ?_ ?_
         rotate_left
         ·
          intro w'
          go_simp
          with_reducible rfl
         rotate_left
         ·
          simp only [Act.put, List.setIfInBounds_toArray, List.set_cons_zero, List.set_cons_succ, i64_w, i32_w]
          rfl
         refine take_ (i := 1) (N := some 17) (v := ?_) (a' := ?_) #[true, true, false, false, false, false, false, false, false, false, false, false, false] rfl rfl (take_ofW HT_.out HW_.out (by kernel_rfl)) (fun _ _ _ h => h) (Or.inl ⟨by rfl, ?_⟩) hHeld ?_ ?_
         rotate_left
         ·
          rintro w' ⟨s0, s1, s2, s3, s4, s5⟩
          go_simp
          with_reducible rfl
         rotate_left
         ·
          simp only [Act.put, List.setIfInBounds_toArray, List.set_cons_zero, List.set_cons_succ, i64_w, i32_w]
          rfl
         refine pure_ (i := 2) (N := some 18) (v := ?_) (a' := ?_) #[true, true, true, false, false, false, false, false, false, false, false, false, false] rfl rfl (any_of HT_.out (by kernel_rfl)) (fun _ _ _ h => h) (Or.inl ⟨by rfl, ?_⟩) ?_ ?_
         rotate_left
         ·
          intro w'
          go_simp
          with_reducible rfl
         rotate_left
         ·
          simp only [Act.put, List.setIfInBounds_toArray, List.set_cons_zero, List.set_cons_succ, i64_w, i32_w]
          rfl
         refine pure_ (i := 3) (N := some 19) (v := ?_) (a' := ?_) #[true, true, true, true, false, false, false, false, false, false, false, false, false] rfl rfl (any_of HT_.out (by kernel_rfl)) (fun _ _ _ h => h) (Or.inl ⟨by rfl, ?_⟩) ?_ ?_
         rotate_left
         ·
          intro w'
          go_simp
          with_reducible rfl
         rotate_left
         ·
          simp only [Act.put, List.setIfInBounds_toArray, List.set_cons_zero, List.set_cons_succ, i64_w, i32_w]
          rfl
         refine pure_ (i := 4) (N := some 20) (v := ?_) (a' := ?_) #[true, true, true, true, true, false, false, false, false, false, false, false, false] rfl rfl (any_of HT_.out (by kernel_rfl)) (fun _ _ _ h => h) (Or.inl ⟨by rfl, ?_⟩) ?_ ?_
         rotate_left
         ·
          intro w'
          go_simp
          with_reducible rfl
         rotate_left
         ·
          simp only [Act.put, List.setIfInBounds_toArray, List.set_cons_zero, List.set_cons_succ, i64_w, i32_w]
          rfl
         refine pure_ (i := 5) (N := some 21) (v := ?_) (a' := ?_) #[true, true, true, true, true, true, false, false, false, false, false, false, false] rfl rfl (any_of HT_.out (by kernel_rfl)) (fun _ _ _ h => h) (Or.inl ⟨by rfl, ?_⟩) ?_ ?_
         rotate_left
         ·
          intro w'
          go_simp
          with_reducible rfl
         rotate_left
         ·
          simp only [Act.put, List.setIfInBounds_toArray, List.set_cons_zero, List.set_cons_succ, i64_w, i32_w]
          rfl
         refine take_ (i := 6) (N := some 22) (v := ?_) (a' := ?_) #[true, true, true, true, true, true, true, false, false, false, false, false, false] rfl rfl (take_ofW HT_.out HW_.out (by kernel_rfl)) (fun _ _ _ h => h) (Or.inl ⟨by rfl, ?_⟩) hHeld ?_ ?_
         rotate_left
         ·
          rintro w' ⟨s0, s1, s2, s3, s4, s5⟩
          go_simp
          with_reducible rfl
         rotate_left
         ·
          simp only [Act.put, List.setIfInBounds_toArray, List.set_cons_zero, List.set_cons_succ, i64_w, i32_w]
          rfl
         refine pure_ (i := 7) (N := some 23) (v := ?_) (a' := ?_) #[true, true, true, true, true, true, true, true, false, false, false, false, false] rfl rfl (any_of HT_.out (by kernel_rfl)) (fun _ _ _ h => h) (Or.inl ⟨by rfl, ?_⟩) ?_ ?_
         rotate_left
         ·
          intro w'
          go_simp
          with_reducible rfl
         rotate_left
         ·
          simp only [Act.put, List.setIfInBounds_toArray, List.set_cons_zero, List.set_cons_succ, i64_w, i32_w]
          rfl
         refine take_ (i := 8) (N := some 24) (v := ?_) (a' := ?_) #[true, true, true, true, true, true, true, true, true, false, false, false, false] rfl rfl (take_ofW HT_.out HW_.out (by kernel_rfl)) (fun _ _ _ h => h) (Or.inl ⟨by rfl, ?_⟩) hHeld ?_ ?_
         rotate_left
         ·
          rintro w' ⟨s0, s1, s2, s3, s4, s5⟩
          go_simp
          with_reducible rfl
         rotate_left
         ·
          simp only [Act.put, List.setIfInBounds_toArray, List.set_cons_zero, List.set_cons_succ, i64_w, i32_w]
          rfl
         refine take_ (i := 9) (N := some 25) (v := ?_) (a' := ?_) #[true, true, true, true, true, true, true, true, true, true, false, false, false] rfl rfl (take_ofW HT_.out HW_.out (by kernel_rfl)) (fun _ _ _ h => h) (Or.inl ⟨by rfl, ?_⟩) hHeld ?_ ?_
         rotate_left
         ·
          rintro w' ⟨s0, s1, s2, s3, s4, s5⟩
          go_simp
          with_reducible rfl
         rotate_left
         ·
          simp only [Act.put, List.setIfInBounds_toArray, List.set_cons_zero, List.set_cons_succ, i64_w, i32_w]
          rfl
         refine one_ (i := 10) (N := some 26) #[true, true, true, true, true, true, true, true, true, true, true, false, false] rfl rfl (one_of HT_.out (by kernel_rfl)) (by decide) (fun K hK => ?_)
         refine goes_ Try.func70 (by kernel_rfl) rfl #[.agg #[.string ((rd_T52 ((rd_T76 l0_0 x11_1).f1) 0).f0), .int .i64 ((rd_T52 ((rd_T76 l0_0 x11_1).f1) 0).f1)], .agg #[.string a1_0, .int .i64 a1_1]] (by rfl) rfl rfl (by (try simp only [List.map_toArray, List.map_cons, List.map_nil]); first | done | rfl | (simp only [List.length_drop, List.length_take]; rfl)) ?_
         with_reducible refine (impl_compareEntries.calls k1  ((rd_T52 ((rd_T76 l0_0 x11_1).f1) 0).f0) ((rd_T52 ((rd_T76 l0_0 x11_1).f1) 0).f1) a1_0 a1_1 t381 _ A12.out).mono ?_
         rintro e w27 ⟨rfl, hb⟩
         refine ⟨_, rfl, ?_⟩
         have n0_ := Aside0.mk (blk_below (g := gb376) (o := .cells #[.slice (some ad378) l0_0.length c0_0, .int .i64 a0_1] 34 (0, 0)) (by (with_reducible repeat (first | refine blk_drewN ?_ _ | refine blk_drew ?_ | refine blk_alloc ?_ _)); exact BK376.out) hb)
         have n1_ := Aside0.mk (blk_below (g := gb377) (o := .cells #[.string a1_0, .int .i64 a1_1] 52 (0, 0)) (by (with_reducible repeat (first | refine blk_drewN ?_ _ | refine blk_drew ?_ | refine blk_alloc ?_ _)); exact BK377.out) hb)
         have n2_ := Aside0.mk (blk_below (g := gb379) (o := .cells #[.int .i64 ((rd_T76 l0_0 x11_1).f0), .slice (some ad380) ((rd_T76 l0_0 x11_1).f1).length c378_1] 76 (0, 0)) (by (with_reducible repeat (first | refine blk_drewN ?_ _ | refine blk_drew ?_ | refine blk_alloc ?_ _)); exact BK379.out) hb)
         have n3_ := Aside0.mk (below_step (by repeat (first | (with_reducible first | exact HB.out | apply below_alloc | apply pw_below_drewN | apply below_drew1 | refine below_set ?_ GE376.out | refine below_set ?_ GE377.out | refine below_set ?_ GE379.out) | exact HB.out)) hb)
         clear BK376
         clear BK377
         clear BK379
         clear HB
         have BK376 := n0_
         have BK377 := n1_
         have BK379 := n2_
         have HB := n3_
         clear n0_ n1_ n2_ n3_
         (try clear hb)
         (try clear hb2)
         (try clear hk)
         (try clear hi)
         refine hK.out _ _ ⟨(blk_cell BK379.out 0).trans rfl, (blk_cell BK379.out 1).trans rfl, (blk_cell BK377.out 0).trans rfl, (blk_cell BK377.out 1).trans rfl, ((HB.out.cell (World.block_lt_of_cell? w _ hw380_0)).trans hw380_0), ((HB.out.cell (World.block_lt_of_cell? w _ hw380_1)).trans hw380_1)⟩ (fun hHeld => ?_)
         clear hK K
         refine norm_ (a' := ?_) ?_ ?_
         rotate_left
         ·
          show Act.put _ (some 26) _ = _
          simp only [Act.put, List.setIfInBounds_toArray, List.set_cons_zero, List.set_cons_succ, i64_w, i32_w]
          rfl
         refine pure_ (i := 11) (N := some 27) (v := ?_) (a' := ?_) #[true, true, true, true, true, true, true, true, true, true, true, true, false] rfl rfl (any_of HT_.out (by kernel_rfl)) (fun _ _ _ h => h) (Or.inl ⟨by rfl, ?_⟩) ?_ ?_
         rotate_left
         ·
          intro w'
          go_simp
          with_reducible rfl
         rotate_left
         ·
          simp only [Act.put, List.setIfInBounds_toArray, List.set_cons_zero, List.set_cons_succ, i64_w, i32_w]
          rfl
         refine pure_ (i := 12) (N := some 28) (v := ?_) (a' := ?_) #[true, true, true, true, true, true, true, true, true, true, true, true, true] rfl rfl (any_of HT_.out (by kernel_rfl)) (fun _ _ _ h => h) (Or.inl ⟨by rfl, ?_⟩) ?_ ?_
         rotate_left
         ·
          intro w'
          go_simp
          with_reducible rfl
         rotate_left
         ·
          simp only [Act.put, List.setIfInBounds_toArray, List.set_cons_zero, List.set_cons_succ, i64_w, i32_w]
          rfl
         refine done_ (done_of HT_.out (by kernel_rfl)) ?_
         try go_wp2
         go_roundg k1
         case measure => have := HK1.out; omega
         case rel => exact ⟨(x5_1), (wrap64 (x11_1 + 1)), (by first | rfl | (simp; done) | (simp [*]; done)), (by first | rfl | (simp; done) | (simp [*]; done)), H', ⟨by have := HK1.out; omega⟩, ⟨by (with_reducible repeat (first | refine blk_drewN ?_ _ | refine blk_drew ?_ | refine blk_alloc ?_ _)); exact BK376.out⟩, ⟨by (with_reducible repeat (first | refine blk_drewN ?_ _ | refine blk_drew ?_ | refine blk_alloc ?_ _)); exact BK377.out⟩, ⟨by repeat (first | (with_reducible first | exact HB.out | apply below_alloc | apply pw_below_drewN | apply below_drew1 | refine below_set ?_ GE376.out | refine below_set ?_ GE377.out | refine below_set ?_ GE379.out) | exact HB.out)⟩⟩
       ·
        rw [if_neg c11] at H
        exact absurd H (by simp)
      ·
       rw [if_neg c10] at H
       have c10b0 : decide (0 < (((rd_T76 l0_0 x11_1).f1).length : Int)) = false := decide_eq_false c10
       have c10b1 : decide (0 < ((rd_T76 l0_0 x11_1).f1).length) = false := decide_eq_false (by omega)
       clear c10
       have H' := Aside0.mk H
       clear H
       have p378 : 0 ≤ (x11_1 : Int) := of_decide_eq_true (by first | (with_reducible assumption) | assumption)
       have q378 : x11_1 < (l0_0.length : Int) := of_decide_eq_true (by first | (with_reducible assumption) | assumption)
       obtain ⟨ad378, A378_1, c378_1, e378, hx378_0, hx378_1, hl378_1, hi378_1⟩ := at_T76 HR0_0.out x11_1 p378 q378
       cases e378
       replace hx378_0 := (HB.out.cell (World.block_lt_of_cell? w _ hx378_0)).trans hx378_0
       replace hx378_1 := (HB.out.cell (World.block_lt_of_cell? w _ hx378_1)).trans hx378_1
       have HR378_1 := Aside0.mk hi378_1
       have HC378_1 := Aside0.mk hl378_1
       clear hi378_1 hl378_1
       replace p378 := eq_true p378
       replace q378 := eq_true q378
       try go_wp2_with (first | ((with_reducible refine gate_dst (N := 7) rfl ?_); refine box_event ?hg (N := 7) ?hd (cs := #[.int .i64 0, .slice none 0 0]) (t := 76) ?hr ?_; (case hd => rfl); (case hg => rfl); (case hr => first | (go_simp; done) | (go_simp; rfl)); intro gb379 hg w28 hbox hb; have n0_ := Aside0.mk (blk_below (g := gb376) (o := .cells #[.slice (some ad378) l0_0.length c0_0, .int .i64 a0_1] 34 (0, 0)) (by (with_reducible repeat (first | refine blk_drewN ?_ _ | refine blk_drew ?_ | refine blk_alloc ?_ _)); exact BK376.out) hb); have n1_ := Aside0.mk (blk_below (g := gb377) (o := .cells #[.string a1_0, .int .i64 a1_1] 52 (0, 0)) (by (with_reducible repeat (first | refine blk_drewN ?_ _ | refine blk_drew ?_ | refine blk_alloc ?_ _)); exact BK377.out) hb); have n2_ := Aside0.mk (below_step (by repeat (first | (with_reducible first | exact HB.out | apply below_alloc | apply pw_below_drewN | apply below_drew1 | refine below_set ?_ GE376.out | refine below_set ?_ GE377.out) | exact HB.out)) hb); have n3_ := Aside0.mk (hbox); have n4_ := Aside0.mk ((by rw [hg]; exact (below_size (by repeat (first | (with_reducible first | exact HB.out | apply below_alloc | apply pw_below_drewN | apply below_drew1 | refine below_set ?_ GE376.out | refine below_set ?_ GE377.out) | exact HB.out))) : w.heap.size ≤ gb379)); have n5_ := Aside0.mk ((by rw [hg]; exact (below_size (by repeat (first | (with_reducible first | exact HB.out | apply below_alloc | apply pw_below_drewN | apply below_drew1 | refine below_set ?_ GE376.out | refine below_set ?_ GE377.out) | exact HB.out))) : w.heap.size ≤ gb379)); have n6_ := Aside0.mk ((by rw [hg]; exact Nat.ne_of_lt (blk_lt (g := gb376) (o := .cells #[.slice (some ad378) l0_0.length c0_0, .int .i64 a0_1] 34 (0, 0)) (by (with_reducible repeat (first | refine blk_drewN ?_ _ | refine blk_drew ?_ | refine blk_alloc ?_ _)); exact BK376.out)) : gb376 ≠ gb379)); have n7_ := Aside0.mk ((by rw [hg]; exact Nat.ne_of_gt (blk_lt (g := gb376) (o := .cells #[.slice (some ad378) l0_0.length c0_0, .int .i64 a0_1] 34 (0, 0)) (by (with_reducible repeat (first | refine blk_drewN ?_ _ | refine blk_drew ?_ | refine blk_alloc ?_ _)); exact BK376.out)) : gb379 ≠ gb376)); have n8_ := Aside0.mk ((by rw [hg]; exact Nat.ne_of_lt (blk_lt (g := gb377) (o := .cells #[.string a1_0, .int .i64 a1_1] 52 (0, 0)) (by (with_reducible repeat (first | refine blk_drewN ?_ _ | refine blk_drew ?_ | refine blk_alloc ?_ _)); exact BK377.out)) : gb377 ≠ gb379)); have n9_ := Aside0.mk ((by rw [hg]; exact Nat.ne_of_gt (blk_lt (g := gb377) (o := .cells #[.string a1_0, .int .i64 a1_1] 52 (0, 0)) (by (with_reducible repeat (first | refine blk_drewN ?_ _ | refine blk_drew ?_ | refine blk_alloc ?_ _)); exact BK377.out)) : gb379 ≠ gb377)); clear BK376; clear BK377; clear HB; have BK376 := n0_; have BK377 := n1_; have HB := n2_; have BK379 := n3_; have GW379 := n4_; have GE379 := n5_; have NB376_379 := n6_; have NB379_376 := n7_; have NB377_379 := n8_; have NB379_377 := n9_; clear n0_ n1_ n2_ n3_ n4_ n5_ n6_ n7_ n8_ n9_; clear hb hbox hg; have hnb29 := NB379_376.out; have hnc29 := NB376_379.out; have hnb30 := NB379_377.out; have hnc30 := NB377_379.out; have hcz31_0 : w28.cell? ⟨gb379, 0, none⟩ = some (.int .i64 0) := (blk_cell BK379.out 0).trans rfl; have hcz31_1 : w28.cell? ⟨gb379, 1, none⟩ = some (.slice none 0 0) := (blk_cell BK379.out 1).trans rfl; have hfz31_0 := blk_frozen BK379.out 0; have hfz31_1 := blk_frozen BK379.out 1))
       have n0_ : Aside0 (((w28.setCell ⟨gb379, 0, none⟩ (.int .i64 ((rd_T76 l0_0 x11_1).f0))).setCell ⟨gb379, 1, none⟩ (.slice A378_1 ((rd_T76 l0_0 x11_1).f1).length c378_1)).heap[gb376]? = some (.cells #[.slice (some ad378) l0_0.length c0_0, .int .i64 a0_1] 34 (0, 0))) := ⟨by (with_reducible repeat (first | refine blk_drewN ?_ _ | refine blk_drew ?_ | refine blk_alloc ?_ _)); refine blk_far ?_ NB376_379.out _; (with_reducible repeat (first | refine blk_drewN ?_ _ | refine blk_drew ?_ | refine blk_alloc ?_ _)); refine blk_far ?_ NB376_379.out _; (with_reducible repeat (first | refine blk_drewN ?_ _ | refine blk_drew ?_ | refine blk_alloc ?_ _)); exact BK376.out⟩
       have n1_ : Aside0 (((w28.setCell ⟨gb379, 0, none⟩ (.int .i64 ((rd_T76 l0_0 x11_1).f0))).setCell ⟨gb379, 1, none⟩ (.slice A378_1 ((rd_T76 l0_0 x11_1).f1).length c378_1)).heap[gb377]? = some (.cells #[.string a1_0, .int .i64 a1_1] 52 (0, 0))) := ⟨by (with_reducible repeat (first | refine blk_drewN ?_ _ | refine blk_drew ?_ | refine blk_alloc ?_ _)); refine blk_far ?_ NB377_379.out _; (with_reducible repeat (first | refine blk_drewN ?_ _ | refine blk_drew ?_ | refine blk_alloc ?_ _)); refine blk_far ?_ NB377_379.out _; (with_reducible repeat (first | refine blk_drewN ?_ _ | refine blk_drew ?_ | refine blk_alloc ?_ _)); exact BK377.out⟩
       have n2_ : Aside0 (((w28.setCell ⟨gb379, 0, none⟩ (.int .i64 ((rd_T76 l0_0 x11_1).f0))).setCell ⟨gb379, 1, none⟩ (.slice A378_1 ((rd_T76 l0_0 x11_1).f1).length c378_1)).heap[gb379]? = some (.cells #[.int .i64 ((rd_T76 l0_0 x11_1).f0), .slice A378_1 ((rd_T76 l0_0 x11_1).f1).length c378_1] 76 (0, 0))) := ⟨by (with_reducible repeat (first | refine blk_drewN ?_ _ | refine blk_drew ?_ | refine blk_alloc ?_ _)); refine blk_put (cs := #[.int .i64 ((rd_T76 l0_0 x11_1).f0), .slice none 0 0]) ?_ 1 _ rfl; (with_reducible repeat (first | refine blk_drewN ?_ _ | refine blk_drew ?_ | refine blk_alloc ?_ _)); refine blk_put (cs := #[.int .i64 0, .slice none 0 0]) ?_ 0 _ rfl; (with_reducible repeat (first | refine blk_drewN ?_ _ | refine blk_drew ?_ | refine blk_alloc ?_ _)); exact BK379.out⟩
       have n3_ : Aside0 (Below w.heap.size w ((w28.setCell ⟨gb379, 0, none⟩ (.int .i64 ((rd_T76 l0_0 x11_1).f0))).setCell ⟨gb379, 1, none⟩ (.slice A378_1 ((rd_T76 l0_0 x11_1).f1).length c378_1))) := ⟨by repeat (first | (with_reducible first | exact HB.out | apply below_alloc | apply pw_below_drewN | apply below_drew1 | refine below_set ?_ GE376.out | refine below_set ?_ GE377.out | refine below_set ?_ GE379.out) | exact HB.out)⟩
       (try clear BK376)
       (try clear BK377)
       (try clear BK379)
       (try clear HB)
       generalize ((w28.setCell ⟨gb379, 0, none⟩ (.int .i64 ((rd_T76 l0_0 x11_1).f0))).setCell ⟨gb379, 1, none⟩ (.slice A378_1 ((rd_T76 l0_0 x11_1).f1).length c378_1)) = w32 at n0_ n1_ n2_ n3_ ⊢
       have BK376 := n0_
       have BK377 := n1_
       have BK379 := n2_
       have HB := n3_
       clear n0_ n1_ n2_ n3_
       have n0_ := Aside0.mk (blk_drew BK376.out)
       have n1_ := Aside0.mk (blk_drew BK377.out)
       have n2_ := Aside0.mk (blk_drew BK379.out)
       have n3_ := Aside0.mk (below_drew1 HB.out)
       clear BK376
       clear BK377
       clear BK379
       clear HB
       have BK376 := n0_
       have BK377 := n1_
       have BK379 := n2_
       have HB := n3_
       clear n0_ n1_ n2_ n3_
       refine start_ (n := 13) (S := fun w' => w'.cell? ⟨gb379, 0, none⟩ = some (.int .i64 ((rd_T76 l0_0 x11_1).f0)) ∧ w'.cell? ⟨gb379, 1, none⟩ = some (.slice A378_1 ((rd_T76 l0_0 x11_1).f1).length c378_1)) (ds := []) #[false, false, false, false, false, false, false, false, false, false, false, false, false] (by kernel_rfl) rfl rfl ⟨(blk_cell BK379.out 0).trans rfl, (blk_cell BK379.out 1).trans rfl⟩ (fun hHeld => ?_); refine with_tabW impl_Tree_pageOf.tab5 impl_Tree_pageOf.bits5 (fun HT_ HW_ => ?_)
       generalize w32.drew = w33 at BK376 BK377 BK379 HB hHeld ⊢
       refine pure_ (i := 0) (N := some 16) (v := ?_) (a' := ?_) #[true, false, false, false, false, false, false, false, false, false, false, false, false] rfl rfl (any_of HT_.out (by kernel_rfl)) (fun _ _ _ h => h) (Or.inl ⟨by rfl, ?_⟩) ?_ ?_
       rotate_left
       ·
        intro w'
        go_simp
        with_reducible rfl
       rotate_left
       ·
        simp only [Act.put, List.setIfInBounds_toArray, List.set_cons_zero, List.set_cons_succ, i64_w, i32_w]
        rfl
       refine take_ (i := 1) (N := some 17) (v := ?_) (a' := ?_) #[true, true, false, false, false, false, false, false, false, false, false, false, false] rfl rfl (take_ofW HT_.out HW_.out (by kernel_rfl)) (fun _ _ _ h => h) (Or.inl ⟨by rfl, ?_⟩) hHeld ?_ ?_
       rotate_left
       ·
        rintro w' ⟨s0, s1⟩
        go_simp
        with_reducible rfl
       rotate_left
       ·
        simp only [Act.put, List.setIfInBounds_toArray, List.set_cons_zero, List.set_cons_succ, i64_w, i32_w]
        rfl
       refine pure_ (i := 2) (N := some 18) (v := ?_) (a' := ?_) #[true, true, true, false, false, false, false, false, false, false, false, false, false] rfl rfl (any_of HT_.out (by kernel_rfl)) (fun _ _ _ h => h) (Or.inl ⟨by rfl, ?_⟩) ?_ ?_
       rotate_left
       ·
        intro w'
        go_simp
        with_reducible rfl
       rotate_left
       ·
        simp only [Act.put, List.setIfInBounds_toArray, List.set_cons_zero, List.set_cons_succ, i64_w, i32_w]
        rfl
       refine pure_ (i := 3) (N := some 19) (v := ?_) (a' := ?_) #[true, true, true, true, false, false, false, false, false, false, false, false, false] rfl rfl (any_of HT_.out (by kernel_rfl)) (fun _ _ _ h => h) (Or.inl ⟨by rfl, ?_⟩) ?_ ?_
       rotate_left
       ·
        intro w'
        go_simp
        with_reducible rfl
       rotate_left
       ·
        simp only [Act.put, List.setIfInBounds_toArray, List.set_cons_zero, List.set_cons_succ, i64_w, i32_w]
        rfl
       refine pure_ (i := 4) (N := some 20) (v := ?_) (a' := ?_) #[true, true, true, true, true, false, false, false, false, false, false, false, false] rfl rfl (any_of HT_.out (by kernel_rfl)) (fun _ _ _ h => h) (Or.inl ⟨by rfl, ?_⟩) ?_ ?_
       rotate_left
       ·
        intro w'
        go_simp
        with_reducible rfl
       rotate_left
       ·
        simp only [Act.put, List.setIfInBounds_toArray, List.set_cons_zero, List.set_cons_succ, i64_w, i32_w]
        rfl
       refine pure_ (i := 5) (N := some 21) (v := undef) (a' := ?_) #[true, true, true, true, true, true, false, false, false, false, false, false, false] rfl rfl (any_of HT_.out (by kernel_rfl)) (fun _ _ _ h => h) (Or.inr ⟨by rfl, rfl⟩) ?_ ?_
       rotate_left
       ·
        simp only [Act.put, List.setIfInBounds_toArray, List.set_cons_zero, List.set_cons_succ, i64_w, i32_w]
        rfl
       refine pure_ (i := 6) (N := some 22) (v := undef) (a' := ?_) #[true, true, true, true, true, true, true, false, false, false, false, false, false] rfl rfl (any_of HT_.out (by kernel_rfl)) (fun _ _ _ h => h) (Or.inr ⟨by rfl, rfl⟩) ?_ ?_
       rotate_left
       ·
        simp only [Act.put, List.setIfInBounds_toArray, List.set_cons_zero, List.set_cons_succ, i64_w, i32_w]
        rfl
       refine pure_ (i := 7) (N := some 23) (v := undef) (a' := ?_) #[true, true, true, true, true, true, true, true, false, false, false, false, false] rfl rfl (any_of HT_.out (by kernel_rfl)) (fun _ _ _ h => h) (Or.inr ⟨by rfl, rfl⟩) ?_ ?_
       rotate_left
       ·
        simp only [Act.put, List.setIfInBounds_toArray, List.set_cons_zero, List.set_cons_succ, i64_w, i32_w]
        rfl
       refine pure_ (i := 8) (N := some 24) (v := undef) (a' := ?_) #[true, true, true, true, true, true, true, true, true, false, false, false, false] rfl rfl (any_of HT_.out (by kernel_rfl)) (fun _ _ _ h => h) (Or.inr ⟨by rfl, rfl⟩) ?_ ?_
       rotate_left
       ·
        simp only [Act.put, List.setIfInBounds_toArray, List.set_cons_zero, List.set_cons_succ, i64_w, i32_w]
        rfl
       refine pure_ (i := 9) (N := some 25) (v := undef) (a' := ?_) #[true, true, true, true, true, true, true, true, true, true, false, false, false] rfl rfl (any_of HT_.out (by kernel_rfl)) (fun _ _ _ h => h) (Or.inr ⟨by rfl, rfl⟩) ?_ ?_
       rotate_left
       ·
        simp only [Act.put, List.setIfInBounds_toArray, List.set_cons_zero, List.set_cons_succ, i64_w, i32_w]
        rfl
       refine pure_ (i := 10) (N := some 26) (v := undef) (a' := ?_) #[true, true, true, true, true, true, true, true, true, true, true, false, false] rfl rfl (any_of HT_.out (by kernel_rfl)) (fun _ _ _ h => h) (Or.inr ⟨by rfl, rfl⟩) ?_ ?_
       rotate_left
       ·
        simp only [Act.put, List.setIfInBounds_toArray, List.set_cons_zero, List.set_cons_succ, i64_w, i32_w]
        rfl
       refine pure_ (i := 11) (N := some 27) (v := undef) (a' := ?_) #[true, true, true, true, true, true, true, true, true, true, true, true, false] rfl rfl (any_of HT_.out (by kernel_rfl)) (fun _ _ _ h => h) (Or.inr ⟨by rfl, rfl⟩) ?_ ?_
       rotate_left
       ·
        simp only [Act.put, List.setIfInBounds_toArray, List.set_cons_zero, List.set_cons_succ, i64_w, i32_w]
        rfl
       refine pure_ (i := 12) (N := some 28) (v := ?_) (a' := ?_) #[true, true, true, true, true, true, true, true, true, true, true, true, true] rfl rfl (any_of HT_.out (by kernel_rfl)) (fun _ _ _ h => h) (Or.inl ⟨by rfl, ?_⟩) ?_ ?_
       rotate_left
       ·
        intro w'
        go_simp
        with_reducible rfl
       rotate_left
       ·
        simp only [Act.put, List.setIfInBounds_toArray, List.set_cons_zero, List.set_cons_succ, i64_w, i32_w]
        rfl
       refine done_ (done_of HT_.out (by kernel_rfl)) ?_
       try go_wp2
       go_roundg k1
       case measure => have := HK1.out; omega
       case rel => exact ⟨(x5_1), (wrap64 (x11_1 + 1)), (by first | rfl | (simp; done) | (simp [*]; done)), (by first | rfl | (simp; done) | (simp [*]; done)), H', ⟨by have := HK1.out; omega⟩, ⟨by (with_reducible repeat (first | refine blk_drewN ?_ _ | refine blk_drew ?_ | refine blk_alloc ?_ _)); exact BK376.out⟩, ⟨by (with_reducible repeat (first | refine blk_drewN ?_ _ | refine blk_drew ?_ | refine blk_alloc ?_ _)); exact BK377.out⟩, ⟨by repeat (first | (with_reducible first | exact HB.out | apply below_alloc | apply pw_below_drewN | apply below_drew1 | refine below_set ?_ GE376.out | refine below_set ?_ GE377.out | refine below_set ?_ GE379.out) | exact HB.out)⟩⟩
     ·
      rw [if_neg c9] at H
      exact absurd H (by simp)
    ·
     rw [if_neg c8] at H
     exact absurd H (by simp)
   ·
    rw [if_neg c7] at H
    have c7b0 : decide (x11_1 < (l0_0.length : Int)) = false := decide_eq_false c7
    clear c7
    obtain rfl := Option.some.inj H
    go_wp2
    go_ret
    exact ⟨by first | rfl | (simp [errW_none, errW_some] <;> rfl) | (simp [*, errW_none, errW_some] <;> rfl), by repeat (first | (with_reducible first | exact HB.out | apply below_alloc | apply pw_below_drewN | apply below_drew1 | refine below_set ?_ GE376.out | refine below_set ?_ GE377.out) | exact HB.out)⟩

end Go.Proofs.Ytoceopjhacpjnaa.Q
end
section
namespace Go.Proofs.Ytoceopjhacpjnaa.Q
open Go.RowKit Go.Proofs.YtoceopjhacpjnaaW.PrintWords Go.Proofs.YtoceopjhacpjnaaW.PrintLast Go.Proofs.YtoceopjhacpjnaaW.PrintMore
attribute [local go_sem] max2_int min2_int max_two min_two max_three min_three max_four min_four max2_str min2_str str_geq str_gtr str_leq   -- for this text's walks alone
set_option linter.unusedVariables false
set_option linter.unusedSimpArgs false

/-! ### impl_PageAt: function 35 -/
def impl_PageAt.f (k : Nat) (l0_0 : List (S76)) (a0_1 : Int) (a1_0 : ByteArray) (a1_1 : Int) : Option (Int × Int) := (impl_TreeOK.f k l0_0 a0_1).bind fun t384 => (if t384 = true then ((impl_entryOK.f a1_0 a1_1).bind fun t385 => (if t385 = true then ((impl_Tree_pageOf.f k l0_0 a0_1 a1_0 a1_1).bind fun t386 => (if 0 ≤ t386 then (if t386 < (l0_0.length : Int) then (some ((rd_T76 l0_0 t386).f0, 0)) else (none)) else (none))) else (some (0, 1)))) else (some (0, 1)))
theorem impl_PageAt.mono : ∀ a0 a1 a2 a3 k, LeO (impl_PageAt.f k a0 a1 a2 a3) (impl_PageAt.f (k + 1) a0 a1 a2 a3) := by
 intro a0 a1 a2 a3 k
 unfold impl_PageAt.f
 repeat' first
   | (with_reducible exact impl_TreeOK.mono _ _ _)
   | (with_reducible exact impl_Tree_pageOf.mono _ _ _ _ _)
   | (with_reducible exact LeO.refl _)
   | (with_reducible exact LeO.none _)
   | (with_reducible refine LeO.ite ?_ ?_)
   | (with_reducible refine LeO.bind ?_ (fun _ => ?_))
   | exact impl_TreeOK.mono _ _ _
   | exact impl_Tree_pageOf.mono _ _ _ _ _
   | exact LeO.none _
   | refine LeO.ite ?_ ?_
   | refine LeO.bind ?_ (fun _ => ?_)
def impl_PageAt.T3 : Bool × List (List Nat × List Nat) := (true, [([], []), ([0], [0]), ([], []), ([], []), ([2, 3], [2, 3]), ([1, 4], [1, 4]), ([5], [5]), ([6], [6]), ([7, 4, 0, 1, 2, 3, 4, 5, 6, 7], [7]), ([8, 0, 1, 2, 3, 4, 5, 6, 7, 8], [])])
def impl_PageAt.B3 : List Nat := [0, 1, 0, 0, 12, 31, 63, 127, 255, 511]
theorem impl_PageAt.tab3 : rtab .any (opsOf Try.f35 3) = impl_PageAt.T3 := by kernel_rfl
theorem impl_PageAt.bits3 : waitsOk impl_PageAt.T3.2 impl_PageAt.B3 = true := by kernel_rfl
set_option maxHeartbeats 8000000 in
set_option maxRecDepth 100000 in
theorem impl_PageAt.calls (k : Nat) (A0_0 : Option Addr) (c0_0 : Nat) (l0_0 : List (S76)) (a0_1 : Int) (a1_0 : ByteArray) (a1_1 : Int) (r1 : Int) (r2 : Int) (w : World) (hr0_0 : Kd.C k76 w A0_0 l0_0.length l0_0) (hc0_0 : l0_0.length ≤ c0_0) (h : impl_PageAt.f k l0_0 a0_1 a1_0 a1_1 = some (r1, r2)) :
  Calls Try.prog 35 #[.agg #[.slice A0_0 l0_0.length c0_0, .int .i64 a0_1], .agg #[.string a1_0, .int .i64 a1_1]] w fun e w' => e = .returned (.tuple #[.int .i64 r1, .int .i64 r2]) ∧ Below w.heap.size w w' := by
 have hu34 := Try.underlying34
 have hu52 := Try.underlying52
 have HR0_0 := Aside0.mk hr0_0
 have HC0_0 := Aside0.mk hc0_0
 clear hr0_0 hc0_0
 have HB := Aside0.mk (Below.refl w.heap.size w)
 have H : ((impl_TreeOK.f k l0_0 a0_1).bind fun t384 => (if t384 = true then ((impl_entryOK.f a1_0 a1_1).bind fun t385 => (if t385 = true then ((impl_Tree_pageOf.f k l0_0 a0_1 a1_0 a1_1).bind fun t386 => (if 0 ≤ t386 then (if t386 < (l0_0.length : Int) then (some ((rd_T76 l0_0 t386).f0, 0)) else (none)) else (none))) else (some (0, 1)))) else (some (0, 1)))) = some (r1, r2) := h
 clear h
 replace H := Option.bind_eq_some_iff.mp H
 obtain ⟨t384, A30, H⟩ := H
 replace H : (if t384 = true then ((impl_entryOK.f a1_0 a1_1).bind fun t385 => (if t385 = true then ((impl_Tree_pageOf.f k l0_0 a0_1 a1_0 a1_1).bind fun t386 => (if 0 ≤ t386 then (if t386 < (l0_0.length : Int) then (some ((rd_T76 l0_0 t386).f0, 0)) else (none)) else (none))) else (some (0, 1)))) else (some (0, 1))) = some (r1, r2) := H
 have A3 := Aside0.mk A30
 clear A30
 by_cases c4 : t384 = true
 ·
  subst c4
  have H1 : ((impl_entryOK.f a1_0 a1_1).bind fun t385 => (if t385 = true then ((impl_Tree_pageOf.f k l0_0 a0_1 a1_0 a1_1).bind fun t386 => (if 0 ≤ t386 then (if t386 < (l0_0.length : Int) then (some ((rd_T76 l0_0 t386).f0, 0)) else (none)) else (none))) else (some (0, 1)))) = some (r1, r2) := by rw [if_pos rfl] at H; exact H
  clear H
  have H := H1
  clear H1
  replace H := Option.bind_eq_some_iff.mp H
  obtain ⟨t385, A50, H⟩ := H
  replace H : (if t385 = true then ((impl_Tree_pageOf.f k l0_0 a0_1 a1_0 a1_1).bind fun t386 => (if 0 ≤ t386 then (if t386 < (l0_0.length : Int) then (some ((rd_T76 l0_0 t386).f0, 0)) else (none)) else (none))) else (some (0, 1))) = some (r1, r2) := H
  have A5 := Aside0.mk A50
  clear A50
  by_cases c6 : t385 = true
  ·
   subst c6
   have H1 : ((impl_Tree_pageOf.f k l0_0 a0_1 a1_0 a1_1).bind fun t386 => (if 0 ≤ t386 then (if t386 < (l0_0.length : Int) then (some ((rd_T76 l0_0 t386).f0, 0)) else (none)) else (none))) = some (r1, r2) := by rw [if_pos rfl] at H; exact H
   clear H
   have H := H1
   clear H1
   replace H := Option.bind_eq_some_iff.mp H
   obtain ⟨t386, A70, H⟩ := H
   replace H : (if 0 ≤ t386 then (if t386 < (l0_0.length : Int) then (some ((rd_T76 l0_0 t386).f0, 0)) else (none)) else (none)) = some (r1, r2) := H
   have A7 := Aside0.mk A70
   clear A70
   by_cases c8 : 0 ≤ t386
   ·
    rw [if_pos c8] at H
    have c8b0 : decide (0 ≤ t386) = true := decide_eq_true c8
    clear c8
    by_cases c9 : t386 < (l0_0.length : Int)
    ·
     rw [if_pos c9] at H
     have c9b0 : decide (t386 < (l0_0.length : Int)) = true := decide_eq_true c9
     clear c9
     simp only [Option.some.injEq, Prod.mk.injEq] at H
     obtain ⟨rfl, rfl⟩ := H
     go_enter Try.func35, Try.ntmps35
     try go_wp2_with (first | ((with_reducible refine gate_dst (N := 2) rfl ?_); refine box_event ?hg (N := 2) ?hd (cs := #[.slice A0_0 l0_0.length c0_0, .int .i64 a0_1]) (t := 34) ?hr ?_; (case hd => rfl); (case hg => rfl); (case hr => first | (go_simp; done) | (go_simp; rfl)); intro gb382 hg w10 hbox hb; have n0_ := Aside0.mk (below_step (by repeat (first | (with_reducible first | exact HB.out | apply below_alloc | apply pw_below_drewN | apply below_drew1) | exact HB.out)) hb); have n1_ := Aside0.mk (hbox); have n2_ := Aside0.mk ((by rw [hg]; exact (below_size (by repeat (first | (with_reducible first | exact HB.out | apply below_alloc | apply pw_below_drewN | apply below_drew1) | exact HB.out))) : w.heap.size ≤ gb382)); have n3_ := Aside0.mk ((by rw [hg]; exact (below_size (by repeat (first | (with_reducible first | exact HB.out | apply below_alloc | apply pw_below_drewN | apply below_drew1) | exact HB.out))) : w.heap.size ≤ gb382)); clear HB; have HB := n0_; have BK382 := n1_; have GW382 := n2_; have GE382 := n3_; clear n0_ n1_ n2_ n3_; clear hb hbox hg) | ((with_reducible refine gate_dst (N := 3) rfl ?_); refine box_event ?hg (N := 3) ?hd (cs := #[.string a1_0, .int .i64 a1_1]) (t := 52) ?hr ?_; (case hd => rfl); (case hg => rfl); (case hr => first | (go_simp; done) | (go_simp; rfl)); intro gb383 hg w11 hbox hb; have n0_ := Aside0.mk (blk_below (g := gb382) (o := .cells #[.slice A0_0 l0_0.length c0_0, .int .i64 a0_1] 34 (0, 0)) (by (with_reducible repeat (first | refine blk_drewN ?_ _ | refine blk_drew ?_ | refine blk_alloc ?_ _)); exact BK382.out) hb); have n1_ := Aside0.mk (below_step (by repeat (first | (with_reducible first | exact HB.out | apply below_alloc | apply pw_below_drewN | apply below_drew1 | refine below_set ?_ GE382.out) | exact HB.out)) hb); have n2_ := Aside0.mk (hbox); have n3_ := Aside0.mk ((by rw [hg]; exact (below_size (by repeat (first | (with_reducible first | exact HB.out | apply below_alloc | apply pw_below_drewN | apply below_drew1 | refine below_set ?_ GE382.out) | exact HB.out))) : w.heap.size ≤ gb383)); have n4_ := Aside0.mk ((by rw [hg]; exact (below_size (by repeat (first | (with_reducible first | exact HB.out | apply below_alloc | apply pw_below_drewN | apply below_drew1 | refine below_set ?_ GE382.out) | exact HB.out))) : w.heap.size ≤ gb383)); have n5_ := Aside0.mk ((by rw [hg]; exact Nat.ne_of_lt (blk_lt (g := gb382) (o := .cells #[.slice A0_0 l0_0.length c0_0, .int .i64 a0_1] 34 (0, 0)) (by (with_reducible repeat (first | refine blk_drewN ?_ _ | refine blk_drew ?_ | refine blk_alloc ?_ _)); exact BK382.out)) : gb382 ≠ gb383)); have n6_ := Aside0.mk ((by rw [hg]; exact Nat.ne_of_gt (blk_lt (g := gb382) (o := .cells #[.slice A0_0 l0_0.length c0_0, .int .i64 a0_1] 34 (0, 0)) (by (with_reducible repeat (first | refine blk_drewN ?_ _ | refine blk_drew ?_ | refine blk_alloc ?_ _)); exact BK382.out)) : gb383 ≠ gb382)); clear BK382; clear HB; have BK382 := n0_; have HB := n1_; have BK383 := n2_; have GW383 := n3_; have GE383 := n4_; have NB382_383 := n5_; have NB383_382 := n6_; clear n0_ n1_ n2_ n3_ n4_ n5_ n6_; clear hb hbox hg; have hnb12 := NB382_383.out; have hnc12 := NB383_382.out; have hcz13_0 : w11.cell? ⟨gb382, 0, none⟩ = some (.slice A0_0 l0_0.length c0_0) := (blk_cell BK382.out 0).trans rfl; have hcz13_1 : w11.cell? ⟨gb382, 1, none⟩ = some (.int .i64 a0_1) := (blk_cell BK382.out 1).trans rfl; have hfz13_0 := blk_frozen BK382.out 0; have hfz13_1 := blk_frozen BK382.out 1) | ((with_reducible refine gate_callee (f := 29) rfl ?_); refine goesL_ (some 7) rfl rfl Try.func29 (by kernel_rfl) rfl #[.agg #[.slice A0_0 l0_0.length c0_0, .int .i64 a0_1]] rfl (by (try simp only [List.map_toArray, List.map_cons, List.map_nil]); first | done | rfl | (simp only [List.length_drop, List.length_take]; rfl)) ?_; (with_reducible refine (impl_TreeOK.calls k  _ _ l0_0 a0_1 true _ ?side1 ?side2 A3.out).mono ?_); (case side1 => repeat (first | exact (Kd.C_below HR0_0.out HB.out) | (with_reducible refine Kd.C_alloc ?_ _) | (with_reducible refine Kd.C_drewN ?_ _) | (with_reducible refine Kd.C_drew ?_))); (case side2 => exact HC0_0.out); rintro e w14 ⟨rfl, hb⟩; refine ⟨_, rfl, ?_⟩; have n0_ := Aside0.mk (blk_below (g := gb382) (o := .cells #[.slice A0_0 l0_0.length c0_0, .int .i64 a0_1] 34 (0, 0)) (by (with_reducible repeat (first | refine blk_drewN ?_ _ | refine blk_drew ?_ | refine blk_alloc ?_ _)); exact BK382.out) hb); have n1_ := Aside0.mk (blk_below (g := gb383) (o := .cells #[.string a1_0, .int .i64 a1_1] 52 (0, 0)) (by (with_reducible repeat (first | refine blk_drewN ?_ _ | refine blk_drew ?_ | refine blk_alloc ?_ _)); exact BK383.out) hb); have n2_ := Aside0.mk (below_step (by repeat (first | (with_reducible first | exact HB.out | apply below_alloc | apply pw_below_drewN | apply below_drew1 | refine below_set ?_ GE382.out | refine below_set ?_ GE383.out) | exact HB.out)) hb); clear BK382; clear BK383; clear HB; have BK382 := n0_; have BK383 := n1_; have HB := n2_; clear n0_ n1_ n2_; (try clear hb); (try clear hb2); (try clear hk); (try clear hi); have hcz15_0 : w14.cell? ⟨gb383, 0, none⟩ = some (.string a1_0) := (blk_cell BK383.out 0).trans rfl; have hcz15_1 : w14.cell? ⟨gb383, 1, none⟩ = some (.int .i64 a1_1) := (blk_cell BK383.out 1).trans rfl; have hfz15_0 := blk_frozen BK383.out 0; have hfz15_1 := blk_frozen BK383.out 1) | (go_at_call 69; (with_reducible refine (impl_entryOK.calls  a1_0 a1_1 true _ A5.out).mono ?_); rintro e w16 ⟨rfl, hb⟩; have n0_ := Aside0.mk (blk_below (g := gb382) (o := .cells #[.slice A0_0 l0_0.length c0_0, .int .i64 a0_1] 34 (0, 0)) (by (with_reducible repeat (first | refine blk_drewN ?_ _ | refine blk_drew ?_ | refine blk_alloc ?_ _)); exact BK382.out) hb); have n1_ := Aside0.mk (blk_below (g := gb383) (o := .cells #[.string a1_0, .int .i64 a1_1] 52 (0, 0)) (by (with_reducible repeat (first | refine blk_drewN ?_ _ | refine blk_drew ?_ | refine blk_alloc ?_ _)); exact BK383.out) hb); have n2_ := Aside0.mk (below_step (by repeat (first | (with_reducible first | exact HB.out | apply below_alloc | apply pw_below_drewN | apply below_drew1 | refine below_set ?_ GE382.out | refine below_set ?_ GE383.out) | exact HB.out)) hb); clear BK382; clear BK383; clear HB; have BK382 := n0_; have BK383 := n1_; have HB := n2_; clear n0_ n1_ n2_; (try clear hb); (try clear hb2); (try clear hk); (try clear hi)))
     have n0_ := Aside0.mk (blk_drew BK382.out)
     have n1_ := Aside0.mk (blk_drew BK383.out)
     have n2_ := Aside0.mk (below_drew1 HB.out)
     clear BK382
     clear BK383
     clear HB
     have BK382 := n0_
     have BK383 := n1_
     have HB := n2_
     clear n0_ n1_ n2_
     have p387 : 0 ≤ (t386 : Int) := of_decide_eq_true (by first | (with_reducible assumption) | assumption)
     have q387 : t386 < (l0_0.length : Int) := of_decide_eq_true (by first | (with_reducible assumption) | assumption)
     obtain ⟨ad387, A387_1, c387_1, e387, hx387_0, hx387_1, hl387_1, hi387_1⟩ := at_T76 HR0_0.out t386 p387 q387
     have hw387_1 := hx387_1
     have hw387_0 := hx387_0
     cases e387
     replace hx387_0 := (HB.out.cell (World.block_lt_of_cell? w _ hx387_0)).trans hx387_0
     replace hx387_1 := (HB.out.cell (World.block_lt_of_cell? w _ hx387_1)).trans hx387_1
     have HR387_1 := Aside0.mk hi387_1
     have HC387_1 := Aside0.mk hl387_1
     clear hi387_1 hl387_1
     replace p387 := eq_true p387
     replace q387 := eq_true q387
     refine start_ (n := 10) (S := fun w' => w'.cell? ⟨gb382, 0, none⟩ = some (.slice (some ad387) l0_0.length c0_0) ∧ w'.cell? ⟨gb382, 1, none⟩ = some (.int .i64 a0_1) ∧ w'.cell? ⟨gb383, 0, none⟩ = some (.string a1_0) ∧ w'.cell? ⟨gb383, 1, none⟩ = some (.int .i64 a1_1) ∧ w'.cell? (ad387.add ((t386).toNat * 2)) = some (.int .i64 ((rd_T76 l0_0 t386).f0)) ∧ w'.cell? ⟨(ad387.add ((t386).toNat * 2)).block, (ad387.add ((t386).toNat * 2)).off + 1, none⟩ = some (.slice A387_1 ((rd_T76 l0_0 t386).f1).length c387_1)) (ds := []) #[false, false, false, false, false, false, false, false, false, false] (by kernel_rfl) rfl rfl ⟨(blk_cell BK382.out 0).trans rfl, (blk_cell BK382.out 1).trans rfl, (blk_cell BK383.out 0).trans rfl, (blk_cell BK383.out 1).trans rfl, ((HB.out.cell (World.block_lt_of_cell? w _ hw387_0)).trans hw387_0), ((HB.out.cell (World.block_lt_of_cell? w _ hw387_1)).trans hw387_1)⟩ (fun hHeld => ?_); refine with_tabW impl_PageAt.tab3 impl_PageAt.bits3 (fun HT_ HW_ => ?_)
     generalize w16.drew = w17 at BK382 BK383 HB HR387_1 hx387_0 hx387_1 hHeld ⊢
     refine pure_ (i := 0) (N := some 14) (v := ?_) (a' := ?_) #[true, false, false, false, false, false, false, false, false, false] rfl rfl (any_of HT_.out (by kernel_rfl)) (fun _ _ _ h => h) (Or.inl ⟨by rfl, ?_⟩) ?_ ?_
     rotate_left
     ·
      intro w'
      go_simp
      with_reducible rfl
     rotate_left
     ·
      simp only [Act.put, List.setIfInBounds_toArray, List.set_cons_zero, List.set_cons_succ, i64_w, i32_w]
      rfl
     refine take_ (i := 1) (N := some 15) (v := ?_) (a' := ?_) #[true, true, false, false, false, false, false, false, false, false] rfl rfl (take_ofW HT_.out HW_.out (by kernel_rfl)) (fun _ _ _ h => h) (Or.inl ⟨by rfl, ?_⟩) hHeld ?_ ?_
     rotate_left
     ·
      rintro w' ⟨s0, s1, s2, s3, s4, s5⟩
      go_simp
      with_reducible rfl
     rotate_left
     ·
      simp only [Act.put, List.setIfInBounds_toArray, List.set_cons_zero, List.set_cons_succ, i64_w, i32_w]
      rfl
     refine take_ (i := 2) (N := some 16) (v := ?_) (a' := ?_) #[true, true, true, false, false, false, false, false, false, false] rfl rfl (take_ofW HT_.out HW_.out (by kernel_rfl)) (fun _ _ _ h => h) (Or.inl ⟨by rfl, ?_⟩) hHeld ?_ ?_
     rotate_left
     ·
      rintro w' ⟨s0, s1, s2, s3, s4, s5⟩
      go_simp
      with_reducible rfl
     rotate_left
     ·
      simp only [Act.put, List.setIfInBounds_toArray, List.set_cons_zero, List.set_cons_succ, i64_w, i32_w]
      rfl
     refine take_ (i := 3) (N := some 17) (v := ?_) (a' := ?_) #[true, true, true, true, false, false, false, false, false, false] rfl rfl (take_ofW HT_.out HW_.out (by kernel_rfl)) (fun _ _ _ h => h) (Or.inl ⟨by rfl, ?_⟩) hHeld ?_ ?_
     rotate_left
     ·
      rintro w' ⟨s0, s1, s2, s3, s4, s5⟩
      go_simp
      with_reducible rfl
     rotate_left
     ·
      simp only [Act.put, List.setIfInBounds_toArray, List.set_cons_zero, List.set_cons_succ, i64_w, i32_w]
      rfl
     refine one_ (i := 4) (N := some 18) #[true, true, true, true, true, false, false, false, false, false] rfl rfl (one_of HT_.out (by kernel_rfl)) (by decide) (fun K hK => ?_)
     refine goes_ Try.func73 (by kernel_rfl) rfl #[.agg #[.slice (some ad387) l0_0.length c0_0, .int .i64 a0_1], .agg #[.string a1_0, .int .i64 a1_1]] (by rfl) rfl rfl (by (try simp only [List.map_toArray, List.map_cons, List.map_nil]); first | done | rfl | (simp only [List.length_drop, List.length_take]; rfl)) ?_
     with_reducible refine (impl_Tree_pageOf.calls k  _ _ l0_0 a0_1 a1_0 a1_1 t386 _ ?side1 ?side2 A7.out).mono ?_
     (case side1 => repeat (first | exact (Kd.C_below HR0_0.out HB.out) | (with_reducible refine Kd.C_alloc ?_ _) | (with_reducible refine Kd.C_drewN ?_ _) | (with_reducible refine Kd.C_drew ?_)))
     (case side2 => exact HC0_0.out)
     rintro e w18 ⟨rfl, hb⟩
     refine ⟨_, rfl, ?_⟩
     have n0_ := Aside0.mk (blk_below (g := gb382) (o := .cells #[.slice (some ad387) l0_0.length c0_0, .int .i64 a0_1] 34 (0, 0)) (by (with_reducible repeat (first | refine blk_drewN ?_ _ | refine blk_drew ?_ | refine blk_alloc ?_ _)); exact BK382.out) hb)
     have n1_ := Aside0.mk (blk_below (g := gb383) (o := .cells #[.string a1_0, .int .i64 a1_1] 52 (0, 0)) (by (with_reducible repeat (first | refine blk_drewN ?_ _ | refine blk_drew ?_ | refine blk_alloc ?_ _)); exact BK383.out) hb)
     have n2_ := Aside0.mk (below_step (by repeat (first | (with_reducible first | exact HB.out | apply below_alloc | apply pw_below_drewN | apply below_drew1 | refine below_set ?_ GE382.out | refine below_set ?_ GE383.out) | exact HB.out)) hb)
     clear BK382
     clear BK383
     clear HB
     have BK382 := n0_
     have BK383 := n1_
     have HB := n2_
     clear n0_ n1_ n2_
     (try clear hb)
     (try clear hb2)
     (try clear hk)
     (try clear hi)
     refine hK.out _ _ ⟨(blk_cell BK382.out 0).trans rfl, (blk_cell BK382.out 1).trans rfl, (blk_cell BK383.out 0).trans rfl, (blk_cell BK383.out 1).trans rfl, ((HB.out.cell (World.block_lt_of_cell? w _ hw387_0)).trans hw387_0), ((HB.out.cell (World.block_lt_of_cell? w _ hw387_1)).trans hw387_1)⟩ (fun hHeld => ?_)
     clear hK K
     refine norm_ (a' := ?_) ?_ ?_
     rotate_left
     ·
      show Act.put _ (some 18) _ = _
      simp only [Act.put, List.setIfInBounds_toArray, List.set_cons_zero, List.set_cons_succ, i64_w, i32_w]
      rfl
     refine pure_ (i := 5) (N := some 19) (v := ?_) (a' := ?_) #[true, true, true, true, true, true, false, false, false, false] rfl rfl (any_of HT_.out (by kernel_rfl)) (fun _ _ _ h => h) (Or.inl ⟨by rfl, ?_⟩) ?_ ?_
     rotate_left
     ·
      intro w'
      go_simp
      with_reducible rfl
     rotate_left
     ·
      simp only [Act.put, List.setIfInBounds_toArray, List.set_cons_zero, List.set_cons_succ, i64_w, i32_w]
      rfl
     refine pure_ (i := 6) (N := some 20) (v := ?_) (a' := ?_) #[true, true, true, true, true, true, true, false, false, false] rfl rfl (any_of HT_.out (by kernel_rfl)) (fun _ _ _ h => h) (Or.inl ⟨by rfl, ?_⟩) ?_ ?_
     rotate_left
     ·
      intro w'
      go_simp
      with_reducible rfl
     rotate_left
     ·
      simp only [Act.put, List.setIfInBounds_toArray, List.set_cons_zero, List.set_cons_succ, i64_w, i32_w]
      rfl
     refine take_ (i := 7) (N := some 21) (v := ?_) (a' := ?_) #[true, true, true, true, true, true, true, true, false, false] rfl rfl (take_ofW HT_.out HW_.out (by kernel_rfl)) (fun _ _ _ h => h) (Or.inl ⟨by rfl, ?_⟩) hHeld ?_ ?_
     rotate_left
     ·
      rintro w' ⟨s0, s1, s2, s3, s4, s5⟩
      go_simp
      with_reducible rfl
     rotate_left
     ·
      simp only [Act.put, List.setIfInBounds_toArray, List.set_cons_zero, List.set_cons_succ, i64_w, i32_w]
      rfl
     refine pure_ (i := 8) (N := some 4) (v := ?_) (a' := ?_) #[true, true, true, true, true, true, true, true, true, false] rfl rfl (any_of HT_.out (by kernel_rfl)) (fun _ _ _ h => h) (Or.inl ⟨by rfl, ?_⟩) ?_ ?_
     rotate_left
     ·
      intro w'
      go_simp
      with_reducible rfl
     rotate_left
     ·
      simp only [Act.put, List.setIfInBounds_toArray, List.set_cons_zero, List.set_cons_succ, i64_w, i32_w]
      rfl
     refine pure_ (i := 9) (N := some 5) (v := ?_) (a' := ?_) #[true, true, true, true, true, true, true, true, true, true] rfl rfl (any_of HT_.out (by kernel_rfl)) (fun _ _ _ h => h) (Or.inl ⟨by rfl, ?_⟩) ?_ ?_
     rotate_left
     ·
      intro w'
      go_simp
      with_reducible rfl
     rotate_left
     ·
      simp only [Act.put, List.setIfInBounds_toArray, List.set_cons_zero, List.set_cons_succ, i64_w, i32_w]
      rfl
     refine done_ (done_of HT_.out (by kernel_rfl)) ?_
     try go_wp2
     go_ret2
     exact ⟨by first | rfl | (simp [errW_none, errW_some] <;> rfl) | (simp [*, errW_none, errW_some] <;> rfl), by repeat (first | (with_reducible first | exact HB.out | apply below_alloc | apply pw_below_drewN | apply below_drew1 | refine below_set ?_ GE382.out | refine below_set ?_ GE383.out) | exact HB.out)⟩
    ·
     rw [if_neg c9] at H
     exact absurd H (by simp)
   ·
    rw [if_neg c8] at H
    exact absurd H (by simp)
  ·
   replace c6 := Bool.eq_false_iff.mpr c6
   subst c6
   have H1 : (some (0, 1)) = some (r1, r2) := by rw [if_neg (show ¬ (false = true) by decide)] at H; exact H
   clear H
   have H := H1
   clear H1
   simp only [Option.some.injEq, Prod.mk.injEq] at H
   obtain ⟨rfl, rfl⟩ := H
   go_enter Try.func35, Try.ntmps35
   go_wp2_with (first | ((with_reducible refine gate_dst (N := 2) rfl ?_); refine box_event ?hg (N := 2) ?hd (cs := #[.slice A0_0 l0_0.length c0_0, .int .i64 a0_1]) (t := 34) ?hr ?_; (case hd => rfl); (case hg => rfl); (case hr => first | (go_simp; done) | (go_simp; rfl)); intro gb382 hg w19 hbox hb; have n0_ := Aside0.mk (below_step (by repeat (first | (with_reducible first | exact HB.out | apply below_alloc | apply pw_below_drewN | apply below_drew1) | exact HB.out)) hb); have n1_ := Aside0.mk (hbox); have n2_ := Aside0.mk ((by rw [hg]; exact (below_size (by repeat (first | (with_reducible first | exact HB.out | apply below_alloc | apply pw_below_drewN | apply below_drew1) | exact HB.out))) : w.heap.size ≤ gb382)); have n3_ := Aside0.mk ((by rw [hg]; exact (below_size (by repeat (first | (with_reducible first | exact HB.out | apply below_alloc | apply pw_below_drewN | apply below_drew1) | exact HB.out))) : w.heap.size ≤ gb382)); clear HB; have HB := n0_; have BK382 := n1_; have GW382 := n2_; have GE382 := n3_; clear n0_ n1_ n2_ n3_; clear hb hbox hg) | ((with_reducible refine gate_dst (N := 3) rfl ?_); refine box_event ?hg (N := 3) ?hd (cs := #[.string a1_0, .int .i64 a1_1]) (t := 52) ?hr ?_; (case hd => rfl); (case hg => rfl); (case hr => first | (go_simp; done) | (go_simp; rfl)); intro gb383 hg w20 hbox hb; have n0_ := Aside0.mk (blk_below (g := gb382) (o := .cells #[.slice A0_0 l0_0.length c0_0, .int .i64 a0_1] 34 (0, 0)) (by (with_reducible repeat (first | refine blk_drewN ?_ _ | refine blk_drew ?_ | refine blk_alloc ?_ _)); exact BK382.out) hb); have n1_ := Aside0.mk (below_step (by repeat (first | (with_reducible first | exact HB.out | apply below_alloc | apply pw_below_drewN | apply below_drew1 | refine below_set ?_ GE382.out) | exact HB.out)) hb); have n2_ := Aside0.mk (hbox); have n3_ := Aside0.mk ((by rw [hg]; exact (below_size (by repeat (first | (with_reducible first | exact HB.out | apply below_alloc | apply pw_below_drewN | apply below_drew1 | refine below_set ?_ GE382.out) | exact HB.out))) : w.heap.size ≤ gb383)); have n4_ := Aside0.mk ((by rw [hg]; exact (below_size (by repeat (first | (with_reducible first | exact HB.out | apply below_alloc | apply pw_below_drewN | apply below_drew1 | refine below_set ?_ GE382.out) | exact HB.out))) : w.heap.size ≤ gb383)); have n5_ := Aside0.mk ((by rw [hg]; exact Nat.ne_of_lt (blk_lt (g := gb382) (o := .cells #[.slice A0_0 l0_0.length c0_0, .int .i64 a0_1] 34 (0, 0)) (by (with_reducible repeat (first | refine blk_drewN ?_ _ | refine blk_drew ?_ | refine blk_alloc ?_ _)); exact BK382.out)) : gb382 ≠ gb383)); have n6_ := Aside0.mk ((by rw [hg]; exact Nat.ne_of_gt (blk_lt (g := gb382) (o := .cells #[.slice A0_0 l0_0.length c0_0, .int .i64 a0_1] 34 (0, 0)) (by (with_reducible repeat (first | refine blk_drewN ?_ _ | refine blk_drew ?_ | refine blk_alloc ?_ _)); exact BK382.out)) : gb383 ≠ gb382)); clear BK382; clear HB; have BK382 := n0_; have HB := n1_; have BK383 := n2_; have GW383 := n3_; have GE383 := n4_; have NB382_383 := n5_; have NB383_382 := n6_; clear n0_ n1_ n2_ n3_ n4_ n5_ n6_; clear hb hbox hg; have hnb21 := NB382_383.out; have hnc21 := NB383_382.out; have hcz22_0 : w20.cell? ⟨gb382, 0, none⟩ = some (.slice A0_0 l0_0.length c0_0) := (blk_cell BK382.out 0).trans rfl; have hcz22_1 : w20.cell? ⟨gb382, 1, none⟩ = some (.int .i64 a0_1) := (blk_cell BK382.out 1).trans rfl; have hfz22_0 := blk_frozen BK382.out 0; have hfz22_1 := blk_frozen BK382.out 1) | ((with_reducible refine gate_callee (f := 29) rfl ?_); refine goesL_ (some 7) rfl rfl Try.func29 (by kernel_rfl) rfl #[.agg #[.slice A0_0 l0_0.length c0_0, .int .i64 a0_1]] rfl (by (try simp only [List.map_toArray, List.map_cons, List.map_nil]); first | done | rfl | (simp only [List.length_drop, List.length_take]; rfl)) ?_; (with_reducible refine (impl_TreeOK.calls k  _ _ l0_0 a0_1 true _ ?side1 ?side2 A3.out).mono ?_); (case side1 => repeat (first | exact (Kd.C_below HR0_0.out HB.out) | (with_reducible refine Kd.C_alloc ?_ _) | (with_reducible refine Kd.C_drewN ?_ _) | (with_reducible refine Kd.C_drew ?_))); (case side2 => exact HC0_0.out); rintro e w23 ⟨rfl, hb⟩; refine ⟨_, rfl, ?_⟩; have n0_ := Aside0.mk (blk_below (g := gb382) (o := .cells #[.slice A0_0 l0_0.length c0_0, .int .i64 a0_1] 34 (0, 0)) (by (with_reducible repeat (first | refine blk_drewN ?_ _ | refine blk_drew ?_ | refine blk_alloc ?_ _)); exact BK382.out) hb); have n1_ := Aside0.mk (blk_below (g := gb383) (o := .cells #[.string a1_0, .int .i64 a1_1] 52 (0, 0)) (by (with_reducible repeat (first | refine blk_drewN ?_ _ | refine blk_drew ?_ | refine blk_alloc ?_ _)); exact BK383.out) hb); have n2_ := Aside0.mk (below_step (by repeat (first | (with_reducible first | exact HB.out | apply below_alloc | apply pw_below_drewN | apply below_drew1 | refine below_set ?_ GE382.out | refine below_set ?_ GE383.out) | exact HB.out)) hb); clear BK382; clear BK383; clear HB; have BK382 := n0_; have BK383 := n1_; have HB := n2_; clear n0_ n1_ n2_; (try clear hb); (try clear hb2); (try clear hk); (try clear hi); have hcz24_0 : w23.cell? ⟨gb383, 0, none⟩ = some (.string a1_0) := (blk_cell BK383.out 0).trans rfl; have hcz24_1 : w23.cell? ⟨gb383, 1, none⟩ = some (.int .i64 a1_1) := (blk_cell BK383.out 1).trans rfl; have hfz24_0 := blk_frozen BK383.out 0; have hfz24_1 := blk_frozen BK383.out 1) | (go_at_call 69; (with_reducible refine (impl_entryOK.calls  a1_0 a1_1 false _ A5.out).mono ?_); rintro e w25 ⟨rfl, hb⟩; have n0_ := Aside0.mk (blk_below (g := gb382) (o := .cells #[.slice A0_0 l0_0.length c0_0, .int .i64 a0_1] 34 (0, 0)) (by (with_reducible repeat (first | refine blk_drewN ?_ _ | refine blk_drew ?_ | refine blk_alloc ?_ _)); exact BK382.out) hb); have n1_ := Aside0.mk (blk_below (g := gb383) (o := .cells #[.string a1_0, .int .i64 a1_1] 52 (0, 0)) (by (with_reducible repeat (first | refine blk_drewN ?_ _ | refine blk_drew ?_ | refine blk_alloc ?_ _)); exact BK383.out) hb); have n2_ := Aside0.mk (below_step (by repeat (first | (with_reducible first | exact HB.out | apply below_alloc | apply pw_below_drewN | apply below_drew1 | refine below_set ?_ GE382.out | refine below_set ?_ GE383.out) | exact HB.out)) hb); clear BK382; clear BK383; clear HB; have BK382 := n0_; have BK383 := n1_; have HB := n2_; clear n0_ n1_ n2_; (try clear hb); (try clear hb2); (try clear hk); (try clear hi)))
   go_ret2
   exact ⟨by first | rfl | (simp [errW_none, errW_some] <;> rfl) | (simp [*, errW_none, errW_some] <;> rfl), by repeat (first | (with_reducible first | exact HB.out | apply below_alloc | apply pw_below_drewN | apply below_drew1 | refine below_set ?_ GE382.out | refine below_set ?_ GE383.out) | exact HB.out)⟩
 ·
  replace c4 := Bool.eq_false_iff.mpr c4
  subst c4
  have H1 : (some (0, 1)) = some (r1, r2) := by rw [if_neg (show ¬ (false = true) by decide)] at H; exact H
  clear H
  have H := H1
  clear H1
  simp only [Option.some.injEq, Prod.mk.injEq] at H
  obtain ⟨rfl, rfl⟩ := H
  go_enter Try.func35, Try.ntmps35
  go_wp2_with (first | ((with_reducible refine gate_dst (N := 2) rfl ?_); refine box_event ?hg (N := 2) ?hd (cs := #[.slice A0_0 l0_0.length c0_0, .int .i64 a0_1]) (t := 34) ?hr ?_; (case hd => rfl); (case hg => rfl); (case hr => first | (go_simp; done) | (go_simp; rfl)); intro gb382 hg w26 hbox hb; have n0_ := Aside0.mk (below_step (by repeat (first | (with_reducible first | exact HB.out | apply below_alloc | apply pw_below_drewN | apply below_drew1) | exact HB.out)) hb); have n1_ := Aside0.mk (hbox); have n2_ := Aside0.mk ((by rw [hg]; exact (below_size (by repeat (first | (with_reducible first | exact HB.out | apply below_alloc | apply pw_below_drewN | apply below_drew1) | exact HB.out))) : w.heap.size ≤ gb382)); have n3_ := Aside0.mk ((by rw [hg]; exact (below_size (by repeat (first | (with_reducible first | exact HB.out | apply below_alloc | apply pw_below_drewN | apply below_drew1) | exact HB.out))) : w.heap.size ≤ gb382)); clear HB; have HB := n0_; have BK382 := n1_; have GW382 := n2_; have GE382 := n3_; clear n0_ n1_ n2_ n3_; clear hb hbox hg) | ((with_reducible refine gate_dst (N := 3) rfl ?_); refine box_event ?hg (N := 3) ?hd (cs := #[.string a1_0, .int .i64 a1_1]) (t := 52) ?hr ?_; (case hd => rfl); (case hg => rfl); (case hr => first | (go_simp; done) | (go_simp; rfl)); intro gb383 hg w27 hbox hb; have n0_ := Aside0.mk (blk_below (g := gb382) (o := .cells #[.slice A0_0 l0_0.length c0_0, .int .i64 a0_1] 34 (0, 0)) (by (with_reducible repeat (first | refine blk_drewN ?_ _ | refine blk_drew ?_ | refine blk_alloc ?_ _)); exact BK382.out) hb); have n1_ := Aside0.mk (below_step (by repeat (first | (with_reducible first | exact HB.out | apply below_alloc | apply pw_below_drewN | apply below_drew1 | refine below_set ?_ GE382.out) | exact HB.out)) hb); have n2_ := Aside0.mk (hbox); have n3_ := Aside0.mk ((by rw [hg]; exact (below_size (by repeat (first | (with_reducible first | exact HB.out | apply below_alloc | apply pw_below_drewN | apply below_drew1 | refine below_set ?_ GE382.out) | exact HB.out))) : w.heap.size ≤ gb383)); have n4_ := Aside0.mk ((by rw [hg]; exact (below_size (by repeat (first | (with_reducible first | exact HB.out | apply below_alloc | apply pw_below_drewN | apply below_drew1 | refine below_set ?_ GE382.out) | exact HB.out))) : w.heap.size ≤ gb383)); have n5_ := Aside0.mk ((by rw [hg]; exact Nat.ne_of_lt (blk_lt (g := gb382) (o := .cells #[.slice A0_0 l0_0.length c0_0, .int .i64 a0_1] 34 (0, 0)) (by (with_reducible repeat (first | refine blk_drewN ?_ _ | refine blk_drew ?_ | refine blk_alloc ?_ _)); exact BK382.out)) : gb382 ≠ gb383)); have n6_ := Aside0.mk ((by rw [hg]; exact Nat.ne_of_gt (blk_lt (g := gb382) (o := .cells #[.slice A0_0 l0_0.length c0_0, .int .i64 a0_1] 34 (0, 0)) (by (with_reducible repeat (first | refine blk_drewN ?_ _ | refine blk_drew ?_ | refine blk_alloc ?_ _)); exact BK382.out)) : gb383 ≠ gb382)); clear BK382; clear HB; have BK382 := n0_; have HB := n1_; have BK383 := n2_; have GW383 := n3_; have GE383 := n4_; have NB382_383 := n5_; have NB383_382 := n6_; clear n0_ n1_ n2_ n3_ n4_ n5_ n6_; clear hb hbox hg; have hnb28 := NB382_383.out; have hnc28 := NB383_382.out; have hcz29_0 : w27.cell? ⟨gb382, 0, none⟩ = some (.slice A0_0 l0_0.length c0_0) := (blk_cell BK382.out 0).trans rfl; have hcz29_1 : w27.cell? ⟨gb382, 1, none⟩ = some (.int .i64 a0_1) := (blk_cell BK382.out 1).trans rfl; have hfz29_0 := blk_frozen BK382.out 0; have hfz29_1 := blk_frozen BK382.out 1) | ((with_reducible refine gate_callee (f := 29) rfl ?_); refine goesL_ (some 7) rfl rfl Try.func29 (by kernel_rfl) rfl #[.agg #[.slice A0_0 l0_0.length c0_0, .int .i64 a0_1]] rfl (by (try simp only [List.map_toArray, List.map_cons, List.map_nil]); first | done | rfl | (simp only [List.length_drop, List.length_take]; rfl)) ?_; (with_reducible refine (impl_TreeOK.calls k  _ _ l0_0 a0_1 false _ ?side1 ?side2 A3.out).mono ?_); (case side1 => repeat (first | exact (Kd.C_below HR0_0.out HB.out) | (with_reducible refine Kd.C_alloc ?_ _) | (with_reducible refine Kd.C_drewN ?_ _) | (with_reducible refine Kd.C_drew ?_))); (case side2 => exact HC0_0.out); rintro e w30 ⟨rfl, hb⟩; refine ⟨_, rfl, ?_⟩; have n0_ := Aside0.mk (blk_below (g := gb382) (o := .cells #[.slice A0_0 l0_0.length c0_0, .int .i64 a0_1] 34 (0, 0)) (by (with_reducible repeat (first | refine blk_drewN ?_ _ | refine blk_drew ?_ | refine blk_alloc ?_ _)); exact BK382.out) hb); have n1_ := Aside0.mk (blk_below (g := gb383) (o := .cells #[.string a1_0, .int .i64 a1_1] 52 (0, 0)) (by (with_reducible repeat (first | refine blk_drewN ?_ _ | refine blk_drew ?_ | refine blk_alloc ?_ _)); exact BK383.out) hb); have n2_ := Aside0.mk (below_step (by repeat (first | (with_reducible first | exact HB.out | apply below_alloc | apply pw_below_drewN | apply below_drew1 | refine below_set ?_ GE382.out | refine below_set ?_ GE383.out) | exact HB.out)) hb); clear BK382; clear BK383; clear HB; have BK382 := n0_; have BK383 := n1_; have HB := n2_; clear n0_ n1_ n2_; (try clear hb); (try clear hb2); (try clear hk); (try clear hi)))
  go_ret2
  exact ⟨by first | rfl | (simp [errW_none, errW_some] <;> rfl) | (simp [*, errW_none, errW_some] <;> rfl), by repeat (first | (with_reducible first | exact HB.out | apply below_alloc | apply pw_below_drewN | apply below_drew1 | refine below_set ?_ GE382.out | refine below_set ?_ GE383.out) | exact HB.out)⟩

end Go.Proofs.Ytoceopjhacpjnaa.Q
end
section
namespace Go.Proofs.Ytoceopjhacpjnaa.Q
open Go.RowKit Go.Proofs.YtoceopjhacpjnaaW.PrintWords Go.Proofs.YtoceopjhacpjnaaW.PrintLast Go.Proofs.YtoceopjhacpjnaaW.PrintMore
attribute [local go_sem] max2_int min2_int max_two min_two max_three min_three max_four min_four max2_str min2_str str_geq str_gtr str_leq   -- for this text's walks alone
set_option linter.unusedVariables false
set_option linter.unusedSimpArgs false

/-! ### laws_FnExactPageAt: function 8 -/
def laws_FnExactPageAt.j0 : Nat → Bool → List (S105) → Int → List (S76) → Int → Option (Bool)
 | 0, _, _, _, _, _ => none
 | k + 1, x45, x389000, x389001, x405000, x405001 => if x45 = true then (some false) else ((laws_toTree.f k x389000 x389001).bind fun bt409 => ((laws_eqTree.f k x405000 x405001 bt409.1 bt409.2).bind fun t413 => (if t413 = true then (some true) else (some false))))
def laws_FnExactPageAt.f (k : Nat) (l0_0 : List (S105)) (a0_1 : Int) (a1_0 : ByteArray) (a1_1 : Int) : Option (Bool) := (laws_szTree.f k l0_0 a0_1 1048576).bind fun t390 => (if t390 < 0 then (some true) else ((laws_szEntry.f a1_0 a1_1 t390).bind fun t391 => (if t391 < 0 then (some true) else ((laws_toTree.f k l0_0 a0_1).bind fun bt392 => ((laws_toEntry.f a1_0 a1_1).bind fun bt396 => ((spec_PageAt.f k bt392.1 bt392.2 bt396.1 bt396.2).bind fun bt398 => ((laws_toTree.f k l0_0 a0_1).bind fun bt400 => ((laws_toEntry.f a1_0 a1_1).bind fun bt405 => ((impl_PageAt.f k bt400.1 bt400.2 bt405.1 bt405.2).bind fun bt407 => (if bt407.1 = bt398.1 then (laws_FnExactPageAt.j0 k (bt407.2 != bt398.2) l0_0 a0_1 bt400.1 bt400.2) else (laws_FnExactPageAt.j0 k true l0_0 a0_1 bt400.1 bt400.2)))))))))))
theorem laws_FnExactPageAt.mono_l : ∀ k, (∀ y0 y1 y2 y3 y4, LeO (laws_FnExactPageAt.j0 k y0 y1 y2 y3 y4) (laws_FnExactPageAt.j0 (k + 1) y0 y1 y2 y3 y4))
 | 0 => fun _ _ _ _ _ r h => by simp [laws_FnExactPageAt.j0] at h
 | k + 1 => by
  have ih0 := laws_FnExactPageAt.mono_l k
  ·
   intro y0 y1 y2 y3 y4
   unfold laws_FnExactPageAt.j0
   repeat' first
   | (with_reducible exact ih0 _ _ _ _ _)
   | (with_reducible exact laws_eqTree.mono _ _ _ _ _)
   | (with_reducible exact laws_szTree.mono _ _ _ _)
   | (with_reducible exact laws_toTree.mono _ _ _)
   | (with_reducible exact spec_PageAt.mono _ _ _ _ _)
   | (with_reducible exact impl_PageAt.mono _ _ _ _ _)
   | (with_reducible exact LeO.refl _)
   | (with_reducible exact LeO.none _)
   | (with_reducible refine LeO.ite ?_ ?_)
   | (with_reducible refine LeO.bind ?_ (fun _ => ?_))
   | exact ih0 _ _ _ _ _
   | exact laws_eqTree.mono _ _ _ _ _
   | exact laws_szTree.mono _ _ _ _
   | exact laws_toTree.mono _ _ _
   | exact spec_PageAt.mono _ _ _ _ _
   | exact impl_PageAt.mono _ _ _ _ _
   | exact LeO.none _
   | refine LeO.ite ?_ ?_
   | refine LeO.bind ?_ (fun _ => ?_)
theorem laws_FnExactPageAt.mono : ∀ a0 a1 a2 a3 k, LeO (laws_FnExactPageAt.f k a0 a1 a2 a3) (laws_FnExactPageAt.f (k + 1) a0 a1 a2 a3) := by
 intro a0 a1 a2 a3 k
 have ih0 := laws_FnExactPageAt.mono_l k
 unfold laws_FnExactPageAt.f
 repeat' first
   | (with_reducible exact ih0 _ _ _ _ _)
   | (with_reducible exact laws_eqTree.mono _ _ _ _ _)
   | (with_reducible exact laws_szTree.mono _ _ _ _)
   | (with_reducible exact laws_toTree.mono _ _ _)
   | (with_reducible exact spec_PageAt.mono _ _ _ _ _)
   | (with_reducible exact impl_PageAt.mono _ _ _ _ _)
   | (with_reducible exact LeO.refl _)
   | (with_reducible exact LeO.none _)
   | (with_reducible refine LeO.ite ?_ ?_)
   | (with_reducible refine LeO.bind ?_ (fun _ => ?_))
   | exact ih0 _ _ _ _ _
   | exact laws_eqTree.mono _ _ _ _ _
   | exact laws_szTree.mono _ _ _ _
   | exact laws_toTree.mono _ _ _
   | exact spec_PageAt.mono _ _ _ _ _
   | exact impl_PageAt.mono _ _ _ _ _
   | exact LeO.none _
   | refine LeO.ite ?_ ?_
   | refine LeO.bind ?_ (fun _ => ?_)
def laws_FnExactPageAt.T8 : Bool × List (List Nat × List Nat) := (true, [([], []), ([0], [0]), ([], []), ([2, 1], [2]), ([1, 3, 3], [1, 3]), ([4], [4]), ([5], [5]), ([5], [5]), ([6, 4, 0, 1, 2, 3, 4, 5, 6], [6]), ([7, 8, 0, 1, 2, 3, 4, 5, 6, 7, 8], [7])])
def laws_FnExactPageAt.B8 : List Nat := [0, 1, 0, 7, 15, 31, 63, 63, 127, 511]
theorem laws_FnExactPageAt.tab8 : rtab .any (opsOf Try.f8 8) = laws_FnExactPageAt.T8 := by kernel_rfl
theorem laws_FnExactPageAt.bits8 : waitsOk laws_FnExactPageAt.T8.2 laws_FnExactPageAt.B8 = true := by kernel_rfl
def laws_FnExactPageAt.T10 : Bool × List (List Nat × List Nat) := (true, [([], []), ([], []), ([1], [1]), ([0, 2, 2], [0, 2]), ([3], [3]), ([4], [4]), ([4], [4]), ([5, 3, 0, 1, 2, 3, 4, 5], [5]), ([6, 7, 0, 1, 2, 3, 4, 5, 6, 7], [6])])
def laws_FnExactPageAt.B10 : List Nat := [0, 0, 2, 7, 15, 31, 31, 63, 255]
theorem laws_FnExactPageAt.tab10 : rtab .any (opsOf Try.f8 10) = laws_FnExactPageAt.T10 := by kernel_rfl
theorem laws_FnExactPageAt.bits10 : waitsOk laws_FnExactPageAt.T10.2 laws_FnExactPageAt.B10 = true := by kernel_rfl
set_option maxHeartbeats 8000000 in
set_option maxRecDepth 100000 in
theorem laws_FnExactPageAt.calls (k : Nat) (A0_0 : Option Addr) (c0_0 : Nat) (l0_0 : List (S105)) (a0_1 : Int) (a1_0 : ByteArray) (a1_1 : Int) (r : Bool) (w : World) (hr0_0 : Kd.C k105 w A0_0 l0_0.length l0_0) (hc0_0 : l0_0.length ≤ c0_0) (h : laws_FnExactPageAt.f k l0_0 a0_1 a1_0 a1_1 = some r) :
  Calls Try.prog 8 #[.agg #[.slice A0_0 l0_0.length c0_0, .int .i64 a0_1], .agg #[.string a1_0, .int .i64 a1_1]] w fun e w' => e = .returned (.bool r) ∧ Below w.heap.size w w' := by
 have hu41 := Try.underlying41
 have hu49 := Try.underlying49
 have hu34 := Try.underlying34
 have HR0_0 := Aside0.mk hr0_0
 have HC0_0 := Aside0.mk hc0_0
 clear hr0_0 hc0_0
 have HB := Aside0.mk (Below.refl w.heap.size w)
 have H : ((laws_szTree.f k l0_0 a0_1 1048576).bind fun t390 => (if t390 < 0 then (some true) else ((laws_szEntry.f a1_0 a1_1 t390).bind fun t391 => (if t391 < 0 then (some true) else ((laws_toTree.f k l0_0 a0_1).bind fun bt392 => ((laws_toEntry.f a1_0 a1_1).bind fun bt396 => ((spec_PageAt.f k bt392.1 bt392.2 bt396.1 bt396.2).bind fun bt398 => ((laws_toTree.f k l0_0 a0_1).bind fun bt400 => ((laws_toEntry.f a1_0 a1_1).bind fun bt405 => ((impl_PageAt.f k bt400.1 bt400.2 bt405.1 bt405.2).bind fun bt407 => (if bt407.1 = bt398.1 then (laws_FnExactPageAt.j0 k (bt407.2 != bt398.2) l0_0 a0_1 bt400.1 bt400.2) else (laws_FnExactPageAt.j0 k true l0_0 a0_1 bt400.1 bt400.2)))))))))))) = some r := h
 clear h
 replace H := Option.bind_eq_some_iff.mp H
 obtain ⟨t390, A30, H⟩ := H
 replace H : (if t390 < 0 then (some true) else ((laws_szEntry.f a1_0 a1_1 t390).bind fun t391 => (if t391 < 0 then (some true) else ((laws_toTree.f k l0_0 a0_1).bind fun bt392 => ((laws_toEntry.f a1_0 a1_1).bind fun bt396 => ((spec_PageAt.f k bt392.1 bt392.2 bt396.1 bt396.2).bind fun bt398 => ((laws_toTree.f k l0_0 a0_1).bind fun bt400 => ((laws_toEntry.f a1_0 a1_1).bind fun bt405 => ((impl_PageAt.f k bt400.1 bt400.2 bt405.1 bt405.2).bind fun bt407 => (if bt407.1 = bt398.1 then (laws_FnExactPageAt.j0 k (bt407.2 != bt398.2) l0_0 a0_1 bt400.1 bt400.2) else (laws_FnExactPageAt.j0 k true l0_0 a0_1 bt400.1 bt400.2))))))))))) = some r := H
 have A3 := Aside0.mk A30
 clear A30
 by_cases c4 : t390 < 0
 ·
  rw [if_pos c4] at H
  have c4b0 : decide (t390 < 0) = true := decide_eq_true c4
  clear c4
  obtain rfl := Option.some.inj H
  go_enter Try.func8, Try.ntmps8
  go_wp2_with (first | ((with_reducible refine gate_dst (N := 2) rfl ?_); refine box_event ?hg (N := 2) ?hd (cs := #[.slice A0_0 l0_0.length c0_0, .int .i64 a0_1]) (t := 41) ?hr ?_; (case hd => rfl); (case hg => rfl); (case hr => first | (go_simp; done) | (go_simp; rfl)); intro gb388 hg w5 hbox hb; have n0_ := Aside0.mk (below_step (by repeat (first | (with_reducible first | exact HB.out | apply below_alloc | apply pw_below_drewN | apply below_drew1) | exact HB.out)) hb); have n1_ := Aside0.mk (hbox); have n2_ := Aside0.mk ((by rw [hg]; exact (below_size (by repeat (first | (with_reducible first | exact HB.out | apply below_alloc | apply pw_below_drewN | apply below_drew1) | exact HB.out))) : w.heap.size ≤ gb388)); have n3_ := Aside0.mk ((by rw [hg]; exact (below_size (by repeat (first | (with_reducible first | exact HB.out | apply below_alloc | apply pw_below_drewN | apply below_drew1) | exact HB.out))) : w.heap.size ≤ gb388)); clear HB; have HB := n0_; have BK388 := n1_; have GW388 := n2_; have GE388 := n3_; clear n0_ n1_ n2_ n3_; clear hb hbox hg) | ((with_reducible refine gate_dst (N := 3) rfl ?_); refine box_event ?hg (N := 3) ?hd (cs := #[.string a1_0, .int .i64 a1_1]) (t := 49) ?hr ?_; (case hd => rfl); (case hg => rfl); (case hr => first | (go_simp; done) | (go_simp; rfl)); intro gb389 hg w6 hbox hb; have n0_ := Aside0.mk (blk_below (g := gb388) (o := .cells #[.slice A0_0 l0_0.length c0_0, .int .i64 a0_1] 41 (0, 0)) (by (with_reducible repeat (first | refine blk_drewN ?_ _ | refine blk_drew ?_ | refine blk_alloc ?_ _)); exact BK388.out) hb); have n1_ := Aside0.mk (below_step (by repeat (first | (with_reducible first | exact HB.out | apply below_alloc | apply pw_below_drewN | apply below_drew1 | refine below_set ?_ GE388.out) | exact HB.out)) hb); have n2_ := Aside0.mk (hbox); have n3_ := Aside0.mk ((by rw [hg]; exact (below_size (by repeat (first | (with_reducible first | exact HB.out | apply below_alloc | apply pw_below_drewN | apply below_drew1 | refine below_set ?_ GE388.out) | exact HB.out))) : w.heap.size ≤ gb389)); have n4_ := Aside0.mk ((by rw [hg]; exact (below_size (by repeat (first | (with_reducible first | exact HB.out | apply below_alloc | apply pw_below_drewN | apply below_drew1 | refine below_set ?_ GE388.out) | exact HB.out))) : w.heap.size ≤ gb389)); have n5_ := Aside0.mk ((by rw [hg]; exact Nat.ne_of_lt (blk_lt (g := gb388) (o := .cells #[.slice A0_0 l0_0.length c0_0, .int .i64 a0_1] 41 (0, 0)) (by (with_reducible repeat (first | refine blk_drewN ?_ _ | refine blk_drew ?_ | refine blk_alloc ?_ _)); exact BK388.out)) : gb388 ≠ gb389)); have n6_ := Aside0.mk ((by rw [hg]; exact Nat.ne_of_gt (blk_lt (g := gb388) (o := .cells #[.slice A0_0 l0_0.length c0_0, .int .i64 a0_1] 41 (0, 0)) (by (with_reducible repeat (first | refine blk_drewN ?_ _ | refine blk_drew ?_ | refine blk_alloc ?_ _)); exact BK388.out)) : gb389 ≠ gb388)); clear BK388; clear HB; have BK388 := n0_; have HB := n1_; have BK389 := n2_; have GW389 := n3_; have GE389 := n4_; have NB388_389 := n5_; have NB389_388 := n6_; clear n0_ n1_ n2_ n3_ n4_ n5_ n6_; clear hb hbox hg; have hnb7 := NB388_389.out; have hnc7 := NB389_388.out; have hcz8_0 : w6.cell? ⟨gb388, 0, none⟩ = some (.slice A0_0 l0_0.length c0_0) := (blk_cell BK388.out 0).trans rfl; have hcz8_1 : w6.cell? ⟨gb388, 1, none⟩ = some (.int .i64 a0_1) := (blk_cell BK388.out 1).trans rfl; have hfz8_0 := blk_frozen BK388.out 0; have hfz8_1 := blk_frozen BK388.out 1) | ((with_reducible refine gate_callee (f := 26) rfl ?_); refine goesL_ (some 13) rfl rfl Try.func26 (by kernel_rfl) rfl #[.agg #[.slice A0_0 l0_0.length c0_0, .int .i64 a0_1], .int .i64 1048576] rfl (by (try simp only [List.map_toArray, List.map_cons, List.map_nil]); first | done | rfl | (simp only [List.length_drop, List.length_take]; rfl)) ?_; (with_reducible refine (laws_szTree.calls k  _ _ l0_0 a0_1 1048576 t390 _ ?side1 ?side2 A3.out).mono ?_); (case side1 => repeat (first | exact (Kd.C_below HR0_0.out HB.out) | (with_reducible refine Kd.C_alloc ?_ _) | (with_reducible refine Kd.C_drewN ?_ _) | (with_reducible refine Kd.C_drew ?_))); (case side2 => exact HC0_0.out); rintro e w9 ⟨rfl, hb⟩; refine ⟨_, rfl, ?_⟩; have n0_ := Aside0.mk (blk_below (g := gb388) (o := .cells #[.slice A0_0 l0_0.length c0_0, .int .i64 a0_1] 41 (0, 0)) (by (with_reducible repeat (first | refine blk_drewN ?_ _ | refine blk_drew ?_ | refine blk_alloc ?_ _)); exact BK388.out) hb); have n1_ := Aside0.mk (blk_below (g := gb389) (o := .cells #[.string a1_0, .int .i64 a1_1] 49 (0, 0)) (by (with_reducible repeat (first | refine blk_drewN ?_ _ | refine blk_drew ?_ | refine blk_alloc ?_ _)); exact BK389.out) hb); have n2_ := Aside0.mk (below_step (by repeat (first | (with_reducible first | exact HB.out | apply below_alloc | apply pw_below_drewN | apply below_drew1 | refine below_set ?_ GE388.out | refine below_set ?_ GE389.out) | exact HB.out)) hb); clear BK388; clear BK389; clear HB; have BK388 := n0_; have BK389 := n1_; have HB := n2_; clear n0_ n1_ n2_; (try clear hb); (try clear hb2); (try clear hk); (try clear hi)))
  go_ret
  exact ⟨by first | rfl | (simp [errW_none, errW_some] <;> rfl) | (simp [*, errW_none, errW_some] <;> rfl), by repeat (first | (with_reducible first | exact HB.out | apply below_alloc | apply pw_below_drewN | apply below_drew1 | refine below_set ?_ GE388.out | refine below_set ?_ GE389.out) | exact HB.out)⟩
 ·
  rw [if_neg c4] at H
  have c4b0 : decide (t390 < 0) = false := decide_eq_false c4
  clear c4
  replace H := Option.bind_eq_some_iff.mp H
  obtain ⟨t391, A100, H⟩ := H
  replace H : (if t391 < 0 then (some true) else ((laws_toTree.f k l0_0 a0_1).bind fun bt392 => ((laws_toEntry.f a1_0 a1_1).bind fun bt396 => ((spec_PageAt.f k bt392.1 bt392.2 bt396.1 bt396.2).bind fun bt398 => ((laws_toTree.f k l0_0 a0_1).bind fun bt400 => ((laws_toEntry.f a1_0 a1_1).bind fun bt405 => ((impl_PageAt.f k bt400.1 bt400.2 bt405.1 bt405.2).bind fun bt407 => (if bt407.1 = bt398.1 then (laws_FnExactPageAt.j0 k (bt407.2 != bt398.2) l0_0 a0_1 bt400.1 bt400.2) else (laws_FnExactPageAt.j0 k true l0_0 a0_1 bt400.1 bt400.2))))))))) = some r := H
  have A10 := Aside0.mk A100
  clear A100
  by_cases c11 : t391 < 0
  ·
   rw [if_pos c11] at H
   have c11b0 : decide (t391 < 0) = true := decide_eq_true c11
   clear c11
   obtain rfl := Option.some.inj H
   go_enter Try.func8, Try.ntmps8
   go_wp2_with (first | ((with_reducible refine gate_dst (N := 2) rfl ?_); refine box_event ?hg (N := 2) ?hd (cs := #[.slice A0_0 l0_0.length c0_0, .int .i64 a0_1]) (t := 41) ?hr ?_; (case hd => rfl); (case hg => rfl); (case hr => first | (go_simp; done) | (go_simp; rfl)); intro gb388 hg w12 hbox hb; have n0_ := Aside0.mk (below_step (by repeat (first | (with_reducible first | exact HB.out | apply below_alloc | apply pw_below_drewN | apply below_drew1) | exact HB.out)) hb); have n1_ := Aside0.mk (hbox); have n2_ := Aside0.mk ((by rw [hg]; exact (below_size (by repeat (first | (with_reducible first | exact HB.out | apply below_alloc | apply pw_below_drewN | apply below_drew1) | exact HB.out))) : w.heap.size ≤ gb388)); have n3_ := Aside0.mk ((by rw [hg]; exact (below_size (by repeat (first | (with_reducible first | exact HB.out | apply below_alloc | apply pw_below_drewN | apply below_drew1) | exact HB.out))) : w.heap.size ≤ gb388)); clear HB; have HB := n0_; have BK388 := n1_; have GW388 := n2_; have GE388 := n3_; clear n0_ n1_ n2_ n3_; clear hb hbox hg) | ((with_reducible refine gate_dst (N := 3) rfl ?_); refine box_event ?hg (N := 3) ?hd (cs := #[.string a1_0, .int .i64 a1_1]) (t := 49) ?hr ?_; (case hd => rfl); (case hg => rfl); (case hr => first | (go_simp; done) | (go_simp; rfl)); intro gb389 hg w13 hbox hb; have n0_ := Aside0.mk (blk_below (g := gb388) (o := .cells #[.slice A0_0 l0_0.length c0_0, .int .i64 a0_1] 41 (0, 0)) (by (with_reducible repeat (first | refine blk_drewN ?_ _ | refine blk_drew ?_ | refine blk_alloc ?_ _)); exact BK388.out) hb); have n1_ := Aside0.mk (below_step (by repeat (first | (with_reducible first | exact HB.out | apply below_alloc | apply pw_below_drewN | apply below_drew1 | refine below_set ?_ GE388.out) | exact HB.out)) hb); have n2_ := Aside0.mk (hbox); have n3_ := Aside0.mk ((by rw [hg]; exact (below_size (by repeat (first | (with_reducible first | exact HB.out | apply below_alloc | apply pw_below_drewN | apply below_drew1 | refine below_set ?_ GE388.out) | exact HB.out))) : w.heap.size ≤ gb389)); have n4_ := Aside0.mk ((by rw [hg]; exact (below_size (by repeat (first | (with_reducible first | exact HB.out | apply below_alloc | apply pw_below_drewN | apply below_drew1 | refine below_set ?_ GE388.out) | exact HB.out))) : w.heap.size ≤ gb389)); have n5_ := Aside0.mk ((by rw [hg]; exact Nat.ne_of_lt (blk_lt (g := gb388) (o := .cells #[.slice A0_0 l0_0.length c0_0, .int .i64 a0_1] 41 (0, 0)) (by (with_reducible repeat (first | refine blk_drewN ?_ _ | refine blk_drew ?_ | refine blk_alloc ?_ _)); exact BK388.out)) : gb388 ≠ gb389)); have n6_ := Aside0.mk ((by rw [hg]; exact Nat.ne_of_gt (blk_lt (g := gb388) (o := .cells #[.slice A0_0 l0_0.length c0_0, .int .i64 a0_1] 41 (0, 0)) (by (with_reducible repeat (first | refine blk_drewN ?_ _ | refine blk_drew ?_ | refine blk_alloc ?_ _)); exact BK388.out)) : gb389 ≠ gb388)); clear BK388; clear HB; have BK388 := n0_; have HB := n1_; have BK389 := n2_; have GW389 := n3_; have GE389 := n4_; have NB388_389 := n5_; have NB389_388 := n6_; clear n0_ n1_ n2_ n3_ n4_ n5_ n6_; clear hb hbox hg; have hnb14 := NB388_389.out; have hnc14 := NB389_388.out; have hcz15_0 : w13.cell? ⟨gb388, 0, none⟩ = some (.slice A0_0 l0_0.length c0_0) := (blk_cell BK388.out 0).trans rfl; have hcz15_1 : w13.cell? ⟨gb388, 1, none⟩ = some (.int .i64 a0_1) := (blk_cell BK388.out 1).trans rfl; have hfz15_0 := blk_frozen BK388.out 0; have hfz15_1 := blk_frozen BK388.out 1) | ((with_reducible refine gate_callee (f := 26) rfl ?_); refine goesL_ (some 13) rfl rfl Try.func26 (by kernel_rfl) rfl #[.agg #[.slice A0_0 l0_0.length c0_0, .int .i64 a0_1], .int .i64 1048576] rfl (by (try simp only [List.map_toArray, List.map_cons, List.map_nil]); first | done | rfl | (simp only [List.length_drop, List.length_take]; rfl)) ?_; (with_reducible refine (laws_szTree.calls k  _ _ l0_0 a0_1 1048576 t390 _ ?side1 ?side2 A3.out).mono ?_); (case side1 => repeat (first | exact (Kd.C_below HR0_0.out HB.out) | (with_reducible refine Kd.C_alloc ?_ _) | (with_reducible refine Kd.C_drewN ?_ _) | (with_reducible refine Kd.C_drew ?_))); (case side2 => exact HC0_0.out); rintro e w16 ⟨rfl, hb⟩; refine ⟨_, rfl, ?_⟩; have n0_ := Aside0.mk (blk_below (g := gb388) (o := .cells #[.slice A0_0 l0_0.length c0_0, .int .i64 a0_1] 41 (0, 0)) (by (with_reducible repeat (first | refine blk_drewN ?_ _ | refine blk_drew ?_ | refine blk_alloc ?_ _)); exact BK388.out) hb); have n1_ := Aside0.mk (blk_below (g := gb389) (o := .cells #[.string a1_0, .int .i64 a1_1] 49 (0, 0)) (by (with_reducible repeat (first | refine blk_drewN ?_ _ | refine blk_drew ?_ | refine blk_alloc ?_ _)); exact BK389.out) hb); have n2_ := Aside0.mk (below_step (by repeat (first | (with_reducible first | exact HB.out | apply below_alloc | apply pw_below_drewN | apply below_drew1 | refine below_set ?_ GE388.out | refine below_set ?_ GE389.out) | exact HB.out)) hb); clear BK388; clear BK389; clear HB; have BK388 := n0_; have BK389 := n1_; have HB := n2_; clear n0_ n1_ n2_; (try clear hb); (try clear hb2); (try clear hk); (try clear hi); have hcz17_0 : w16.cell? ⟨gb389, 0, none⟩ = some (.string a1_0) := (blk_cell BK389.out 0).trans rfl; have hcz17_1 : w16.cell? ⟨gb389, 1, none⟩ = some (.int .i64 a1_1) := (blk_cell BK389.out 1).trans rfl; have hfz17_0 := blk_frozen BK389.out 0; have hfz17_1 := blk_frozen BK389.out 1) | ((with_reducible refine gate_callee (f := 32) rfl ?_); refine goesL_ (some 18) rfl rfl Try.func32 (by kernel_rfl) rfl #[.agg #[.string a1_0, .int .i64 a1_1], .int .i64 t390] rfl (by (try simp only [List.map_toArray, List.map_cons, List.map_nil]); first | done | rfl | (simp only [List.length_drop, List.length_take]; rfl)) ?_; (with_reducible refine (laws_szEntry.calls  a1_0 a1_1 t390 t391 _ A10.out).mono ?_); rintro e w18 ⟨rfl, hb⟩; refine ⟨_, rfl, ?_⟩; have n0_ := Aside0.mk (blk_below (g := gb388) (o := .cells #[.slice A0_0 l0_0.length c0_0, .int .i64 a0_1] 41 (0, 0)) (by (with_reducible repeat (first | refine blk_drewN ?_ _ | refine blk_drew ?_ | refine blk_alloc ?_ _)); exact BK388.out) hb); have n1_ := Aside0.mk (blk_below (g := gb389) (o := .cells #[.string a1_0, .int .i64 a1_1] 49 (0, 0)) (by (with_reducible repeat (first | refine blk_drewN ?_ _ | refine blk_drew ?_ | refine blk_alloc ?_ _)); exact BK389.out) hb); have n2_ := Aside0.mk (below_step (by repeat (first | (with_reducible first | exact HB.out | apply below_alloc | apply pw_below_drewN | apply below_drew1 | refine below_set ?_ GE388.out | refine below_set ?_ GE389.out) | exact HB.out)) hb); clear BK388; clear BK389; clear HB; have BK388 := n0_; have BK389 := n1_; have HB := n2_; clear n0_ n1_ n2_; (try clear hb); (try clear hb2); (try clear hk); (try clear hi)))
   go_ret
   exact ⟨by first | rfl | (simp [errW_none, errW_some] <;> rfl) | (simp [*, errW_none, errW_some] <;> rfl), by repeat (first | (with_reducible first | exact HB.out | apply below_alloc | apply pw_below_drewN | apply below_drew1 | refine below_set ?_ GE388.out | refine below_set ?_ GE389.out) | exact HB.out)⟩
  ·
   rw [if_neg c11] at H
   have c11b0 : decide (t391 < 0) = false := decide_eq_false c11
   clear c11
   replace H := Option.bind_eq_some_iff.mp H
   obtain ⟨⟨t392, t395⟩, A190, H⟩ := H
   replace H : ((laws_toEntry.f a1_0 a1_1).bind fun bt396 => ((spec_PageAt.f k t392 t395 bt396.1 bt396.2).bind fun bt398 => ((laws_toTree.f k l0_0 a0_1).bind fun bt400 => ((laws_toEntry.f a1_0 a1_1).bind fun bt405 => ((impl_PageAt.f k bt400.1 bt400.2 bt405.1 bt405.2).bind fun bt407 => (if bt407.1 = bt398.1 then (laws_FnExactPageAt.j0 k (bt407.2 != bt398.2) l0_0 a0_1 bt400.1 bt400.2) else (laws_FnExactPageAt.j0 k true l0_0 a0_1 bt400.1 bt400.2))))))) = some r := H
   have A19 := Aside0.mk A190
   clear A190
   replace H := Option.bind_eq_some_iff.mp H
   obtain ⟨⟨t396, t397⟩, A200, H⟩ := H
   replace H : ((spec_PageAt.f k t392 t395 t396 t397).bind fun bt398 => ((laws_toTree.f k l0_0 a0_1).bind fun bt400 => ((laws_toEntry.f a1_0 a1_1).bind fun bt405 => ((impl_PageAt.f k bt400.1 bt400.2 bt405.1 bt405.2).bind fun bt407 => (if bt407.1 = bt398.1 then (laws_FnExactPageAt.j0 k (bt407.2 != bt398.2) l0_0 a0_1 bt400.1 bt400.2) else (laws_FnExactPageAt.j0 k true l0_0 a0_1 bt400.1 bt400.2)))))) = some r := H
   have A20 := Aside0.mk A200
   clear A200
   replace H := Option.bind_eq_some_iff.mp H
   obtain ⟨⟨t398, t399⟩, A210, H⟩ := H
   replace H : ((laws_toTree.f k l0_0 a0_1).bind fun bt400 => ((laws_toEntry.f a1_0 a1_1).bind fun bt405 => ((impl_PageAt.f k bt400.1 bt400.2 bt405.1 bt405.2).bind fun bt407 => (if bt407.1 = t398 then (laws_FnExactPageAt.j0 k (bt407.2 != t399) l0_0 a0_1 bt400.1 bt400.2) else (laws_FnExactPageAt.j0 k true l0_0 a0_1 bt400.1 bt400.2))))) = some r := H
   have A21 := Aside0.mk A210
   clear A210
   replace H := Option.bind_eq_some_iff.mp H
   obtain ⟨⟨t400, t403⟩, A220, H⟩ := H
   replace H : ((laws_toEntry.f a1_0 a1_1).bind fun bt405 => ((impl_PageAt.f k t400 t403 bt405.1 bt405.2).bind fun bt407 => (if bt407.1 = t398 then (laws_FnExactPageAt.j0 k (bt407.2 != t399) l0_0 a0_1 t400 t403) else (laws_FnExactPageAt.j0 k true l0_0 a0_1 t400 t403)))) = some r := H
   have A22 := Aside0.mk A220
   clear A220
   replace H := Option.bind_eq_some_iff.mp H
   obtain ⟨⟨t405, t406⟩, A230, H⟩ := H
   replace H : ((impl_PageAt.f k t400 t403 t405 t406).bind fun bt407 => (if bt407.1 = t398 then (laws_FnExactPageAt.j0 k (bt407.2 != t399) l0_0 a0_1 t400 t403) else (laws_FnExactPageAt.j0 k true l0_0 a0_1 t400 t403))) = some r := H
   have A23 := Aside0.mk A230
   clear A230
   replace H := Option.bind_eq_some_iff.mp H
   obtain ⟨⟨t407, t408⟩, A240, H⟩ := H
   replace H : (if t407 = t398 then (laws_FnExactPageAt.j0 k (t408 != t399) l0_0 a0_1 t400 t403) else (laws_FnExactPageAt.j0 k true l0_0 a0_1 t400 t403)) = some r := H
   have A24 := Aside0.mk A240
   clear A240
   have HC25 := Aside0.mk H
   clear H
   go_enter Try.func8, Try.ntmps8
   try go_wp2_with (first | ((with_reducible refine gate_dst (N := 2) rfl ?_); refine box_event ?hg (N := 2) ?hd (cs := #[.slice A0_0 l0_0.length c0_0, .int .i64 a0_1]) (t := 41) ?hr ?_; (case hd => rfl); (case hg => rfl); (case hr => first | (go_simp; done) | (go_simp; rfl)); intro gb388 hg w26 hbox hb; have n0_ := Aside0.mk (below_step (by repeat (first | (with_reducible first | exact HB.out | apply below_alloc | apply pw_below_drewN | apply below_drew1) | exact HB.out)) hb); have n1_ := Aside0.mk (hbox); have n2_ := Aside0.mk ((by rw [hg]; exact (below_size (by repeat (first | (with_reducible first | exact HB.out | apply below_alloc | apply pw_below_drewN | apply below_drew1) | exact HB.out))) : w.heap.size ≤ gb388)); have n3_ := Aside0.mk ((by rw [hg]; exact (below_size (by repeat (first | (with_reducible first | exact HB.out | apply below_alloc | apply pw_below_drewN | apply below_drew1) | exact HB.out))) : w.heap.size ≤ gb388)); clear HB; have HB := n0_; have BK388 := n1_; have GW388 := n2_; have GE388 := n3_; clear n0_ n1_ n2_ n3_; clear hb hbox hg) | ((with_reducible refine gate_dst (N := 3) rfl ?_); refine box_event ?hg (N := 3) ?hd (cs := #[.string a1_0, .int .i64 a1_1]) (t := 49) ?hr ?_; (case hd => rfl); (case hg => rfl); (case hr => first | (go_simp; done) | (go_simp; rfl)); intro gb389 hg w27 hbox hb; have n0_ := Aside0.mk (blk_below (g := gb388) (o := .cells #[.slice A0_0 l0_0.length c0_0, .int .i64 a0_1] 41 (0, 0)) (by (with_reducible repeat (first | refine blk_drewN ?_ _ | refine blk_drew ?_ | refine blk_alloc ?_ _)); exact BK388.out) hb); have n1_ := Aside0.mk (below_step (by repeat (first | (with_reducible first | exact HB.out | apply below_alloc | apply pw_below_drewN | apply below_drew1 | refine below_set ?_ GE388.out) | exact HB.out)) hb); have n2_ := Aside0.mk (hbox); have n3_ := Aside0.mk ((by rw [hg]; exact (below_size (by repeat (first | (with_reducible first | exact HB.out | apply below_alloc | apply pw_below_drewN | apply below_drew1 | refine below_set ?_ GE388.out) | exact HB.out))) : w.heap.size ≤ gb389)); have n4_ := Aside0.mk ((by rw [hg]; exact (below_size (by repeat (first | (with_reducible first | exact HB.out | apply below_alloc | apply pw_below_drewN | apply below_drew1 | refine below_set ?_ GE388.out) | exact HB.out))) : w.heap.size ≤ gb389)); have n5_ := Aside0.mk ((by rw [hg]; exact Nat.ne_of_lt (blk_lt (g := gb388) (o := .cells #[.slice A0_0 l0_0.length c0_0, .int .i64 a0_1] 41 (0, 0)) (by (with_reducible repeat (first | refine blk_drewN ?_ _ | refine blk_drew ?_ | refine blk_alloc ?_ _)); exact BK388.out)) : gb388 ≠ gb389)); have n6_ := Aside0.mk ((by rw [hg]; exact Nat.ne_of_gt (blk_lt (g := gb388) (o := .cells #[.slice A0_0 l0_0.length c0_0, .int .i64 a0_1] 41 (0, 0)) (by (with_reducible repeat (first | refine blk_drewN ?_ _ | refine blk_drew ?_ | refine blk_alloc ?_ _)); exact BK388.out)) : gb389 ≠ gb388)); clear BK388; clear HB; have BK388 := n0_; have HB := n1_; have BK389 := n2_; have GW389 := n3_; have GE389 := n4_; have NB388_389 := n5_; have NB389_388 := n6_; clear n0_ n1_ n2_ n3_ n4_ n5_ n6_; clear hb hbox hg; have hnb28 := NB388_389.out; have hnc28 := NB389_388.out; have hcz29_0 : w27.cell? ⟨gb388, 0, none⟩ = some (.slice A0_0 l0_0.length c0_0) := (blk_cell BK388.out 0).trans rfl; have hcz29_1 : w27.cell? ⟨gb388, 1, none⟩ = some (.int .i64 a0_1) := (blk_cell BK388.out 1).trans rfl; have hfz29_0 := blk_frozen BK388.out 0; have hfz29_1 := blk_frozen BK388.out 1) | ((with_reducible refine gate_callee (f := 26) rfl ?_); refine goesL_ (some 13) rfl rfl Try.func26 (by kernel_rfl) rfl #[.agg #[.slice A0_0 l0_0.length c0_0, .int .i64 a0_1], .int .i64 1048576] rfl (by (try simp only [List.map_toArray, List.map_cons, List.map_nil]); first | done | rfl | (simp only [List.length_drop, List.length_take]; rfl)) ?_; (with_reducible refine (laws_szTree.calls k  _ _ l0_0 a0_1 1048576 t390 _ ?side1 ?side2 A3.out).mono ?_); (case side1 => repeat (first | exact (Kd.C_below HR0_0.out HB.out) | (with_reducible refine Kd.C_alloc ?_ _) | (with_reducible refine Kd.C_drewN ?_ _) | (with_reducible refine Kd.C_drew ?_))); (case side2 => exact HC0_0.out); rintro e w30 ⟨rfl, hb⟩; refine ⟨_, rfl, ?_⟩; have n0_ := Aside0.mk (blk_below (g := gb388) (o := .cells #[.slice A0_0 l0_0.length c0_0, .int .i64 a0_1] 41 (0, 0)) (by (with_reducible repeat (first | refine blk_drewN ?_ _ | refine blk_drew ?_ | refine blk_alloc ?_ _)); exact BK388.out) hb); have n1_ := Aside0.mk (blk_below (g := gb389) (o := .cells #[.string a1_0, .int .i64 a1_1] 49 (0, 0)) (by (with_reducible repeat (first | refine blk_drewN ?_ _ | refine blk_drew ?_ | refine blk_alloc ?_ _)); exact BK389.out) hb); have n2_ := Aside0.mk (below_step (by repeat (first | (with_reducible first | exact HB.out | apply below_alloc | apply pw_below_drewN | apply below_drew1 | refine below_set ?_ GE388.out | refine below_set ?_ GE389.out) | exact HB.out)) hb); clear BK388; clear BK389; clear HB; have BK388 := n0_; have BK389 := n1_; have HB := n2_; clear n0_ n1_ n2_; (try clear hb); (try clear hb2); (try clear hk); (try clear hi); have hcz31_0 : w30.cell? ⟨gb389, 0, none⟩ = some (.string a1_0) := (blk_cell BK389.out 0).trans rfl; have hcz31_1 : w30.cell? ⟨gb389, 1, none⟩ = some (.int .i64 a1_1) := (blk_cell BK389.out 1).trans rfl; have hfz31_0 := blk_frozen BK389.out 0; have hfz31_1 := blk_frozen BK389.out 1) | ((with_reducible refine gate_callee (f := 32) rfl ?_); refine goesL_ (some 18) rfl rfl Try.func32 (by kernel_rfl) rfl #[.agg #[.string a1_0, .int .i64 a1_1], .int .i64 t390] rfl (by (try simp only [List.map_toArray, List.map_cons, List.map_nil]); first | done | rfl | (simp only [List.length_drop, List.length_take]; rfl)) ?_; (with_reducible refine (laws_szEntry.calls  a1_0 a1_1 t390 t391 _ A10.out).mono ?_); rintro e w32 ⟨rfl, hb⟩; refine ⟨_, rfl, ?_⟩; have n0_ := Aside0.mk (blk_below (g := gb388) (o := .cells #[.slice A0_0 l0_0.length c0_0, .int .i64 a0_1] 41 (0, 0)) (by (with_reducible repeat (first | refine blk_drewN ?_ _ | refine blk_drew ?_ | refine blk_alloc ?_ _)); exact BK388.out) hb); have n1_ := Aside0.mk (blk_below (g := gb389) (o := .cells #[.string a1_0, .int .i64 a1_1] 49 (0, 0)) (by (with_reducible repeat (first | refine blk_drewN ?_ _ | refine blk_drew ?_ | refine blk_alloc ?_ _)); exact BK389.out) hb); have n2_ := Aside0.mk (below_step (by repeat (first | (with_reducible first | exact HB.out | apply below_alloc | apply pw_below_drewN | apply below_drew1 | refine below_set ?_ GE388.out | refine below_set ?_ GE389.out) | exact HB.out)) hb); clear BK388; clear BK389; clear HB; have BK388 := n0_; have BK389 := n1_; have HB := n2_; clear n0_ n1_ n2_; (try clear hb); (try clear hb2); (try clear hk); (try clear hi)))
   have n0_ := Aside0.mk (blk_drew BK388.out)
   have n1_ := Aside0.mk (blk_drew BK389.out)
   have n2_ := Aside0.mk (below_drew1 HB.out)
   clear BK388
   clear BK389
   clear HB
   have BK388 := n0_
   have BK389 := n1_
   have HB := n2_
   clear n0_ n1_ n2_
   refine start_ (n := 10) (S := fun w' => w'.cell? ⟨gb388, 0, none⟩ = some (.slice A0_0 l0_0.length c0_0) ∧ w'.cell? ⟨gb388, 1, none⟩ = some (.int .i64 a0_1) ∧ w'.cell? ⟨gb389, 0, none⟩ = some (.string a1_0) ∧ w'.cell? ⟨gb389, 1, none⟩ = some (.int .i64 a1_1)) (ds := []) #[false, false, false, false, false, false, false, false, false, false] (by kernel_rfl) rfl rfl ⟨(blk_cell BK388.out 0).trans rfl, (blk_cell BK388.out 1).trans rfl, (blk_cell BK389.out 0).trans rfl, (blk_cell BK389.out 1).trans rfl⟩ (fun hHeld => ?_); refine with_tabW laws_FnExactPageAt.tab8 laws_FnExactPageAt.bits8 (fun HT_ HW_ => ?_)
   generalize w32.drew = w33 at BK388 BK389 HB hHeld ⊢
   refine take_ (i := 0) (N := some 22) (v := ?_) (a' := ?_) #[true, false, false, false, false, false, false, false, false, false] rfl rfl (take_ofW HT_.out HW_.out (by kernel_rfl)) (fun _ _ _ h => h) (Or.inl ⟨by rfl, ?_⟩) hHeld ?_ ?_
   rotate_left
   ·
    rintro w' ⟨s0, s1, s2, s3⟩
    go_simp
    with_reducible rfl
   rotate_left
   ·
    simp only [Act.put, List.setIfInBounds_toArray, List.set_cons_zero, List.set_cons_succ, i64_w, i32_w]
    rfl
   refine take_ (i := 2) (N := some 24) (v := ?_) (a' := ?_) #[true, false, true, false, false, false, false, false, false, false] rfl rfl (take_ofW HT_.out HW_.out (by kernel_rfl)) (fun _ _ _ h => h) (Or.inl ⟨by rfl, ?_⟩) hHeld ?_ ?_
   rotate_left
   ·
    rintro w' ⟨s0, s1, s2, s3⟩
    go_simp
    with_reducible rfl
   rotate_left
   ·
    simp only [Act.put, List.setIfInBounds_toArray, List.set_cons_zero, List.set_cons_succ, i64_w, i32_w]
    rfl
   refine one_ (i := 1) (N := some 23) #[true, true, true, false, false, false, false, false, false, false] rfl rfl (one_of HT_.out (by kernel_rfl)) (by decide) (fun K hK => ?_)
   refine goes_ Try.func28 (by kernel_rfl) rfl #[.agg #[.slice A0_0 l0_0.length c0_0, .int .i64 a0_1]] (by rfl) rfl rfl (by (try simp only [List.map_toArray, List.map_cons, List.map_nil]); first | done | rfl | (simp only [List.length_drop, List.length_take]; rfl)) ?_
   with_reducible refine (laws_toTree.calls k  _ _ l0_0 a0_1 t392 t395 _ ?side1 ?side2 A19.out).mono ?_
   (case side1 => repeat (first | exact (Kd.C_below HR0_0.out HB.out) | (with_reducible refine Kd.C_alloc ?_ _) | (with_reducible refine Kd.C_drewN ?_ _) | (with_reducible refine Kd.C_drew ?_)))
   (case side2 => exact HC0_0.out)
   rintro e w34 ⟨v393, rfl, ho0, hb⟩
   refine ⟨_, rfl, ?_⟩
   have n0_ := Aside0.mk (Kd.S_lower ho0 (below_size (by repeat (first | (with_reducible first | exact HB.out | apply below_alloc | apply pw_below_drewN | apply below_drew1 | refine below_set ?_ GE388.out | refine below_set ?_ GE389.out) | exact HB.out))))
   have n1_ := Aside0.mk (blk_below (g := gb388) (o := .cells #[.slice A0_0 l0_0.length c0_0, .int .i64 a0_1] 41 (0, 0)) (by (with_reducible repeat (first | refine blk_drewN ?_ _ | refine blk_drew ?_ | refine blk_alloc ?_ _)); exact BK388.out) hb)
   have n2_ := Aside0.mk (blk_below (g := gb389) (o := .cells #[.string a1_0, .int .i64 a1_1] 49 (0, 0)) (by (with_reducible repeat (first | refine blk_drewN ?_ _ | refine blk_drew ?_ | refine blk_alloc ?_ _)); exact BK389.out) hb)
   have n3_ := Aside0.mk (below_step (by repeat (first | (with_reducible first | exact HB.out | apply below_alloc | apply pw_below_drewN | apply below_drew1 | refine below_set ?_ GE388.out | refine below_set ?_ GE389.out) | exact HB.out)) hb)
   clear BK388
   clear BK389
   clear HB
   have HO394 := n0_
   have BK388 := n1_
   have BK389 := n2_
   have HB := n3_
   clear n0_ n1_ n2_ n3_
   (try clear hb)
   (try clear hb2)
   (try clear hk)
   (try clear hi)
   (try clear ho0)
   refine hK.out _ _ ⟨(blk_cell BK388.out 0).trans rfl, (blk_cell BK388.out 1).trans rfl, (blk_cell BK389.out 0).trans rfl, (blk_cell BK389.out 1).trans rfl⟩ (fun hHeld => ?_)
   clear hK K
   refine norm_ (a' := ?_) ?_ ?_
   rotate_left
   ·
    show Act.put _ (some 23) _ = _
    simp only [Act.put, List.setIfInBounds_toArray, List.set_cons_zero, List.set_cons_succ, i64_w, i32_w]
    rfl
   refine one_ (i := 3) (N := some 25) #[true, true, true, true, false, false, false, false, false, false] rfl rfl (one_of HT_.out (by kernel_rfl)) (by decide) (fun K hK => ?_)
   refine goes_ Try.func34 (by kernel_rfl) rfl #[.agg #[.string a1_0, .int .i64 a1_1]] (by rfl) rfl rfl (by (try simp only [List.map_toArray, List.map_cons, List.map_nil]); first | done | rfl | (simp only [List.length_drop, List.length_take]; rfl)) ?_
   with_reducible refine (laws_toEntry.calls  a1_0 a1_1 t396 t397 _ A20.out).mono ?_
   rintro e w35 ⟨rfl, hb⟩
   refine ⟨_, rfl, ?_⟩
   have n0_ := Aside0.mk (Kd.S_below (by (with_reducible repeat (first | apply Kd.S_alloc | apply Kd.S_drewN | apply Kd.S_drew)); exact HO394.out) hb)
   have n1_ := Aside0.mk (blk_below (g := gb388) (o := .cells #[.slice A0_0 l0_0.length c0_0, .int .i64 a0_1] 41 (0, 0)) (by (with_reducible repeat (first | refine blk_drewN ?_ _ | refine blk_drew ?_ | refine blk_alloc ?_ _)); exact BK388.out) hb)
   have n2_ := Aside0.mk (blk_below (g := gb389) (o := .cells #[.string a1_0, .int .i64 a1_1] 49 (0, 0)) (by (with_reducible repeat (first | refine blk_drewN ?_ _ | refine blk_drew ?_ | refine blk_alloc ?_ _)); exact BK389.out) hb)
   have n3_ := Aside0.mk (below_step (by repeat (first | (with_reducible first | exact HB.out | apply below_alloc | apply pw_below_drewN | apply below_drew1 | refine below_set ?_ GE388.out | refine below_set ?_ GE389.out) | exact HB.out)) hb)
   clear HO394
   clear BK388
   clear BK389
   clear HB
   have HO394 := n0_
   have BK388 := n1_
   have BK389 := n2_
   have HB := n3_
   clear n0_ n1_ n2_ n3_
   (try clear hb)
   (try clear hb2)
   (try clear hk)
   (try clear hi)
   obtain ⟨Ao36, co36, eo36⟩ := Kd.S_slice HO394.out
   (first | subst eo36 | (injection eo36 with f1_ f2_ f3_; have f4_ := f1_.symm; have f5_ := f3_.symm; clear f1_ f2_ f3_; subst f4_; subst f5_))
   refine hK.out _ _ ⟨(blk_cell BK388.out 0).trans rfl, (blk_cell BK388.out 1).trans rfl, (blk_cell BK389.out 0).trans rfl, (blk_cell BK389.out 1).trans rfl⟩ (fun hHeld => ?_)
   clear hK K
   refine norm_ (a' := ?_) ?_ ?_
   rotate_left
   ·
    show Act.put _ (some 25) _ = _
    simp only [Act.put, List.setIfInBounds_toArray, List.set_cons_zero, List.set_cons_succ, i64_w, i32_w]
    rfl
   refine one_ (i := 4) (N := some 26) #[true, true, true, true, true, false, false, false, false, false] rfl rfl (one_of HT_.out (by kernel_rfl)) (by decide) (fun K hK => ?_)
   refine goes_ Try.func33 (by kernel_rfl) rfl #[.agg #[.slice Ao36 t392.length co36, .int .i64 t395], .agg #[.string t396, .int .i64 t397]] (by rfl) rfl rfl (by (try simp only [List.map_toArray, List.map_cons, List.map_nil]); first | done | rfl | (simp only [List.length_drop, List.length_take]; rfl)) ?_
   with_reducible refine (spec_PageAt.calls k  _ _ t392 t395 t396 t397 t398 t399 _ ?side1 ?side2 A21.out).mono ?_
   (case side1 => repeat (first | exact (Kd.S_reads' HO394.out).2.2 | (with_reducible refine Kd.C_alloc ?_ _) | (with_reducible refine Kd.C_drewN ?_ _) | (with_reducible refine Kd.C_drew ?_)))
   (case side2 => exact (Kd.S_reads' HO394.out).2.1)
   rintro e w37 ⟨rfl, hb⟩
   refine ⟨_, rfl, ?_⟩
   have n0_ := Aside0.mk (Kd.S_below (by (with_reducible repeat (first | apply Kd.S_alloc | apply Kd.S_drewN | apply Kd.S_drew)); exact HO394.out) hb)
   have n1_ := Aside0.mk (blk_below (g := gb388) (o := .cells #[.slice A0_0 l0_0.length c0_0, .int .i64 a0_1] 41 (0, 0)) (by (with_reducible repeat (first | refine blk_drewN ?_ _ | refine blk_drew ?_ | refine blk_alloc ?_ _)); exact BK388.out) hb)
   have n2_ := Aside0.mk (blk_below (g := gb389) (o := .cells #[.string a1_0, .int .i64 a1_1] 49 (0, 0)) (by (with_reducible repeat (first | refine blk_drewN ?_ _ | refine blk_drew ?_ | refine blk_alloc ?_ _)); exact BK389.out) hb)
   have n3_ := Aside0.mk (below_step (by repeat (first | (with_reducible first | exact HB.out | apply below_alloc | apply pw_below_drewN | apply below_drew1 | refine below_set ?_ GE388.out | refine below_set ?_ GE389.out) | exact HB.out)) hb)
   clear HO394
   clear BK388
   clear BK389
   clear HB
   have HO394 := n0_
   have BK388 := n1_
   have BK389 := n2_
   have HB := n3_
   clear n0_ n1_ n2_ n3_
   (try clear hb)
   (try clear hb2)
   (try clear hk)
   (try clear hi)
   refine hK.out _ _ ⟨(blk_cell BK388.out 0).trans rfl, (blk_cell BK388.out 1).trans rfl, (blk_cell BK389.out 0).trans rfl, (blk_cell BK389.out 1).trans rfl⟩ (fun hHeld => ?_)
   clear hK K
   refine norm_ (a' := ?_) ?_ ?_
   rotate_left
   ·
    show Act.put _ (some 26) _ = _
    simp only [Act.put, List.setIfInBounds_toArray, List.set_cons_zero, List.set_cons_succ, i64_w, i32_w]
    rfl
   refine pure_ (i := 5) (N := some 21) (v := ?_) (a' := ?_) #[true, true, true, true, true, true, false, false, false, false] rfl rfl (any_of HT_.out (by kernel_rfl)) (fun _ _ _ h => h) (Or.inl ⟨by rfl, ?_⟩) ?_ ?_
   rotate_left
   ·
    intro w'
    go_simp
    with_reducible rfl
   rotate_left
   ·
    simp only [Act.put, List.setIfInBounds_toArray, List.set_cons_zero, List.set_cons_succ, i64_w, i32_w]
    rfl
   refine pure_ (i := 6) (N := some 27) (v := ?_) (a' := ?_) #[true, true, true, true, true, true, true, false, false, false] rfl rfl (any_of HT_.out (by kernel_rfl)) (fun _ _ _ h => h) (Or.inl ⟨by rfl, ?_⟩) ?_ ?_
   rotate_left
   ·
    intro w'
    go_simp
    with_reducible rfl
   rotate_left
   ·
    simp only [Act.put, List.setIfInBounds_toArray, List.set_cons_zero, List.set_cons_succ, i64_w, i32_w]
    rfl
   refine pure_ (i := 7) (N := some 28) (v := ?_) (a' := ?_) #[true, true, true, true, true, true, true, true, false, false] rfl rfl (any_of HT_.out (by kernel_rfl)) (fun _ _ _ h => h) (Or.inl ⟨by rfl, ?_⟩) ?_ ?_
   rotate_left
   ·
    intro w'
    go_simp
    with_reducible rfl
   rotate_left
   ·
    simp only [Act.put, List.setIfInBounds_toArray, List.set_cons_zero, List.set_cons_succ, i64_w, i32_w]
    rfl
   refine pure_ (i := 8) (N := some 6) (v := ?_) (a' := ?_) #[true, true, true, true, true, true, true, true, true, false] rfl rfl (any_of HT_.out (by kernel_rfl)) (fun _ _ _ h => h) (Or.inl ⟨by rfl, ?_⟩) ?_ ?_
   rotate_left
   ·
    intro w'
    go_simp
    with_reducible rfl
   rotate_left
   ·
    simp only [Act.put, List.setIfInBounds_toArray, List.set_cons_zero, List.set_cons_succ, i64_w, i32_w]
    rfl
   refine pure_ (i := 9) (N := some 7) (v := ?_) (a' := ?_) #[true, true, true, true, true, true, true, true, true, true] rfl rfl (any_of HT_.out (by kernel_rfl)) (fun _ _ _ h => h) (Or.inl ⟨by rfl, ?_⟩) ?_ ?_
   rotate_left
   ·
    intro w'
    go_simp
    with_reducible rfl
   rotate_left
   ·
    simp only [Act.put, List.setIfInBounds_toArray, List.set_cons_zero, List.set_cons_succ, i64_w, i32_w]
    rfl
   refine done_ (done_of HT_.out (by kernel_rfl)) ?_
   have hcz38_0 : w37.cell? ⟨gb388, 0, none⟩ = some (.slice A0_0 l0_0.length c0_0) := (blk_cell BK388.out 0).trans rfl
   have hcz38_1 : w37.cell? ⟨gb388, 1, none⟩ = some (.int .i64 a0_1) := (blk_cell BK388.out 1).trans rfl
   have hfz38_0 := blk_frozen BK388.out 0
   have hfz38_1 := blk_frozen BK388.out 1
   try go_wp2_with (first | ((with_reducible refine gate_callee (f := 28) rfl ?_); refine goesL_ (some 30) rfl rfl Try.func28 (by kernel_rfl) rfl #[.agg #[.slice A0_0 l0_0.length c0_0, .int .i64 a0_1]] rfl (by (try simp only [List.map_toArray, List.map_cons, List.map_nil]); first | done | rfl | (simp only [List.length_drop, List.length_take]; rfl)) ?_; (with_reducible refine (laws_toTree.calls k  _ _ l0_0 a0_1 t400 t403 _ ?side1 ?side2 A22.out).mono ?_); (case side1 => repeat (first | exact (Kd.C_below HR0_0.out HB.out) | (with_reducible refine Kd.C_alloc ?_ _) | (with_reducible refine Kd.C_drewN ?_ _) | (with_reducible refine Kd.C_drew ?_))); (case side2 => exact HC0_0.out); rintro e w39 ⟨v401, rfl, ho0, hb⟩; refine ⟨_, rfl, ?_⟩; have n0_ := Aside0.mk (Kd.S_elder' (by (with_reducible repeat (first | apply Kd.S_alloc | apply Kd.S_drewN | apply Kd.S_drew)); exact HO394.out) (Kd.S_base ho0) hb); have n1_ := Aside0.mk (Kd.S_lower (Kd.S_new' ho0 (Kd.S_lt (by (with_reducible repeat (first | apply Kd.S_alloc | apply Kd.S_drewN | apply Kd.S_drew)); exact HO394.out))) (below_size (by repeat (first | (with_reducible first | exact HB.out | apply below_alloc | apply pw_below_drewN | apply below_drew1 | refine below_set ?_ GE388.out | refine below_set ?_ GE389.out) | exact HB.out)))); have n2_ := Aside0.mk (blk_below (g := gb388) (o := .cells #[.slice A0_0 l0_0.length c0_0, .int .i64 a0_1] 41 (0, 0)) (by (with_reducible repeat (first | refine blk_drewN ?_ _ | refine blk_drew ?_ | refine blk_alloc ?_ _)); exact BK388.out) hb); have n3_ := Aside0.mk (blk_below (g := gb389) (o := .cells #[.string a1_0, .int .i64 a1_1] 49 (0, 0)) (by (with_reducible repeat (first | refine blk_drewN ?_ _ | refine blk_drew ?_ | refine blk_alloc ?_ _)); exact BK389.out) hb); have n4_ := Aside0.mk (below_step (by repeat (first | (with_reducible first | exact HB.out | apply below_alloc | apply pw_below_drewN | apply below_drew1 | refine below_set ?_ GE388.out | refine below_set ?_ GE389.out) | exact HB.out)) hb); clear HO394; clear BK388; clear BK389; clear HB; have HO394 := n0_; have HO402 := n1_; have BK388 := n2_; have BK389 := n3_; have HB := n4_; clear n0_ n1_ n2_ n3_ n4_; (try clear hb); (try clear hb2); (try clear hk); (try clear hi); (try clear ho0)) | ((with_reducible refine gate_dst (N := 8) rfl ?_); refine box_event ?hg (N := 8) ?hd (cs := #[.slice none 0 0, .int .i64 0]) (t := 34) ?hr ?_; (case hd => rfl); (case hg => rfl); (case hr => first | (go_simp; done) | (go_simp; rfl)); intro gb404 hg w40 hbox hb; have n0_ := Aside0.mk (Kd.S_below (by (with_reducible repeat (first | apply Kd.S_alloc | apply Kd.S_drewN | apply Kd.S_drew)); exact HO394.out) hb); have n1_ := Aside0.mk (Kd.S_below (by (with_reducible repeat (first | apply Kd.S_alloc | apply Kd.S_drewN | apply Kd.S_drew)); exact HO402.out) hb); have n2_ := Aside0.mk (blk_below (g := gb388) (o := .cells #[.slice A0_0 l0_0.length c0_0, .int .i64 a0_1] 41 (0, 0)) (by (with_reducible repeat (first | refine blk_drewN ?_ _ | refine blk_drew ?_ | refine blk_alloc ?_ _)); exact BK388.out) hb); have n3_ := Aside0.mk (blk_below (g := gb389) (o := .cells #[.string a1_0, .int .i64 a1_1] 49 (0, 0)) (by (with_reducible repeat (first | refine blk_drewN ?_ _ | refine blk_drew ?_ | refine blk_alloc ?_ _)); exact BK389.out) hb); have n4_ := Aside0.mk (below_step (by repeat (first | (with_reducible first | exact HB.out | apply below_alloc | apply pw_below_drewN | apply below_drew1 | refine below_set ?_ GE388.out | refine below_set ?_ GE389.out) | exact HB.out)) hb); have n5_ := Aside0.mk (hbox); have n6_ := Aside0.mk ((by rw [hg]; exact (below_size (by repeat (first | (with_reducible first | exact HB.out | apply below_alloc | apply pw_below_drewN | apply below_drew1 | refine below_set ?_ GE388.out | refine below_set ?_ GE389.out) | exact HB.out))) : w.heap.size ≤ gb404)); have n7_ := Aside0.mk ((by rw [hg]; exact (below_size (by repeat (first | (with_reducible first | exact HB.out | apply below_alloc | apply pw_below_drewN | apply below_drew1 | refine below_set ?_ GE388.out | refine below_set ?_ GE389.out) | exact HB.out))) : w.heap.size ≤ gb404)); have n8_ := Aside0.mk ((by rw [hg]; exact Nat.ne_of_lt (blk_lt (g := gb388) (o := .cells #[.slice A0_0 l0_0.length c0_0, .int .i64 a0_1] 41 (0, 0)) (by (with_reducible repeat (first | refine blk_drewN ?_ _ | refine blk_drew ?_ | refine blk_alloc ?_ _)); exact BK388.out)) : gb388 ≠ gb404)); have n9_ := Aside0.mk ((by rw [hg]; exact Nat.ne_of_gt (blk_lt (g := gb388) (o := .cells #[.slice A0_0 l0_0.length c0_0, .int .i64 a0_1] 41 (0, 0)) (by (with_reducible repeat (first | refine blk_drewN ?_ _ | refine blk_drew ?_ | refine blk_alloc ?_ _)); exact BK388.out)) : gb404 ≠ gb388)); have n10_ := Aside0.mk ((by rw [hg]; exact Nat.ne_of_lt (blk_lt (g := gb389) (o := .cells #[.string a1_0, .int .i64 a1_1] 49 (0, 0)) (by (with_reducible repeat (first | refine blk_drewN ?_ _ | refine blk_drew ?_ | refine blk_alloc ?_ _)); exact BK389.out)) : gb389 ≠ gb404)); have n11_ := Aside0.mk ((by rw [hg]; exact Nat.ne_of_gt (blk_lt (g := gb389) (o := .cells #[.string a1_0, .int .i64 a1_1] 49 (0, 0)) (by (with_reducible repeat (first | refine blk_drewN ?_ _ | refine blk_drew ?_ | refine blk_alloc ?_ _)); exact BK389.out)) : gb404 ≠ gb389)); clear HO394; clear HO402; clear BK388; clear BK389; clear HB; have HO394 := n0_; have HO402 := n1_; have BK388 := n2_; have BK389 := n3_; have HB := n4_; have BK404 := n5_; have GW404 := n6_; have GE404 := n7_; have NB388_404 := n8_; have NB404_388 := n9_; have NB389_404 := n10_; have NB404_389 := n11_; clear n0_ n1_ n2_ n3_ n4_ n5_ n6_ n7_ n8_ n9_ n10_ n11_; clear hb hbox hg; obtain ⟨Ao41, co41, eo41⟩ := Kd.S_slice HO402.out; subst eo41; have hnb42 := NB404_388.out; have hnc42 := NB388_404.out; have hnb43 := NB404_389.out; have hnc43 := NB389_404.out; have hcz44_0 : w40.cell? ⟨gb404, 0, none⟩ = some (.slice none 0 0) := (blk_cell BK404.out 0).trans rfl; have hcz44_1 : w40.cell? ⟨gb404, 1, none⟩ = some (.int .i64 0) := (blk_cell BK404.out 1).trans rfl; have hfz44_0 := blk_frozen BK404.out 0; have hfz44_1 := blk_frozen BK404.out 1))
   have n0_ : Aside0 (Kd.S k76 76 ((w40.setCell ⟨gb404, 0, none⟩ (.slice Ao41 t400.length co41)).setCell ⟨gb404, 1, none⟩ (.int .i64 t403)) w.heap.size (fun k_ => some k_ ≠ (.slice Ao41 t400.length co41 : Value).ownBlock) (.slice Ao36 t392.length co36) t392) := ⟨by (with_reducible repeat (first | apply Kd.S_alloc | apply Kd.S_drewN | apply Kd.S_drew)); exact Kd.S_mono (Kd.S_far (p := ⟨gb404, 1, none⟩) (Kd.S_far (p := ⟨gb404, 0, none⟩) (Kd.S_types HO394.out BK404.out (by decide)) (fun _ hk => hk.2) (.slice Ao41 t400.length co41)) (fun _ hk => hk.2) (.int .i64 t403)) (fun _ hk => hk.1.2)⟩
   have n1_ : Aside0 (Kd.S k76 76 ((w40.setCell ⟨gb404, 0, none⟩ (.slice Ao41 t400.length co41)).setCell ⟨gb404, 1, none⟩ (.int .i64 t403)) w.heap.size (fun k_ => some k_ ≠ (.slice Ao36 t392.length co36 : Value).ownBlock) (.slice Ao41 t400.length co41) t400) := ⟨by (with_reducible repeat (first | apply Kd.S_alloc | apply Kd.S_drewN | apply Kd.S_drew)); exact Kd.S_mono (Kd.S_far (p := ⟨gb404, 1, none⟩) (Kd.S_far (p := ⟨gb404, 0, none⟩) (Kd.S_types HO402.out BK404.out (by decide)) (fun _ hk => hk.2) (.slice Ao41 t400.length co41)) (fun _ hk => hk.2) (.int .i64 t403)) (fun _ hk => hk.1.2)⟩
   have n2_ : Aside0 (((w40.setCell ⟨gb404, 0, none⟩ (.slice Ao41 t400.length co41)).setCell ⟨gb404, 1, none⟩ (.int .i64 t403)).heap[gb388]? = some (.cells #[.slice A0_0 l0_0.length c0_0, .int .i64 a0_1] 41 (0, 0))) := ⟨by (with_reducible repeat (first | refine blk_drewN ?_ _ | refine blk_drew ?_ | refine blk_alloc ?_ _)); refine blk_far ?_ NB388_404.out _; (with_reducible repeat (first | refine blk_drewN ?_ _ | refine blk_drew ?_ | refine blk_alloc ?_ _)); refine blk_far ?_ NB388_404.out _; (with_reducible repeat (first | refine blk_drewN ?_ _ | refine blk_drew ?_ | refine blk_alloc ?_ _)); exact BK388.out⟩
   have n3_ : Aside0 (((w40.setCell ⟨gb404, 0, none⟩ (.slice Ao41 t400.length co41)).setCell ⟨gb404, 1, none⟩ (.int .i64 t403)).heap[gb389]? = some (.cells #[.string a1_0, .int .i64 a1_1] 49 (0, 0))) := ⟨by (with_reducible repeat (first | refine blk_drewN ?_ _ | refine blk_drew ?_ | refine blk_alloc ?_ _)); refine blk_far ?_ NB389_404.out _; (with_reducible repeat (first | refine blk_drewN ?_ _ | refine blk_drew ?_ | refine blk_alloc ?_ _)); refine blk_far ?_ NB389_404.out _; (with_reducible repeat (first | refine blk_drewN ?_ _ | refine blk_drew ?_ | refine blk_alloc ?_ _)); exact BK389.out⟩
   have n4_ : Aside0 (((w40.setCell ⟨gb404, 0, none⟩ (.slice Ao41 t400.length co41)).setCell ⟨gb404, 1, none⟩ (.int .i64 t403)).heap[gb404]? = some (.cells #[.slice Ao41 t400.length co41, .int .i64 t403] 34 (0, 0))) := ⟨by (with_reducible repeat (first | refine blk_drewN ?_ _ | refine blk_drew ?_ | refine blk_alloc ?_ _)); refine blk_put (cs := #[.slice Ao41 t400.length co41, .int .i64 0]) ?_ 1 _ rfl; (with_reducible repeat (first | refine blk_drewN ?_ _ | refine blk_drew ?_ | refine blk_alloc ?_ _)); refine blk_put (cs := #[.slice none 0 0, .int .i64 0]) ?_ 0 _ rfl; (with_reducible repeat (first | refine blk_drewN ?_ _ | refine blk_drew ?_ | refine blk_alloc ?_ _)); exact BK404.out⟩
   have n5_ : Aside0 (Below w.heap.size w ((w40.setCell ⟨gb404, 0, none⟩ (.slice Ao41 t400.length co41)).setCell ⟨gb404, 1, none⟩ (.int .i64 t403))) := ⟨by repeat (first | (with_reducible first | exact HB.out | apply below_alloc | apply pw_below_drewN | apply below_drew1 | refine below_set ?_ GE388.out | refine below_set ?_ GE389.out | refine below_set ?_ GE404.out) | exact HB.out)⟩
   (try clear HO394)
   (try clear HO402)
   (try clear BK388)
   (try clear BK389)
   (try clear BK404)
   (try clear HB)
   generalize ((w40.setCell ⟨gb404, 0, none⟩ (.slice Ao41 t400.length co41)).setCell ⟨gb404, 1, none⟩ (.int .i64 t403)) = w45 at n0_ n1_ n2_ n3_ n4_ n5_ ⊢
   have HO394 := n0_
   have HO402 := n1_
   have BK388 := n2_
   have BK389 := n3_
   have BK404 := n4_
   have HB := n5_
   clear n0_ n1_ n2_ n3_ n4_ n5_
   have n0_ := Aside0.mk (Kd.S_drew HO394.out)
   have n1_ := Aside0.mk (Kd.S_drew HO402.out)
   have n2_ := Aside0.mk (blk_drew BK388.out)
   have n3_ := Aside0.mk (blk_drew BK389.out)
   have n4_ := Aside0.mk (blk_drew BK404.out)
   have n5_ := Aside0.mk (below_drew1 HB.out)
   clear HO394
   clear HO402
   clear BK388
   clear BK389
   clear BK404
   clear HB
   have HO394 := n0_
   have HO402 := n1_
   have BK388 := n2_
   have BK389 := n3_
   have BK404 := n4_
   have HB := n5_
   clear n0_ n1_ n2_ n3_ n4_ n5_
   refine start_ (n := 9) (S := fun w' => w'.cell? ⟨gb404, 0, none⟩ = some (.slice Ao41 t400.length co41) ∧ w'.cell? ⟨gb404, 1, none⟩ = some (.int .i64 t403) ∧ w'.cell? ⟨gb389, 0, none⟩ = some (.string a1_0) ∧ w'.cell? ⟨gb389, 1, none⟩ = some (.int .i64 a1_1)) (ds := []) #[false, false, false, false, false, false, false, false, false] (by kernel_rfl) rfl rfl ⟨(blk_cell BK404.out 0).trans rfl, (blk_cell BK404.out 1).trans rfl, (blk_cell BK389.out 0).trans rfl, (blk_cell BK389.out 1).trans rfl⟩ (fun hHeld => ?_); refine with_tabW laws_FnExactPageAt.tab10 laws_FnExactPageAt.bits10 (fun HT_ HW_ => ?_)
   generalize w45.drew = w46 at HO394 HO402 BK388 BK389 BK404 HB hHeld ⊢
   refine take_ (i := 0) (N := some 32) (v := ?_) (a' := ?_) #[true, false, false, false, false, false, false, false, false] rfl rfl (take_ofW HT_.out HW_.out (by kernel_rfl)) (fun _ _ _ h => h) (Or.inl ⟨by rfl, ?_⟩) hHeld ?_ ?_
   rotate_left
   ·
    rintro w' ⟨s0, s1, s2, s3⟩
    go_simp
    with_reducible rfl
   rotate_left
   ·
    simp only [Act.put, List.setIfInBounds_toArray, List.set_cons_zero, List.set_cons_succ, i64_w, i32_w]
    rfl
   refine take_ (i := 1) (N := some 33) (v := ?_) (a' := ?_) #[true, true, false, false, false, false, false, false, false] rfl rfl (take_ofW HT_.out HW_.out (by kernel_rfl)) (fun _ _ _ h => h) (Or.inl ⟨by rfl, ?_⟩) hHeld ?_ ?_
   rotate_left
   ·
    rintro w' ⟨s0, s1, s2, s3⟩
    go_simp
    with_reducible rfl
   rotate_left
   ·
    simp only [Act.put, List.setIfInBounds_toArray, List.set_cons_zero, List.set_cons_succ, i64_w, i32_w]
    rfl
   refine one_ (i := 2) (N := some 34) #[true, true, true, false, false, false, false, false, false] rfl rfl (one_of HT_.out (by kernel_rfl)) (by decide) (fun K hK => ?_)
   refine goes_ Try.func34 (by kernel_rfl) rfl #[.agg #[.string a1_0, .int .i64 a1_1]] (by rfl) rfl rfl (by (try simp only [List.map_toArray, List.map_cons, List.map_nil]); first | done | rfl | (simp only [List.length_drop, List.length_take]; rfl)) ?_
   with_reducible refine (laws_toEntry.calls  a1_0 a1_1 t405 t406 _ A23.out).mono ?_
   rintro e w47 ⟨rfl, hb⟩
   refine ⟨_, rfl, ?_⟩
   have n0_ := Aside0.mk (Kd.S_below (by (with_reducible repeat (first | apply Kd.S_alloc | apply Kd.S_drewN | apply Kd.S_drew)); exact HO394.out) hb)
   have n1_ := Aside0.mk (Kd.S_below (by (with_reducible repeat (first | apply Kd.S_alloc | apply Kd.S_drewN | apply Kd.S_drew)); exact HO402.out) hb)
   have n2_ := Aside0.mk (blk_below (g := gb388) (o := .cells #[.slice A0_0 l0_0.length c0_0, .int .i64 a0_1] 41 (0, 0)) (by (with_reducible repeat (first | refine blk_drewN ?_ _ | refine blk_drew ?_ | refine blk_alloc ?_ _)); exact BK388.out) hb)
   have n3_ := Aside0.mk (blk_below (g := gb389) (o := .cells #[.string a1_0, .int .i64 a1_1] 49 (0, 0)) (by (with_reducible repeat (first | refine blk_drewN ?_ _ | refine blk_drew ?_ | refine blk_alloc ?_ _)); exact BK389.out) hb)
   have n4_ := Aside0.mk (blk_below (g := gb404) (o := .cells #[.slice Ao41 t400.length co41, .int .i64 t403] 34 (0, 0)) (by (with_reducible repeat (first | refine blk_drewN ?_ _ | refine blk_drew ?_ | refine blk_alloc ?_ _)); exact BK404.out) hb)
   have n5_ := Aside0.mk (below_step (by repeat (first | (with_reducible first | exact HB.out | apply below_alloc | apply pw_below_drewN | apply below_drew1 | refine below_set ?_ GE388.out | refine below_set ?_ GE389.out | refine below_set ?_ GE404.out) | exact HB.out)) hb)
   clear HO394
   clear HO402
   clear BK388
   clear BK389
   clear BK404
   clear HB
   have HO394 := n0_
   have HO402 := n1_
   have BK388 := n2_
   have BK389 := n3_
   have BK404 := n4_
   have HB := n5_
   clear n0_ n1_ n2_ n3_ n4_ n5_
   (try clear hb)
   (try clear hb2)
   (try clear hk)
   (try clear hi)
   refine hK.out _ _ ⟨(blk_cell BK404.out 0).trans rfl, (blk_cell BK404.out 1).trans rfl, (blk_cell BK389.out 0).trans rfl, (blk_cell BK389.out 1).trans rfl⟩ (fun hHeld => ?_)
   clear hK K
   refine norm_ (a' := ?_) ?_ ?_
   rotate_left
   ·
    show Act.put _ (some 34) _ = _
    simp only [Act.put, List.setIfInBounds_toArray, List.set_cons_zero, List.set_cons_succ, i64_w, i32_w]
    rfl
   refine one_ (i := 3) (N := some 35) #[true, true, true, true, false, false, false, false, false] rfl rfl (one_of HT_.out (by kernel_rfl)) (by decide) (fun K hK => ?_)
   refine goes_ Try.func35 (by kernel_rfl) rfl #[.agg #[.slice Ao41 t400.length co41, .int .i64 t403], .agg #[.string t405, .int .i64 t406]] (by rfl) rfl rfl (by (try simp only [List.map_toArray, List.map_cons, List.map_nil]); first | done | rfl | (simp only [List.length_drop, List.length_take]; rfl)) ?_
   with_reducible refine (impl_PageAt.calls k  _ _ t400 t403 t405 t406 t407 t408 _ ?side1 ?side2 A24.out).mono ?_
   (case side1 => repeat (first | exact (Kd.S_reads' HO402.out).2.2 | (with_reducible refine Kd.C_alloc ?_ _) | (with_reducible refine Kd.C_drewN ?_ _) | (with_reducible refine Kd.C_drew ?_)))
   (case side2 => exact (Kd.S_reads' HO402.out).2.1)
   rintro e w48 ⟨rfl, hb⟩
   refine ⟨_, rfl, ?_⟩
   have n0_ := Aside0.mk (Kd.S_below (by (with_reducible repeat (first | apply Kd.S_alloc | apply Kd.S_drewN | apply Kd.S_drew)); exact HO394.out) hb)
   have n1_ := Aside0.mk (Kd.S_below (by (with_reducible repeat (first | apply Kd.S_alloc | apply Kd.S_drewN | apply Kd.S_drew)); exact HO402.out) hb)
   have n2_ := Aside0.mk (blk_below (g := gb388) (o := .cells #[.slice A0_0 l0_0.length c0_0, .int .i64 a0_1] 41 (0, 0)) (by (with_reducible repeat (first | refine blk_drewN ?_ _ | refine blk_drew ?_ | refine blk_alloc ?_ _)); exact BK388.out) hb)
   have n3_ := Aside0.mk (blk_below (g := gb389) (o := .cells #[.string a1_0, .int .i64 a1_1] 49 (0, 0)) (by (with_reducible repeat (first | refine blk_drewN ?_ _ | refine blk_drew ?_ | refine blk_alloc ?_ _)); exact BK389.out) hb)
   have n4_ := Aside0.mk (blk_below (g := gb404) (o := .cells #[.slice Ao41 t400.length co41, .int .i64 t403] 34 (0, 0)) (by (with_reducible repeat (first | refine blk_drewN ?_ _ | refine blk_drew ?_ | refine blk_alloc ?_ _)); exact BK404.out) hb)
   have n5_ := Aside0.mk (below_step (by repeat (first | (with_reducible first | exact HB.out | apply below_alloc | apply pw_below_drewN | apply below_drew1 | refine below_set ?_ GE388.out | refine below_set ?_ GE389.out | refine below_set ?_ GE404.out) | exact HB.out)) hb)
   clear HO394
   clear HO402
   clear BK388
   clear BK389
   clear BK404
   clear HB
   have HO394 := n0_
   have HO402 := n1_
   have BK388 := n2_
   have BK389 := n3_
   have BK404 := n4_
   have HB := n5_
   clear n0_ n1_ n2_ n3_ n4_ n5_
   (try clear hb)
   (try clear hb2)
   (try clear hk)
   (try clear hi)
   refine hK.out _ _ ⟨(blk_cell BK404.out 0).trans rfl, (blk_cell BK404.out 1).trans rfl, (blk_cell BK389.out 0).trans rfl, (blk_cell BK389.out 1).trans rfl⟩ (fun hHeld => ?_)
   clear hK K
   refine norm_ (a' := ?_) ?_ ?_
   rotate_left
   ·
    show Act.put _ (some 35) _ = _
    simp only [Act.put, List.setIfInBounds_toArray, List.set_cons_zero, List.set_cons_succ, i64_w, i32_w]
    rfl
   refine pure_ (i := 4) (N := some 31) (v := ?_) (a' := ?_) #[true, true, true, true, true, false, false, false, false] rfl rfl (any_of HT_.out (by kernel_rfl)) (fun _ _ _ h => h) (Or.inl ⟨by rfl, ?_⟩) ?_ ?_
   rotate_left
   ·
    intro w'
    go_simp
    with_reducible rfl
   rotate_left
   ·
    simp only [Act.put, List.setIfInBounds_toArray, List.set_cons_zero, List.set_cons_succ, i64_w, i32_w]
    rfl
   refine pure_ (i := 5) (N := some 36) (v := ?_) (a' := ?_) #[true, true, true, true, true, true, false, false, false] rfl rfl (any_of HT_.out (by kernel_rfl)) (fun _ _ _ h => h) (Or.inl ⟨by rfl, ?_⟩) ?_ ?_
   rotate_left
   ·
    intro w'
    go_simp
    with_reducible rfl
   rotate_left
   ·
    simp only [Act.put, List.setIfInBounds_toArray, List.set_cons_zero, List.set_cons_succ, i64_w, i32_w]
    rfl
   refine pure_ (i := 6) (N := some 37) (v := ?_) (a' := ?_) #[true, true, true, true, true, true, true, false, false] rfl rfl (any_of HT_.out (by kernel_rfl)) (fun _ _ _ h => h) (Or.inl ⟨by rfl, ?_⟩) ?_ ?_
   rotate_left
   ·
    intro w'
    go_simp
    with_reducible rfl
   rotate_left
   ·
    simp only [Act.put, List.setIfInBounds_toArray, List.set_cons_zero, List.set_cons_succ, i64_w, i32_w]
    rfl
   refine pure_ (i := 7) (N := some 9) (v := ?_) (a' := ?_) #[true, true, true, true, true, true, true, true, false] rfl rfl (any_of HT_.out (by kernel_rfl)) (fun _ _ _ h => h) (Or.inl ⟨by rfl, ?_⟩) ?_ ?_
   rotate_left
   ·
    intro w'
    go_simp
    with_reducible rfl
   rotate_left
   ·
    simp only [Act.put, List.setIfInBounds_toArray, List.set_cons_zero, List.set_cons_succ, i64_w, i32_w]
    rfl
   refine pure_ (i := 8) (N := some 10) (v := ?_) (a' := ?_) #[true, true, true, true, true, true, true, true, true] rfl rfl (any_of HT_.out (by kernel_rfl)) (fun _ _ _ h => h) (Or.inl ⟨by rfl, ?_⟩) ?_ ?_
   rotate_left
   ·
    intro w'
    go_simp
    with_reducible rfl
   rotate_left
   ·
    simp only [Act.put, List.setIfInBounds_toArray, List.set_cons_zero, List.set_cons_succ, i64_w, i32_w]
    rfl
   refine done_ (done_of HT_.out (by kernel_rfl)) ?_
   go_upto_region 11 with (fail)
   go_cut [45] (fun v45 wc => ∃ (kq : Nat) (x45_24 : Bool), v45 = .bool x45_24 ∧ Aside0 (laws_FnExactPageAt.j0 kq x45_24 l0_0 a0_1 t400 t403 = some r) ∧ Aside0 (kq ≤ k) ∧ Aside0 (Kd.S k76 76 wc w.heap.size (fun _ => True) (.slice Ao41 t400.length co41) t400) ∧ Aside0 (wc.heap[gb388]? = some (.cells #[(.slice A0_0 l0_0.length c0_0), .int .i64 a0_1] 41 (0, 0))) ∧ Aside0 (wc.heap[gb389]? = some (.cells #[.string a1_0, .int .i64 a1_1] 49 (0, 0))) ∧ Aside0 (wc.heap[gb404]? = some (.cells #[(.slice Ao41 t400.length co41), .int .i64 t403] 34 (0, 0))) ∧ Aside0 (Below w.heap.size w wc))
   case first =>
    have H := HC25.out
    clear HC25
    by_cases c49 : t407 = t398
    ·
     rw [if_pos c49] at H
     have c49b0 : (t407 == t398) = true := beq_iff_eq.mpr c49
     have c49b1 : (t407 != t398) = false := bne_eq_false_iff_eq.mpr c49
     clear c49
     (first | rw [c49b0] | (simp only [i64_w, i32_w]; rw [c49b0]) | skip)
     have H' := Aside0.mk H
     clear H
     go_wp2
     go_meet
     case rel => exact ⟨_, ((t408 != t399)), (by first | rfl | (simp; done) | (simp [*]; done)), H', ⟨by first | omega | exact Nat.le_refl _⟩, ⟨by (with_reducible repeat (first | apply Kd.S_alloc | apply Kd.S_drewN | apply Kd.S_drew)); exact Kd.S_mono HO402.out (fun _ hk => trivial)⟩, ⟨by (with_reducible repeat (first | refine blk_drewN ?_ _ | refine blk_drew ?_ | refine blk_alloc ?_ _)); exact BK388.out⟩, ⟨by (with_reducible repeat (first | refine blk_drewN ?_ _ | refine blk_drew ?_ | refine blk_alloc ?_ _)); exact BK389.out⟩, ⟨by (with_reducible repeat (first | refine blk_drewN ?_ _ | refine blk_drew ?_ | refine blk_alloc ?_ _)); exact BK404.out⟩, ⟨by repeat (first | (with_reducible first | exact HB.out | apply below_alloc | apply pw_below_drewN | apply below_drew1 | refine below_set ?_ GE388.out | refine below_set ?_ GE389.out | refine below_set ?_ GE404.out) | exact HB.out)⟩⟩
    ·
     rw [if_neg c49] at H
     have c49b0 : (t407 == t398) = false := beq_eq_false_iff_ne.mpr c49
     have c49b1 : (t407 != t398) = true := bne_iff_ne.mpr c49
     (first | rw [c49b0] | (simp only [i64_w, i32_w]; rw [c49b0]) | skip)
     have H' := Aside0.mk H
     clear H
     go_wp2
     go_meet
     case rel => exact ⟨_, (true), (by first | rfl | (simp; done) | (simp [*]; done)), H', ⟨by first | omega | exact Nat.le_refl _⟩, ⟨by (with_reducible repeat (first | apply Kd.S_alloc | apply Kd.S_drewN | apply Kd.S_drew)); exact Kd.S_mono HO402.out (fun _ hk => trivial)⟩, ⟨by (with_reducible repeat (first | refine blk_drewN ?_ _ | refine blk_drew ?_ | refine blk_alloc ?_ _)); exact BK388.out⟩, ⟨by (with_reducible repeat (first | refine blk_drewN ?_ _ | refine blk_drew ?_ | refine blk_alloc ?_ _)); exact BK389.out⟩, ⟨by (with_reducible repeat (first | refine blk_drewN ?_ _ | refine blk_drew ?_ | refine blk_alloc ?_ _)); exact BK404.out⟩, ⟨by repeat (first | (with_reducible first | exact HB.out | apply below_alloc | apply pw_below_drewN | apply below_drew1 | refine below_set ?_ GE388.out | refine below_set ?_ GE389.out | refine below_set ?_ GE404.out) | exact HB.out)⟩⟩
   case rest =>
    clear HC25
    try clear c1
    try clear c2
    try clear p2
    try clear c3
    try clear c4
    try clear c4b0
    try clear c7
    try clear c8
    try clear c11
    try clear c11b0
    try clear c14
    try clear c26
    try clear c28
    try clear c32
    try clear c33
    try clear c34
    try clear c35
    try clear c42
    try clear c43
    try clear c49
    try clear c49b0
    try clear c49b1
    try clear hcz15_0
    try clear hcz15_1
    try clear hcz17_0
    try clear hcz17_1
    try clear hcz29_0
    try clear hcz29_1
    try clear hcz31_0
    try clear hcz31_1
    try clear hcz38_0
    try clear hcz38_1
    try clear hcz44_0
    try clear hcz44_1
    try clear hcz8_0
    try clear hcz8_1
    try clear hfz15_0
    try clear hfz15_1
    try clear hfz17_0
    try clear hfz17_1
    try clear hfz29_0
    try clear hfz29_1
    try clear hfz31_0
    try clear hfz31_1
    try clear hfz38_0
    try clear hfz38_1
    try clear hfz44_0
    try clear hfz44_1
    try clear hfz8_0
    try clear hfz8_1
    obtain ⟨kq, x45_24, rfl, HA, HJ24, HO_405000, BK388, BK389, BK404, HB⟩ := hcut
    cases kq with
    | zero => exact absurd HA.out (by simp [laws_FnExactPageAt.j0])
    | succ kj24 =>
     have H := HA.out
     clear HA
     simp only [laws_FnExactPageAt.j0] at H
     by_cases c50 : x45_24 = true
     ·
      subst c50
      have H1 : (some false) = some r := by rw [if_pos rfl] at H; exact H
      clear H
      have H := H1
      clear H1
      obtain rfl := Option.some.inj H
      go_wp2
      go_ret
      exact ⟨by first | rfl | (simp [errW_none, errW_some] <;> rfl) | (simp [*, errW_none, errW_some] <;> rfl), by repeat (first | (with_reducible first | exact HB.out | apply below_alloc | apply pw_below_drewN | apply below_drew1 | refine below_set ?_ GE388.out | refine below_set ?_ GE389.out | refine below_set ?_ GE404.out) | exact HB.out)⟩
     ·
      replace c50 := Bool.eq_false_iff.mpr c50
      subst c50
      have H1 : ((laws_toTree.f kj24 l0_0 a0_1).bind fun bt409 => ((laws_eqTree.f kj24 t400 t403 bt409.1 bt409.2).bind fun t413 => (if t413 = true then (some true) else (some false)))) = some r := by rw [if_neg (show ¬ (false = true) by decide)] at H; exact H
      clear H
      have H := H1
      clear H1
      replace H := Option.bind_eq_some_iff.mp H
      obtain ⟨⟨t409, t412⟩, A510, H⟩ := H
      replace H : ((laws_eqTree.f kj24 t400 t403 t409 t412).bind fun t413 => (if t413 = true then (some true) else (some false))) = some r := H
      have A51 := Aside0.mk A510
      clear A510
      replace H := Option.bind_eq_some_iff.mp H
      obtain ⟨t413, A520, H⟩ := H
      replace H : (if t413 = true then (some true) else (some false)) = some r := H
      have A52 := Aside0.mk A520
      clear A520
      by_cases c53 : t413 = true
      ·
       subst c53
       have H1 : (some true) = some r := by rw [if_pos rfl] at H; exact H
       clear H
       have H := H1
       clear H1
       obtain rfl := Option.some.inj H
       try go_wp2
       have n0_ := Aside0.mk (Kd.S_drew HO_405000.out)
       have n1_ := Aside0.mk (blk_drew BK388.out)
       have n2_ := Aside0.mk (blk_drew BK389.out)
       have n3_ := Aside0.mk (blk_drew BK404.out)
       have n4_ := Aside0.mk (below_drew1 HB.out)
       clear HO_405000
       clear BK388
       clear BK389
       clear BK404
       clear HB
       have HO_405000 := n0_
       have BK388 := n1_
       have BK389 := n2_
       have BK404 := n3_
       have HB := n4_
       clear n0_ n1_ n2_ n3_ n4_
       refine start_ (n := 5) (S := fun w' => w'.cell? ⟨gb404, 0, none⟩ = some (.slice Ao41 t400.length co41) ∧ w'.cell? ⟨gb404, 1, none⟩ = some (.int .i64 t403) ∧ w'.cell? ⟨gb388, 0, none⟩ = some (.slice A0_0 l0_0.length c0_0) ∧ w'.cell? ⟨gb388, 1, none⟩ = some (.int .i64 a0_1)) (ds := []) #[false, false, false, false, false] (by kernel_rfl) rfl rfl ⟨(blk_cell BK404.out 0).trans rfl, (blk_cell BK404.out 1).trans rfl, (blk_cell BK388.out 0).trans rfl, (blk_cell BK388.out 1).trans rfl⟩ (fun hHeld => ?_)
       generalize wc.drew = w54 at HO_405000 BK388 BK389 BK404 HB hHeld ⊢
       refine take_ (i := 0) (N := some 46) (v := ?_) (a' := ?_) #[true, false, false, false, false] rfl rfl (by kernel_rfl) (fun _ _ _ h => h) (Or.inl ⟨by rfl, ?_⟩) hHeld ?_ ?_
       rotate_left
       ·
        rintro w' ⟨s0, s1, s2, s3⟩
        go_simp
        with_reducible rfl
       rotate_left
       ·
        simp only [Act.put, List.setIfInBounds_toArray, List.set_cons_zero, List.set_cons_succ, i64_w, i32_w]
        rfl
       refine take_ (i := 1) (N := some 47) (v := ?_) (a' := ?_) #[true, true, false, false, false] rfl rfl (by kernel_rfl) (fun _ _ _ h => h) (Or.inl ⟨by rfl, ?_⟩) hHeld ?_ ?_
       rotate_left
       ·
        rintro w' ⟨s0, s1, s2, s3⟩
        go_simp
        with_reducible rfl
       rotate_left
       ·
        simp only [Act.put, List.setIfInBounds_toArray, List.set_cons_zero, List.set_cons_succ, i64_w, i32_w]
        rfl
       refine one_ (i := 2) (N := some 48) #[true, true, true, false, false] rfl rfl (by kernel_rfl) (by decide) (fun K hK => ?_)
       refine goes_ Try.func28 (by kernel_rfl) rfl #[.agg #[.slice A0_0 l0_0.length c0_0, .int .i64 a0_1]] (by rfl) rfl rfl (by (try simp only [List.map_toArray, List.map_cons, List.map_nil]); first | done | rfl | (simp only [List.length_drop, List.length_take]; rfl)) ?_
       with_reducible refine (laws_toTree.calls kj24  _ _ l0_0 a0_1 t409 t412 _ ?side1 ?side2 A51.out).mono ?_
       (case side1 => repeat (first | exact (Kd.C_below HR0_0.out HB.out) | (with_reducible refine Kd.C_alloc ?_ _) | (with_reducible refine Kd.C_drewN ?_ _) | (with_reducible refine Kd.C_drew ?_)))
       (case side2 => exact HC0_0.out)
       rintro e w55 ⟨v410, rfl, ho0, hb⟩
       refine ⟨_, rfl, ?_⟩
       have n0_ := Aside0.mk (Kd.S_elder' (by (with_reducible repeat (first | apply Kd.S_alloc | apply Kd.S_drewN | apply Kd.S_drew)); exact HO_405000.out) (Kd.S_base ho0) hb)
       have n1_ := Aside0.mk (Kd.S_lower (Kd.S_new' ho0 (Kd.S_lt (by (with_reducible repeat (first | apply Kd.S_alloc | apply Kd.S_drewN | apply Kd.S_drew)); exact HO_405000.out))) (below_size (by repeat (first | (with_reducible first | exact HB.out | apply below_alloc | apply pw_below_drewN | apply below_drew1 | refine below_set ?_ GE388.out | refine below_set ?_ GE389.out | refine below_set ?_ GE404.out) | exact HB.out))))
       have n2_ := Aside0.mk (blk_below (g := gb388) (o := .cells #[.slice A0_0 l0_0.length c0_0, .int .i64 a0_1] 41 (0, 0)) (by (with_reducible repeat (first | refine blk_drewN ?_ _ | refine blk_drew ?_ | refine blk_alloc ?_ _)); exact BK388.out) hb)
       have n3_ := Aside0.mk (blk_below (g := gb389) (o := .cells #[.string a1_0, .int .i64 a1_1] 49 (0, 0)) (by (with_reducible repeat (first | refine blk_drewN ?_ _ | refine blk_drew ?_ | refine blk_alloc ?_ _)); exact BK389.out) hb)
       have n4_ := Aside0.mk (blk_below (g := gb404) (o := .cells #[.slice Ao41 t400.length co41, .int .i64 t403] 34 (0, 0)) (by (with_reducible repeat (first | refine blk_drewN ?_ _ | refine blk_drew ?_ | refine blk_alloc ?_ _)); exact BK404.out) hb)
       have n5_ := Aside0.mk (below_step (by repeat (first | (with_reducible first | exact HB.out | apply below_alloc | apply pw_below_drewN | apply below_drew1 | refine below_set ?_ GE388.out | refine below_set ?_ GE389.out | refine below_set ?_ GE404.out) | exact HB.out)) hb)
       clear HO_405000
       clear BK388
       clear BK389
       clear BK404
       clear HB
       have HO_405000 := n0_
       have HO411 := n1_
       have BK388 := n2_
       have BK389 := n3_
       have BK404 := n4_
       have HB := n5_
       clear n0_ n1_ n2_ n3_ n4_ n5_
       (try clear hb)
       (try clear hb2)
       (try clear hk)
       (try clear hi)
       (try clear ho0)
       obtain ⟨Ao56, co56, eo56⟩ := Kd.S_slice HO411.out
       (first | subst eo56 | (injection eo56 with f1_ f2_ f3_; have f4_ := f1_.symm; have f5_ := f3_.symm; clear f1_ f2_ f3_; subst f4_; subst f5_))
       refine hK.out _ _ ⟨(blk_cell BK404.out 0).trans rfl, (blk_cell BK404.out 1).trans rfl, (blk_cell BK388.out 0).trans rfl, (blk_cell BK388.out 1).trans rfl⟩ (fun hHeld => ?_)
       clear hK K
       refine norm_ (a' := ?_) ?_ ?_
       rotate_left
       ·
        show Act.put _ (some 48) _ = _
        simp only [Act.put, List.setIfInBounds_toArray, List.set_cons_zero, List.set_cons_succ, i64_w, i32_w]
        rfl
       refine one_ (i := 3) (N := some 49) #[true, true, true, true, false] rfl rfl (by kernel_rfl) (by decide) (fun K hK => ?_)
       refine goes_ Try.func23 (by kernel_rfl) rfl #[.agg #[.slice Ao41 t400.length co41, .int .i64 t403], .agg #[.slice Ao56 t409.length co56, .int .i64 t412]] (by rfl) rfl rfl (by (try simp only [List.map_toArray, List.map_cons, List.map_nil]); first | done | rfl | (simp only [List.length_drop, List.length_take]; rfl)) ?_
       with_reducible refine (laws_eqTree.calls kj24  _ _ t400 t403 _ _ t409 t412 true _ ?side1 ?side2 ?side3 ?side4 A52.out).mono ?_
       (case side1 => repeat (first | exact (Kd.S_reads' HO_405000.out).2.2 | (with_reducible refine Kd.C_alloc ?_ _) | (with_reducible refine Kd.C_drewN ?_ _) | (with_reducible refine Kd.C_drew ?_)))
       (case side2 => exact (Kd.S_reads' HO_405000.out).2.1)
       (case side3 => repeat (first | exact (Kd.S_reads' HO411.out).2.2 | (with_reducible refine Kd.C_alloc ?_ _) | (with_reducible refine Kd.C_drewN ?_ _) | (with_reducible refine Kd.C_drew ?_)))
       (case side4 => exact (Kd.S_reads' HO411.out).2.1)
       rintro e w57 ⟨rfl, hb⟩
       refine ⟨_, rfl, ?_⟩
       have n0_ := Aside0.mk (Kd.S_below (by (with_reducible repeat (first | apply Kd.S_alloc | apply Kd.S_drewN | apply Kd.S_drew)); exact HO_405000.out) hb)
       have n1_ := Aside0.mk (Kd.S_below (by (with_reducible repeat (first | apply Kd.S_alloc | apply Kd.S_drewN | apply Kd.S_drew)); exact HO411.out) hb)
       have n2_ := Aside0.mk (blk_below (g := gb388) (o := .cells #[.slice A0_0 l0_0.length c0_0, .int .i64 a0_1] 41 (0, 0)) (by (with_reducible repeat (first | refine blk_drewN ?_ _ | refine blk_drew ?_ | refine blk_alloc ?_ _)); exact BK388.out) hb)
       have n3_ := Aside0.mk (blk_below (g := gb389) (o := .cells #[.string a1_0, .int .i64 a1_1] 49 (0, 0)) (by (with_reducible repeat (first | refine blk_drewN ?_ _ | refine blk_drew ?_ | refine blk_alloc ?_ _)); exact BK389.out) hb)
       have n4_ := Aside0.mk (blk_below (g := gb404) (o := .cells #[.slice Ao41 t400.length co41, .int .i64 t403] 34 (0, 0)) (by (with_reducible repeat (first | refine blk_drewN ?_ _ | refine blk_drew ?_ | refine blk_alloc ?_ _)); exact BK404.out) hb)
       have n5_ := Aside0.mk (below_step (by repeat (first | (with_reducible first | exact HB.out | apply below_alloc | apply pw_below_drewN | apply below_drew1 | refine below_set ?_ GE388.out | refine below_set ?_ GE389.out | refine below_set ?_ GE404.out) | exact HB.out)) hb)
       clear HO_405000
       clear HO411
       clear BK388
       clear BK389
       clear BK404
       clear HB
       have HO_405000 := n0_
       have HO411 := n1_
       have BK388 := n2_
       have BK389 := n3_
       have BK404 := n4_
       have HB := n5_
       clear n0_ n1_ n2_ n3_ n4_ n5_
       (try clear hb)
       (try clear hb2)
       (try clear hk)
       (try clear hi)
       refine hK.out _ _ ⟨(blk_cell BK404.out 0).trans rfl, (blk_cell BK404.out 1).trans rfl, (blk_cell BK388.out 0).trans rfl, (blk_cell BK388.out 1).trans rfl⟩ (fun hHeld => ?_)
       clear hK K
       refine norm_ (a' := ?_) ?_ ?_
       rotate_left
       ·
        show Act.put _ (some 49) _ = _
        simp only [Act.put, List.setIfInBounds_toArray, List.set_cons_zero, List.set_cons_succ, i64_w, i32_w]
        rfl
       refine pure_ (i := 4) (N := some 50) (v := ?_) (a' := ?_) #[true, true, true, true, true] rfl rfl (by kernel_rfl) (fun _ _ _ h => h) (Or.inl ⟨by rfl, ?_⟩) ?_ ?_
       rotate_left
       ·
        intro w'
        go_simp
        with_reducible rfl
       rotate_left
       ·
        simp only [Act.put, List.setIfInBounds_toArray, List.set_cons_zero, List.set_cons_succ, i64_w, i32_w]
        rfl
       refine done_ (by kernel_rfl) ?_
       try go_wp2
       go_ret
       exact ⟨by first | rfl | (simp [errW_none, errW_some] <;> rfl) | (simp [*, errW_none, errW_some] <;> rfl), by repeat (first | (with_reducible first | exact HB.out | apply below_alloc | apply pw_below_drewN | apply below_drew1 | refine below_set ?_ GE388.out | refine below_set ?_ GE389.out | refine below_set ?_ GE404.out) | exact HB.out)⟩
      ·
       replace c53 := Bool.eq_false_iff.mpr c53
       subst c53
       have H1 : (some false) = some r := by rw [if_neg (show ¬ (false = true) by decide)] at H; exact H
       clear H
       have H := H1
       clear H1
       obtain rfl := Option.some.inj H
       try go_wp2
       have n0_ := Aside0.mk (Kd.S_drew HO_405000.out)
       have n1_ := Aside0.mk (blk_drew BK388.out)
       have n2_ := Aside0.mk (blk_drew BK389.out)
       have n3_ := Aside0.mk (blk_drew BK404.out)
       have n4_ := Aside0.mk (below_drew1 HB.out)
       clear HO_405000
       clear BK388
       clear BK389
       clear BK404
       clear HB
       have HO_405000 := n0_
       have BK388 := n1_
       have BK389 := n2_
       have BK404 := n3_
       have HB := n4_
       clear n0_ n1_ n2_ n3_ n4_
       refine start_ (n := 5) (S := fun w' => w'.cell? ⟨gb404, 0, none⟩ = some (.slice Ao41 t400.length co41) ∧ w'.cell? ⟨gb404, 1, none⟩ = some (.int .i64 t403) ∧ w'.cell? ⟨gb388, 0, none⟩ = some (.slice A0_0 l0_0.length c0_0) ∧ w'.cell? ⟨gb388, 1, none⟩ = some (.int .i64 a0_1)) (ds := []) #[false, false, false, false, false] (by kernel_rfl) rfl rfl ⟨(blk_cell BK404.out 0).trans rfl, (blk_cell BK404.out 1).trans rfl, (blk_cell BK388.out 0).trans rfl, (blk_cell BK388.out 1).trans rfl⟩ (fun hHeld => ?_)
       generalize wc.drew = w58 at HO_405000 BK388 BK389 BK404 HB hHeld ⊢
       refine take_ (i := 0) (N := some 46) (v := ?_) (a' := ?_) #[true, false, false, false, false] rfl rfl (by kernel_rfl) (fun _ _ _ h => h) (Or.inl ⟨by rfl, ?_⟩) hHeld ?_ ?_
       rotate_left
       ·
        rintro w' ⟨s0, s1, s2, s3⟩
        go_simp
        with_reducible rfl
       rotate_left
       ·
        simp only [Act.put, List.setIfInBounds_toArray, List.set_cons_zero, List.set_cons_succ, i64_w, i32_w]
        rfl
       refine take_ (i := 1) (N := some 47) (v := ?_) (a' := ?_) #[true, true, false, false, false] rfl rfl (by kernel_rfl) (fun _ _ _ h => h) (Or.inl ⟨by rfl, ?_⟩) hHeld ?_ ?_
       rotate_left
       ·
        rintro w' ⟨s0, s1, s2, s3⟩
        go_simp
        with_reducible rfl
       rotate_left
       ·
        simp only [Act.put, List.setIfInBounds_toArray, List.set_cons_zero, List.set_cons_succ, i64_w, i32_w]
        rfl
       refine one_ (i := 2) (N := some 48) #[true, true, true, false, false] rfl rfl (by kernel_rfl) (by decide) (fun K hK => ?_)
       refine goes_ Try.func28 (by kernel_rfl) rfl #[.agg #[.slice A0_0 l0_0.length c0_0, .int .i64 a0_1]] (by rfl) rfl rfl (by (try simp only [List.map_toArray, List.map_cons, List.map_nil]); first | done | rfl | (simp only [List.length_drop, List.length_take]; rfl)) ?_
       with_reducible refine (laws_toTree.calls kj24  _ _ l0_0 a0_1 t409 t412 _ ?side1 ?side2 A51.out).mono ?_
       (case side1 => repeat (first | exact (Kd.C_below HR0_0.out HB.out) | (with_reducible refine Kd.C_alloc ?_ _) | (with_reducible refine Kd.C_drewN ?_ _) | (with_reducible refine Kd.C_drew ?_)))
       (case side2 => exact HC0_0.out)
       rintro e w59 ⟨v410, rfl, ho0, hb⟩
       refine ⟨_, rfl, ?_⟩
       have n0_ := Aside0.mk (Kd.S_elder' (by (with_reducible repeat (first | apply Kd.S_alloc | apply Kd.S_drewN | apply Kd.S_drew)); exact HO_405000.out) (Kd.S_base ho0) hb)
       have n1_ := Aside0.mk (Kd.S_lower (Kd.S_new' ho0 (Kd.S_lt (by (with_reducible repeat (first | apply Kd.S_alloc | apply Kd.S_drewN | apply Kd.S_drew)); exact HO_405000.out))) (below_size (by repeat (first | (with_reducible first | exact HB.out | apply below_alloc | apply pw_below_drewN | apply below_drew1 | refine below_set ?_ GE388.out | refine below_set ?_ GE389.out | refine below_set ?_ GE404.out) | exact HB.out))))
       have n2_ := Aside0.mk (blk_below (g := gb388) (o := .cells #[.slice A0_0 l0_0.length c0_0, .int .i64 a0_1] 41 (0, 0)) (by (with_reducible repeat (first | refine blk_drewN ?_ _ | refine blk_drew ?_ | refine blk_alloc ?_ _)); exact BK388.out) hb)
       have n3_ := Aside0.mk (blk_below (g := gb389) (o := .cells #[.string a1_0, .int .i64 a1_1] 49 (0, 0)) (by (with_reducible repeat (first | refine blk_drewN ?_ _ | refine blk_drew ?_ | refine blk_alloc ?_ _)); exact BK389.out) hb)
       have n4_ := Aside0.mk (blk_below (g := gb404) (o := .cells #[.slice Ao41 t400.length co41, .int .i64 t403] 34 (0, 0)) (by (with_reducible repeat (first | refine blk_drewN ?_ _ | refine blk_drew ?_ | refine blk_alloc ?_ _)); exact BK404.out) hb)
       have n5_ := Aside0.mk (below_step (by repeat (first | (with_reducible first | exact HB.out | apply below_alloc | apply pw_below_drewN | apply below_drew1 | refine below_set ?_ GE388.out | refine below_set ?_ GE389.out | refine below_set ?_ GE404.out) | exact HB.out)) hb)
       clear HO_405000
       clear BK388
       clear BK389
       clear BK404
       clear HB
       have HO_405000 := n0_
       have HO411 := n1_
       have BK388 := n2_
       have BK389 := n3_
       have BK404 := n4_
       have HB := n5_
       clear n0_ n1_ n2_ n3_ n4_ n5_
       (try clear hb)
       (try clear hb2)
       (try clear hk)
       (try clear hi)
       (try clear ho0)
       obtain ⟨Ao60, co60, eo60⟩ := Kd.S_slice HO411.out
       (first | subst eo60 | (injection eo60 with f1_ f2_ f3_; have f4_ := f1_.symm; have f5_ := f3_.symm; clear f1_ f2_ f3_; subst f4_; subst f5_))
       refine hK.out _ _ ⟨(blk_cell BK404.out 0).trans rfl, (blk_cell BK404.out 1).trans rfl, (blk_cell BK388.out 0).trans rfl, (blk_cell BK388.out 1).trans rfl⟩ (fun hHeld => ?_)
       clear hK K
       refine norm_ (a' := ?_) ?_ ?_
       rotate_left
       ·
        show Act.put _ (some 48) _ = _
        simp only [Act.put, List.setIfInBounds_toArray, List.set_cons_zero, List.set_cons_succ, i64_w, i32_w]
        rfl
       refine one_ (i := 3) (N := some 49) #[true, true, true, true, false] rfl rfl (by kernel_rfl) (by decide) (fun K hK => ?_)
       refine goes_ Try.func23 (by kernel_rfl) rfl #[.agg #[.slice Ao41 t400.length co41, .int .i64 t403], .agg #[.slice Ao60 t409.length co60, .int .i64 t412]] (by rfl) rfl rfl (by (try simp only [List.map_toArray, List.map_cons, List.map_nil]); first | done | rfl | (simp only [List.length_drop, List.length_take]; rfl)) ?_
       with_reducible refine (laws_eqTree.calls kj24  _ _ t400 t403 _ _ t409 t412 false _ ?side1 ?side2 ?side3 ?side4 A52.out).mono ?_
       (case side1 => repeat (first | exact (Kd.S_reads' HO_405000.out).2.2 | (with_reducible refine Kd.C_alloc ?_ _) | (with_reducible refine Kd.C_drewN ?_ _) | (with_reducible refine Kd.C_drew ?_)))
       (case side2 => exact (Kd.S_reads' HO_405000.out).2.1)
       (case side3 => repeat (first | exact (Kd.S_reads' HO411.out).2.2 | (with_reducible refine Kd.C_alloc ?_ _) | (with_reducible refine Kd.C_drewN ?_ _) | (with_reducible refine Kd.C_drew ?_)))
       (case side4 => exact (Kd.S_reads' HO411.out).2.1)
       rintro e w61 ⟨rfl, hb⟩
       refine ⟨_, rfl, ?_⟩
       have n0_ := Aside0.mk (Kd.S_below (by (with_reducible repeat (first | apply Kd.S_alloc | apply Kd.S_drewN | apply Kd.S_drew)); exact HO_405000.out) hb)
       have n1_ := Aside0.mk (Kd.S_below (by (with_reducible repeat (first | apply Kd.S_alloc | apply Kd.S_drewN | apply Kd.S_drew)); exact HO411.out) hb)
       have n2_ := Aside0.mk (blk_below (g := gb388) (o := .cells #[.slice A0_0 l0_0.length c0_0, .int .i64 a0_1] 41 (0, 0)) (by (with_reducible repeat (first | refine blk_drewN ?_ _ | refine blk_drew ?_ | refine blk_alloc ?_ _)); exact BK388.out) hb)
       have n3_ := Aside0.mk (blk_below (g := gb389) (o := .cells #[.string a1_0, .int .i64 a1_1] 49 (0, 0)) (by (with_reducible repeat (first | refine blk_drewN ?_ _ | refine blk_drew ?_ | refine blk_alloc ?_ _)); exact BK389.out) hb)
       have n4_ := Aside0.mk (blk_below (g := gb404) (o := .cells #[.slice Ao41 t400.length co41, .int .i64 t403] 34 (0, 0)) (by (with_reducible repeat (first | refine blk_drewN ?_ _ | refine blk_drew ?_ | refine blk_alloc ?_ _)); exact BK404.out) hb)
       have n5_ := Aside0.mk (below_step (by repeat (first | (with_reducible first | exact HB.out | apply below_alloc | apply pw_below_drewN | apply below_drew1 | refine below_set ?_ GE388.out | refine below_set ?_ GE389.out | refine below_set ?_ GE404.out) | exact HB.out)) hb)
       clear HO_405000
       clear HO411
       clear BK388
       clear BK389
       clear BK404
       clear HB
       have HO_405000 := n0_
       have HO411 := n1_
       have BK388 := n2_
       have BK389 := n3_
       have BK404 := n4_
       have HB := n5_
       clear n0_ n1_ n2_ n3_ n4_ n5_
       (try clear hb)
       (try clear hb2)
       (try clear hk)
       (try clear hi)
       refine hK.out _ _ ⟨(blk_cell BK404.out 0).trans rfl, (blk_cell BK404.out 1).trans rfl, (blk_cell BK388.out 0).trans rfl, (blk_cell BK388.out 1).trans rfl⟩ (fun hHeld => ?_)
       clear hK K
       refine norm_ (a' := ?_) ?_ ?_
       rotate_left
       ·
        show Act.put _ (some 49) _ = _
        simp only [Act.put, List.setIfInBounds_toArray, List.set_cons_zero, List.set_cons_succ, i64_w, i32_w]
        rfl
       refine pure_ (i := 4) (N := some 50) (v := ?_) (a' := ?_) #[true, true, true, true, true] rfl rfl (by kernel_rfl) (fun _ _ _ h => h) (Or.inl ⟨by rfl, ?_⟩) ?_ ?_
       rotate_left
       ·
        intro w'
        go_simp
        with_reducible rfl
       rotate_left
       ·
        simp only [Act.put, List.setIfInBounds_toArray, List.set_cons_zero, List.set_cons_succ, i64_w, i32_w]
        rfl
       refine done_ (by kernel_rfl) ?_
       try go_wp2
       go_ret
       exact ⟨by first | rfl | (simp [errW_none, errW_some] <;> rfl) | (simp [*, errW_none, errW_some] <;> rfl), by repeat (first | (with_reducible first | exact HB.out | apply below_alloc | apply pw_below_drewN | apply below_drew1 | refine below_set ?_ GE388.out | refine below_set ?_ GE389.out | refine below_set ?_ GE404.out) | exact HB.out)⟩

end Go.Proofs.Ytoceopjhacpjnaa.Q
end
section
namespace Go.Proofs.YtoceopjhacpjnaaW.PrintOpen
open Go.RowKit Go.ChangeShapes Go.WideShapes Go.ChangeAt Go.Proofs.YtoceopjhacpjnaaW.PrintWords
/-- Cells that read at type t are those of a value of kind d, which is good. -/
def Opens {α : Type} (P : Program) (d : Kd α) (t : TypeId) (good : α → Prop) : Prop :=
  ∀ (H : Type) (enc : TypeId × Value → H) (w : World) (base : Nat) (spare : Nat → Bool) (held : Bool) (fuel : Nat) (cs : List Value) (x : DataW H × List MemPlace),
    DataW.trod enc P w base spare held fuel t cs = some x → ∃ a, d.K w a cs ∧ good a
variable {P : Program}
theorem opens_int {t : TypeId} {k : IntKind} (ht : P.underlying t = some (.int k)) : Opens P (Kd.int k) t (fun n => (Lit.int k n).wf = true) := by
  intro H enc w base spare held fuel cs x h
  obtain ⟨n, hcs, _, hw⟩ := DataW.trod_int ht h
  exact ⟨n, hcs, hw⟩
theorem opens_string {t : TypeId} (ht : P.underlying t = some .string) : Opens P Kd.string t (fun s => s.size ≤ 9223372036854775807) := by
  intro H enc w base spare held fuel cs x h
  obtain ⟨s, hcs, _, hs⟩ := DataW.trod_string ht h
  exact ⟨s, hcs, by unfold maxLen at hs; exact hs⟩
theorem opens_slice {α : Type} {t e : TypeId} {d : Kd α} {g : α → Prop} (ht : P.underlying t = some (.slice e)) (hc : P.cellsOf e = d.sz) (he : Opens P d e g) :
    Opens P (Kd.slice e d) t (fun l => l.length ≤ 9223372036854775807 ∧ ∀ x ∈ l, g x) := by
  intro H enc w base spare held fuel cs x h
  rcases Deep.open_slice ht h with ⟨rfl, _⟩ | ⟨a, len, cap, m, n, D, Pl, rfl, _, hl, hm, hmm, _, hx⟩
  · exact ⟨[], ⟨none, 0, rfl, Nat.le_refl _, rfl, by simp, fun h0 => absurd h0 (by simp)⟩, by simp, by simp⟩
  · have hlm : len ≤ m := by rw [hmm]; split <;> omega
    have hall : ∀ i : Fin len, ∃ v : α × List Value, w.cells? base (a.add (i.1 * P.cellsOf e)) (P.cellsOf e) = some v.2 ∧ d.K w v.1 v.2 ∧ g v.1 := fun i => by
      obtain ⟨cs', h1, h2⟩ := hx i.1 (by have := i.2; omega)
      obtain ⟨a', hk, hg⟩ := he H enc w base spare held n cs' _ h2
      exact ⟨(a', cs'), h1, hk, hg⟩
    obtain ⟨V, hV⟩ := Classical.axiomOfChoice hall
    have hmax : len ≤ 9223372036854775807 := by unfold maxLen at hm; omega
    have hlen : (List.ofFn fun i => (V i).1).length = len := List.length_ofFn
    refine ⟨List.ofFn fun i => (V i).1, ⟨some a, cap, by rw [hlen], by rw [hlen]; exact hl, rfl, by rw [hlen]; exact hmax, fun _ => ⟨a, rfl, ?_⟩⟩, by rw [hlen]; exact hmax, ?_⟩
    · intro j p hj
      have hjl : j < len := by
        have := (List.getElem?_eq_some_iff.1 hj).1
        omega
      rw [List.getElem?_ofFn, dif_pos hjl] at hj
      obtain rfl := Option.some.inj hj
      obtain ⟨h1, h2, _⟩ := hV ⟨j, hjl⟩
      obtain ⟨_, hlen2, hcell⟩ := World.cells?_some h1
      refine ⟨(V ⟨j, hjl⟩).2, by rw [← hc]; exact hlen2, h2, fun q u hu => ?_⟩
      have hq : q < P.cellsOf e := by
        have := (List.getElem?_eq_some_iff.1 hu).1
        omega
      have h3 := hcell q hq
      rw [Deep.add_add, hu, hc] at h3
      exact h3
    · intro x hx
      obtain ⟨i, rfl⟩ := List.mem_ofFn.1 hx
      exact (hV i).2.2
/-- Fields in line, from a place on. -/
def OpensF {α : Type} (P : Program) (d : Kd α) (fs : List Field) (off : Nat) (good : α → Prop) : Prop :=
  ∀ (H : Type) (enc : TypeId × Value → H) (w : World) (base : Nat) (spare : Nat → Bool) (held : Bool) (fuel : Nat) (cs : List Value), off + d.sz ≤ cs.length →
    (∀ f ∈ fs, ∃ x, DataW.trod enc P w base spare held fuel f.type ((cs.drop f.offset).take (P.cellsOf f.type)) = some x) → ∃ a, d.K w a ((cs.drop off).take d.sz) ∧ good a
theorem opensF_one {α : Type} {d : Kd α} {f : Field} {off : Nat} {g : α → Prop} (ho : f.offset = off) (hc : P.cellsOf f.type = d.sz) (h : Opens P d f.type g) : OpensF P d [f] off g := by
  intro H enc w base spare held fuel cs _ hf
  obtain ⟨x, hx⟩ := hf f (by simp)
  obtain ⟨a, hk, hg⟩ := h H enc w base spare held fuel _ x hx
  rw [ho, hc] at hk
  exact ⟨a, hk, hg⟩
theorem opensF_cons {α β : Type} {d : Kd α} {d' : Kd β} {f : Field} {fs : List Field} {off : Nat} {g : α → Prop} {g' : β → Prop} (ho : f.offset = off) (hc : P.cellsOf f.type = d.sz) (h : Opens P d f.type g) (h' : OpensF P d' fs (off + d.sz) g') :
    OpensF P (Kd.pair d d') (f :: fs) off (fun x => g x.1 ∧ g' x.2) := by
  intro H enc w base spare held fuel cs hl hf
  obtain ⟨x, hx⟩ := hf f (by simp)
  obtain ⟨a, hk, hg⟩ := h H enc w base spare held fuel _ x hx
  have hl2 : off + (d.sz + d'.sz) ≤ cs.length := hl
  obtain ⟨b, hk', hg'⟩ := h' H enc w base spare held fuel cs (by omega) (fun f' hf' => hf f' (by simp [hf']))
  rw [ho, hc] at hk
  refine ⟨(a, b), ⟨_, _, ?_, hk, hk'⟩, hg, hg'⟩
  show (cs.drop off).take (d.sz + d'.sz) = _
  rw [List.take_add, List.drop_drop]
theorem opens_struct {α β : Type} {t : TypeId} {fs : Array Field} {d : Kd α} {g : α → Prop} {f : β → α} (f' : α → β) (hf : ∀ a, f (f' a) = a) (ht : P.underlying t = some (.struct fs)) (hc : P.cellsOf t = d.sz) (h : OpensF P d fs.toList 0 g) :
    Opens P (Kd.iso d f) t (fun b => g (f b)) := by
  intro H enc w base spare held fuel cs x hx
  obtain ⟨xs, n, _, _, hl, hlen, hxs⟩ := DataW.trod_struct ht hx
  obtain ⟨a, hk, hg⟩ := h H enc w base spare held n cs (by omega) (fun y hy => by
    obtain ⟨i, hi⟩ := List.mem_iff_getElem?.1 hy
    have := hxs i y (by simpa using hi)
    have hlt : i < xs.length := by
      have := (List.getElem?_eq_some_iff.1 hi).1
      rw [hlen]
      simpa using this
    rw [List.getElem?_eq_getElem hlt] at this
    exact ⟨_, this⟩)
  rw [List.drop_zero, show d.sz = cs.length by omega, List.take_length] at hk
  exact ⟨f' a, by show d.K w (f (f' a)) cs; rw [hf]; exact hk, by show g (f (f' a)); rw [hf]; exact hg⟩
/-- A struct that comes in by value. -/
theorem arg_struct {α : Type} {d : Kd α} {t : TypeId} {fs : Array Field} {g : α → Prop} {H : Type} {enc : TypeId × Value → H} {w : World} {base b0 : Nat} {spare : Nat → Bool} {held : Bool} {r : Reach} {v : Value} {dd : DataW H} {p : List MemPlace}
    (ht : P.underlying t = some (.struct fs)) (h : Opens P d t g) (hv : Value.okWide P w r b0 t v) (hd : DataW.Trod enc P w base spare held t v dd p) : ∃ (a : α) (cs : List Value), v = .agg ⟨cs⟩ ∧ d.K w a cs ∧ g a := by
  obtain ⟨cs, rfl, _⟩ := okWide_struct ht hv
  obtain ⟨fuel, hf⟩ := hd
  obtain ⟨a, hk, hg⟩ := h H enc w base spare held fuel _ _ hf
  exact ⟨a, cs.toList, rfl, hk, hg⟩
end Go.Proofs.YtoceopjhacpjnaaW.PrintOpen
end
section
namespace Go.Proofs.Ytoceopjhacpjnaa.Q
open Go.RowKit Go.Proofs.YtoceopjhacpjnaaW.PrintWords Go.Proofs.YtoceopjhacpjnaaW.PrintLast Go.Proofs.YtoceopjhacpjnaaW.PrintMore Go.Proofs.YtoceopjhacpjnaaW.PrintOpen
def good23 (x_ : S23) : Prop := (x_.f0.size ≤ 9223372036854775807) ∧ ((x_.f1.size ≤ 9223372036854775807) ∧ ((True)))
def good49 (x_ : S49) : Prop := (x_.f0.size ≤ 9223372036854775807) ∧ (((Lit.int .i64 x_.f1).wf = true))
theorem opens49 : Opens Try.prog k49 49 good49 :=
  opens_struct (f := (fun x : S49 => (x.f0, x.f1))) (fun ⟨x0, x1⟩ => ⟨x0, x1⟩) (fun _ => rfl) Try.underlying49 (by kernel_rfl) (opensF_cons rfl (by kernel_rfl) (opens_string Try.underlying9) (opensF_one rfl (by kernel_rfl) (opens_int Try.underlying3)))
def good105 (x_ : S105) : Prop := ((Lit.int .i64 x_.f0).wf = true) ∧ (((x_.f1.length ≤ 9223372036854775807 ∧ ∀ y0_ ∈ x_.f1, good49 y0_)))
theorem opens105 : Opens Try.prog k105 105 good105 :=
  opens_struct (f := (fun x : S105 => (x.f0, x.f1))) (fun ⟨x0, x1⟩ => ⟨x0, x1⟩) (fun _ => rfl) Try.underlying105 (by kernel_rfl) (opensF_cons rfl (by kernel_rfl) (opens_int Try.underlying3) (opensF_one rfl (by kernel_rfl) (opens_slice Try.underlying103 (by kernel_rfl) opens49)))
def good41 (x_ : S41) : Prop := ((x_.f0.length ≤ 9223372036854775807 ∧ ∀ y0_ ∈ x_.f0, good105 y0_)) ∧ (((Lit.int .i64 x_.f1).wf = true))
theorem opens41 : Opens Try.prog k41 41 good41 :=
  opens_struct (f := (fun x : S41 => (x.f0, x.f1))) (fun ⟨x0, x1⟩ => ⟨x0, x1⟩) (fun _ => rfl) Try.underlying41 (by kernel_rfl) (opensF_cons rfl (by kernel_rfl) (opens_slice Try.underlying39 (by kernel_rfl) opens105) (opensF_one rfl (by kernel_rfl) (opens_int Try.underlying3)))
end Go.Proofs.Ytoceopjhacpjnaa.Q
end
section
namespace Go.Proofs.Ytoceopjhacpjnaa.Q
/-- The one pure statement of FnExactPageAt. -/
def laws_FnExactPageAt.Pure : Prop := ∀ (x0 : S41) (x1 : S49), (good41 x0) → (good49 x1) → ∃ k, laws_FnExactPageAt.f k x0.f0 x0.f1 x1.f0 x1.f1 = some true
end Go.Proofs.Ytoceopjhacpjnaa.Q
end
section
namespace Go.Proofs.YtoceopjhacpjnaaW.Pl
open Go Go.RowKit Go.Proofs.YtoceopjhacpjnaaW.PrintWords Go.Proofs.YtoceopjhacpjnaaW.PrintMore
theorem w64 {i : Int} (h0 : -9223372036854775808 ≤ i) (h1 : i ≤ 9223372036854775807) : wrap64 i = i := by unfold wrap64; omega
theorem fuel {k d : Nat} (h : d < k) : ∃ m, k = m + 1 ∧ d ≤ m := ⟨k - 1, by omega, by omega⟩
theorem rd_at (xs : List Int) (i : Nat) (h : i < xs.length) : rd xs (i : Int) = xs[i] := by
  unfold rd
  simp [List.getD, h]
theorem getD_at {α : Type} (d : α) (xs : List α) (i : Nat) (h : i < xs.length) : xs.getD (i : Int).toNat d = xs[i] := by
  simp [List.getD, h]
theorem drop_at {α : Type} (xs : List α) (i : Nat) (h : i < xs.length) : xs.drop i = xs[i] :: xs.drop (i + 1) := List.drop_eq_getElem_cons h
theorem ba_toList (a : ByteArray) : a.toList = a.data.toList := ByteArray.toList_eq a
/-- Two rows, place by place. -/
def all2 {α β : Type} (e : α → β → Bool) : List α → List β → Bool
  | [], _ => true
  | _ :: _, [] => true
  | x :: xs, y :: ys => e x y && all2 e xs ys
/-- A loop that looks for the first place at which p holds. -/
def first {α : Type} (p : α → Bool) : List α → Nat → Int
  | [], _ => -1
  | x :: xs, i => if p x = true then i else first p xs (i + 1)
theorem first_any {α : Type} (p : α → Bool) : ∀ (xs : List α) (i : Nat), decide (first p xs i ≥ 0) = xs.any p
  | [], i => rfl
  | x :: xs, i => by
    by_cases h : p x = true
    · simp [first, h]
    · simp only [first, if_neg h, List.any_cons, first_any p xs (i + 1)]
      simp [h]
/-- A loop that takes sizes off a number, till it falls below nought. -/
def total {α : Type} (s : α → Nat) : List α → Nat
  | [] => 0
  | x :: xs => s x + total s xs
theorem total_le {α : Type} (s : α → Nat) : ∀ (xs : List α) (x : α), x ∈ xs → s x ≤ total s xs
  | _ :: xs, x, h => by
    rcases List.mem_cons.1 h with rfl | h
    · simp [total]
    · have := total_le s xs x h
      simp [total]; omega
def less {α : Type} (s : α → Nat) : List α → Int → Int
  | [], l => l
  | x :: xs, l => if l - s x < 0 then -1 else less s xs (l - s x)
theorem less_is {α : Type} (s : α → Nat) : ∀ (xs : List α) (l : Int), 0 ≤ l → less s xs l = if l < total s xs then -1 else l - total s xs
  | [], l, h => by simp [less, total]; omega
  | x :: xs, l, h => by
    have ht : ((total s (x :: xs) : Nat) : Int) = s x + total s xs := by simp [total]
    rw [ht]
    simp only [less]
    by_cases h1 : l - s x < 0
    · rw [if_pos h1, if_pos (by omega)]
    · rw [if_neg h1, less_is s xs _ (by omega)]
      by_cases h2 : l < s x + total s xs
      · rw [if_pos (by omega), if_pos (by omega)]
      · rw [if_neg (by omega), if_neg (by omega)]; omega
end Go.Proofs.YtoceopjhacpjnaaW.Pl
end
section
namespace Go.Proofs.YtoceopjhacpjnaaW.Pl
open Go Go.RowKit Go.Proofs.YtoceopjhacpjnaaW.PrintWords Go.Proofs.YtoceopjhacpjnaaW.PrintMore
/-- From some fuel on, g answers v. -/
def Eve {α : Type} (g : Nat → Option α) (v : α) : Prop := ∃ K, ∀ k, K ≤ k → g k = some v
theorem Eve.one {α : Type} {v : α} : Eve (fun _ => some v) v := ⟨0, fun _ _ => rfl⟩
theorem Eve.all {α : Type} {g : Nat → Option α} {v : α} (h : ∀ k, g k = some v) : Eve g v := ⟨0, fun k _ => h k⟩
theorem Eve.of {α : Type} {g : Nat → Option α} {v : α} {n : Nat} (h : ∀ k, n < k → g k = some v) : Eve g v := ⟨n + 1, fun k hk => h k (by omega)⟩
theorem Eve.succ {α : Type} {g : Nat → Option α} {v : α} (h : Eve (fun k => g (k + 1)) v) : Eve g v := by
  obtain ⟨K, h⟩ := h
  refine ⟨K + 1, fun k hk => ?_⟩
  obtain ⟨k, rfl⟩ : ∃ m, k = m + 1 := ⟨k - 1, by omega⟩
  exact h k (by omega)
theorem Eve.bind {α β : Type} {g : Nat → Option α} {f : Nat → α → Option β} {v : α} {u : β} (h : Eve g v) (h2 : Eve (fun k => f k v) u) : Eve (fun k => (g k).bind (f k)) u := by
  obtain ⟨K, h⟩ := h
  obtain ⟨K2, h2⟩ := h2
  refine ⟨max K K2, fun k hk => ?_⟩
  show (g k).bind (f k) = some u
  rw [h k (by omega), Option.bind_some]
  exact h2 k (by omega)
theorem Eve.ite {α : Type} {c : Prop} [Decidable c] {a b : Nat → Option α} {v : α} (h1 : c → Eve a v) (h2 : ¬ c → Eve b v) : Eve (fun k => if c then a k else b k) v := by
  by_cases h : c
  · simp only [if_pos h]; exact h1 h
  · simp only [if_neg h]; exact h2 h
theorem Eve.get {α : Type} {g : Nat → Option α} {v : α} (h : Eve g v) : ∃ k, g k = some v := by
  obtain ⟨K, h⟩ := h
  exact ⟨K, h K (by omega)⟩
theorem Eve.eq {α : Type} {g : Nat → Option α} {v u : α} (h : Eve g v) (e : v = u) : Eve g u := e ▸ h
theorem Eve.congr {α : Type} {g f : Nat → Option α} {v : α} (h : Eve g v) (e : ∀ k, f k = g k) : Eve f v := by
  obtain ⟨K, h⟩ := h
  exact ⟨K, fun k hk => by rw [e, h k hk]⟩
/-- A loop over a row: R tells what is left to be answered at place i. -/
theorem ev_loop {σ α β : Type} (xs : List α) (g : Nat → σ → Int → Option β) (R : Nat → σ → List α → β) (I : Nat → σ → Prop)
    (hend : ∀ s, I xs.length s → Eve (fun k => g (k + 1) s (xs.length : Int)) (R xs.length s []))
    (hstep : ∀ (i : Nat) (h : i < xs.length) (s : σ), I i s → (∀ s', I (i + 1) s' → Eve (fun k => g k s' ((i + 1 : Nat) : Int)) (R (i + 1) s' (xs.drop (i + 1)))) →
      Eve (fun k => g (k + 1) s (i : Int)) (R i s (xs[i] :: xs.drop (i + 1)))) :
    ∀ (d i : Nat) (s : σ), i + d = xs.length → I i s → Eve (fun k => g k s (i : Int)) (R i s (xs.drop i)) := by
  intro d
  induction d with
  | zero =>
    intro i s hi hI
    obtain rfl : i = xs.length := by omega
    rw [List.drop_length]
    exact Eve.succ (hend s hI)
  | succ d ih =>
    intro i s hi hI
    have hlt : i < xs.length := by omega
    rw [drop_at xs i hlt]
    exact Eve.succ (hstep i hlt s hI (fun s' h' => ih (i + 1) s' (by omega) h'))
theorem ev_loop0 {σ α β : Type} (xs : List α) (g : Nat → σ → Int → Option β) (R : Nat → σ → List α → β) (I : Nat → σ → Prop)
    (hend : ∀ s, I xs.length s → Eve (fun k => g (k + 1) s (xs.length : Int)) (R xs.length s []))
    (hstep : ∀ (i : Nat) (h : i < xs.length) (s : σ), I i s → (∀ s', I (i + 1) s' → Eve (fun k => g k s' ((i + 1 : Nat) : Int)) (R (i + 1) s' (xs.drop (i + 1)))) →
      Eve (fun k => g (k + 1) s (i : Int)) (R i s (xs[i] :: xs.drop (i + 1)))) (s : σ) (h0 : I 0 s) : Eve (fun k => g k s 0) (R 0 s xs) := by
  have := ev_loop xs g R I hend hstep xs.length 0 s (by omega) h0
  simpa using this
/-- A loop that fills a row. -/
theorem ev_map {α β : Type} (xs : List α) (g : Nat → List β → Int → Option (List β)) (c : α → β) (z : β)
    (hend : ∀ ys, ys.length = xs.length → Eve (fun k => g (k + 1) ys (xs.length : Int)) ys)
    (hstep : ∀ (i : Nat) (h : i < xs.length) (ys : List β) (v : List β), ys.length = xs.length → Eve (fun k => g k (ys.set i (c xs[i])) ((i + 1 : Nat) : Int)) v → Eve (fun k => g (k + 1) ys (i : Int)) v) :
    Eve (fun k => g k (List.replicate xs.length z) 0) (xs.map c) := by
  have := ev_loop0 xs g (fun i ys rest => ys.take i ++ rest.map c) (fun _ ys => ys.length = xs.length) (fun ys hy => by
    rw [List.take_of_length_le (by omega)]; simpa using hend ys hy) (fun i hi ys hy ih => by
    refine hstep i hi ys _ hy ((ih _ (by simp [hy])).eq ?_)
    show (ys.set i (c xs[i])).take (i + 1) ++ (xs.drop (i + 1)).map c = ys.take i ++ (xs[i] :: xs.drop (i + 1)).map c
    rw [List.take_succ_eq_append_getElem (by simp; omega), List.getElem_set_self, List.take_set_of_le (Nat.le_refl _), List.map_cons, List.append_assoc]
    rfl) (List.replicate xs.length z) (by simp)
  simpa using this
/-- A loop that asks each place. -/
theorem ev_all {α : Type} (xs : List α) (g : Nat → Int → Option Bool) (q : α → Bool)
    (hend : Eve (fun k => g (k + 1) (xs.length : Int)) true)
    (hstep : ∀ (i : Nat) (h : i < xs.length) (v : Bool), Eve (fun k => g k ((i + 1 : Nat) : Int)) v → Eve (fun k => g (k + 1) (i : Int)) (q xs[i] && v)) : Eve (fun k => g k 0) (xs.all q) :=
  ev_loop0 xs (fun k (_ : Unit) i => g k i) (fun _ _ r => r.all q) (fun _ _ => True) (fun _ _ => hend) (fun i hi s _ ih => by
    rw [List.all_cons]; exact hstep i hi _ (ih () trivial)) () trivial
/-- A loop that takes sizes off a number. -/
theorem ev_less {α : Type} (xs : List α) (g : Nat → Int → Int → Option Int) (s : α → Nat)
    (hend : ∀ l, Eve (fun k => g (k + 1) l (xs.length : Int)) l)
    (hstep : ∀ (i : Nat) (h : i < xs.length) (l v : Int), 0 ≤ l → l ≤ 1048576 → (0 ≤ l - s xs[i] → Eve (fun k => g k (l - s xs[i]) ((i + 1 : Nat) : Int)) v) → Eve (fun k => g (k + 1) l (i : Int)) (if l - s xs[i] < 0 then -1 else v))
    {l : Int} (h0 : 0 ≤ l) (h1 : l ≤ 1048576) : Eve (fun k => g k l 0) (if l - total s xs < 0 then -1 else l - total s xs) := by
  have := ev_loop0 xs g (fun _ l r => less s r l) (fun _ l => 0 ≤ l ∧ l ≤ 1048576) (fun l _ => hend l) (fun i hi l hI ih => by
    refine (hstep i hi l _ hI.1 hI.2 (fun h => ih (l - s xs[i]) ⟨h, by omega⟩)).eq ?_
    rfl) l ⟨h0, h1⟩
  rw [less_is s xs l h0] at this
  by_cases h : l < total s xs
  · rw [if_pos h] at this; rw [if_pos (by omega)]; exact this
  · rw [if_neg h] at this; rw [if_neg (by omega)]; exact this
end Go.Proofs.YtoceopjhacpjnaaW.Pl
end
section
namespace Go.Proofs.Ytoceopjhacpjnaa.Pure
open Go.RowKit Go.Proofs.Ytoceopjhacpjnaa.Q Go.Proofs.YtoceopjhacpjnaaW.PrintWords Go.Proofs.YtoceopjhacpjnaaW.PrintLast Go.Proofs.YtoceopjhacpjnaaW.Pl
abbrev LEnt := S49
abbrev IEnt := S52
abbrev LPag := S105
abbrev IPag := S76
def ie (e : LEnt) : IEnt := ⟨e.f0, e.f1⟩
def ip (p : LPag) : IPag := ⟨p.f0, p.f1.map ie⟩
theorem wi {i : Nat} (h : i ≤ 9223372036854775806) : wrap64 ((i : Int) + 1) = ((i + 1 : Nat) : Int) := w64 (by omega) (by omega)
theorem rdLE (l : List LEnt) (i : Nat) (h : i < l.length) : rd_T49 l (i : Int) = l[i] := getD_at _ l i h
theorem rdIE (l : List IEnt) (i : Nat) (h : i < l.length) : rd_T52 l (i : Int) = l[i] := getD_at _ l i h
theorem rdLP (l : List LPag) (i : Nat) (h : i < l.length) : rd_T105 l (i : Int) = l[i] := getD_at _ l i h
theorem rdIP (l : List IPag) (i : Nat) (h : i < l.length) : rd_T76 l (i : Int) = l[i] := getD_at _ l i h
theorem szEntry_tells (e : LEnt) (h : e.f0.size ≤ 9223372036854775807) {left : Int} (h0 : 0 ≤ left) (h1 : left ≤ 1048576) :
    laws_szEntry.f e.f0 e.f1 left = some (if left - e.f0.size < 0 then -1 else left - e.f0.size) := by
  unfold laws_szEntry.f
  rw [w64 (by omega) (by omega)]
  split <;> rfl
def szES (l : List LEnt) : Nat := l.length + total (fun e => e.f0.size) l
theorem szEntryS_tells (l : List LEnt) (hl : l.length ≤ 9223372036854775807) (hs : ∀ x ∈ l, x.f0.size ≤ 9223372036854775807) {left : Int} (h0 : 0 ≤ left) (h1 : left ≤ 1048576) :
    Eve (fun k => laws_szEntryS.f k l left) (if left - szES l < 0 then -1 else left - szES l) := by
  simp only [laws_szEntryS.f]
  rw [w64 (by omega) (by omega)]
  refine Eve.ite (fun h => Eve.one.eq ?_) (fun h => ?_)
  · rw [if_pos (by simp [szES]; omega)]
  refine (ev_less l (fun k l' i => laws_szEntryS.l0 k l l' i) (fun e => e.f0.size) (fun l' => ?_) (fun i hi l' v a b ih => ?_) (by omega) (by omega)).eq ?_
  · simp only [laws_szEntryS.l0]
    exact Eve.ite (fun h => absurd h (by omega)) (fun _ => Eve.one)
  · have hsz := hs l[i] (List.getElem_mem hi)
    simp only [laws_szEntryS.l0]
    refine Eve.ite (fun _ => ?_) (fun h => absurd h (by omega))
    refine Eve.ite (fun _ => ?_) (fun h => absurd h (by omega))
    simp only [rdLE _ _ hi, szEntry_tells _ hsz a b, Option.bind_some, wi (show i ≤ 9223372036854775806 by omega)]
    by_cases h2 : l' - (l[i].f0.size : Int) < 0
    · simp only [if_pos h2]
      exact Eve.ite (fun _ => Eve.one) (fun h => absurd h (by omega))
    · simp only [if_neg h2]
      exact ih (by omega)
  · have : ((szES l : Nat) : Int) = l.length + total (fun e => e.f0.size) l := by simp [szES]
    rw [this, Int.sub_sub]
theorem szPage_tells (p : LPag) (hl : p.f1.length ≤ 9223372036854775807) (hs : ∀ x ∈ p.f1, x.f0.size ≤ 9223372036854775807) {left : Int} (h0 : 0 ≤ left) (h1 : left ≤ 1048576) :
    Eve (fun k => laws_szPage.f k p.f0 p.f1 left) (if left - szES p.f1 < 0 then -1 else left - szES p.f1) := by
  simp only [laws_szPage.f]
  refine Eve.bind (szEntryS_tells p.f1 hl hs h0 h1) ?_
  by_cases h : left - szES p.f1 < 0
  · simp only [if_pos h]; exact Eve.ite (fun _ => Eve.one) (fun h => absurd h (by omega))
  · simp only [if_neg h]; exact Eve.one
def goodP (p : LPag) : Prop := p.f1.length ≤ 9223372036854775807 ∧ ∀ x ∈ p.f1, x.f0.size ≤ 9223372036854775807
def szPS (l : List LPag) : Nat := l.length + total (fun p => szES p.f1) l
theorem szPageS_tells (l : List LPag) (hl : l.length ≤ 9223372036854775807) (hs : ∀ x ∈ l, goodP x) {left : Int} (h0 : 0 ≤ left) (h1 : left ≤ 1048576) :
    Eve (fun k => laws_szPageS.f k l left) (if left - szPS l < 0 then -1 else left - szPS l) := by
  simp only [laws_szPageS.f]
  rw [w64 (by omega) (by omega)]
  refine Eve.ite (fun h => Eve.one.eq ?_) (fun h => ?_)
  · rw [if_pos (by simp [szPS]; omega)]
  refine (ev_less l (fun k l' i => laws_szPageS.l0 k l l' i) (fun p => szES p.f1) (fun l' => ?_) (fun i hi l' v a b ih => ?_) (by omega) (by omega)).eq ?_
  · simp only [laws_szPageS.l0]
    exact Eve.ite (fun h => absurd h (by omega)) (fun _ => Eve.one)
  · have hsz := hs l[i] (List.getElem_mem hi)
    simp only [laws_szPageS.l0]
    refine Eve.ite (fun _ => ?_) (fun h => absurd h (by omega))
    refine Eve.ite (fun _ => ?_) (fun h => absurd h (by omega))
    simp only [rdLP _ _ hi, wi (show i ≤ 9223372036854775806 by omega)]
    refine Eve.bind (szPage_tells l[i] hsz.1 hsz.2 a b) ?_
    by_cases h2 : l' - (szES l[i].f1 : Int) < 0
    · simp only [if_pos h2]
      exact Eve.ite (fun _ => Eve.one) (fun h => absurd h (by omega))
    · simp only [if_neg h2]
      exact ih (by omega)
  · have : ((szPS l : Nat) : Int) = l.length + total (fun p => szES p.f1) l := by simp [szPS]
    rw [this, Int.sub_sub]
theorem szTree_tells (l : List LPag) (n : Int) (hl : l.length ≤ 9223372036854775807) (hs : ∀ x ∈ l, goodP x) {left : Int} (h0 : 0 ≤ left) (h1 : left ≤ 1048576) :
    Eve (fun k => laws_szTree.f k l n left) (if left - szPS l < 0 then -1 else left - szPS l) := by
  simp only [laws_szTree.f]
  refine Eve.bind (szPageS_tells l hl hs h0 h1) ?_
  by_cases h : left - szPS l < 0
  · simp only [if_pos h]; exact Eve.ite (fun _ => Eve.one) (fun h => absurd h (by omega))
  · simp only [if_neg h]; exact Eve.one
/-- the tree is within the law's limit -/
def Fits (l : List LPag) : Prop := szPS l ≤ 1048576
theorem Fits.len {l : List LPag} (h : Fits l) : l.length ≤ 1048576 := by unfold Fits szPS at h; omega
theorem Fits.page {l : List LPag} (h : Fits l) (p : LPag) (hp : p ∈ l) : p.f1.length ≤ 1048576 := by
  unfold Fits szPS at h
  have := total_le (fun p => szES p.f1) l p hp
  simp only [szES] at this
  unfold szES at h
  omega
theorem flat_le : ∀ l : List LPag, (l.flatMap (·.f1)).length ≤ total (fun p => szES p.f1) l
  | [] => by simp
  | p :: l => by
    have := flat_le l
    simp [total, szES] at *
    omega
theorem Fits.flat {l : List LPag} (h : Fits l) : (l.flatMap (·.f1)).length ≤ 1048576 := by
  have := flat_le l
  unfold Fits szPS at h
  omega
theorem toEntryS_tells (l : List LEnt) (hl : l.length ≤ 1048576) : Eve (fun k => laws_toEntryS.f k l) (l.map ie) := by
  simp only [laws_toEntryS.f]
  refine Eve.ite (fun _ => ?_) (fun h => absurd h (by omega))
  refine Eve.ite (fun _ => ?_) (fun h => absurd h (by omega))
  refine (ev_map l (fun k ys i => laws_toEntryS.l0 k l ys i) ie z52 (fun ys hy => ?_) (fun i hi ys v hy ih => ?_))
  · simp only [laws_toEntryS.l0]
    exact Eve.ite (fun h => absurd h (by omega)) (fun _ => Eve.one)
  · simp only [laws_toEntryS.l0]
    refine Eve.ite (fun _ => ?_) (fun h => absurd h (by omega))
    refine Eve.ite (fun _ => ?_) (fun h => absurd h (by omega))
    simp only [rdLE _ _ hi, laws_toEntry.f, Option.bind_some, wi (show i ≤ 9223372036854775806 by omega)]
    refine Eve.ite (fun _ => ?_) (fun h => absurd h (by omega))
    exact ih
theorem toPage_tells (p : LPag) (hl : p.f1.length ≤ 1048576) : Eve (fun k => laws_toPage.f k p.f0 p.f1) (p.f0, p.f1.map ie) := by
  simp only [laws_toPage.f]
  exact Eve.bind (toEntryS_tells p.f1 hl) Eve.one
theorem toPageS_tells (l : List LPag) (hl : l.length ≤ 1048576) (hs : ∀ p ∈ l, p.f1.length ≤ 1048576) : Eve (fun k => laws_toPageS.f k l) (l.map ip) := by
  simp only [laws_toPageS.f]
  refine Eve.ite (fun _ => ?_) (fun h => absurd h (by omega))
  refine Eve.ite (fun _ => ?_) (fun h => absurd h (by omega))
  refine (ev_map l (fun k ys i => laws_toPageS.l0 k l ys i) ip z76 (fun ys hy => ?_) (fun i hi ys v hy ih => ?_))
  · simp only [laws_toPageS.l0]
    exact Eve.ite (fun h => absurd h (by omega)) (fun _ => Eve.one)
  · simp only [laws_toPageS.l0]
    refine Eve.ite (fun _ => ?_) (fun h => absurd h (by omega))
    refine Eve.ite (fun _ => ?_) (fun h => absurd h (by omega))
    simp only [rdLP _ _ hi, wi (show i ≤ 9223372036854775806 by omega)]
    refine Eve.bind (toPage_tells l[i] (hs _ (List.getElem_mem hi))) ?_
    refine Eve.ite (fun _ => ?_) (fun h => absurd h (by omega))
    exact ih
theorem toTree_tells (l : List LPag) (n : Int) (h : Fits l) : Eve (fun k => laws_toTree.f k l n) (l.map ip, n) := by
  simp only [laws_toTree.f]
  exact Eve.bind (toPageS_tells l h.len h.page) Eve.one
theorem eqEntryS_self (l : List IEnt) (hl : l.length ≤ 1048576) : Eve (fun k => laws_eqEntryS.f k l l) true := by
  simp only [laws_eqEntryS.f, if_true]
  refine (ev_all l (fun k i => laws_eqEntryS.l0 k l l i) (fun _ => true) ?_ (fun i hi v ih => ?_)).eq (by simp)
  · simp only [laws_eqEntryS.l0]
    exact Eve.ite (fun h => absurd h (by omega)) (fun _ => Eve.one)
  · simp only [laws_eqEntryS.l0]
    refine Eve.ite (fun _ => ?_) (fun h => absurd h (by omega))
    refine Eve.ite (fun _ => ?_) (fun h => absurd h (by omega))
    simp only [laws_eqEntry.f, if_true, Option.bind_some, wi (show i ≤ 9223372036854775806 by omega), Bool.true_and]
    exact Eve.ite (fun _ => ih) (fun h => absurd (by omega) h)
theorem eqPageS_self (l : List IPag) (hl : l.length ≤ 1048576) (hs : ∀ p ∈ l, p.f1.length ≤ 1048576) : Eve (fun k => laws_eqPageS.f k l l) true := by
  simp only [laws_eqPageS.f, if_true]
  refine (ev_all l (fun k i => laws_eqPageS.l0 k l l i) (fun _ => true) ?_ (fun i hi v ih => ?_)).eq (by simp)
  · simp only [laws_eqPageS.l0]
    exact Eve.ite (fun h => absurd h (by omega)) (fun _ => Eve.one)
  · simp only [laws_eqPageS.l0]
    refine Eve.ite (fun _ => ?_) (fun h => absurd h (by omega))
    refine Eve.ite (fun _ => ?_) (fun h => absurd h (by omega))
    refine Eve.ite (fun _ => ?_) (fun h => absurd (by omega) h)
    simp only [rdIP _ _ hi, laws_eqPage.f, if_true, Bool.true_and, wi (show i ≤ 9223372036854775806 by omega)]
    refine Eve.bind (v := true) (Eve.bind (eqEntryS_self _ (hs _ (List.getElem_mem hi))) ?_) ?_
    · simp only [if_true]; exact Eve.one
    · simp only [if_true]; exact ih
theorem eqTree_self (l : List IPag) (n : Int) (hl : l.length ≤ 1048576) (hs : ∀ p ∈ l, p.f1.length ≤ 1048576) : Eve (fun k => laws_eqTree.f k l n l n) true := by
  simp only [laws_eqTree.f, if_true]
  refine Eve.bind (eqPageS_self l hl hs) ?_
  simp only [if_true]; exact Eve.one
theorem eqTree_to (l : List LPag) (n : Int) (h : Fits l) : Eve (fun k => laws_eqTree.f k (l.map ip) n (l.map ip) n) true := by
  refine eqTree_self _ n (by simpa using h.len) (fun p hp => ?_)
  obtain ⟨q, hq, rfl⟩ := List.mem_map.1 hp
  simpa [ip] using h.page q hq
theorem good_pages {l : List LPag} (h : l.length ≤ 9223372036854775807 ∧ ∀ y ∈ l, good105 y) : ∀ p ∈ l, goodP p :=
  fun p hp => ⟨(h.2 p hp).2.1, fun e he => ((h.2 p hp).2.2 e he).1⟩
end Go.Proofs.Ytoceopjhacpjnaa.Pure
end
section
namespace Go.Proofs.Ytoceopjhacpjnaa.Pure
open Go.RowKit Go.Proofs.Ytoceopjhacpjnaa.Q Go.Proofs.YtoceopjhacpjnaaW.PrintWords Go.Proofs.YtoceopjhacpjnaaW.PrintLast Go.Proofs.YtoceopjhacpjnaaW.PrintMore Go.Proofs.YtoceopjhacpjnaaW.Pl
/-- an order of texts, as two functions tell it -/
theorem cb_is : ∀ x y : List UInt8, Lib.compareBytes x y = if Op.bytesLess x y = true then -1 else if x = y then 0 else 1
  | [], [] => by simp [Lib.compareBytes, Op.bytesLess]
  | [], _ :: _ => by simp [Lib.compareBytes, Op.bytesLess]
  | _ :: _, [] => by simp [Lib.compareBytes, Op.bytesLess]
  | a :: x, b :: y => by
    simp only [Lib.compareBytes, Op.bytesLess]
    rw [cb_is x y]
    by_cases h : a < b
    · simp [h]
    · by_cases h2 : b < a
      · have h3 : ¬ a = b := by rintro rfl; exact h h2
        simp [h, h2, h3]
      · have h3 : a = b := by
          apply UInt8.toNat_inj.mp
          rw [UInt8.lt_iff_toNat_lt] at h h2
          omega
        subst h3
        simp [h]
/-- e comes before f -/
def el (a b : IEnt) : Bool := Op.bytesLess a.f0.toList b.f0.toList || (decide (a.f0.toList = b.f0.toList) && decide (a.f1 < b.f1))
theorem less_tells (a b : IEnt) : spec_l05Less.f a.f0 a.f1 b.f0 b.f1 = some (el a b) := by
  unfold spec_l05Less.f el
  by_cases h : Op.bytesLess a.f0.toList b.f0.toList = true
  · rw [if_pos h, h]; rfl
  · rw [if_neg h]
    by_cases h2 : a.f0.toList = b.f0.toList
    · rw [if_pos h2]; simp [h2] at *; simp [h]
    · rw [if_neg h2]; simp [h, h2]
def ce (a b : IEnt) : Int := if Op.bytesLess a.f0.toList b.f0.toList = true then -1 else if a.f0.toList = b.f0.toList then (if a.f1 < b.f1 then -1 else if a.f1 > b.f1 then 1 else 0) else 1
theorem compare_tells (a b : IEnt) : Eve (fun k => impl_compareEntries.f k a.f0 a.f1 b.f0 b.f1) (ce a b) := by
  refine ⟨4, fun k hk => ?_⟩
  obtain ⟨k, rfl⟩ : ∃ m, k = m + 3 := ⟨k - 3, by omega⟩
  have w1 : wrap64 (0 + 1) = 1 := w64 (by omega) (by omega)
  have w2 : wrap64 (1 + 1) = 2 := w64 (by omega) (by omega)
  have hor : ∀ p q : Int, cmp_Or_int.f (k + 3) [p, q] = some (if p = 0 then q else p) := by
    intro p q
    have r0 : rd [p, q] 0 = p := rfl
    have r1 : rd [p, q] 1 = q := rfl
    simp only [cmp_Or_int.f, cmp_Or_int.l0, List.length_cons, List.length_nil, w1, w2, r0, r1]
    by_cases hp : p = 0
    · by_cases hq : q = 0
      · simp [hp, hq]
      · simp [hp, hq]
    · simp [hp]
  have hc : cmp_Compare_int.f a.f1 b.f1 = some (if a.f1 < b.f1 then -1 else if a.f1 > b.f1 then 1 else 0) := by
    simp only [cmp_Compare_int.f, cmp_isNaN_int.f, Option.bind_some, bne_self_eq_false, Bool.false_eq_true, if_false]
    repeat' split
    all_goals rfl
  unfold impl_compareEntries.f strings_Compare.f
  rw [hc]
  simp only [Option.bind_some, hor, ← ba_toList, cb_is]
  unfold ce
  by_cases h : Op.bytesLess a.f0.toList b.f0.toList = true
  · simp [h]
  · by_cases h2 : a.f0.toList = b.f0.toList
    · simp only [if_neg h, if_pos h2, if_true]
    · simp [h, h2]
theorem less_irrefl (x : List UInt8) : Op.bytesLess x x = false := by
  rw [← bytesLess_total x x]; simp
theorem ce_lt (a b : IEnt) : ce a b ≥ 0 ↔ ¬ el a b = true := by
  unfold ce el
  by_cases h : Op.bytesLess a.f0.toList b.f0.toList = true
  · simp [h]
  · by_cases h2 : a.f0.toList = b.f0.toList
    · rw [h2, less_irrefl]
      by_cases h3 : a.f1 < b.f1
      · simp [h3]
      · by_cases h4 : a.f1 > b.f1
        · simp [h3, h4]
        · simp [h3, h4]
    · simp [h, h2]
theorem ce_le (a b : IEnt) : ce a b ≤ 0 ↔ ¬ el b a = true := by
  unfold ce el
  have ht := bytesLess_total a.f0.toList b.f0.toList
  rw [← ht]
  by_cases h : Op.bytesLess a.f0.toList b.f0.toList = true
  · have : ¬ b.f0.toList = a.f0.toList := by intro e; rw [e, less_irrefl] at h; simp at h
    simp [h, this]
  · by_cases h2 : a.f0.toList = b.f0.toList
    · rw [h2, less_irrefl]
      by_cases h3 : a.f1 < b.f1
      · have : ¬ b.f1 < a.f1 := by omega
        simp [h3, this]
      · by_cases h4 : a.f1 > b.f1
        · have : b.f1 < a.f1 := by omega
          simp [h3, h4]
        · have : ¬ b.f1 < a.f1 := by omega
          simp [h3, h4]
    · simp [h, h2]
def inr (a b c : Int) : Bool := decide (b ≤ a) && decide (a ≤ c)
theorem in_spec (a b c : Int) : spec_l01In.f a b c = some (inr a b c) := by
  unfold spec_l01In.f inr
  by_cases h : b ≤ a
  · rw [if_pos h]; simp [h]
  · rw [if_neg h]; simp [h]
theorem in_impl (a b c : Int) : impl_inRange.f a b c = some (inr a b c) := in_spec a b c
def eok (e : IEnt) : Bool := decide ((e.f0.size : Int) ≤ 2000) && inr e.f1 0 9999
theorem eok_spec (e : IEnt) : spec_l05Entry.f e.f0 e.f1 = some (eok e) := by
  unfold spec_l05Entry.f eok
  by_cases h : (e.f0.size : Int) ≤ 2000
  · rw [if_pos h, in_spec]; simp [h]
  · rw [if_neg h]; simp [h]
theorem eok_impl (e : IEnt) : impl_entryOK.f e.f0 e.f1 = some (eok e) := eok_spec e
/-- entries after one entry, each after the one ahead of it -/
def ens : IEnt → List IEnt → Bool
  | _, [] => true
  | p, e :: es => eok e && (el p e && ens e es)
def lastE : IEnt → List IEnt → IEnt
  | p, [] => p
  | _, e :: es => lastE e es
theorem ens_append : ∀ (p : IEnt) (xs ys : List IEnt), ens p (xs ++ ys) = (ens p xs && ens (lastE p xs) ys)
  | p, [], ys => by simp [ens, lastE]
  | p, e :: xs, ys => by simp only [List.cons_append, ens, lastE, ens_append e xs ys, Bool.and_assoc]
def noE : IEnt := ⟨(⟨#[]⟩ : ByteArray), -1⟩
theorem noE_less (e : IEnt) (h : eok e = true) : el noE e = true := by
  unfold eok inr at h
  simp only [Bool.and_eq_true, decide_eq_true_eq] at h
  have h0 : noE.f0.toList = [] := by rw [ba_toList]; rfl
  have h1 : noE.f1 = -1 := rfl
  unfold el
  rw [h0, h1]
  cases e.f0.toList with
  | nil => simp [Op.bytesLess]; omega
  | cons a x => simp [Op.bytesLess]
/-- what is asked of one page behind others -/
def pok (T : List IPag) (n : Int) (seen : List Int) (p : IPag) : Bool := inr p.f0 1 (n - 1) && (!seen.contains p.f0 && (decide ((p.f1.length : Int) ≤ 4) && !(decide ((p.f1.length : Int) = 0) && decide ((T.length : Int) > 1))))
def poks (T : List IPag) (n : Int) : List Int → List IPag → Bool
  | _, [] => true
  | seen, p :: ps => pok T n seen p && poks T n (seen ++ [p.f0]) ps
def tok (T : List IPag) (n : Int) : Bool := inr T.length 1 60 && (inr n 2 100000 && (poks T n [] T && ens noE (T.flatMap (·.f1))))
theorem entries_tells (T : List IPag) (n : Int) (hT : T.length ≤ 1048576) (hf : (T.flatMap (·.f1)).length ≤ 1048576) : Eve (fun k => impl_Tree_entries.f k T n) (T.flatMap (·.f1)) := by
  simp only [impl_Tree_entries.f]
  have := ev_loop0 T (fun k ys i => impl_Tree_entries.l0 k ys T (T.length : Int) i) (fun _ ys r => ys ++ r.flatMap (·.f1)) (fun i ys => ys ++ (T.drop i).flatMap (·.f1) = T.flatMap (·.f1)) (fun ys _ => by
    simp only [impl_Tree_entries.l0]
    exact Eve.ite (fun h => absurd h (by omega)) (fun _ => Eve.one.eq (by simp))) (fun i hi ys hI ih => by
    rw [drop_at T i hi, List.flatMap_cons] at hI
    simp only [impl_Tree_entries.l0]
    refine Eve.ite (fun _ => ?_) (fun h => absurd (by omega) h)
    refine Eve.ite (fun _ => ?_) (fun h => absurd (by omega) h)
    refine Eve.ite (fun _ => ?_) (fun h => absurd (by omega) h)
    simp only [rdIP _ _ hi, wi (show i ≤ 9223372036854775806 by omega)]
    refine Eve.ite (fun _ => ?_) (fun h => absurd ?_ h)
    · exact (ih (ys ++ T[i].f1) (by rw [← hI, List.append_assoc])).eq (by rw [List.append_assoc, List.flatMap_cons])
    · have := congrArg List.length hI
      simp only [List.length_append] at this
      omega) [] (by simp)
  simpa using this
theorem contains_tells (xs : List Int) (a : Int) (h : xs.length ≤ 1048576) : Eve (fun k => slices_Contains_int_int.f k xs a) (xs.contains a) := by
  simp only [slices_Contains_int_int.f, slices_Index_int_int.f]
  refine Eve.bind (v := first (fun x => decide (a = x)) xs 0) ?_ (Eve.one.eq ?_)
  · refine ev_loop0 xs (fun k (_ : Unit) i => slices_Index_int_int.l0 k xs a (xs.length : Int) i) (fun i _ r => first (fun x => decide (a = x)) r i) (fun _ _ => True) (fun _ _ => ?_) (fun i hi s _ ih => ?_) () trivial
    · simp only [slices_Index_int_int.l0]
      exact Eve.ite (fun h => absurd h (by omega)) (fun _ => Eve.one)
    · simp only [slices_Index_int_int.l0]
      refine Eve.ite (fun _ => ?_) (fun h => absurd (by omega) h)
      refine Eve.ite (fun _ => ?_) (fun h => absurd (by omega) h)
      refine Eve.ite (fun _ => ?_) (fun h => absurd (by omega) h)
      simp only [rd_at _ _ hi, wi (show i ≤ 9223372036854775806 by omega)]
      refine Eve.ite (fun h => Eve.one.eq ?_) (fun h => (ih () trivial).eq ?_)
      · simp [first, h]
      · simp [first, h]
  · rw [first_any]
    induction xs with
    | nil => rfl
    | cons x xs ih =>
      rw [List.any_cons, ih (by simp at h; omega), List.contains_cons]
      by_cases e : a = x <;> simp [e]
theorem implOK_tells (T : List IPag) (n : Int) (hT : T.length ≤ 1048576) (hf : (T.flatMap (·.f1)).length ≤ 1048576) : Eve (fun k => impl_TreeOK.f k T n) (tok T n) := by
  have hj1 : Eve (fun k => impl_TreeOK.j0 k true T n) false := Eve.succ (by simp only [impl_TreeOK.j0, if_true]; exact Eve.one)
  simp only [impl_TreeOK.f, in_impl, Option.bind_some]
  refine Eve.ite (fun h1 => ?_) (fun h1 => hj1.eq (by simp [tok, h1]))
  cases h2 : inr n 2 100000
  · exact hj1.eq (by simp [tok, h2])
  refine Eve.succ ?_
  simp only [impl_TreeOK.j0, Bool.not_true, Bool.false_eq_true, if_false]
  have hn : wrap64 (n - 1) = n - 1 := by
    unfold inr at h2
    simp only [Bool.and_eq_true, decide_eq_true_eq] at h2
    exact w64 (by omega) (by omega)
  have := ev_loop0 T (fun k ys i => impl_TreeOK.l0 k ys T (T.length : Int) i T n) (fun _ ys r => poks T n ys r && ens noE (T.flatMap (·.f1))) (fun i ys => ys.length = i) (fun ys hy => by
    simp only [impl_TreeOK.l0]
    refine Eve.ite (fun h => absurd h (by omega)) (fun _ => ?_)
    refine Eve.bind (entries_tells T n hT hf) ?_
    generalize hE : T.flatMap (·.f1) = E at hf ⊢
    have hl := ev_loop0 E (fun k (_ : Unit) i => impl_TreeOK.l1 k E E (E.length : Int) i) (fun i _ r => ens (if i = 0 then noE else E.getD (i - 1) noE) r) (fun _ _ => True) (fun _ _ => by
      simp only [impl_TreeOK.l1]
      exact Eve.ite (fun h => absurd h (by omega)) (fun _ => Eve.one)) (fun i hi s _ ih => by
      simp only [impl_TreeOK.l1]
      refine Eve.ite (fun _ => ?_) (fun h => absurd (by omega) h)
      refine Eve.ite (fun _ => ?_) (fun h => absurd (by omega) h)
      refine Eve.ite (fun _ => ?_) (fun h => absurd (by omega) h)
      simp only [rdIE _ _ hi, eok_impl, Option.bind_some, wi (show i ≤ 9223372036854775806 by omega)]
      have hnx := ih () trivial
      simp only [Nat.add_one_ne_zero, if_false, Nat.add_sub_cancel, List.getD_eq_getElem?_getD, List.getElem?_eq_getElem hi, Option.getD_some] at hnx
      refine Eve.ite (fun h1 => ?_) (fun h1 => Eve.one.eq (by simp [ens, h1]))
      refine Eve.ite (fun h2 => ?_) (fun h2 => hnx.eq ?_)
      · have hw : wrap64 ((i : Int) - 1) = ((i - 1 : Nat) : Int) := by rw [w64 (by omega) (by omega)]; omega
        simp only [hw]
        refine Eve.ite (fun _ => ?_) (fun h => absurd (by omega) h)
        refine Eve.ite (fun _ => ?_) (fun h => absurd (by omega) h)
        rw [if_neg (by omega), List.getD_eq_getElem?_getD, List.getElem?_eq_getElem (show i - 1 < E.length by omega), Option.getD_some]
        simp only [rdIE _ _ (show i - 1 < E.length by omega)]
        refine Eve.bind (compare_tells _ _) ?_
        refine Eve.ite (fun h3 => Eve.one.eq ?_) (fun h3 => hnx.eq ?_)
        · have := (ce_lt _ _).1 h3
          simp [ens, this]
        · have : el (E[i - 1]) E[i] = true := by
            by_cases h4 : el (E[i - 1]) E[i] = true
            · exact h4
            · exact absurd ((ce_lt _ _).2 h4) h3
          simp [ens, this, h1]
      · obtain rfl : i = 0 := by omega
        rw [if_pos rfl]
        simp [ens, h1, noE_less _ h1]) () trivial
    rw [if_pos rfl] at hl
    exact hl.eq (by simp [poks])) (fun i hi ys hI ih => by
    simp only [impl_TreeOK.l0]
    refine Eve.ite (fun _ => ?_) (fun h => absurd (by omega) h)
    refine Eve.ite (fun _ => ?_) (fun h => absurd (by omega) h)
    refine Eve.ite (fun _ => ?_) (fun h => absurd (by omega) h)
    simp only [rdIP _ _ hi, hn, in_impl, Option.bind_some, wi (show i ≤ 9223372036854775806 by omega)]
    refine Eve.ite (fun h1 => ?_) (fun h1 => Eve.one.eq (by simp [poks, pok, h1]))
    refine Eve.bind (contains_tells ys _ (by omega)) ?_
    refine Eve.ite (fun h2 => Eve.one.eq (by simp only [poks, pok, h2]; simp)) (fun h2 => ?_)
    refine Eve.ite (fun h3 => Eve.one.eq ?_) (fun h3 => ?_)
    · have : ¬ ((T[i].f1.length : Int) ≤ 4) := by omega
      simp only [poks, pok, this]; simp
    have h3' : ((T[i].f1.length : Int) ≤ 4) := by omega
    have hnx := ih (ys ++ [T[i].f0]) (by simp [hI])
    refine Eve.ite (fun h4 => ?_) (fun h4 => ?_)
    · refine Eve.ite (fun h5 => Eve.one.eq ?_) (fun h5 => ?_)
      · simp only [poks, pok, h4, h5]; simp
      · refine Eve.ite (fun _ => hnx.eq ?_) (fun h => absurd (by omega) h)
        simp only [poks, pok, h1, h2, h4, h5]; simp
    · refine Eve.ite (fun _ => hnx.eq ?_) (fun h => absurd (by omega) h)
      simp only [poks, pok, h1, h2, h3', h4]; simp) [] rfl
  exact this.eq (by simp [tok, h1, h2])
theorem specOK_tells (T : List IPag) (n : Int) (hT : T.length ≤ 1048576) (hf : ∀ p ∈ T, p.f1.length ≤ 1048576) : Eve (fun k => spec_TreeOK.f k T n) (tok T n) := by
  have hj1 : Eve (fun k => spec_TreeOK.j0 k true T n) false := Eve.succ (by simp only [spec_TreeOK.j0, if_true]; exact Eve.one)
  simp only [spec_TreeOK.f, in_spec, Option.bind_some]
  refine Eve.ite (fun h1 => ?_) (fun h1 => hj1.eq (by simp [tok, h1]))
  cases h2 : inr n 2 100000
  · exact hj1.eq (by simp [tok, h2])
  refine Eve.succ ?_
  simp only [spec_TreeOK.j0, Bool.not_true, Bool.false_eq_true, if_false]
  have hn : wrap64 (n - 1) = n - 1 := by
    unfold inr at h2
    simp only [Bool.and_eq_true, decide_eq_true_eq] at h2
    exact w64 (by omega) (by omega)
  have := ev_loop0 T (fun k (e : IEnt) i => spec_TreeOK.l0 k i T n e.f0 e.f1) (fun i e r => poks T n ((T.take i).map (·.f0)) r && ens e (r.flatMap (·.f1))) (fun _ _ => True) (fun e _ => by
    simp only [spec_TreeOK.l0]
    exact Eve.ite (fun h => absurd h (by omega)) (fun _ => Eve.one)) (fun i hi e _ ih => by
    have htk : (T.take (i + 1)).map (·.f0) = (T.take i).map (·.f0) ++ [T[i].f0] := by
      rw [List.take_succ_eq_append_getElem hi, List.map_append]; rfl
    simp only [htk] at ih
    simp only [spec_TreeOK.l0]
    refine Eve.ite (fun _ => ?_) (fun h => absurd (by omega) h)
    refine Eve.ite (fun _ => ?_) (fun h => absurd (by omega) h)
    simp only [rdIP _ _ hi, hn, in_spec, Option.bind_some]
    generalize hp : T[i] = p at ih ⊢
    have hpl : p.f1.length ≤ 1048576 := by rw [← hp]; exact hf _ (List.getElem_mem hi)
    have hjt : ∀ v, v = false → Eve (fun k => spec_TreeOK.j2 k (i : Int) true T n e.f0 e.f1 p.f0 p.f1) v := fun v hv => Eve.succ (by simp only [spec_TreeOK.j2, if_true]; exact Eve.one.eq hv.symm)
    have hjf : ∀ v, Eve (fun k => spec_TreeOK.l1 k (i : Int) 0 T n e.f0 e.f1 p.f0 p.f1) v → Eve (fun k => spec_TreeOK.j2 k (i : Int) false T n e.f0 e.f1 p.f0 p.f1) v := fun v hv => Eve.succ (by simp only [spec_TreeOK.j2, Bool.false_eq_true, if_false]; exact hv)
    have hl2 : Eve (fun k => spec_TreeOK.l2 k (i : Int) 0 T n e.f0 e.f1 p.f0 p.f1) (ens e p.f1 && (poks T n ((T.take i).map (·.f0) ++ [p.f0]) (T.drop (i + 1)) && ens (lastE e p.f1) ((T.drop (i + 1)).flatMap (·.f1)))) := by
      refine ev_loop0 p.f1 (fun k (e : IEnt) j => spec_TreeOK.l2 k (i : Int) j T n e.f0 e.f1 p.f0 p.f1) (fun _ e r => ens e r && (poks T n ((T.take i).map (·.f0) ++ [p.f0]) (T.drop (i + 1)) && ens (lastE e r) ((T.drop (i + 1)).flatMap (·.f1)))) (fun _ _ => True) (fun e' _ => ?_) (fun j hj e' _ ih2 => ?_) e trivial
      · simp only [spec_TreeOK.l2]
        refine Eve.ite (fun h => absurd h (by omega)) (fun _ => ?_)
        simp only [wi (show i ≤ 9223372036854775806 by omega)]
        exact (ih e' trivial).eq (by simp [ens, lastE])
      · simp only [spec_TreeOK.l2]
        refine Eve.ite (fun _ => ?_) (fun h => absurd (by omega) h)
        refine Eve.ite (fun _ => ?_) (fun h => absurd (by omega) h)
        simp only [rdIE _ _ hj, eok_spec, less_tells, Option.bind_some, wi (show j ≤ 9223372036854775806 by omega)]
        refine Eve.ite (fun h1 => ?_) (fun h1 => Eve.one.eq (by simp [ens, h1]))
        refine Eve.ite (fun h2 => (ih2 p.f1[j] trivial).eq ?_) (fun h2 => Eve.one.eq (by simp [ens, h2]))
        simp only [ens, h1, h2, lastE, Bool.true_and]
    have hl1 : Eve (fun k => spec_TreeOK.l1 k (i : Int) 0 T n e.f0 e.f1 p.f0 p.f1) (!((T.take i).map (·.f0)).contains p.f0 && (ens e p.f1 && (poks T n ((T.take i).map (·.f0) ++ [p.f0]) (T.drop (i + 1)) && ens (lastE e p.f1) ((T.drop (i + 1)).flatMap (·.f1))))) := by
      have hx : (T.take i).length = i := by simp; omega
      refine ev_loop0 (T.take i) (fun k (_ : Unit) j => spec_TreeOK.l1 k (i : Int) j T n e.f0 e.f1 p.f0 p.f1) (fun _ _ r => !(r.map (·.f0)).contains p.f0 && (ens e p.f1 && (poks T n ((T.take i).map (·.f0) ++ [p.f0]) (T.drop (i + 1)) && ens (lastE e p.f1) ((T.drop (i + 1)).flatMap (·.f1))))) (fun _ _ => True) (fun _ _ => ?_) (fun j hj s _ ih2 => ?_) () trivial
      · simp only [spec_TreeOK.l1, hx]
        exact Eve.ite (fun h => absurd h (by omega)) (fun _ => hl2.eq (by simp))
      · have hjT : j < T.length := by omega
        simp only [spec_TreeOK.l1]
        refine Eve.ite (fun _ => ?_) (fun h => absurd (by omega) h)
        refine Eve.ite (fun _ => ?_) (fun h => absurd (by omega) h)
        refine Eve.ite (fun _ => ?_) (fun h => absurd (by omega) h)
        simp only [rdIP _ _ hjT, wi (show j ≤ 9223372036854775806 by omega), List.getElem_take]
        refine Eve.ite (fun h => Eve.one.eq ?_) (fun h => (ih2 () trivial).eq ?_)
        · simp [h]
        · simp [Ne.symm h]
    have happ : ∀ b : Bool, (b && poks T n ((T.take i).map (·.f0) ++ [p.f0]) (T.drop (i + 1)) && ens e ((p :: T.drop (i + 1)).flatMap (·.f1))) = (b && (ens e p.f1 && (poks T n ((T.take i).map (·.f0) ++ [p.f0]) (T.drop (i + 1)) && ens (lastE e p.f1) ((T.drop (i + 1)).flatMap (·.f1))))) := by
      intro b
      rw [List.flatMap_cons, ens_append]
      generalize poks T n ((T.take i).map (·.f0) ++ [p.f0]) (T.drop (i + 1)) = u
      cases b <;> cases u <;> simp
    simp only [poks, happ]
    refine Eve.ite (fun h1 => ?_) (fun h1 => hjt _ (by simp [pok, h1]))
    refine Eve.ite (fun h3 => hjt _ ?_) (fun h3 => ?_)
    · have : ¬ ((p.f1.length : Int) ≤ 4) := by omega
      simp only [pok, this]; simp
    have h3' : ((p.f1.length : Int) ≤ 4) := by omega
    refine Eve.ite (fun h4 => ?_) (fun h4 => ?_)
    · by_cases h5 : (T.length : Int) > 1
      · simp only [h5, decide_true]
        refine hjt _ ?_
        simp only [pok, h4, h5]; simp
      · simp only [h5, decide_false]
        refine (hjf _ hl1).eq ?_
        simp only [pok, h1, h4, h5]; simp
    · refine (hjf _ hl1).eq ?_
      simp only [pok, h1, h3', h4]; simp) noE trivial
  exact this.eq (by simp [tok, h1, h2])
end Go.Proofs.Ytoceopjhacpjnaa.Pure
end
section
namespace Go.Proofs.Ytoceopjhacpjnaa.Pure
open Go.RowKit Go.Proofs.Ytoceopjhacpjnaa.Q Go.Proofs.YtoceopjhacpjnaaW.PrintWords Go.Proofs.YtoceopjhacpjnaaW.PrintLast Go.Proofs.YtoceopjhacpjnaaW.Pl
theorem map_flat (l : List LPag) : (l.map ip).flatMap (·.f1) = (l.flatMap (·.f1)).map ie := by
  rw [List.flatMap_map, List.map_flatMap]; rfl
/-- the last page that begins at e or ahead of it -/
def place (e : IEnt) : Nat → Int → List IPag → Int
  | _, at_, [] => at_
  | i, at_, p :: ps => place e (i + 1) (match p.f1 with | [] => at_ | f :: _ => if el e f = true then at_ else (i : Int)) ps
theorem place_spec (T : List IPag) (n : Int) (e : IEnt) (hT : T.length ≤ 1048576) (h0 : 0 < T.length) : Eve (fun k => spec_l05Place.f k T n e.f0 e.f1) (place e 1 0 (T.drop 1)) := by
  simp only [spec_l05Place.f]
  have := ev_loop T (fun k (c : Int) i => spec_l05Place.l0 k c i T n e.f0 e.f1) (fun i c r => place e i c r) (fun _ _ => True) (fun c _ => by
    simp only [spec_l05Place.l0]
    exact Eve.ite (fun h => absurd h (by omega)) (fun _ => Eve.one)) (fun i hi c hI ih => by
    simp only [spec_l05Place.l0]
    refine Eve.ite (fun _ => ?_) (fun h => absurd (by omega) h)
    refine Eve.ite (fun _ => ?_) (fun h => absurd (by omega) h)
    simp only [rdIP _ _ hi, wi (show i ≤ 9223372036854775806 by omega)]
    refine Eve.ite (fun h => ?_) (fun h => ?_)
    · refine Eve.ite (fun _ => ?_) (fun h => absurd (by omega) h)
      have hl : 0 < T[i].f1.length := by omega
      have hr := rdIE T[i].f1 0 hl
      simp only [show ((0 : Nat) : Int) = 0 from rfl] at hr
      simp only [hr, less_tells, Option.bind_some]
      have hc : T[i].f1 = T[i].f1[0] :: T[i].f1.drop 1 := drop_at T[i].f1 0 hl
      refine Eve.ite (fun h1 => (ih c trivial).eq ?_) (fun h1 => (ih (i : Int) trivial).eq ?_)
      · rw [place, hc]; simp only [h1, if_true]
      · rw [place, hc]; simp only [if_neg h1]
    · have hc : T[i].f1 = [] := List.length_eq_zero_iff.1 (by omega)
      exact (ih c trivial).eq (by rw [place, hc])) (T.length - 1) 1 0 (by omega) trivial
  exact this
theorem place_impl (T : List IPag) (n : Int) (e : IEnt) (hT : T.length ≤ 1048576) : Eve (fun k => impl_Tree_pageOf.f k T n e.f0 e.f1) (place e 0 0 T) := by
  simp only [impl_Tree_pageOf.f]
  refine ev_loop0 T (fun k (c : Int) i => impl_Tree_pageOf.l0 k c T (T.length : Int) i e.f0 e.f1) (fun i c r => place e i c r) (fun _ _ => True) (fun c _ => ?_) (fun i hi c hI ih => ?_) 0 trivial
  · simp only [impl_Tree_pageOf.l0]
    exact Eve.ite (fun h => absurd h (by omega)) (fun _ => Eve.one)
  · simp only [impl_Tree_pageOf.l0]
    refine Eve.ite (fun _ => ?_) (fun h => absurd (by omega) h)
    refine Eve.ite (fun _ => ?_) (fun h => absurd (by omega) h)
    refine Eve.ite (fun _ => ?_) (fun h => absurd (by omega) h)
    simp only [rdIP _ _ hi, wi (show i ≤ 9223372036854775806 by omega)]
    refine Eve.ite (fun h => ?_) (fun h => ?_)
    · refine Eve.ite (fun _ => ?_) (fun h => absurd (by omega) h)
      have hl : 0 < T[i].f1.length := by omega
      have hr := rdIE T[i].f1 0 hl
      simp only [show ((0 : Nat) : Int) = 0 from rfl] at hr
      simp only [hr]
      have hc : T[i].f1 = T[i].f1[0] :: T[i].f1.drop 1 := drop_at T[i].f1 0 hl
      refine Eve.bind (compare_tells _ _) ?_
      refine Eve.ite (fun h1 => (ih (i : Int) trivial).eq ?_) (fun h1 => (ih c trivial).eq ?_)
      · rw [place, hc]; simp only [if_neg ((ce_le _ _).1 h1)]
      · have h2 : el e T[i].f1[0] = true := by
          by_cases h4 : el e T[i].f1[0] = true
          · exact h4
          · exact absurd ((ce_le _ _).2 h4) h1
        rw [place, hc]; simp only [h2, if_true]
    · have hc : T[i].f1 = [] := List.length_eq_zero_iff.1 (by omega)
      exact (ih c trivial).eq (by rw [place, hc])
theorem place_from (T : List IPag) (e : IEnt) (h0 : 0 < T.length) : place e 0 0 T = place e 1 0 (T.drop 1) := by
  cases T with
  | nil => simp at h0
  | cons p ps =>
    simp only [place, List.drop_one, List.tail_cons]
    cases p.f1 with
    | nil => rfl
    | cons f fs => simp
theorem place_in (e : IEnt) : ∀ (T : List IPag) (i : Nat) (c : Int), 0 ≤ c → c < (i + T.length : Nat) → 0 ≤ place e i c T ∧ place e i c T < (i + T.length : Nat)
  | [], i, c, h0, h1 => by simp only [place]; exact ⟨h0, h1⟩
  | p :: ps, i, c, h0, h1 => by
    simp only [place, List.length_cons] at *
    have e1 : i + 1 + ps.length = i + (ps.length + 1) := by omega
    rw [← e1] at h1 ⊢
    apply place_in e ps (i + 1)
    · repeat' split
      all_goals omega
    · repeat' split
      all_goals omega
theorem FnExactPageAt : laws_FnExactPageAt.Pure := by
  rintro ⟨l, n⟩ ⟨ek, en⟩ ⟨hl, hn⟩ ⟨he1, he2⟩
  obtain ⟨e, rfl, rfl⟩ : ∃ e : IEnt, e.f0 = ek ∧ e.f1 = en := ⟨⟨ek, en⟩, rfl, rfl⟩
  refine Eve.get (g := fun k => laws_FnExactPageAt.f k l n e.f0 e.f1) ?_
  simp only [laws_FnExactPageAt.f]
  refine Eve.bind (szTree_tells l n hl.1 (good_pages hl) (by omega) (by omega)) ?_
  by_cases h : (1048576 : Int) - szPS l < 0
  · simp only [if_pos h]; exact Eve.ite (fun _ => Eve.one) (fun h => absurd h (by omega))
  simp only [if_neg h]
  have hF : Fits l := by unfold Fits; omega
  have hT : (l.map ip).length ≤ 1048576 := by simpa using hF.len
  have hf : ((l.map ip).flatMap (·.f1)).length ≤ 1048576 := by rw [map_flat]; simpa using hF.flat
  have hp : ∀ p ∈ l.map ip, p.f1.length ≤ 1048576 := fun p hp => by
    obtain ⟨q, hq, rfl⟩ := List.mem_map.1 hp
    simpa [ip] using hF.page q hq
  have hsz := szEntry_tells (⟨e.f0, e.f1⟩ : LEnt) he1 (left := 1048576 - szPS l) (by omega) (by omega)
  simp only at hsz
  simp only [hsz, Option.bind_some]
  by_cases h2 : (1048576 : Int) - szPS l - e.f0.size < 0
  · simp only [if_pos h2]; exact Eve.ite (fun _ => Eve.one) (fun h => absurd h (by omega))
  simp only [if_neg h2]
  refine Eve.bind (toTree_tells l n hF) ?_
  simp only [laws_toEntry.f, Option.bind_some]
  have hin : tok (l.map ip) n = true → 0 < (l.map ip).length := by
    intro h
    simp only [tok, inr, Bool.and_eq_true, decide_eq_true_eq] at h
    omega
  let r : Int × Int := if tok (l.map ip) n = true then (if eok e = true then ((rd_T76 (l.map ip) (place e 1 0 ((l.map ip).drop 1))).f0, 0) else (0, 1)) else (0, 1)
  have hb : tok (l.map ip) n = true → 0 ≤ place e 1 0 ((l.map ip).drop 1) ∧ place e 1 0 ((l.map ip).drop 1) < ((l.map ip).length : Int) := by
    intro h
    have h0 := hin h
    have := place_in e ((l.map ip).drop 1) 1 0 (by omega) (by rw [List.length_drop]; omega)
    rw [List.length_drop] at this
    refine ⟨this.1, ?_⟩
    have h3 := this.2
    omega
  have hs : Eve (fun k => spec_PageAt.f k (l.map ip) n e.f0 e.f1) r := by
    simp only [spec_PageAt.f]
    refine Eve.bind (specOK_tells _ n hT hp) ?_
    have hk := eok_spec e
    by_cases h : tok (l.map ip) n = true
    · simp only [if_pos h, hk, Option.bind_some, r]
      by_cases h3 : eok e = true
      · simp only [if_pos h3]
        refine Eve.bind (place_spec (l.map ip) n e hT (hin h)) ?_
        refine Eve.ite (fun _ => ?_) (fun h4 => absurd (hb h).1 h4)
        exact Eve.ite (fun _ => Eve.one) (fun h4 => absurd (hb h).2 h4)
      · simp only [if_neg h3]; exact Eve.one
    · simp only [if_neg h, r]; exact Eve.one
  have hi : Eve (fun k => impl_PageAt.f k (l.map ip) n e.f0 e.f1) r := by
    simp only [impl_PageAt.f]
    refine Eve.bind (implOK_tells _ n hT hf) ?_
    have hk := eok_impl e
    by_cases h : tok (l.map ip) n = true
    · simp only [if_pos h, hk, Option.bind_some, r]
      by_cases h3 : eok e = true
      · simp only [if_pos h3]
        have hpl := place_impl (l.map ip) n e hT
        rw [place_from _ e (hin h)] at hpl
        refine Eve.bind hpl ?_
        refine Eve.ite (fun _ => ?_) (fun h4 => absurd (hb h).1 h4)
        exact Eve.ite (fun _ => Eve.one) (fun h4 => absurd (hb h).2 h4)
      · simp only [if_neg h3]; exact Eve.one
    · simp only [if_neg h, r]; exact Eve.one
  refine Eve.bind hs ?_
  refine Eve.bind (toTree_tells l n hF) ?_
  refine Eve.bind hi ?_
  generalize r = r
  have hj : Eve (fun k => laws_FnExactPageAt.j0 k false l n (l.map ip) n) true := Eve.succ (by
    simp only [laws_FnExactPageAt.j0, Bool.false_eq_true, if_false]
    refine Eve.bind (toTree_tells l n hF) ?_
    refine Eve.bind (eqTree_to l n hF) ?_
    simp only [if_true]; exact Eve.one)
  refine Eve.ite (fun _ => ?_) (fun h => absurd rfl h)
  simpa using hj
end Go.Proofs.Ytoceopjhacpjnaa.Pure
end
section
namespace Go.Proofs.Ytoceopjhacpjnaa.fnExactPageAt
open Go.ChangeShapes Go.WideShapes Go.ChangeAt Go.RowKit Go.Proofs.YtoceopjhacpjnaaW.PrintWords Go.Proofs.YtoceopjhacpjnaaW.PrintOpen Go.Proofs.Ytoceopjhacpjnaa.Q
open Go.ChangeMaps (open_string shut_string)
set_option linter.unusedVariables false
theorem own : ownKnob Try.prog.godebug = none := by kernel_rfl
theorem laidOut : laidOutB Try.prog = true := by kernel_rfl
set_option maxRecDepth 100000 in
theorem lifted (os : Os) (started : os.Started) (H : Type) (enc : TypeId × Value → H) :
    ReturnsInHanded {} Try.checked os 8 .any (Rows.fnExactPageAtSpec.pre6 enc Try.prog Try.f8 Rows.fnExactPageAtRow.domain false) (Rows.fnExactPageAtSpec.post enc Try.prog Try.f8 false true false false) := by
  refine returnsInHanded_of_change_sized (C := Try.checked) own started (by kernel_rfl) Try.func8
    (ChangeSpec.witness6 (enc := enc) (C := Try.checked) false ⟨#[], #[.agg #[.slice none 0 0, .int .i64 0], .agg #[.string ByteArray.empty, .int .i64 0]], []⟩ 8 (by kernel_rfl) (by kernel_rfl) (by kernel_rfl) (by kernel_rfl)) ?_
  intro W base args ds gs before hval0 hW hcnd hsz0 _
  have hval : ∀ (j : Nat) t v, Try.f8.params[j]? = some t → args[j]? = some v → Value.okWide Try.prog W .any base t v := hval0
  have hW' := hW
  obtain ⟨p, q, hA0, hV, rfl, hfz, hnd⟩ := hW
  have hA : DataW.TrodAll enc Try.prog W 0 (fun _ => true) true Try.f8.params.toList args.toList ds p := hA0
  rw [Try.params8] at hA hval
  obtain ⟨v0, vs0, d0, ds0, p0, q0, hargs, rfl, rfl, h0, r0⟩ := trodAll_cons hA
  obtain ⟨v1, vs1, d1, ds1, p1, q1, rfl, rfl, rfl, h1, r1⟩ := trodAll_cons r0
  obtain ⟨rfl, rfl, rfl⟩ := trodAll_nil r1
  obtain rfl : args = #[v0, v1] := by cases args; simp_all
  obtain ⟨rfl, rfl⟩ := trodVars_none hV
  have t0 := h0
  have lt0 : ∀ x ∈ p0, x.block < W.heap.size := by obtain ⟨m, hm⟩ := t0; exact DataW.trod_lt m _ _ _ hm
  obtain ⟨x0, cs0, rfl, K0, g0⟩ := arg_struct Try.underlying41 opens41 (hval 0 41 v0 rfl rfl) h0
  obtain ⟨A0_0, c0_0, rfl, hl0_0, hc0_0⟩ := k41_open K0
  have t1 := h1
  have lt1 : ∀ x ∈ p1, x.block < W.heap.size := by obtain ⟨m, hm⟩ := t1; exact DataW.trod_lt m _ _ _ hm
  obtain ⟨x1, cs1, rfl, K1, g1⟩ := arg_struct Try.underlying49 opens49 (hval 1 49 v1 rfl rfl) h1
  obtain rfl := k49_open K1
  clear hA0 hval0 hsz0
  obtain ⟨k, hp⟩ := Pure.FnExactPageAt x0 x1 g0 g1
  refine (laws_FnExactPageAt.calls k A0_0 c0_0 x0.f0 x0.f1 x1.f0 x1.f1 true W hc0_0 hl0_0 hp).mono fun e W' ⟨he, bel0⟩ => ?_
  have bel : Below W.heap.size W W' := bel0
  subst he
  exact ⟨_, rfl, _, _, _, [], _, [], hW', trodAll_mk1 (shut_bool Try.underlying4 _), (trodAll_cons_mk (Below.trod laidOut (by kernel_rfl) (of_decide_eq_true (by kernel_rfl)) t0 bel lt0) (trodAll_cons_mk (Below.trod laidOut (by kernel_rfl) (of_decide_eq_true (by kernel_rfl)) t1 bel lt1) trodAll_mk0)), rfl, bel.frame _, fun h => by cases h⟩
theorem over : Rows.fnExactPageAtRow.holds Try.pinned (OpenSpec.ofChange Rows.fnExactPageAtSpec) :=
  OpenClaim.holds_of_wide 8 Try.f8 rfl rfl rfl rfl rfl rfl rfl ⟨rfl, rfl, rfl, rfl, rfl⟩ rfl rfl rfl rfl rfl (by kernel_rfl) Try.func8 (by kernel_rfl)
    (of_decide_eq_true (by kernel_rfl)) (by unfold Func.isWrapper; first | (rw [if_pos (by decide +kernel)]; kernel_rfl) | (rw [if_neg (by decide +kernel)]; exact ⟨rfl, rfl⟩))
    (fun os started H enc _ => lifted os started H enc)
theorem proved : Rows.FnExactPageAtSaid := over
#print axioms proved
end Go.Proofs.Ytoceopjhacpjnaa.fnExactPageAt
namespace Go.Proofs.Ytoceopjhacpjnaa
/-- The row, under a short name, for the claim. -/
theorem fnExactPageAt_holds : Rows.FnExactPageAtSaid := fnExactPageAt.proved
end Go.Proofs.Ytoceopjhacpjnaa
end

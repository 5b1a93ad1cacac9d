/- FnExactDepthOf: for every argument the law answers true, and the argument reads behind the call as it read before. No condition. -/
import Derived.Test.YtpmeglcmhiihoaaKLawFnExactDepthOfp22
import Derived.Test.YtpmeglcmhiihoaaKLawFnExactDepthOfp25
import Derived.Test.YtpmeglcmhiihoaaKLawFnExactDepthOfp24
import Derived.Test.YtpmeglcmhiihoaaKLawFnExactDepthOfp0
import Derived.WalkKit
import Derived.ProofKit
import Derived.OpenShut
import Derived.ShutString
import Derived.ChangeOld
import Derived.Below
import Derived.SizedLaws
import Derived.Deep.Slices
import Derived.Lib.SmallJoins
import Derived.Test.YtpmeglcmhiihoaaKLawFnExactDepthOfp11
import Derived.Test.YtpmeglcmhiihoaaKLawFnExactDepthOfp12
import Derived.Laws.Entries
import Derived.Test.YtpmeglcmhiihoaaKLawFnExactDepthOfp23
import Derived.Test.YtpmeglcmhiihoaaRows
import Derived.Carry
section
namespace Go.Proofs.Ytpmeglcmhiihoaa.Q
open Go.RowKit Go.Proofs.YtpmeglcmhiihoaaW.PrintWords Go.Proofs.YtpmeglcmhiihoaaW.PrintLast Go.Proofs.YtpmeglcmhiihoaaW.PrintMore
attribute [local go_sem] max2_int min2_int max_two min_two max_three min_three max_four min_four max2_str min2_str str_geq str_gtr str_leq   -- for this text's walks alone
set_option linter.unusedVariables false
set_option linter.unusedSimpArgs false

def impl_ValueOK.f (k : Nat) (a0_0 : Int) (a0_1 : Int) (a0_2 : ByteArray) : Option (Bool):=(impl_isRight.f k a0_0 a0_1 a0_2 5).bind fun t279 => (some t279)
theorem impl_ValueOK.mono : ∀ a0 a1 a2 k,LeO (impl_ValueOK.f k a0 a1 a2) (impl_ValueOK.f (k + 1) a0 a1 a2):=by
 intro a0 a1 a2 k
 unfold impl_ValueOK.f
 repeat' first
   | (with_reducible exact impl_isRight.mono _ _ _ _ _)
   | (with_reducible exact LeO.refl _)
   | (with_reducible exact LeO.none _)
   | (with_reducible refine LeO.ite ?_ ?_)
   | (with_reducible refine LeO.bind ?_ (fun _ => ?_))
   | exact impl_isRight.mono _ _ _ _ _
   | exact LeO.none _
   | refine LeO.ite ?_ ?_
   | refine LeO.bind ?_ (fun _ => ?_)
set_option maxHeartbeats 8000000 in
set_option maxRecDepth 100000 in
theorem impl_ValueOK.calls (k : Nat) (a0_0 : Int) (a0_1 : Int) (a0_2 : ByteArray) (r : Bool) (w : World) (h : impl_ValueOK.f k a0_0 a0_1 a0_2=some r) :
  Calls Try.prog 17 #[.agg #[.int .i64 a0_0,.int .i64 a0_1,.string a0_2]] w fun e w' => e = .returned (.bool r)∧Below w.heap.size w w':=by
 have hu26:=Try.underlying26
 have HB:=Aside0.mk (Below.refl w.heap.size w)
 have H : ((impl_isRight.f k a0_0 a0_1 a0_2 5).bind fun t279 => (some t279))=some r:=h
 clear h
 replace H:=Option.bind_eq_some_iff.mp H
 obtain ⟨t279,A20,H⟩:=H
 replace H : (some t279)=some r:=H
 have A2:=Aside0.mk A20
 clear A20
 obtain rfl:=Option.some.inj H
 go_enter Try.func17,Try.ntmps17
 go_wp2_with (first|((with_reducible refine gate_dst (N:=1) rfl ?_);refine box_event ?hg (N:=1) ?hd (cs:=#[.int .i64 a0_0,.int .i64 a0_1,.string a0_2]) (t:=26) ?hr ?_;(case hd => rfl);(case hg => rfl);(case hr => first|(go_simp;done)|(go_simp;rfl));intro gb278 hg w3 hbox hb;have n0_:=Aside0.mk (below_step (by repeat (first|(with_reducible first|exact HB.out|apply below_alloc|apply pw_below_drewN|apply below_drew1)|exact HB.out)) hb);have n1_:=Aside0.mk (hbox);have n2_:=Aside0.mk ((by rw [hg];exact (below_size (by repeat (first|(with_reducible first|exact HB.out|apply below_alloc|apply pw_below_drewN|apply below_drew1)|exact HB.out))) : w.heap.size≤gb278));have n3_:=Aside0.mk ((by rw [hg];exact (below_size (by repeat (first|(with_reducible first|exact HB.out|apply below_alloc|apply pw_below_drewN|apply below_drew1)|exact HB.out))) : w.heap.size≤gb278));clear HB;have HB:=n0_;have BK278:=n1_;have GW278:=n2_;have GE278:=n3_;clear n0_ n1_ n2_ n3_;clear hb hbox hg;have hcz4_0 : w3.cell? ⟨gb278,0,none⟩=some (.int .i64 a0_0):=(blk_cell BK278.out 0).trans rfl;have hcz4_1 : w3.cell? ⟨gb278,1,none⟩=some (.int .i64 a0_1):=(blk_cell BK278.out 1).trans rfl;have hcz4_2 : w3.cell? ⟨gb278,2,none⟩=some (.string a0_2):=(blk_cell BK278.out 2).trans rfl;have hfz4_0:=blk_frozen BK278.out 0;have hfz4_1:=blk_frozen BK278.out 1;have hfz4_2:=blk_frozen BK278.out 2)|((with_reducible refine gate_callee (f:=54) rfl ?_);refine goesL_ (some 4) rfl rfl Try.func54 (by kernel_rfl) rfl #[.agg #[.int .i64 a0_0,.int .i64 a0_1,.string a0_2],.int .i64 5] rfl (by (try simp only [List.map_toArray,List.map_cons,List.map_nil]);first|done|rfl|(simp only [List.length_drop,List.length_take];rfl)|(simp only [gt_iff_lt,ge_iff_le,Int.ofNat_lt,Int.ofNat_le];rfl)) ?_;(with_reducible refine (impl_isRight.calls k  a0_0 a0_1 a0_2 5 t279 _ A2.out).mono ?_);rintro e w5 ⟨rfl,hb⟩;refine ⟨_,rfl,?_⟩;have n0_:=Aside0.mk (blk_below (g:=gb278) (o:=.cells #[.int .i64 a0_0,.int .i64 a0_1,.string a0_2] 26 (0,0)) (by (with_reducible repeat (first|refine blk_drewN ?_ _|refine blk_drew ?_|refine blk_alloc ?_ _));exact BK278.out) hb);have n1_:=Aside0.mk (below_step (by repeat (first|(with_reducible first|exact HB.out|apply below_alloc|apply pw_below_drewN|apply below_drew1|refine below_set ?_ GE278.out)|exact HB.out)) hb);clear BK278;clear HB;have BK278:=n0_;have HB:=n1_;clear n0_ n1_;(try clear hb);(try clear hb2);(try clear hk);(try clear hi)))
 go_ret
 exact ⟨by first|rfl|(simp [errW_none,errW_some] <;> rfl)|(simp [*,errW_none,errW_some] <;> rfl),by repeat (first|(with_reducible first|exact HB.out|apply below_alloc|apply pw_below_drewN|apply below_drew1|refine below_set ?_ GE278.out)|exact HB.out)⟩

end Go.Proofs.Ytpmeglcmhiihoaa.Q
end
section
namespace Go.Proofs.Ytpmeglcmhiihoaa.Q
open Go.RowKit Go.Proofs.YtpmeglcmhiihoaaW.PrintWords Go.Proofs.YtpmeglcmhiihoaaW.PrintLast Go.Proofs.YtpmeglcmhiihoaaW.PrintMore
attribute [local go_sem] max2_int min2_int max_two min_two max_three min_three max_four min_four max2_str min2_str str_geq str_gtr str_leq   -- for this text's walks alone
set_option linter.unusedVariables false
set_option linter.unusedSimpArgs false

mutual
def impl_depth.j0 : Nat→Bool→Int→Int→ByteArray→Option (Int)
 | 0,_,_,_,_ => none
 | k + 1,x14,x354000,x354001,x354002 => if x14=true then (some 0) else ((impl_inner.f k x354000 x354001 x354002).bind fun bt357 => (if (bt357.1.length : Int) > 0 then (impl_depth.l0 k 0 bt357.1 (bt357.1.length : Int) 0) else (some (0 + 1))))
def impl_depth.l0 : Nat→Int→List (S26)→Int→Int→Option (Int)
 | 0,_,_,_,_ => none
 | k + 1,x3,x24,x25,x26 => if x26<x25 then (if 0≤x26 then (if x26<(x24.length : Int) then ((impl_depth.f k ((rd_T26 x24 x26).f0) ((rd_T26 x24 x26).f1) ((rd_T26 x24 x26).f2)).bind fun t363 => (impl_depth.l0 k (mx x3 t363) x24 x25 (wrap64 (x26 + 1)))) else (none)) else (none)) else (some (wrap64 (x3 + 1)))
def impl_depth.f : Nat→Int→Int→ByteArray→Option (Int)
 | 0,_,_,_ => none
 | k + 1,a0_0,a0_1,a0_2 => if a0_0=4 then (impl_depth.j0 k false a0_0 a0_1 a0_2) else (impl_depth.j0 k (a0_0 != 5) a0_0 a0_1 a0_2)
end
theorem impl_depth.mono_l : ∀ k,(∀ y0 y1 y2,LeO (impl_depth.f k y0 y1 y2) (impl_depth.f (k + 1) y0 y1 y2))∧(∀ y0 y1 y2 y3,LeO (impl_depth.j0 k y0 y1 y2 y3) (impl_depth.j0 (k + 1) y0 y1 y2 y3))∧(∀ y0 y1 y2 y3,LeO (impl_depth.l0 k y0 y1 y2 y3) (impl_depth.l0 (k + 1) y0 y1 y2 y3))
 | 0 => ⟨fun _ _ _ r h => by simp [impl_depth.f] at h,fun _ _ _ _ r h => by simp [impl_depth.j0] at h,fun _ _ _ _ r h => by simp [impl_depth.l0] at h⟩
 | k + 1 => by
  obtain ⟨ih0,ih1,ih2⟩:=impl_depth.mono_l k
  refine ⟨?_,?_,?_⟩
  ·
   intro y0 y1 y2
   unfold impl_depth.f
   repeat' first
   | (with_reducible exact ih0 _ _ _)
   | (with_reducible exact ih1 _ _ _ _)
   | (with_reducible exact ih2 _ _ _ _)
   | (with_reducible exact impl_inner.mono _ _ _ _)
   | (with_reducible exact LeO.refl _)
   | (with_reducible exact LeO.none _)
   | (with_reducible refine LeO.ite ?_ ?_)
   | (with_reducible refine LeO.bind ?_ (fun _ => ?_))
   | exact ih0 _ _ _
   | exact ih1 _ _ _ _
   | exact ih2 _ _ _ _
   | exact impl_inner.mono _ _ _ _
   | exact LeO.none _
   | refine LeO.ite ?_ ?_
   | refine LeO.bind ?_ (fun _ => ?_)
  ·
   intro y0 y1 y2 y3
   unfold impl_depth.j0
   repeat' first
   | (with_reducible exact ih0 _ _ _)
   | (with_reducible exact ih1 _ _ _ _)
   | (with_reducible exact ih2 _ _ _ _)
   | (with_reducible exact impl_inner.mono _ _ _ _)
   | (with_reducible exact LeO.refl _)
   | (with_reducible exact LeO.none _)
   | (with_reducible refine LeO.ite ?_ ?_)
   | (with_reducible refine LeO.bind ?_ (fun _ => ?_))
   | exact ih0 _ _ _
   | exact ih1 _ _ _ _
   | exact ih2 _ _ _ _
   | exact impl_inner.mono _ _ _ _
   | exact LeO.none _
   | refine LeO.ite ?_ ?_
   | refine LeO.bind ?_ (fun _ => ?_)
  ·
   intro y0 y1 y2 y3
   unfold impl_depth.l0
   repeat' first
   | (with_reducible exact ih0 _ _ _)
   | (with_reducible exact ih1 _ _ _ _)
   | (with_reducible exact ih2 _ _ _ _)
   | (with_reducible exact impl_inner.mono _ _ _ _)
   | (with_reducible exact LeO.refl _)
   | (with_reducible exact LeO.none _)
   | (with_reducible refine LeO.ite ?_ ?_)
   | (with_reducible refine LeO.bind ?_ (fun _ => ?_))
   | exact ih0 _ _ _
   | exact ih1 _ _ _ _
   | exact ih2 _ _ _ _
   | exact impl_inner.mono _ _ _ _
   | exact LeO.none _
   | refine LeO.ite ?_ ?_
   | refine LeO.bind ?_ (fun _ => ?_)
theorem impl_depth.mono : ∀ a0 a1 a2 k,LeO (impl_depth.f k a0 a1 a2) (impl_depth.f (k + 1) a0 a1 a2):=by
 intro a0 a1 a2 k
 obtain ⟨ih0,ih1,ih2⟩:=impl_depth.mono_l k
 exact ih0 a0 a1 a2
set_option maxHeartbeats 8000000 in
set_option maxRecDepth 100000 in
theorem impl_depth.calls (k : Nat) : ∀ (a0_0 : Int) (a0_1 : Int) (a0_2 : ByteArray) (r : Int) (w : World) (h : impl_depth.f k a0_0 a0_1 a0_2=some r),
  Calls Try.prog 58 #[.agg #[.int .i64 a0_0,.int .i64 a0_1,.string a0_2]] w fun e w' => e = .returned (.int .i64 r)∧Below w.heap.size w w':=by
 induction k using Nat.strongRecOn with
 | _ k ih =>
 intro a0_0 a0_1 a0_2 r w h
 cases k with
 | zero => exact absurd h (by simp [impl_depth.f])
 | succ k =>
 simp only [impl_depth.f] at h
 have hu26:=Try.underlying26
 have HB:=Aside0.mk (Below.refl w.heap.size w)
 have H : (if a0_0=4 then (impl_depth.j0 k false a0_0 a0_1 a0_2) else (impl_depth.j0 k (a0_0 != 5) a0_0 a0_1 a0_2))=some r:=h
 clear h
 have HC2:=Aside0.mk H
 clear H
 go_enter Try.func58,Try.ntmps58
 go_upto_region 1 with (first|((with_reducible refine gate_dst (N:=1) rfl ?_);refine box_event ?hg (N:=1) ?hd (cs:=#[.int .i64 a0_0,.int .i64 a0_1,.string a0_2]) (t:=26) ?hr ?_;(case hd => rfl);(case hg => rfl);(case hr => first|(go_simp;done)|(go_simp;rfl));intro gb353 hg w3 hbox hb;have n0_:=Aside0.mk (below_step (by repeat (first|(with_reducible first|exact HB.out|apply below_alloc|apply pw_below_drewN|apply below_drew1)|exact HB.out)) hb);have n1_:=Aside0.mk (hbox);have n2_:=Aside0.mk ((by rw [hg];exact (below_size (by repeat (first|(with_reducible first|exact HB.out|apply below_alloc|apply pw_below_drewN|apply below_drew1)|exact HB.out))) : w.heap.size≤gb353));have n3_:=Aside0.mk ((by rw [hg];exact (below_size (by repeat (first|(with_reducible first|exact HB.out|apply below_alloc|apply pw_below_drewN|apply below_drew1)|exact HB.out))) : w.heap.size≤gb353));clear HB;have HB:=n0_;have BK353:=n1_;have GW353:=n2_;have GE353:=n3_;clear n0_ n1_ n2_ n3_;clear hb hbox hg))
 (try simp only [Act.put,List.setIfInBounds_toArray,List.set_cons_zero,List.set_cons_succ])
 go_cut [14] (fun v14 wc => ∃ (kq : Nat) (x14_1 : Bool),v14 = .bool x14_1∧Aside0 (impl_depth.j0 kq x14_1 a0_0 a0_1 a0_2=some r)∧Aside0 (kq≤k)∧Aside0 (wc.heap[gb353]? = some (.cells #[.int .i64 a0_0,.int .i64 a0_1,.string a0_2] 26 (0,0)))∧Aside0 (Below w.heap.size w wc))
 case first =>
  have H:=HC2.out
  clear HC2
  by_cases c4 : a0_0=4
  ·
   rw [if_pos c4] at H
   have c4b0 : (a0_0 == 4)=true:=beq_iff_eq.mpr c4
   have c4b1 : (a0_0 != 4)=false:=bne_eq_false_iff_eq.mpr c4
   clear c4
   (first|rw [c4b0]|(simp only [i64_w,i32_w];rw [c4b0])|skip)
   have H':=Aside0.mk H
   clear H
   have hcz5_0 : w3.cell? ⟨gb353,0,none⟩=some (.int .i64 a0_0):=(blk_cell BK353.out 0).trans rfl
   have hcz5_1 : w3.cell? ⟨gb353,1,none⟩=some (.int .i64 a0_1):=(blk_cell BK353.out 1).trans rfl
   have hcz5_2 : w3.cell? ⟨gb353,2,none⟩=some (.string a0_2):=(blk_cell BK353.out 2).trans rfl
   have hfz5_0:=blk_frozen BK353.out 0
   have hfz5_1:=blk_frozen BK353.out 1
   have hfz5_2:=blk_frozen BK353.out 2
   go_wp2
   go_meet
   case rel => exact ⟨_,(false),(by first|rfl|(simp;done)|(simp [*];done)),H',⟨by first|omega|exact Nat.le_refl _⟩,⟨by (with_reducible repeat (first|refine blk_drewN ?_ _|refine blk_drew ?_|refine blk_alloc ?_ _));exact BK353.out⟩,⟨by repeat (first|(with_reducible first|exact HB.out|apply below_alloc|apply pw_below_drewN|apply below_drew1|refine below_set ?_ GE353.out)|exact HB.out)⟩⟩
  ·
   rw [if_neg c4] at H
   have c4b0 : (a0_0 == 4)=false:=beq_eq_false_iff_ne.mpr c4
   have c4b1 : (a0_0 != 4)=true:=bne_iff_ne.mpr c4
   (first|rw [c4b0]|(simp only [i64_w,i32_w];rw [c4b0])|skip)
   have H':=Aside0.mk H
   clear H
   have hcz6_0 : w3.cell? ⟨gb353,0,none⟩=some (.int .i64 a0_0):=(blk_cell BK353.out 0).trans rfl
   have hcz6_1 : w3.cell? ⟨gb353,1,none⟩=some (.int .i64 a0_1):=(blk_cell BK353.out 1).trans rfl
   have hcz6_2 : w3.cell? ⟨gb353,2,none⟩=some (.string a0_2):=(blk_cell BK353.out 2).trans rfl
   have hfz6_0:=blk_frozen BK353.out 0
   have hfz6_1:=blk_frozen BK353.out 1
   have hfz6_2:=blk_frozen BK353.out 2
   go_wp2
   go_meet
   case rel => exact ⟨_,((a0_0 != 5)),(by first|rfl|(simp;done)|(simp [*];done)),H',⟨by first|omega|exact Nat.le_refl _⟩,⟨by (with_reducible repeat (first|refine blk_drewN ?_ _|refine blk_drew ?_|refine blk_alloc ?_ _));exact BK353.out⟩,⟨by repeat (first|(with_reducible first|exact HB.out|apply below_alloc|apply pw_below_drewN|apply below_drew1|refine below_set ?_ GE353.out)|exact HB.out)⟩⟩
 case rest =>
  clear HC2
  try clear p2
  try clear c4
  try clear c4b0
  try clear c4b1
  try clear c5
  try clear hcz5_0
  try clear hcz5_1
  try clear hcz5_2
  try clear hcz6_0
  try clear hcz6_1
  try clear hcz6_2
  try clear hfz5_0
  try clear hfz5_1
  try clear hfz5_2
  try clear hfz6_0
  try clear hfz6_1
  try clear hfz6_2
  obtain ⟨kq,x14_1,rfl,HA,HJ1,BK353,HB⟩:=hcut
  cases kq with
  | zero => exact absurd HA.out (by simp [impl_depth.j0])
  | succ kj1 =>
   have H:=HA.out
   clear HA
   simp only [impl_depth.j0] at H
   by_cases c7 : x14_1=true
   ·
    subst c7
    have H1 : (some 0)=some r:=by rw [if_pos rfl] at H;exact H
    clear H
    have H:=H1
    clear H1
    obtain rfl:=Option.some.inj H
    go_wp2
    go_ret
    exact ⟨by first|rfl|(simp [errW_none,errW_some] <;> rfl)|(simp [*,errW_none,errW_some] <;> rfl),by repeat (first|(with_reducible first|exact HB.out|apply below_alloc|apply pw_below_drewN|apply below_drew1|refine below_set ?_ GE353.out)|exact HB.out)⟩
   ·
    replace c7:=Bool.eq_false_iff.mpr c7
    subst c7
    have H1 : ((impl_inner.f kj1 a0_0 a0_1 a0_2).bind fun bt357 => (if (bt357.1.length : Int) > 0 then (impl_depth.l0 kj1 0 bt357.1 (bt357.1.length : Int) 0) else (some (0 + 1))))=some r:=by rw [if_neg (show ¬ (false=true) by decide)] at H;exact H
    clear H
    have H:=H1
    clear H1
    obtain ⟨y354,hy354⟩ : ∃ y_ : List (S26),y_=(([] : List (S26))):=⟨_,rfl⟩
    replace H : ((impl_inner.f kj1 a0_0 a0_1 a0_2).bind fun bt357 => (if (bt357.1.length : Int) > 0 then (impl_depth.l0 kj1 0 bt357.1 (bt357.1.length : Int) 0) else (some (0 + 1))))=some r:=by first|(rw [hy354];with_reducible exact H)|(have H2_:=(Option.bind_some _ _).symm.trans H;rw [hy354];with_reducible exact H2_)|(have H2_:=(Option.bind_some _ _).symm.trans H;with_reducible exact H2_)|with_reducible exact H|(rw [hy354];exact H)|exact H
    have Ny354:=Aside0.mk hy354
    clear hy354
    replace H:=Option.bind_eq_some_iff.mp H
    obtain ⟨⟨t357,t360⟩,A80,H⟩:=H
    replace H : (if (t357.length : Int) > 0 then (impl_depth.l0 kj1 0 t357 (t357.length : Int) 0) else (some (0 + 1)))=some r:=H
    have A8:=Aside0.mk A80
    clear A80
    by_cases c9 : (t357.length : Int) > 0
    ·
     rw [if_pos c9] at H
     have c9b0 : decide (0<(t357.length : Int))=true:=decide_eq_true c9
     have c9b1 : decide (0<t357.length)=true:=decide_eq_true (by omega)
     clear c9
     have H':=Aside0.mk H
     clear H
     go_wp2_with (first|((with_reducible refine gate_dst (N:=15) rfl ?_);refine Kd.R_lit k26 _ 26 ?hg (N:=15) ?hd (xs:=([] : List (S26))) (inner:=[]) (ok:=fun _ => True) (okp:=fun _ => True) ?hr ?hp (fun _ hk => hk) trivial (Below.refl _ _) (Nat.le_refl _) (by simp) ?_;(case hd => rfl);(case hg => rfl);(case hr => first|(go_simp;done)|(go_simp;rfl));(case hp => exact (Reps.none _ _));intro v355 w10 ho11 hb hg_ hnew_;clear hg_ hnew_;(first|rw [← Ny354.out] at ho11|(simp only [Int.reduceToNat] at ho11;rw [← Ny354.out] at ho11));have n0_:=Aside0.mk (Kd.R_lower (Kd.R_newB ho11 (g:=gb353) (o:=.cells #[.int .i64 a0_0,.int .i64 a0_1,.string a0_2] 26 (0,0)) (by (with_reducible repeat (first|refine blk_drewN ?_ _|refine blk_drew ?_|refine blk_alloc ?_ _));exact BK353.out)) (below_size (by repeat (first|(with_reducible first|exact HB.out|apply below_alloc|apply pw_below_drewN|apply below_drew1|refine below_set ?_ GE353.out)|exact HB.out))));have n1_:=Aside0.mk (blk_below (g:=gb353) (o:=.cells #[.int .i64 a0_0,.int .i64 a0_1,.string a0_2] 26 (0,0)) (by (with_reducible repeat (first|refine blk_drewN ?_ _|refine blk_drew ?_|refine blk_alloc ?_ _));exact BK353.out) hb);have n2_:=Aside0.mk (below_step (by repeat (first|(with_reducible first|exact HB.out|apply below_alloc|apply pw_below_drewN|apply below_drew1|refine below_set ?_ GE353.out)|exact HB.out)) hb);clear BK353;clear HB;have HO356:=n0_;have BK353:=n1_;have HB:=n2_;clear n0_ n1_ n2_;clear hb ho11;have hcz12_0 : w10.cell? ⟨gb353,0,none⟩=some (.int .i64 a0_0):=(blk_cell BK353.out 0).trans rfl;have hcz12_1 : w10.cell? ⟨gb353,1,none⟩=some (.int .i64 a0_1):=(blk_cell BK353.out 1).trans rfl;have hcz12_2 : w10.cell? ⟨gb353,2,none⟩=some (.string a0_2):=(blk_cell BK353.out 2).trans rfl;have hfz12_0:=blk_frozen BK353.out 0;have hfz12_1:=blk_frozen BK353.out 1;have hfz12_2:=blk_frozen BK353.out 2)|((with_reducible refine gate_callee (f:=87) rfl ?_);refine goesL_ (some 18) rfl rfl Try.func87 (by kernel_rfl) rfl #[.agg #[.int .i64 a0_0,.int .i64 a0_1,.string a0_2]] rfl (by (try simp only [List.map_toArray,List.map_cons,List.map_nil]);first|done|rfl|(simp only [List.length_drop,List.length_take];rfl)|(simp only [gt_iff_lt,ge_iff_le,Int.ofNat_lt,Int.ofNat_le];rfl)) ?_;(with_reducible refine (impl_inner.calls kj1  a0_0 a0_1 a0_2 t357 t360 _ A8.out).mono ?_);rintro e w13 ⟨v358,rfl,ho0,hb⟩;refine ⟨_,rfl,?_⟩;have n0_:=Aside0.mk (Kd.R_elder' (by (with_reducible repeat (first|apply Kd.R_alloc|apply Kd.R_drewN|apply Kd.R_drew));exact HO356.out) (Kd.R_base ho0) hb);have n1_:=Aside0.mk (Kd.R_lower (Kd.R_newB (Kd.R_new' ho0 (Kd.R_lt (by (with_reducible repeat (first|apply Kd.R_alloc|apply Kd.R_drewN|apply Kd.R_drew));exact HO356.out))) (g:=gb353) (o:=.cells #[.int .i64 a0_0,.int .i64 a0_1,.string a0_2] 26 (0,0)) (by (with_reducible repeat (first|refine blk_drewN ?_ _|refine blk_drew ?_|refine blk_alloc ?_ _));exact BK353.out)) (below_size (by repeat (first|(with_reducible first|exact HB.out|apply below_alloc|apply pw_below_drewN|apply below_drew1|refine below_set ?_ GE353.out)|exact HB.out))));have n2_:=Aside0.mk (blk_below (g:=gb353) (o:=.cells #[.int .i64 a0_0,.int .i64 a0_1,.string a0_2] 26 (0,0)) (by (with_reducible repeat (first|refine blk_drewN ?_ _|refine blk_drew ?_|refine blk_alloc ?_ _));exact BK353.out) hb);have n3_:=Aside0.mk (below_step (by repeat (first|(with_reducible first|exact HB.out|apply below_alloc|apply pw_below_drewN|apply below_drew1|refine below_set ?_ GE353.out)|exact HB.out)) hb);clear HO356;clear BK353;clear HB;have HO356:=n0_;have HO359:=n1_;have BK353:=n2_;have HB:=n3_;clear n0_ n1_ n2_ n3_;(try clear hb);(try clear hb2);(try clear hk);(try clear hi);(try clear ho0);obtain ⟨Ao14,co14,eo14⟩:=Kd.R_slice HO359.out;subst eo14))
     go_loopg [3,26] kj1 (fun kq v3 v26 w' => ∃ (x3_2 : Int) (x26_2 : Int),v3 = .int .i64 x3_2∧v26 = .int .i64 x26_2∧Aside0 (impl_depth.l0 kq x3_2 t357 (t357.length : Int) x26_2=some r)∧Aside0 (kq≤kj1)∧Aside0 (Kd.R k26 26 w' w.heap.size (fun k_ => k_≠gb353) (.slice Ao14 t357.length co14) t357)∧Aside0 (w'.heap[gb353]? = some (.cells #[.int .i64 a0_0,.int .i64 a0_1,.string a0_2] 26 (0,0)))∧Aside0 (Below w.heap.size w w'))
     case atStart => exact ⟨(0),(0),(by first|rfl|(simp;done)|(simp [*];done)),(by first|rfl|(simp;done)|(simp [*];done)),H',⟨Nat.le_refl _⟩,⟨by (with_reducible repeat (first|apply Kd.R_alloc|apply Kd.R_drewN|apply Kd.R_drew));exact Kd.R_mono HO359.out (fun _ hk => hk.2)⟩,⟨by (with_reducible repeat (first|refine blk_drewN ?_ _|refine blk_drew ?_|refine blk_alloc ?_ _));exact BK353.out⟩,⟨by repeat (first|(with_reducible first|exact HB.out|apply below_alloc|apply pw_below_drewN|apply below_drew1|refine below_set ?_ GE353.out)|exact HB.out)⟩⟩
     case round =>
      clear H'
      try clear p2
      try clear c4
      try clear c4b0
      try clear c4b1
      try clear c5
      try clear c7
      try clear c8
      try clear c9
      try clear c9b0
      try clear c9b1
      try clear hcz12_0
      try clear hcz12_1
      try clear hcz12_2
      try clear hcz5_0
      try clear hcz5_1
      try clear hcz5_2
      try clear hcz6_0
      try clear hcz6_1
      try clear hcz6_2
      try clear hfz12_0
      try clear hfz12_1
      try clear hfz12_2
      try clear hfz5_0
      try clear hfz5_1
      try clear hfz5_2
      try clear hfz6_0
      try clear hfz6_1
      try clear hfz6_2
      try clear p2
      obtain ⟨x3_2,x26_2,rfl,rfl,HA,HK2,HO_24,BK353,HB⟩:=hrel
      cases gk with
      | zero => exact absurd HA.out (by simp [impl_depth.l0])
      | succ k2 =>
       have H:=HA.out
       clear HA
       simp only [impl_depth.l0] at H
       by_cases c15 : x26_2<(t357.length : Int)
       ·
        rw [if_pos c15] at H
        have c15b0 : decide (x26_2<(t357.length : Int))=true:=decide_eq_true c15
        clear c15
        by_cases c16 : 0≤x26_2
        ·
         rw [if_pos c16] at H
         have c16b0 : decide (0≤x26_2)=true:=decide_eq_true c16
         clear c16
         by_cases c17 : x26_2<(t357.length : Int)
         ·
          rw [if_pos c17] at H
          have c17b0 : decide (x26_2<(t357.length : Int))=true:=decide_eq_true c17
          clear c17
          replace H:=Option.bind_eq_some_iff.mp H
          obtain ⟨t363,A180,H⟩:=H
          replace H : (impl_depth.l0 k2 (mx x3_2 t363) t357 (t357.length : Int) (wrap64 (x26_2 + 1)))=some r:=H
          have A18:=Aside0.mk A180
          clear A180
          obtain ⟨ji19,hji19⟩ : ∃ j_ : Int,(mx x3_2 t363)=j_:=⟨_,rfl⟩
          replace H : (impl_depth.l0 k2 ji19 t357 (t357.length : Int) (wrap64 (x26_2 + 1)))=some r:=by first|(rw [hji19] at H;exact H)|(simp only [hji19] at H ⊢;exact H)
          (try rw [hji19] at A18)
          have hji19_ : (if x3_2<t363 then t363 else x3_2)=ji19:=hji19
          have H':=Aside0.mk H
          clear H
          have p361 : 0≤(x26_2 : Int):=of_decide_eq_true (by first|(with_reducible assumption)|assumption)
          have q361 : x26_2<(t357.length : Int):=of_decide_eq_true (by first|(with_reducible assumption)|assumption)
          obtain ⟨ad361,e361,hx361_0,hx361_1,hx361_2⟩:=at_T26 (Kd.R_reads' HO_24.out).2.2 x26_2 p361 q361
          cases e361
          replace p361:=eq_true p361
          replace q361:=eq_true q361
          go_wp2_with (first|((with_reducible refine gate_dst (N:=6) rfl ?_);refine box_event ?hg (N:=6) ?hd (cs:=#[.int .i64 0,.int .i64 0,.string (⟨#[]⟩ : ByteArray)]) (t:=26) ?hr ?_;(case hd => rfl);(case hg => rfl);(case hr => first|(go_simp;done)|(go_simp;rfl));intro gb362 hg w20 hbox hb;have n0_:=Aside0.mk (Kd.R_below (Kd.R_elderB (by (with_reducible repeat (first|apply Kd.R_alloc|apply Kd.R_drewN|apply Kd.R_drew));exact HO_24.out) gb362 (Nat.le_of_eq hg.symm)) hb);have n1_:=Aside0.mk (blk_below (g:=gb353) (o:=.cells #[.int .i64 a0_0,.int .i64 a0_1,.string a0_2] 26 (0,0)) (by (with_reducible repeat (first|refine blk_drewN ?_ _|refine blk_drew ?_|refine blk_alloc ?_ _));exact BK353.out) hb);have n2_:=Aside0.mk (below_step (by repeat (first|(with_reducible first|exact HB.out|apply below_alloc|apply pw_below_drewN|apply below_drew1|refine below_set ?_ GE353.out)|exact HB.out)) hb);have n3_:=Aside0.mk (hbox);have n4_:=Aside0.mk ((by rw [hg];exact (below_size (by repeat (first|(with_reducible first|exact HB.out|apply below_alloc|apply pw_below_drewN|apply below_drew1|refine below_set ?_ GE353.out)|exact HB.out))) : w.heap.size≤gb362));have n5_:=Aside0.mk ((by rw [hg];exact (below_size (by repeat (first|(with_reducible first|exact HB.out|apply below_alloc|apply pw_below_drewN|apply below_drew1|refine below_set ?_ GE353.out)|exact HB.out))) : w.heap.size≤gb362));have n6_:=Aside0.mk ((by rw [hg];exact Nat.ne_of_lt (blk_lt (g:=gb353) (o:=.cells #[.int .i64 a0_0,.int .i64 a0_1,.string a0_2] 26 (0,0)) (by (with_reducible repeat (first|refine blk_drewN ?_ _|refine blk_drew ?_|refine blk_alloc ?_ _));exact BK353.out)) : gb353≠gb362));have n7_:=Aside0.mk ((by rw [hg];exact Nat.ne_of_gt (blk_lt (g:=gb353) (o:=.cells #[.int .i64 a0_0,.int .i64 a0_1,.string a0_2] 26 (0,0)) (by (with_reducible repeat (first|refine blk_drewN ?_ _|refine blk_drew ?_|refine blk_alloc ?_ _));exact BK353.out)) : gb362≠gb353));clear HO_24;clear BK353;clear HB;have HO_24:=n0_;have BK353:=n1_;have HB:=n2_;have BK362:=n3_;have GW362:=n4_;have GE362:=n5_;have NB353_362:=n6_;have NB362_353:=n7_;clear n0_ n1_ n2_ n3_ n4_ n5_ n6_ n7_;clear hb hbox hg;have hnb21:=NB362_353.out;have hnc21:=NB353_362.out;have hcz22_0 : w20.cell? ⟨gb362,0,none⟩=some (.int .i64 0):=(blk_cell BK362.out 0).trans rfl;have hcz22_1 : w20.cell? ⟨gb362,1,none⟩=some (.int .i64 0):=(blk_cell BK362.out 1).trans rfl;have hcz22_2 : w20.cell? ⟨gb362,2,none⟩=some (.string (⟨#[]⟩ : ByteArray)):=(blk_cell BK362.out 2).trans rfl;have hfz22_0:=blk_frozen BK362.out 0;have hfz22_1:=blk_frozen BK362.out 1;have hfz22_2:=blk_frozen BK362.out 2)|((with_reducible refine gate_callee (f:=58) rfl ?_);refine goesL_ (some 32) rfl rfl Try.func58 (by kernel_rfl) rfl #[.agg #[.int .i64 ((rd_T26 t357 x26_2).f0),.int .i64 ((rd_T26 t357 x26_2).f1),.string ((rd_T26 t357 x26_2).f2)]] rfl (by (try simp only [List.map_toArray,List.map_cons,List.map_nil]);first|done|rfl|(simp only [List.length_drop,List.length_take];rfl)|(simp only [gt_iff_lt,ge_iff_le,Int.ofNat_lt,Int.ofNat_le];rfl)) ?_;(with_reducible refine (ih k2 (by have:=HJ1.out;have:=HK2.out;omega)  ((rd_T26 t357 x26_2).f0) ((rd_T26 t357 x26_2).f1) ((rd_T26 t357 x26_2).f2) t363 _ A18.out).mono ?_);rintro e w23 ⟨rfl,hb⟩;refine ⟨_,rfl,?_⟩;have n0_:=Aside0.mk (Kd.R_below (by (with_reducible repeat (first|apply Kd.R_alloc|apply Kd.R_drewN|apply Kd.R_drew));exact (Kd.R_mono (Kd.R_far (p:=⟨gb362,2,none⟩) (Kd.R_far (p:=⟨gb362,1,none⟩) (Kd.R_far (p:=⟨gb362,0,none⟩) (Kd.R_mono HO_24.out (fun k_ hk => (⟨hk,hk.2⟩ : _∧k_≠gb362))) (fun _ hk => hk.2) (.int .i64 ((rd_T26 t357 x26_2).f0))) (fun _ hk => hk.2) (.int .i64 ((rd_T26 t357 x26_2).f1))) (fun _ hk => hk.2) (.string ((rd_T26 t357 x26_2).f2))) (fun _ h_ => h_.1))) hb);have n1_:=Aside0.mk (blk_below (g:=gb353) (o:=.cells #[.int .i64 a0_0,.int .i64 a0_1,.string a0_2] 26 (0,0)) (by (with_reducible repeat (first|refine blk_drewN ?_ _|refine blk_drew ?_|refine blk_alloc ?_ _));refine blk_far ?_ NB353_362.out _;(with_reducible repeat (first|refine blk_drewN ?_ _|refine blk_drew ?_|refine blk_alloc ?_ _));refine blk_far ?_ NB353_362.out _;(with_reducible repeat (first|refine blk_drewN ?_ _|refine blk_drew ?_|refine blk_alloc ?_ _));refine blk_far ?_ NB353_362.out _;(with_reducible repeat (first|refine blk_drewN ?_ _|refine blk_drew ?_|refine blk_alloc ?_ _));exact BK353.out) hb);have n2_:=Aside0.mk (blk_below (g:=gb362) (o:=.cells #[.int .i64 ((rd_T26 t357 x26_2).f0),.int .i64 ((rd_T26 t357 x26_2).f1),.string ((rd_T26 t357 x26_2).f2)] 26 (0,0)) (by (with_reducible repeat (first|refine blk_drewN ?_ _|refine blk_drew ?_|refine blk_alloc ?_ _));refine blk_put (cs:=#[.int .i64 ((rd_T26 t357 x26_2).f0),.int .i64 ((rd_T26 t357 x26_2).f1),.string (⟨#[]⟩ : ByteArray)]) ?_ 2 _ rfl;(with_reducible repeat (first|refine blk_drewN ?_ _|refine blk_drew ?_|refine blk_alloc ?_ _));refine blk_put (cs:=#[.int .i64 ((rd_T26 t357 x26_2).f0),.int .i64 0,.string (⟨#[]⟩ : ByteArray)]) ?_ 1 _ rfl;(with_reducible repeat (first|refine blk_drewN ?_ _|refine blk_drew ?_|refine blk_alloc ?_ _));refine blk_put (cs:=#[.int .i64 0,.int .i64 0,.string (⟨#[]⟩ : ByteArray)]) ?_ 0 _ rfl;(with_reducible repeat (first|refine blk_drewN ?_ _|refine blk_drew ?_|refine blk_alloc ?_ _));exact BK362.out) hb);have n3_:=Aside0.mk (below_step (by repeat (first|(with_reducible first|exact HB.out|apply below_alloc|apply pw_below_drewN|apply below_drew1|refine below_set ?_ GE353.out|refine below_set ?_ GE362.out)|exact HB.out)) hb);clear HO_24;clear BK353;clear BK362;clear HB;have HO_24:=n0_;have BK353:=n1_;have BK362:=n2_;have HB:=n3_;clear n0_ n1_ n2_ n3_;(try clear hb);(try clear hb2);(try clear hk);(try clear hi)))
          go_roundg k2
          case measure => have:=HJ1.out;have:=HK2.out;omega
          case rel => exact ⟨(ji19),(wrap64 (x26_2 + 1)),(by first|rfl|(simp;done)|(simp only [← hji19] <;> (first|rfl|simp))|(simp [*];done)),(by first|rfl|(simp;done)|(simp [*];done)),H',⟨by have:=HJ1.out;have:=HK2.out;omega⟩,⟨by (with_reducible repeat (first|apply Kd.R_alloc|apply Kd.R_drewN|apply Kd.R_drew));exact Kd.R_mono HO_24.out (fun _ hk => hk.1)⟩,⟨by (with_reducible repeat (first|refine blk_drewN ?_ _|refine blk_drew ?_|refine blk_alloc ?_ _));exact BK353.out⟩,⟨by repeat (first|(with_reducible first|exact HB.out|apply below_alloc|apply pw_below_drewN|apply below_drew1|refine below_set ?_ GE353.out|refine below_set ?_ GE362.out)|exact HB.out)⟩⟩
         ·
          rw [if_neg c17] at H
          exact absurd H (by simp)
        ·
         rw [if_neg c16] at H
         exact absurd H (by simp)
       ·
        rw [if_neg c15] at H
        have c15b0 : decide (x26_2<(t357.length : Int))=false:=decide_eq_false c15
        clear c15
        obtain rfl:=Option.some.inj H
        go_wp2
        go_ret
        exact ⟨by first|rfl|(simp [errW_none,errW_some] <;> rfl)|(simp [*,errW_none,errW_some] <;> rfl),by repeat (first|(with_reducible first|exact HB.out|apply below_alloc|apply pw_below_drewN|apply below_drew1|refine below_set ?_ GE353.out)|exact HB.out)⟩
    ·
     rw [if_neg c9] at H
     have c9b0 : decide (0<(t357.length : Int))=false:=decide_eq_false c9
     have c9b1 : decide (0<t357.length)=false:=decide_eq_false (by omega)
     clear c9
     obtain rfl:=Option.some.inj H
     go_wp2_with (first|((with_reducible refine gate_dst (N:=15) rfl ?_);refine Kd.R_lit k26 _ 26 ?hg (N:=15) ?hd (xs:=([] : List (S26))) (inner:=[]) (ok:=fun _ => True) (okp:=fun _ => True) ?hr ?hp (fun _ hk => hk) trivial (Below.refl _ _) (Nat.le_refl _) (by simp) ?_;(case hd => rfl);(case hg => rfl);(case hr => first|(go_simp;done)|(go_simp;rfl));(case hp => exact (Reps.none _ _));intro v355 w24 ho25 hb hg_ hnew_;clear hg_ hnew_;(first|rw [← Ny354.out] at ho25|(simp only [Int.reduceToNat] at ho25;rw [← Ny354.out] at ho25));have n0_:=Aside0.mk (Kd.R_lower (Kd.R_newB ho25 (g:=gb353) (o:=.cells #[.int .i64 a0_0,.int .i64 a0_1,.string a0_2] 26 (0,0)) (by (with_reducible repeat (first|refine blk_drewN ?_ _|refine blk_drew ?_|refine blk_alloc ?_ _));exact BK353.out)) (below_size (by repeat (first|(with_reducible first|exact HB.out|apply below_alloc|apply pw_below_drewN|apply below_drew1|refine below_set ?_ GE353.out)|exact HB.out))));have n1_:=Aside0.mk (blk_below (g:=gb353) (o:=.cells #[.int .i64 a0_0,.int .i64 a0_1,.string a0_2] 26 (0,0)) (by (with_reducible repeat (first|refine blk_drewN ?_ _|refine blk_drew ?_|refine blk_alloc ?_ _));exact BK353.out) hb);have n2_:=Aside0.mk (below_step (by repeat (first|(with_reducible first|exact HB.out|apply below_alloc|apply pw_below_drewN|apply below_drew1|refine below_set ?_ GE353.out)|exact HB.out)) hb);clear BK353;clear HB;have HO356:=n0_;have BK353:=n1_;have HB:=n2_;clear n0_ n1_ n2_;clear hb ho25;have hcz26_0 : w24.cell? ⟨gb353,0,none⟩=some (.int .i64 a0_0):=(blk_cell BK353.out 0).trans rfl;have hcz26_1 : w24.cell? ⟨gb353,1,none⟩=some (.int .i64 a0_1):=(blk_cell BK353.out 1).trans rfl;have hcz26_2 : w24.cell? ⟨gb353,2,none⟩=some (.string a0_2):=(blk_cell BK353.out 2).trans rfl;have hfz26_0:=blk_frozen BK353.out 0;have hfz26_1:=blk_frozen BK353.out 1;have hfz26_2:=blk_frozen BK353.out 2)|((with_reducible refine gate_callee (f:=87) rfl ?_);refine goesL_ (some 18) rfl rfl Try.func87 (by kernel_rfl) rfl #[.agg #[.int .i64 a0_0,.int .i64 a0_1,.string a0_2]] rfl (by (try simp only [List.map_toArray,List.map_cons,List.map_nil]);first|done|rfl|(simp only [List.length_drop,List.length_take];rfl)|(simp only [gt_iff_lt,ge_iff_le,Int.ofNat_lt,Int.ofNat_le];rfl)) ?_;(with_reducible refine (impl_inner.calls kj1  a0_0 a0_1 a0_2 t357 t360 _ A8.out).mono ?_);rintro e w27 ⟨v358,rfl,ho0,hb⟩;refine ⟨_,rfl,?_⟩;have n0_:=Aside0.mk (Kd.R_elder' (by (with_reducible repeat (first|apply Kd.R_alloc|apply Kd.R_drewN|apply Kd.R_drew));exact HO356.out) (Kd.R_base ho0) hb);have n1_:=Aside0.mk (Kd.R_lower (Kd.R_newB (Kd.R_new' ho0 (Kd.R_lt (by (with_reducible repeat (first|apply Kd.R_alloc|apply Kd.R_drewN|apply Kd.R_drew));exact HO356.out))) (g:=gb353) (o:=.cells #[.int .i64 a0_0,.int .i64 a0_1,.string a0_2] 26 (0,0)) (by (with_reducible repeat (first|refine blk_drewN ?_ _|refine blk_drew ?_|refine blk_alloc ?_ _));exact BK353.out)) (below_size (by repeat (first|(with_reducible first|exact HB.out|apply below_alloc|apply pw_below_drewN|apply below_drew1|refine below_set ?_ GE353.out)|exact HB.out))));have n2_:=Aside0.mk (blk_below (g:=gb353) (o:=.cells #[.int .i64 a0_0,.int .i64 a0_1,.string a0_2] 26 (0,0)) (by (with_reducible repeat (first|refine blk_drewN ?_ _|refine blk_drew ?_|refine blk_alloc ?_ _));exact BK353.out) hb);have n3_:=Aside0.mk (below_step (by repeat (first|(with_reducible first|exact HB.out|apply below_alloc|apply pw_below_drewN|apply below_drew1|refine below_set ?_ GE353.out)|exact HB.out)) hb);clear HO356;clear BK353;clear HB;have HO356:=n0_;have HO359:=n1_;have BK353:=n2_;have HB:=n3_;clear n0_ n1_ n2_ n3_;(try clear hb);(try clear hb2);(try clear hk);(try clear hi);(try clear ho0);obtain ⟨Ao28,co28,eo28⟩:=Kd.R_slice HO359.out;subst eo28))
     go_ret
     exact ⟨by first|rfl|(simp [errW_none,errW_some] <;> rfl)|(simp [*,errW_none,errW_some] <;> rfl),by repeat (first|(with_reducible first|exact HB.out|apply below_alloc|apply pw_below_drewN|apply below_drew1|refine below_set ?_ GE353.out)|exact HB.out)⟩

end Go.Proofs.Ytpmeglcmhiihoaa.Q
end
section
namespace Go.Proofs.Ytpmeglcmhiihoaa.Q
open Go.RowKit Go.Proofs.YtpmeglcmhiihoaaW.PrintWords Go.Proofs.YtpmeglcmhiihoaaW.PrintLast Go.Proofs.YtpmeglcmhiihoaaW.PrintMore
attribute [local go_sem] max2_int min2_int max_two min_two max_three min_three max_four min_four max2_str min2_str str_geq str_gtr str_leq   -- for this text's walks alone
set_option linter.unusedVariables false
set_option linter.unusedSimpArgs false

def impl_DepthOf.f (k : Nat) (a0_0 : Int) (a0_1 : Int) (a0_2 : ByteArray) : Option (Int×Int):=(impl_ValueOK.f k a0_0 a0_1 a0_2).bind fun t365 => (if t365=true then ((impl_depth.f k a0_0 a0_1 a0_2).bind fun t366 => (some (t366,0))) else (some (0,1)))
theorem impl_DepthOf.mono : ∀ a0 a1 a2 k,LeO (impl_DepthOf.f k a0 a1 a2) (impl_DepthOf.f (k + 1) a0 a1 a2):=by
 intro a0 a1 a2 k
 unfold impl_DepthOf.f
 repeat' first
   | (with_reducible exact impl_ValueOK.mono _ _ _ _)
   | (with_reducible exact impl_depth.mono _ _ _ _)
   | (with_reducible exact LeO.refl _)
   | (with_reducible exact LeO.none _)
   | (with_reducible refine LeO.ite ?_ ?_)
   | (with_reducible refine LeO.bind ?_ (fun _ => ?_))
   | exact impl_ValueOK.mono _ _ _ _
   | exact impl_depth.mono _ _ _ _
   | exact LeO.none _
   | refine LeO.ite ?_ ?_
   | refine LeO.bind ?_ (fun _ => ?_)
set_option maxHeartbeats 8000000 in
set_option maxRecDepth 100000 in
theorem impl_DepthOf.calls (k : Nat) (a0_0 : Int) (a0_1 : Int) (a0_2 : ByteArray) (r1 : Int) (r2 : Int) (w : World) (h : impl_DepthOf.f k a0_0 a0_1 a0_2=some (r1,r2)) :
  Calls Try.prog 24 #[.agg #[.int .i64 a0_0,.int .i64 a0_1,.string a0_2]] w fun e w' => e = .returned (.tuple #[.int .i64 r1,.int .i64 r2])∧Below w.heap.size w w':=by
 have hu26:=Try.underlying26
 have HB:=Aside0.mk (Below.refl w.heap.size w)
 have H : ((impl_ValueOK.f k a0_0 a0_1 a0_2).bind fun t365 => (if t365=true then ((impl_depth.f k a0_0 a0_1 a0_2).bind fun t366 => (some (t366,0))) else (some (0,1))))=some (r1,r2):=h
 clear h
 replace H:=Option.bind_eq_some_iff.mp H
 obtain ⟨t365,A20,H⟩:=H
 replace H : (if t365=true then ((impl_depth.f k a0_0 a0_1 a0_2).bind fun t366 => (some (t366,0))) else (some (0,1)))=some (r1,r2):=H
 have A2:=Aside0.mk A20
 clear A20
 by_cases c3 : t365=true
 ·
  subst c3
  have H1 : ((impl_depth.f k a0_0 a0_1 a0_2).bind fun t366 => (some (t366,0)))=some (r1,r2):=by rw [if_pos rfl] at H;exact H
  clear H
  have H:=H1
  clear H1
  replace H:=Option.bind_eq_some_iff.mp H
  obtain ⟨t366,A40,H⟩:=H
  replace H : (some (t366,0))=some (r1,r2):=H
  have A4:=Aside0.mk A40
  clear A40
  simp only [Option.some.injEq,Prod.mk.injEq] at H
  obtain ⟨rfl,rfl⟩:=H
  go_enter Try.func24,Try.ntmps24
  go_wp2_with (first|((with_reducible refine gate_dst (N:=1) rfl ?_);refine box_event ?hg (N:=1) ?hd (cs:=#[.int .i64 a0_0,.int .i64 a0_1,.string a0_2]) (t:=26) ?hr ?_;(case hd => rfl);(case hg => rfl);(case hr => first|(go_simp;done)|(go_simp;rfl));intro gb364 hg w5 hbox hb;have n0_:=Aside0.mk (below_step (by repeat (first|(with_reducible first|exact HB.out|apply below_alloc|apply pw_below_drewN|apply below_drew1)|exact HB.out)) hb);have n1_:=Aside0.mk (hbox);have n2_:=Aside0.mk ((by rw [hg];exact (below_size (by repeat (first|(with_reducible first|exact HB.out|apply below_alloc|apply pw_below_drewN|apply below_drew1)|exact HB.out))) : w.heap.size≤gb364));have n3_:=Aside0.mk ((by rw [hg];exact (below_size (by repeat (first|(with_reducible first|exact HB.out|apply below_alloc|apply pw_below_drewN|apply below_drew1)|exact HB.out))) : w.heap.size≤gb364));clear HB;have HB:=n0_;have BK364:=n1_;have GW364:=n2_;have GE364:=n3_;clear n0_ n1_ n2_ n3_;clear hb hbox hg;have hcz6_0 : w5.cell? ⟨gb364,0,none⟩=some (.int .i64 a0_0):=(blk_cell BK364.out 0).trans rfl;have hcz6_1 : w5.cell? ⟨gb364,1,none⟩=some (.int .i64 a0_1):=(blk_cell BK364.out 1).trans rfl;have hcz6_2 : w5.cell? ⟨gb364,2,none⟩=some (.string a0_2):=(blk_cell BK364.out 2).trans rfl;have hfz6_0:=blk_frozen BK364.out 0;have hfz6_1:=blk_frozen BK364.out 1;have hfz6_2:=blk_frozen BK364.out 2)|((with_reducible refine gate_callee (f:=17) rfl ?_);refine goesL_ (some 5) rfl rfl Try.func17 (by kernel_rfl) rfl #[.agg #[.int .i64 a0_0,.int .i64 a0_1,.string a0_2]] rfl (by (try simp only [List.map_toArray,List.map_cons,List.map_nil]);first|done|rfl|(simp only [List.length_drop,List.length_take];rfl)|(simp only [gt_iff_lt,ge_iff_le,Int.ofNat_lt,Int.ofNat_le];rfl)) ?_;(with_reducible refine (impl_ValueOK.calls k  a0_0 a0_1 a0_2 true _ A2.out).mono ?_);rintro e w7 ⟨rfl,hb⟩;refine ⟨_,rfl,?_⟩;have n0_:=Aside0.mk (blk_below (g:=gb364) (o:=.cells #[.int .i64 a0_0,.int .i64 a0_1,.string a0_2] 26 (0,0)) (by (with_reducible repeat (first|refine blk_drewN ?_ _|refine blk_drew ?_|refine blk_alloc ?_ _));exact BK364.out) hb);have n1_:=Aside0.mk (below_step (by repeat (first|(with_reducible first|exact HB.out|apply below_alloc|apply pw_below_drewN|apply below_drew1|refine below_set ?_ GE364.out)|exact HB.out)) hb);clear BK364;clear HB;have BK364:=n0_;have HB:=n1_;clear n0_ n1_;(try clear hb);(try clear hb2);(try clear hk);(try clear hi);have hcz8_0 : w7.cell? ⟨gb364,0,none⟩=some (.int .i64 a0_0):=(blk_cell BK364.out 0).trans rfl;have hcz8_1 : w7.cell? ⟨gb364,1,none⟩=some (.int .i64 a0_1):=(blk_cell BK364.out 1).trans rfl;have hcz8_2 : w7.cell? ⟨gb364,2,none⟩=some (.string a0_2):=(blk_cell BK364.out 2).trans rfl;have hfz8_0:=blk_frozen BK364.out 0;have hfz8_1:=blk_frozen BK364.out 1;have hfz8_2:=blk_frozen BK364.out 2)|((with_reducible refine gate_callee (f:=58) rfl ?_);refine goesL_ (some 8) rfl rfl Try.func58 (by kernel_rfl) rfl #[.agg #[.int .i64 a0_0,.int .i64 a0_1,.string a0_2]] rfl (by (try simp only [List.map_toArray,List.map_cons,List.map_nil]);first|done|rfl|(simp only [List.length_drop,List.length_take];rfl)|(simp only [gt_iff_lt,ge_iff_le,Int.ofNat_lt,Int.ofNat_le];rfl)) ?_;(with_reducible refine (impl_depth.calls k  a0_0 a0_1 a0_2 t366 _ A4.out).mono ?_);rintro e w9 ⟨rfl,hb⟩;refine ⟨_,rfl,?_⟩;have n0_:=Aside0.mk (blk_below (g:=gb364) (o:=.cells #[.int .i64 a0_0,.int .i64 a0_1,.string a0_2] 26 (0,0)) (by (with_reducible repeat (first|refine blk_drewN ?_ _|refine blk_drew ?_|refine blk_alloc ?_ _));exact BK364.out) hb);have n1_:=Aside0.mk (below_step (by repeat (first|(with_reducible first|exact HB.out|apply below_alloc|apply pw_below_drewN|apply below_drew1|refine below_set ?_ GE364.out)|exact HB.out)) hb);clear BK364;clear HB;have BK364:=n0_;have HB:=n1_;clear n0_ n1_;(try clear hb);(try clear hb2);(try clear hk);(try clear hi)))
  go_ret2
  exact ⟨by first|rfl|(simp [errW_none,errW_some] <;> rfl)|(simp [*,errW_none,errW_some] <;> rfl),by repeat (first|(with_reducible first|exact HB.out|apply below_alloc|apply pw_below_drewN|apply below_drew1|refine below_set ?_ GE364.out)|exact HB.out)⟩
 ·
  replace c3:=Bool.eq_false_iff.mpr c3
  subst c3
  have H1 : (some (0,1))=some (r1,r2):=by rw [if_neg (show ¬ (false=true) by decide)] at H;exact H
  clear H
  have H:=H1
  clear H1
  simp only [Option.some.injEq,Prod.mk.injEq] at H
  obtain ⟨rfl,rfl⟩:=H
  go_enter Try.func24,Try.ntmps24
  go_wp2_with (first|((with_reducible refine gate_dst (N:=1) rfl ?_);refine box_event ?hg (N:=1) ?hd (cs:=#[.int .i64 a0_0,.int .i64 a0_1,.string a0_2]) (t:=26) ?hr ?_;(case hd => rfl);(case hg => rfl);(case hr => first|(go_simp;done)|(go_simp;rfl));intro gb364 hg w10 hbox hb;have n0_:=Aside0.mk (below_step (by repeat (first|(with_reducible first|exact HB.out|apply below_alloc|apply pw_below_drewN|apply below_drew1)|exact HB.out)) hb);have n1_:=Aside0.mk (hbox);have n2_:=Aside0.mk ((by rw [hg];exact (below_size (by repeat (first|(with_reducible first|exact HB.out|apply below_alloc|apply pw_below_drewN|apply below_drew1)|exact HB.out))) : w.heap.size≤gb364));have n3_:=Aside0.mk ((by rw [hg];exact (below_size (by repeat (first|(with_reducible first|exact HB.out|apply below_alloc|apply pw_below_drewN|apply below_drew1)|exact HB.out))) : w.heap.size≤gb364));clear HB;have HB:=n0_;have BK364:=n1_;have GW364:=n2_;have GE364:=n3_;clear n0_ n1_ n2_ n3_;clear hb hbox hg;have hcz11_0 : w10.cell? ⟨gb364,0,none⟩=some (.int .i64 a0_0):=(blk_cell BK364.out 0).trans rfl;have hcz11_1 : w10.cell? ⟨gb364,1,none⟩=some (.int .i64 a0_1):=(blk_cell BK364.out 1).trans rfl;have hcz11_2 : w10.cell? ⟨gb364,2,none⟩=some (.string a0_2):=(blk_cell BK364.out 2).trans rfl;have hfz11_0:=blk_frozen BK364.out 0;have hfz11_1:=blk_frozen BK364.out 1;have hfz11_2:=blk_frozen BK364.out 2)|((with_reducible refine gate_callee (f:=17) rfl ?_);refine goesL_ (some 5) rfl rfl Try.func17 (by kernel_rfl) rfl #[.agg #[.int .i64 a0_0,.int .i64 a0_1,.string a0_2]] rfl (by (try simp only [List.map_toArray,List.map_cons,List.map_nil]);first|done|rfl|(simp only [List.length_drop,List.length_take];rfl)|(simp only [gt_iff_lt,ge_iff_le,Int.ofNat_lt,Int.ofNat_le];rfl)) ?_;(with_reducible refine (impl_ValueOK.calls k  a0_0 a0_1 a0_2 false _ A2.out).mono ?_);rintro e w12 ⟨rfl,hb⟩;refine ⟨_,rfl,?_⟩;have n0_:=Aside0.mk (blk_below (g:=gb364) (o:=.cells #[.int .i64 a0_0,.int .i64 a0_1,.string a0_2] 26 (0,0)) (by (with_reducible repeat (first|refine blk_drewN ?_ _|refine blk_drew ?_|refine blk_alloc ?_ _));exact BK364.out) hb);have n1_:=Aside0.mk (below_step (by repeat (first|(with_reducible first|exact HB.out|apply below_alloc|apply pw_below_drewN|apply below_drew1|refine below_set ?_ GE364.out)|exact HB.out)) hb);clear BK364;clear HB;have BK364:=n0_;have HB:=n1_;clear n0_ n1_;(try clear hb);(try clear hb2);(try clear hk);(try clear hi)))
  go_ret2
  exact ⟨by first|rfl|(simp [errW_none,errW_some] <;> rfl)|(simp [*,errW_none,errW_some] <;> rfl),by repeat (first|(with_reducible first|exact HB.out|apply below_alloc|apply pw_below_drewN|apply below_drew1|refine below_set ?_ GE364.out)|exact HB.out)⟩

end Go.Proofs.Ytpmeglcmhiihoaa.Q
end
section
namespace Go.Proofs.Ytpmeglcmhiihoaa.Q
open Go.RowKit Go.Proofs.YtpmeglcmhiihoaaW.PrintWords Go.Proofs.YtpmeglcmhiihoaaW.PrintLast Go.Proofs.YtpmeglcmhiihoaaW.PrintMore
attribute [local go_sem] max2_int min2_int max_two min_two max_three min_three max_four min_four max2_str min2_str str_geq str_gtr str_leq   -- for this text's walks alone
set_option linter.unusedVariables false
set_option linter.unusedSimpArgs false

def laws_FnExactDepthOf.f (k : Nat) (a0_0 : Int) (a0_1 : Int) (a0_2 : ByteArray) : Option (Bool):=(laws_szValue.f a0_0 a0_1 a0_2 1048576).bind fun t368 => (if t368<0 then (some true) else ((laws_toValue.f a0_0 a0_1 a0_2).bind fun bt369 => ((spec_DepthOf.f k bt369.1 bt369.2.1 bt369.2.2).bind fun bt372 => ((laws_toValue.f a0_0 a0_1 a0_2).bind fun bt374 => ((impl_DepthOf.f k bt374.1 bt374.2.1 bt374.2.2).bind fun bt377 => (if bt377.1=bt372.1 then (if bt377.2=bt372.2 then (some true) else (some false)) else (some false)))))))
theorem laws_FnExactDepthOf.mono : ∀ a0 a1 a2 k,LeO (laws_FnExactDepthOf.f k a0 a1 a2) (laws_FnExactDepthOf.f (k + 1) a0 a1 a2):=by
 intro a0 a1 a2 k
 unfold laws_FnExactDepthOf.f
 repeat' first
   | (with_reducible exact spec_DepthOf.mono _ _ _ _)
   | (with_reducible exact impl_DepthOf.mono _ _ _ _)
   | (with_reducible exact LeO.refl _)
   | (with_reducible exact LeO.none _)
   | (with_reducible refine LeO.ite ?_ ?_)
   | (with_reducible refine LeO.bind ?_ (fun _ => ?_))
   | exact spec_DepthOf.mono _ _ _ _
   | exact impl_DepthOf.mono _ _ _ _
   | exact LeO.none _
   | refine LeO.ite ?_ ?_
   | refine LeO.bind ?_ (fun _ => ?_)
set_option maxHeartbeats 8000000 in
set_option maxRecDepth 100000 in
theorem laws_FnExactDepthOf.calls (k : Nat) (a0_0 : Int) (a0_1 : Int) (a0_2 : ByteArray) (r : Bool) (w : World) (h : laws_FnExactDepthOf.f k a0_0 a0_1 a0_2=some r) :
  Calls Try.prog 5 #[.agg #[.int .i64 a0_0,.int .i64 a0_1,.string a0_2]] w fun e w' => e = .returned (.bool r)∧Below w.heap.size w w':=by
 have hu23:=Try.underlying23
 have HB:=Aside0.mk (Below.refl w.heap.size w)
 have H : ((laws_szValue.f a0_0 a0_1 a0_2 1048576).bind fun t368 => (if t368<0 then (some true) else ((laws_toValue.f a0_0 a0_1 a0_2).bind fun bt369 => ((spec_DepthOf.f k bt369.1 bt369.2.1 bt369.2.2).bind fun bt372 => ((laws_toValue.f a0_0 a0_1 a0_2).bind fun bt374 => ((impl_DepthOf.f k bt374.1 bt374.2.1 bt374.2.2).bind fun bt377 => (if bt377.1=bt372.1 then (if bt377.2=bt372.2 then (some true) else (some false)) else (some false))))))))=some r:=h
 clear h
 replace H:=Option.bind_eq_some_iff.mp H
 obtain ⟨t368,A20,H⟩:=H
 replace H : (if t368<0 then (some true) else ((laws_toValue.f a0_0 a0_1 a0_2).bind fun bt369 => ((spec_DepthOf.f k bt369.1 bt369.2.1 bt369.2.2).bind fun bt372 => ((laws_toValue.f a0_0 a0_1 a0_2).bind fun bt374 => ((impl_DepthOf.f k bt374.1 bt374.2.1 bt374.2.2).bind fun bt377 => (if bt377.1=bt372.1 then (if bt377.2=bt372.2 then (some true) else (some false)) else (some false)))))))=some r:=H
 have A2:=Aside0.mk A20
 clear A20
 by_cases c3 : t368<0
 ·
  rw [if_pos c3] at H
  have c3b0 : decide (t368<0)=true:=decide_eq_true c3
  clear c3
  obtain rfl:=Option.some.inj H
  go_enter Try.func5,Try.ntmps5
  go_wp2_with (first|((with_reducible refine gate_dst (N:=1) rfl ?_);refine box_event ?hg (N:=1) ?hd (cs:=#[.int .i64 a0_0,.int .i64 a0_1,.string a0_2]) (t:=23) ?hr ?_;(case hd => rfl);(case hg => rfl);(case hr => first|(go_simp;done)|(go_simp;rfl));intro gb367 hg w4 hbox hb;have n0_:=Aside0.mk (below_step (by repeat (first|(with_reducible first|exact HB.out|apply below_alloc|apply pw_below_drewN|apply below_drew1)|exact HB.out)) hb);have n1_:=Aside0.mk (hbox);have n2_:=Aside0.mk ((by rw [hg];exact (below_size (by repeat (first|(with_reducible first|exact HB.out|apply below_alloc|apply pw_below_drewN|apply below_drew1)|exact HB.out))) : w.heap.size≤gb367));have n3_:=Aside0.mk ((by rw [hg];exact (below_size (by repeat (first|(with_reducible first|exact HB.out|apply below_alloc|apply pw_below_drewN|apply below_drew1)|exact HB.out))) : w.heap.size≤gb367));clear HB;have HB:=n0_;have BK367:=n1_;have GW367:=n2_;have GE367:=n3_;clear n0_ n1_ n2_ n3_;clear hb hbox hg;have hcz5_0 : w4.cell? ⟨gb367,0,none⟩=some (.int .i64 a0_0):=(blk_cell BK367.out 0).trans rfl;have hcz5_1 : w4.cell? ⟨gb367,1,none⟩=some (.int .i64 a0_1):=(blk_cell BK367.out 1).trans rfl;have hcz5_2 : w4.cell? ⟨gb367,2,none⟩=some (.string a0_2):=(blk_cell BK367.out 2).trans rfl;have hfz5_0:=blk_frozen BK367.out 0;have hfz5_1:=blk_frozen BK367.out 1;have hfz5_2:=blk_frozen BK367.out 2)|((with_reducible refine gate_callee (f:=14) rfl ?_);refine goesL_ (some 10) rfl rfl Try.func14 (by kernel_rfl) rfl #[.agg #[.int .i64 a0_0,.int .i64 a0_1,.string a0_2],.int .i64 1048576] rfl (by (try simp only [List.map_toArray,List.map_cons,List.map_nil]);first|done|rfl|(simp only [List.length_drop,List.length_take];rfl)|(simp only [gt_iff_lt,ge_iff_le,Int.ofNat_lt,Int.ofNat_le];rfl)) ?_;(with_reducible refine (laws_szValue.calls  a0_0 a0_1 a0_2 1048576 t368 _ A2.out).mono ?_);rintro e w6 ⟨rfl,hb⟩;refine ⟨_,rfl,?_⟩;have n0_:=Aside0.mk (blk_below (g:=gb367) (o:=.cells #[.int .i64 a0_0,.int .i64 a0_1,.string a0_2] 23 (0,0)) (by (with_reducible repeat (first|refine blk_drewN ?_ _|refine blk_drew ?_|refine blk_alloc ?_ _));exact BK367.out) hb);have n1_:=Aside0.mk (below_step (by repeat (first|(with_reducible first|exact HB.out|apply below_alloc|apply pw_below_drewN|apply below_drew1|refine below_set ?_ GE367.out)|exact HB.out)) hb);clear BK367;clear HB;have BK367:=n0_;have HB:=n1_;clear n0_ n1_;(try clear hb);(try clear hb2);(try clear hk);(try clear hi)))
  go_ret
  exact ⟨by first|rfl|(simp [errW_none,errW_some] <;> rfl)|(simp [*,errW_none,errW_some] <;> rfl),by repeat (first|(with_reducible first|exact HB.out|apply below_alloc|apply pw_below_drewN|apply below_drew1|refine below_set ?_ GE367.out)|exact HB.out)⟩
 ·
  rw [if_neg c3] at H
  have c3b0 : decide (t368<0)=false:=decide_eq_false c3
  clear c3
  replace H:=Option.bind_eq_some_iff.mp H
  obtain ⟨⟨t369,t370,t371⟩,A70,H⟩:=H
  replace H : ((spec_DepthOf.f k t369 t370 t371).bind fun bt372 => ((laws_toValue.f a0_0 a0_1 a0_2).bind fun bt374 => ((impl_DepthOf.f k bt374.1 bt374.2.1 bt374.2.2).bind fun bt377 => (if bt377.1=bt372.1 then (if bt377.2=bt372.2 then (some true) else (some false)) else (some false)))))=some r:=H
  have A7:=Aside0.mk A70
  clear A70
  replace H:=Option.bind_eq_some_iff.mp H
  obtain ⟨⟨t372,t373⟩,A80,H⟩:=H
  replace H : ((laws_toValue.f a0_0 a0_1 a0_2).bind fun bt374 => ((impl_DepthOf.f k bt374.1 bt374.2.1 bt374.2.2).bind fun bt377 => (if bt377.1=t372 then (if bt377.2=t373 then (some true) else (some false)) else (some false))))=some r:=H
  have A8:=Aside0.mk A80
  clear A80
  replace H:=Option.bind_eq_some_iff.mp H
  obtain ⟨⟨t374,t375,t376⟩,A90,H⟩:=H
  replace H : ((impl_DepthOf.f k t374 t375 t376).bind fun bt377 => (if bt377.1=t372 then (if bt377.2=t373 then (some true) else (some false)) else (some false)))=some r:=H
  have A9:=Aside0.mk A90
  clear A90
  replace H:=Option.bind_eq_some_iff.mp H
  obtain ⟨⟨t377,t378⟩,A100,H⟩:=H
  replace H : (if t377=t372 then (if t378=t373 then (some true) else (some false)) else (some false))=some r:=H
  have A10:=Aside0.mk A100
  clear A100
  by_cases c11 : t377=t372
  ·
   rw [if_pos c11] at H
   have c11b0 : (t377 == t372)=true:=beq_iff_eq.mpr c11
   have c11b1 : (t377 != t372)=false:=bne_eq_false_iff_eq.mpr c11
   clear c11
   by_cases c12 : t378=t373
   ·
    rw [if_pos c12] at H
    have c12b0 : (t378 == t373)=true:=beq_iff_eq.mpr c12
    have c12b1 : (t378 != t373)=false:=bne_eq_false_iff_eq.mpr c12
    clear c12
    obtain rfl:=Option.some.inj H
    go_enter Try.func5,Try.ntmps5
    go_wp2_with (first|((with_reducible refine gate_dst (N:=1) rfl ?_);refine box_event ?hg (N:=1) ?hd (cs:=#[.int .i64 a0_0,.int .i64 a0_1,.string a0_2]) (t:=23) ?hr ?_;(case hd => rfl);(case hg => rfl);(case hr => first|(go_simp;done)|(go_simp;rfl));intro gb367 hg w13 hbox hb;have n0_:=Aside0.mk (below_step (by repeat (first|(with_reducible first|exact HB.out|apply below_alloc|apply pw_below_drewN|apply below_drew1)|exact HB.out)) hb);have n1_:=Aside0.mk (hbox);have n2_:=Aside0.mk ((by rw [hg];exact (below_size (by repeat (first|(with_reducible first|exact HB.out|apply below_alloc|apply pw_below_drewN|apply below_drew1)|exact HB.out))) : w.heap.size≤gb367));have n3_:=Aside0.mk ((by rw [hg];exact (below_size (by repeat (first|(with_reducible first|exact HB.out|apply below_alloc|apply pw_below_drewN|apply below_drew1)|exact HB.out))) : w.heap.size≤gb367));clear HB;have HB:=n0_;have BK367:=n1_;have GW367:=n2_;have GE367:=n3_;clear n0_ n1_ n2_ n3_;clear hb hbox hg;have hcz14_0 : w13.cell? ⟨gb367,0,none⟩=some (.int .i64 a0_0):=(blk_cell BK367.out 0).trans rfl;have hcz14_1 : w13.cell? ⟨gb367,1,none⟩=some (.int .i64 a0_1):=(blk_cell BK367.out 1).trans rfl;have hcz14_2 : w13.cell? ⟨gb367,2,none⟩=some (.string a0_2):=(blk_cell BK367.out 2).trans rfl;have hfz14_0:=blk_frozen BK367.out 0;have hfz14_1:=blk_frozen BK367.out 1;have hfz14_2:=blk_frozen BK367.out 2)|((with_reducible refine gate_callee (f:=14) rfl ?_);refine goesL_ (some 10) rfl rfl Try.func14 (by kernel_rfl) rfl #[.agg #[.int .i64 a0_0,.int .i64 a0_1,.string a0_2],.int .i64 1048576] rfl (by (try simp only [List.map_toArray,List.map_cons,List.map_nil]);first|done|rfl|(simp only [List.length_drop,List.length_take];rfl)|(simp only [gt_iff_lt,ge_iff_le,Int.ofNat_lt,Int.ofNat_le];rfl)) ?_;(with_reducible refine (laws_szValue.calls  a0_0 a0_1 a0_2 1048576 t368 _ A2.out).mono ?_);rintro e w15 ⟨rfl,hb⟩;refine ⟨_,rfl,?_⟩;have n0_:=Aside0.mk (blk_below (g:=gb367) (o:=.cells #[.int .i64 a0_0,.int .i64 a0_1,.string a0_2] 23 (0,0)) (by (with_reducible repeat (first|refine blk_drewN ?_ _|refine blk_drew ?_|refine blk_alloc ?_ _));exact BK367.out) hb);have n1_:=Aside0.mk (below_step (by repeat (first|(with_reducible first|exact HB.out|apply below_alloc|apply pw_below_drewN|apply below_drew1|refine below_set ?_ GE367.out)|exact HB.out)) hb);clear BK367;clear HB;have BK367:=n0_;have HB:=n1_;clear n0_ n1_;(try clear hb);(try clear hb2);(try clear hk);(try clear hi);have hcz16_0 : w15.cell? ⟨gb367,0,none⟩=some (.int .i64 a0_0):=(blk_cell BK367.out 0).trans rfl;have hcz16_1 : w15.cell? ⟨gb367,1,none⟩=some (.int .i64 a0_1):=(blk_cell BK367.out 1).trans rfl;have hcz16_2 : w15.cell? ⟨gb367,2,none⟩=some (.string a0_2):=(blk_cell BK367.out 2).trans rfl;have hfz16_0:=blk_frozen BK367.out 0;have hfz16_1:=blk_frozen BK367.out 1;have hfz16_2:=blk_frozen BK367.out 2)|((with_reducible refine gate_callee (f:=16) rfl ?_);refine goesL_ (some 15) rfl rfl Try.func16 (by kernel_rfl) rfl #[.agg #[.int .i64 a0_0,.int .i64 a0_1,.string a0_2]] rfl (by (try simp only [List.map_toArray,List.map_cons,List.map_nil]);first|done|rfl|(simp only [List.length_drop,List.length_take];rfl)|(simp only [gt_iff_lt,ge_iff_le,Int.ofNat_lt,Int.ofNat_le];rfl)) ?_;(with_reducible refine (laws_toValue.calls  a0_0 a0_1 a0_2 t369 t370 t371 _ A7.out).mono ?_);rintro e w17 ⟨rfl,hb⟩;refine ⟨_,rfl,?_⟩;have n0_:=Aside0.mk (blk_below (g:=gb367) (o:=.cells #[.int .i64 a0_0,.int .i64 a0_1,.string a0_2] 23 (0,0)) (by (with_reducible repeat (first|refine blk_drewN ?_ _|refine blk_drew ?_|refine blk_alloc ?_ _));exact BK367.out) hb);have n1_:=Aside0.mk (below_step (by repeat (first|(with_reducible first|exact HB.out|apply below_alloc|apply pw_below_drewN|apply below_drew1|refine below_set ?_ GE367.out)|exact HB.out)) hb);clear BK367;clear HB;have BK367:=n0_;have HB:=n1_;clear n0_ n1_;(try clear hb);(try clear hb2);(try clear hk);(try clear hi))|((with_reducible refine gate_callee (f:=23) rfl ?_);refine goesL_ (some 16) rfl rfl Try.func23 (by kernel_rfl) rfl #[.agg #[.int .i64 t369,.int .i64 t370,.string t371]] rfl (by (try simp only [List.map_toArray,List.map_cons,List.map_nil]);first|done|rfl|(simp only [List.length_drop,List.length_take];rfl)|(simp only [gt_iff_lt,ge_iff_le,Int.ofNat_lt,Int.ofNat_le];rfl)) ?_;(with_reducible refine (spec_DepthOf.calls k  t369 t370 t371 t372 t373 _ A8.out).mono ?_);rintro e w18 ⟨rfl,hb⟩;refine ⟨_,rfl,?_⟩;have n0_:=Aside0.mk (blk_below (g:=gb367) (o:=.cells #[.int .i64 a0_0,.int .i64 a0_1,.string a0_2] 23 (0,0)) (by (with_reducible repeat (first|refine blk_drewN ?_ _|refine blk_drew ?_|refine blk_alloc ?_ _));exact BK367.out) hb);have n1_:=Aside0.mk (below_step (by repeat (first|(with_reducible first|exact HB.out|apply below_alloc|apply pw_below_drewN|apply below_drew1|refine below_set ?_ GE367.out)|exact HB.out)) hb);clear BK367;clear HB;have BK367:=n0_;have HB:=n1_;clear n0_ n1_;(try clear hb);(try clear hb2);(try clear hk);(try clear hi);have hcz19_0 : w18.cell? ⟨gb367,0,none⟩=some (.int .i64 a0_0):=(blk_cell BK367.out 0).trans rfl;have hcz19_1 : w18.cell? ⟨gb367,1,none⟩=some (.int .i64 a0_1):=(blk_cell BK367.out 1).trans rfl;have hcz19_2 : w18.cell? ⟨gb367,2,none⟩=some (.string a0_2):=(blk_cell BK367.out 2).trans rfl;have hfz19_0:=blk_frozen BK367.out 0;have hfz19_1:=blk_frozen BK367.out 1;have hfz19_2:=blk_frozen BK367.out 2)|((with_reducible refine gate_callee (f:=16) rfl ?_);refine goesL_ (some 21) rfl rfl Try.func16 (by kernel_rfl) rfl #[.agg #[.int .i64 a0_0,.int .i64 a0_1,.string a0_2]] rfl (by (try simp only [List.map_toArray,List.map_cons,List.map_nil]);first|done|rfl|(simp only [List.length_drop,List.length_take];rfl)|(simp only [gt_iff_lt,ge_iff_le,Int.ofNat_lt,Int.ofNat_le];rfl)) ?_;(with_reducible refine (laws_toValue.calls  a0_0 a0_1 a0_2 t374 t375 t376 _ A9.out).mono ?_);rintro e w20 ⟨rfl,hb⟩;refine ⟨_,rfl,?_⟩;have n0_:=Aside0.mk (blk_below (g:=gb367) (o:=.cells #[.int .i64 a0_0,.int .i64 a0_1,.string a0_2] 23 (0,0)) (by (with_reducible repeat (first|refine blk_drewN ?_ _|refine blk_drew ?_|refine blk_alloc ?_ _));exact BK367.out) hb);have n1_:=Aside0.mk (below_step (by repeat (first|(with_reducible first|exact HB.out|apply below_alloc|apply pw_below_drewN|apply below_drew1|refine below_set ?_ GE367.out)|exact HB.out)) hb);clear BK367;clear HB;have BK367:=n0_;have HB:=n1_;clear n0_ n1_;(try clear hb);(try clear hb2);(try clear hk);(try clear hi))|((with_reducible refine gate_callee (f:=24) rfl ?_);refine goesL_ (some 22) rfl rfl Try.func24 (by kernel_rfl) rfl #[.agg #[.int .i64 t374,.int .i64 t375,.string t376]] rfl (by (try simp only [List.map_toArray,List.map_cons,List.map_nil]);first|done|rfl|(simp only [List.length_drop,List.length_take];rfl)|(simp only [gt_iff_lt,ge_iff_le,Int.ofNat_lt,Int.ofNat_le];rfl)) ?_;(with_reducible refine (impl_DepthOf.calls k  t374 t375 t376 t377 t378 _ A10.out).mono ?_);rintro e w21 ⟨rfl,hb⟩;refine ⟨_,rfl,?_⟩;have n0_:=Aside0.mk (blk_below (g:=gb367) (o:=.cells #[.int .i64 a0_0,.int .i64 a0_1,.string a0_2] 23 (0,0)) (by (with_reducible repeat (first|refine blk_drewN ?_ _|refine blk_drew ?_|refine blk_alloc ?_ _));exact BK367.out) hb);have n1_:=Aside0.mk (below_step (by repeat (first|(with_reducible first|exact HB.out|apply below_alloc|apply pw_below_drewN|apply below_drew1|refine below_set ?_ GE367.out)|exact HB.out)) hb);clear BK367;clear HB;have BK367:=n0_;have HB:=n1_;clear n0_ n1_;(try clear hb);(try clear hb2);(try clear hk);(try clear hi)))
    go_ret
    exact ⟨by first|rfl|(simp [errW_none,errW_some] <;> rfl)|(simp [*,errW_none,errW_some] <;> rfl),by repeat (first|(with_reducible first|exact HB.out|apply below_alloc|apply pw_below_drewN|apply below_drew1|refine below_set ?_ GE367.out)|exact HB.out)⟩
   ·
    rw [if_neg c12] at H
    have c12b0 : (t378 == t373)=false:=beq_eq_false_iff_ne.mpr c12
    have c12b1 : (t378 != t373)=true:=bne_iff_ne.mpr c12
    obtain rfl:=Option.some.inj H
    go_enter Try.func5,Try.ntmps5
    go_wp2_with (first|((with_reducible refine gate_dst (N:=1) rfl ?_);refine box_event ?hg (N:=1) ?hd (cs:=#[.int .i64 a0_0,.int .i64 a0_1,.string a0_2]) (t:=23) ?hr ?_;(case hd => rfl);(case hg => rfl);(case hr => first|(go_simp;done)|(go_simp;rfl));intro gb367 hg w22 hbox hb;have n0_:=Aside0.mk (below_step (by repeat (first|(with_reducible first|exact HB.out|apply below_alloc|apply pw_below_drewN|apply below_drew1)|exact HB.out)) hb);have n1_:=Aside0.mk (hbox);have n2_:=Aside0.mk ((by rw [hg];exact (below_size (by repeat (first|(with_reducible first|exact HB.out|apply below_alloc|apply pw_below_drewN|apply below_drew1)|exact HB.out))) : w.heap.size≤gb367));have n3_:=Aside0.mk ((by rw [hg];exact (below_size (by repeat (first|(with_reducible first|exact HB.out|apply below_alloc|apply pw_below_drewN|apply below_drew1)|exact HB.out))) : w.heap.size≤gb367));clear HB;have HB:=n0_;have BK367:=n1_;have GW367:=n2_;have GE367:=n3_;clear n0_ n1_ n2_ n3_;clear hb hbox hg;have hcz23_0 : w22.cell? ⟨gb367,0,none⟩=some (.int .i64 a0_0):=(blk_cell BK367.out 0).trans rfl;have hcz23_1 : w22.cell? ⟨gb367,1,none⟩=some (.int .i64 a0_1):=(blk_cell BK367.out 1).trans rfl;have hcz23_2 : w22.cell? ⟨gb367,2,none⟩=some (.string a0_2):=(blk_cell BK367.out 2).trans rfl;have hfz23_0:=blk_frozen BK367.out 0;have hfz23_1:=blk_frozen BK367.out 1;have hfz23_2:=blk_frozen BK367.out 2)|((with_reducible refine gate_callee (f:=14) rfl ?_);refine goesL_ (some 10) rfl rfl Try.func14 (by kernel_rfl) rfl #[.agg #[.int .i64 a0_0,.int .i64 a0_1,.string a0_2],.int .i64 1048576] rfl (by (try simp only [List.map_toArray,List.map_cons,List.map_nil]);first|done|rfl|(simp only [List.length_drop,List.length_take];rfl)|(simp only [gt_iff_lt,ge_iff_le,Int.ofNat_lt,Int.ofNat_le];rfl)) ?_;(with_reducible refine (laws_szValue.calls  a0_0 a0_1 a0_2 1048576 t368 _ A2.out).mono ?_);rintro e w24 ⟨rfl,hb⟩;refine ⟨_,rfl,?_⟩;have n0_:=Aside0.mk (blk_below (g:=gb367) (o:=.cells #[.int .i64 a0_0,.int .i64 a0_1,.string a0_2] 23 (0,0)) (by (with_reducible repeat (first|refine blk_drewN ?_ _|refine blk_drew ?_|refine blk_alloc ?_ _));exact BK367.out) hb);have n1_:=Aside0.mk (below_step (by repeat (first|(with_reducible first|exact HB.out|apply below_alloc|apply pw_below_drewN|apply below_drew1|refine below_set ?_ GE367.out)|exact HB.out)) hb);clear BK367;clear HB;have BK367:=n0_;have HB:=n1_;clear n0_ n1_;(try clear hb);(try clear hb2);(try clear hk);(try clear hi);have hcz25_0 : w24.cell? ⟨gb367,0,none⟩=some (.int .i64 a0_0):=(blk_cell BK367.out 0).trans rfl;have hcz25_1 : w24.cell? ⟨gb367,1,none⟩=some (.int .i64 a0_1):=(blk_cell BK367.out 1).trans rfl;have hcz25_2 : w24.cell? ⟨gb367,2,none⟩=some (.string a0_2):=(blk_cell BK367.out 2).trans rfl;have hfz25_0:=blk_frozen BK367.out 0;have hfz25_1:=blk_frozen BK367.out 1;have hfz25_2:=blk_frozen BK367.out 2)|((with_reducible refine gate_callee (f:=16) rfl ?_);refine goesL_ (some 15) rfl rfl Try.func16 (by kernel_rfl) rfl #[.agg #[.int .i64 a0_0,.int .i64 a0_1,.string a0_2]] rfl (by (try simp only [List.map_toArray,List.map_cons,List.map_nil]);first|done|rfl|(simp only [List.length_drop,List.length_take];rfl)|(simp only [gt_iff_lt,ge_iff_le,Int.ofNat_lt,Int.ofNat_le];rfl)) ?_;(with_reducible refine (laws_toValue.calls  a0_0 a0_1 a0_2 t369 t370 t371 _ A7.out).mono ?_);rintro e w26 ⟨rfl,hb⟩;refine ⟨_,rfl,?_⟩;have n0_:=Aside0.mk (blk_below (g:=gb367) (o:=.cells #[.int .i64 a0_0,.int .i64 a0_1,.string a0_2] 23 (0,0)) (by (with_reducible repeat (first|refine blk_drewN ?_ _|refine blk_drew ?_|refine blk_alloc ?_ _));exact BK367.out) hb);have n1_:=Aside0.mk (below_step (by repeat (first|(with_reducible first|exact HB.out|apply below_alloc|apply pw_below_drewN|apply below_drew1|refine below_set ?_ GE367.out)|exact HB.out)) hb);clear BK367;clear HB;have BK367:=n0_;have HB:=n1_;clear n0_ n1_;(try clear hb);(try clear hb2);(try clear hk);(try clear hi))|((with_reducible refine gate_callee (f:=23) rfl ?_);refine goesL_ (some 16) rfl rfl Try.func23 (by kernel_rfl) rfl #[.agg #[.int .i64 t369,.int .i64 t370,.string t371]] rfl (by (try simp only [List.map_toArray,List.map_cons,List.map_nil]);first|done|rfl|(simp only [List.length_drop,List.length_take];rfl)|(simp only [gt_iff_lt,ge_iff_le,Int.ofNat_lt,Int.ofNat_le];rfl)) ?_;(with_reducible refine (spec_DepthOf.calls k  t369 t370 t371 t372 t373 _ A8.out).mono ?_);rintro e w27 ⟨rfl,hb⟩;refine ⟨_,rfl,?_⟩;have n0_:=Aside0.mk (blk_below (g:=gb367) (o:=.cells #[.int .i64 a0_0,.int .i64 a0_1,.string a0_2] 23 (0,0)) (by (with_reducible repeat (first|refine blk_drewN ?_ _|refine blk_drew ?_|refine blk_alloc ?_ _));exact BK367.out) hb);have n1_:=Aside0.mk (below_step (by repeat (first|(with_reducible first|exact HB.out|apply below_alloc|apply pw_below_drewN|apply below_drew1|refine below_set ?_ GE367.out)|exact HB.out)) hb);clear BK367;clear HB;have BK367:=n0_;have HB:=n1_;clear n0_ n1_;(try clear hb);(try clear hb2);(try clear hk);(try clear hi);have hcz28_0 : w27.cell? ⟨gb367,0,none⟩=some (.int .i64 a0_0):=(blk_cell BK367.out 0).trans rfl;have hcz28_1 : w27.cell? ⟨gb367,1,none⟩=some (.int .i64 a0_1):=(blk_cell BK367.out 1).trans rfl;have hcz28_2 : w27.cell? ⟨gb367,2,none⟩=some (.string a0_2):=(blk_cell BK367.out 2).trans rfl;have hfz28_0:=blk_frozen BK367.out 0;have hfz28_1:=blk_frozen BK367.out 1;have hfz28_2:=blk_frozen BK367.out 2)|((with_reducible refine gate_callee (f:=16) rfl ?_);refine goesL_ (some 21) rfl rfl Try.func16 (by kernel_rfl) rfl #[.agg #[.int .i64 a0_0,.int .i64 a0_1,.string a0_2]] rfl (by (try simp only [List.map_toArray,List.map_cons,List.map_nil]);first|done|rfl|(simp only [List.length_drop,List.length_take];rfl)|(simp only [gt_iff_lt,ge_iff_le,Int.ofNat_lt,Int.ofNat_le];rfl)) ?_;(with_reducible refine (laws_toValue.calls  a0_0 a0_1 a0_2 t374 t375 t376 _ A9.out).mono ?_);rintro e w29 ⟨rfl,hb⟩;refine ⟨_,rfl,?_⟩;have n0_:=Aside0.mk (blk_below (g:=gb367) (o:=.cells #[.int .i64 a0_0,.int .i64 a0_1,.string a0_2] 23 (0,0)) (by (with_reducible repeat (first|refine blk_drewN ?_ _|refine blk_drew ?_|refine blk_alloc ?_ _));exact BK367.out) hb);have n1_:=Aside0.mk (below_step (by repeat (first|(with_reducible first|exact HB.out|apply below_alloc|apply pw_below_drewN|apply below_drew1|refine below_set ?_ GE367.out)|exact HB.out)) hb);clear BK367;clear HB;have BK367:=n0_;have HB:=n1_;clear n0_ n1_;(try clear hb);(try clear hb2);(try clear hk);(try clear hi))|((with_reducible refine gate_callee (f:=24) rfl ?_);refine goesL_ (some 22) rfl rfl Try.func24 (by kernel_rfl) rfl #[.agg #[.int .i64 t374,.int .i64 t375,.string t376]] rfl (by (try simp only [List.map_toArray,List.map_cons,List.map_nil]);first|done|rfl|(simp only [List.length_drop,List.length_take];rfl)|(simp only [gt_iff_lt,ge_iff_le,Int.ofNat_lt,Int.ofNat_le];rfl)) ?_;(with_reducible refine (impl_DepthOf.calls k  t374 t375 t376 t377 t378 _ A10.out).mono ?_);rintro e w30 ⟨rfl,hb⟩;refine ⟨_,rfl,?_⟩;have n0_:=Aside0.mk (blk_below (g:=gb367) (o:=.cells #[.int .i64 a0_0,.int .i64 a0_1,.string a0_2] 23 (0,0)) (by (with_reducible repeat (first|refine blk_drewN ?_ _|refine blk_drew ?_|refine blk_alloc ?_ _));exact BK367.out) hb);have n1_:=Aside0.mk (below_step (by repeat (first|(with_reducible first|exact HB.out|apply below_alloc|apply pw_below_drewN|apply below_drew1|refine below_set ?_ GE367.out)|exact HB.out)) hb);clear BK367;clear HB;have BK367:=n0_;have HB:=n1_;clear n0_ n1_;(try clear hb);(try clear hb2);(try clear hk);(try clear hi)))
    go_ret
    exact ⟨by first|rfl|(simp [errW_none,errW_some] <;> rfl)|(simp [*,errW_none,errW_some] <;> rfl),by repeat (first|(with_reducible first|exact HB.out|apply below_alloc|apply pw_below_drewN|apply below_drew1|refine below_set ?_ GE367.out)|exact HB.out)⟩
  ·
   rw [if_neg c11] at H
   have c11b0 : (t377 == t372)=false:=beq_eq_false_iff_ne.mpr c11
   have c11b1 : (t377 != t372)=true:=bne_iff_ne.mpr c11
   obtain rfl:=Option.some.inj H
   go_enter Try.func5,Try.ntmps5
   go_wp2_with (first|((with_reducible refine gate_dst (N:=1) rfl ?_);refine box_event ?hg (N:=1) ?hd (cs:=#[.int .i64 a0_0,.int .i64 a0_1,.string a0_2]) (t:=23) ?hr ?_;(case hd => rfl);(case hg => rfl);(case hr => first|(go_simp;done)|(go_simp;rfl));intro gb367 hg w31 hbox hb;have n0_:=Aside0.mk (below_step (by repeat (first|(with_reducible first|exact HB.out|apply below_alloc|apply pw_below_drewN|apply below_drew1)|exact HB.out)) hb);have n1_:=Aside0.mk (hbox);have n2_:=Aside0.mk ((by rw [hg];exact (below_size (by repeat (first|(with_reducible first|exact HB.out|apply below_alloc|apply pw_below_drewN|apply below_drew1)|exact HB.out))) : w.heap.size≤gb367));have n3_:=Aside0.mk ((by rw [hg];exact (below_size (by repeat (first|(with_reducible first|exact HB.out|apply below_alloc|apply pw_below_drewN|apply below_drew1)|exact HB.out))) : w.heap.size≤gb367));clear HB;have HB:=n0_;have BK367:=n1_;have GW367:=n2_;have GE367:=n3_;clear n0_ n1_ n2_ n3_;clear hb hbox hg;have hcz32_0 : w31.cell? ⟨gb367,0,none⟩=some (.int .i64 a0_0):=(blk_cell BK367.out 0).trans rfl;have hcz32_1 : w31.cell? ⟨gb367,1,none⟩=some (.int .i64 a0_1):=(blk_cell BK367.out 1).trans rfl;have hcz32_2 : w31.cell? ⟨gb367,2,none⟩=some (.string a0_2):=(blk_cell BK367.out 2).trans rfl;have hfz32_0:=blk_frozen BK367.out 0;have hfz32_1:=blk_frozen BK367.out 1;have hfz32_2:=blk_frozen BK367.out 2)|((with_reducible refine gate_callee (f:=14) rfl ?_);refine goesL_ (some 10) rfl rfl Try.func14 (by kernel_rfl) rfl #[.agg #[.int .i64 a0_0,.int .i64 a0_1,.string a0_2],.int .i64 1048576] rfl (by (try simp only [List.map_toArray,List.map_cons,List.map_nil]);first|done|rfl|(simp only [List.length_drop,List.length_take];rfl)|(simp only [gt_iff_lt,ge_iff_le,Int.ofNat_lt,Int.ofNat_le];rfl)) ?_;(with_reducible refine (laws_szValue.calls  a0_0 a0_1 a0_2 1048576 t368 _ A2.out).mono ?_);rintro e w33 ⟨rfl,hb⟩;refine ⟨_,rfl,?_⟩;have n0_:=Aside0.mk (blk_below (g:=gb367) (o:=.cells #[.int .i64 a0_0,.int .i64 a0_1,.string a0_2] 23 (0,0)) (by (with_reducible repeat (first|refine blk_drewN ?_ _|refine blk_drew ?_|refine blk_alloc ?_ _));exact BK367.out) hb);have n1_:=Aside0.mk (below_step (by repeat (first|(with_reducible first|exact HB.out|apply below_alloc|apply pw_below_drewN|apply below_drew1|refine below_set ?_ GE367.out)|exact HB.out)) hb);clear BK367;clear HB;have BK367:=n0_;have HB:=n1_;clear n0_ n1_;(try clear hb);(try clear hb2);(try clear hk);(try clear hi);have hcz34_0 : w33.cell? ⟨gb367,0,none⟩=some (.int .i64 a0_0):=(blk_cell BK367.out 0).trans rfl;have hcz34_1 : w33.cell? ⟨gb367,1,none⟩=some (.int .i64 a0_1):=(blk_cell BK367.out 1).trans rfl;have hcz34_2 : w33.cell? ⟨gb367,2,none⟩=some (.string a0_2):=(blk_cell BK367.out 2).trans rfl;have hfz34_0:=blk_frozen BK367.out 0;have hfz34_1:=blk_frozen BK367.out 1;have hfz34_2:=blk_frozen BK367.out 2)|((with_reducible refine gate_callee (f:=16) rfl ?_);refine goesL_ (some 15) rfl rfl Try.func16 (by kernel_rfl) rfl #[.agg #[.int .i64 a0_0,.int .i64 a0_1,.string a0_2]] rfl (by (try simp only [List.map_toArray,List.map_cons,List.map_nil]);first|done|rfl|(simp only [List.length_drop,List.length_take];rfl)|(simp only [gt_iff_lt,ge_iff_le,Int.ofNat_lt,Int.ofNat_le];rfl)) ?_;(with_reducible refine (laws_toValue.calls  a0_0 a0_1 a0_2 t369 t370 t371 _ A7.out).mono ?_);rintro e w35 ⟨rfl,hb⟩;refine ⟨_,rfl,?_⟩;have n0_:=Aside0.mk (blk_below (g:=gb367) (o:=.cells #[.int .i64 a0_0,.int .i64 a0_1,.string a0_2] 23 (0,0)) (by (with_reducible repeat (first|refine blk_drewN ?_ _|refine blk_drew ?_|refine blk_alloc ?_ _));exact BK367.out) hb);have n1_:=Aside0.mk (below_step (by repeat (first|(with_reducible first|exact HB.out|apply below_alloc|apply pw_below_drewN|apply below_drew1|refine below_set ?_ GE367.out)|exact HB.out)) hb);clear BK367;clear HB;have BK367:=n0_;have HB:=n1_;clear n0_ n1_;(try clear hb);(try clear hb2);(try clear hk);(try clear hi))|((with_reducible refine gate_callee (f:=23) rfl ?_);refine goesL_ (some 16) rfl rfl Try.func23 (by kernel_rfl) rfl #[.agg #[.int .i64 t369,.int .i64 t370,.string t371]] rfl (by (try simp only [List.map_toArray,List.map_cons,List.map_nil]);first|done|rfl|(simp only [List.length_drop,List.length_take];rfl)|(simp only [gt_iff_lt,ge_iff_le,Int.ofNat_lt,Int.ofNat_le];rfl)) ?_;(with_reducible refine (spec_DepthOf.calls k  t369 t370 t371 t372 t373 _ A8.out).mono ?_);rintro e w36 ⟨rfl,hb⟩;refine ⟨_,rfl,?_⟩;have n0_:=Aside0.mk (blk_below (g:=gb367) (o:=.cells #[.int .i64 a0_0,.int .i64 a0_1,.string a0_2] 23 (0,0)) (by (with_reducible repeat (first|refine blk_drewN ?_ _|refine blk_drew ?_|refine blk_alloc ?_ _));exact BK367.out) hb);have n1_:=Aside0.mk (below_step (by repeat (first|(with_reducible first|exact HB.out|apply below_alloc|apply pw_below_drewN|apply below_drew1|refine below_set ?_ GE367.out)|exact HB.out)) hb);clear BK367;clear HB;have BK367:=n0_;have HB:=n1_;clear n0_ n1_;(try clear hb);(try clear hb2);(try clear hk);(try clear hi);have hcz37_0 : w36.cell? ⟨gb367,0,none⟩=some (.int .i64 a0_0):=(blk_cell BK367.out 0).trans rfl;have hcz37_1 : w36.cell? ⟨gb367,1,none⟩=some (.int .i64 a0_1):=(blk_cell BK367.out 1).trans rfl;have hcz37_2 : w36.cell? ⟨gb367,2,none⟩=some (.string a0_2):=(blk_cell BK367.out 2).trans rfl;have hfz37_0:=blk_frozen BK367.out 0;have hfz37_1:=blk_frozen BK367.out 1;have hfz37_2:=blk_frozen BK367.out 2)|((with_reducible refine gate_callee (f:=16) rfl ?_);refine goesL_ (some 21) rfl rfl Try.func16 (by kernel_rfl) rfl #[.agg #[.int .i64 a0_0,.int .i64 a0_1,.string a0_2]] rfl (by (try simp only [List.map_toArray,List.map_cons,List.map_nil]);first|done|rfl|(simp only [List.length_drop,List.length_take];rfl)|(simp only [gt_iff_lt,ge_iff_le,Int.ofNat_lt,Int.ofNat_le];rfl)) ?_;(with_reducible refine (laws_toValue.calls  a0_0 a0_1 a0_2 t374 t375 t376 _ A9.out).mono ?_);rintro e w38 ⟨rfl,hb⟩;refine ⟨_,rfl,?_⟩;have n0_:=Aside0.mk (blk_below (g:=gb367) (o:=.cells #[.int .i64 a0_0,.int .i64 a0_1,.string a0_2] 23 (0,0)) (by (with_reducible repeat (first|refine blk_drewN ?_ _|refine blk_drew ?_|refine blk_alloc ?_ _));exact BK367.out) hb);have n1_:=Aside0.mk (below_step (by repeat (first|(with_reducible first|exact HB.out|apply below_alloc|apply pw_below_drewN|apply below_drew1|refine below_set ?_ GE367.out)|exact HB.out)) hb);clear BK367;clear HB;have BK367:=n0_;have HB:=n1_;clear n0_ n1_;(try clear hb);(try clear hb2);(try clear hk);(try clear hi))|((with_reducible refine gate_callee (f:=24) rfl ?_);refine goesL_ (some 22) rfl rfl Try.func24 (by kernel_rfl) rfl #[.agg #[.int .i64 t374,.int .i64 t375,.string t376]] rfl (by (try simp only [List.map_toArray,List.map_cons,List.map_nil]);first|done|rfl|(simp only [List.length_drop,List.length_take];rfl)|(simp only [gt_iff_lt,ge_iff_le,Int.ofNat_lt,Int.ofNat_le];rfl)) ?_;(with_reducible refine (impl_DepthOf.calls k  t374 t375 t376 t377 t378 _ A10.out).mono ?_);rintro e w39 ⟨rfl,hb⟩;refine ⟨_,rfl,?_⟩;have n0_:=Aside0.mk (blk_below (g:=gb367) (o:=.cells #[.int .i64 a0_0,.int .i64 a0_1,.string a0_2] 23 (0,0)) (by (with_reducible repeat (first|refine blk_drewN ?_ _|refine blk_drew ?_|refine blk_alloc ?_ _));exact BK367.out) hb);have n1_:=Aside0.mk (below_step (by repeat (first|(with_reducible first|exact HB.out|apply below_alloc|apply pw_below_drewN|apply below_drew1|refine below_set ?_ GE367.out)|exact HB.out)) hb);clear BK367;clear HB;have BK367:=n0_;have HB:=n1_;clear n0_ n1_;(try clear hb);(try clear hb2);(try clear hk);(try clear hi)))
   go_ret
   exact ⟨by first|rfl|(simp [errW_none,errW_some] <;> rfl)|(simp [*,errW_none,errW_some] <;> rfl),by repeat (first|(with_reducible first|exact HB.out|apply below_alloc|apply pw_below_drewN|apply below_drew1|refine below_set ?_ GE367.out)|exact HB.out)⟩

end Go.Proofs.Ytpmeglcmhiihoaa.Q
end
section
namespace Go.Proofs.YtpmeglcmhiihoaaW.PrintOpen
open Go.RowKit Go.ChangeShapes Go.WideShapes Go.ChangeAt Go.Proofs.YtpmeglcmhiihoaaW.PrintWords
def Opens {α : Type} (P : Program) (d : Kd α) (t : TypeId) (good : α→Prop) : Prop :=
  ∀ (H : Type) (enc : TypeId×Value→H) (w : World) (base : Nat) (spare : Nat→Bool) (held : Bool) (fuel : Nat) (cs : List Value) (x : DataW H×List MemPlace),
    DataW.trod enc P w base spare held fuel t cs=some x → ∃ a,d.K w a cs∧good a
variable {P : Program}
theorem opens_int {t : TypeId} {k : IntKind} (ht : P.underlying t=some (.int k)) : Opens P (Kd.int k) t (fun n => (Lit.int k n).wf=true):=by
  intro H enc w base spare held fuel cs x h
  obtain ⟨n,hcs,_,hw⟩:=DataW.trod_int ht h
  exact ⟨n,hcs,hw⟩
theorem opens_string {t : TypeId} (ht : P.underlying t=some .string) : Opens P Kd.string t (fun s => s.size≤9223372036854775807):=by
  intro H enc w base spare held fuel cs x h
  obtain ⟨s,hcs,_,hs⟩:=DataW.trod_string ht h
  exact ⟨s,hcs,by unfold maxLen at hs;exact hs⟩
def OpensF {α : Type} (P : Program) (d : Kd α) (fs : List Field) (off : Nat) (good : α→Prop) : Prop :=
  ∀ (H : Type) (enc : TypeId×Value→H) (w : World) (base : Nat) (spare : Nat→Bool) (held : Bool) (fuel : Nat) (cs : List Value),off + d.sz≤cs.length →
    (∀ f ∈ fs,∃ x,DataW.trod enc P w base spare held fuel f.type ((cs.drop f.offset).take (P.cellsOf f.type))=some x) → ∃ a,d.K w a ((cs.drop off).take d.sz)∧good a
theorem opensF_one {α : Type} {d : Kd α} {f : Field} {off : Nat} {g : α→Prop} (ho : f.offset=off) (hc : P.cellsOf f.type=d.sz) (h : Opens P d f.type g) : OpensF P d [f] off g:=by
  intro H enc w base spare held fuel cs _ hf
  obtain ⟨x,hx⟩:=hf f (by simp)
  obtain ⟨a,hk,hg⟩:=h H enc w base spare held fuel _ x hx
  rw [ho,hc] at hk
  exact ⟨a,hk,hg⟩
theorem opensF_cons {α β : Type} {d : Kd α} {d' : Kd β} {f : Field} {fs : List Field} {off : Nat} {g : α→Prop} {g' : β→Prop} (ho : f.offset=off) (hc : P.cellsOf f.type=d.sz) (h : Opens P d f.type g) (h' : OpensF P d' fs (off + d.sz) g') :
    OpensF P (Kd.pair d d') (f :: fs) off (fun x => g x.1∧g' x.2):=by
  intro H enc w base spare held fuel cs hl hf
  obtain ⟨x,hx⟩:=hf f (by simp)
  obtain ⟨a,hk,hg⟩:=h H enc w base spare held fuel _ x hx
  have hl2 : off + (d.sz + d'.sz)≤cs.length:=hl
  obtain ⟨b,hk',hg'⟩:=h' H enc w base spare held fuel cs (by omega) (fun f' hf' => hf f' (by simp [hf']))
  rw [ho,hc] at hk
  refine ⟨(a,b),⟨_,_,?_,hk,hk'⟩,hg,hg'⟩
  show (cs.drop off).take (d.sz + d'.sz)=_
  rw [List.take_add,List.drop_drop]
theorem opens_struct {α β : Type} {t : TypeId} {fs : Array Field} {d : Kd α} {g : α→Prop} {f : β→α} (f' : α→β) (hf : ∀ a,f (f' a)=a) (ht : P.underlying t=some (.struct fs)) (hc : P.cellsOf t=d.sz) (h : OpensF P d fs.toList 0 g) :
    Opens P (Kd.iso d f) t (fun b => g (f b)):=by
  intro H enc w base spare held fuel cs x hx
  obtain ⟨xs,n,_,_,hl,hlen,hxs⟩:=DataW.trod_struct ht hx
  obtain ⟨a,hk,hg⟩:=h H enc w base spare held n cs (by omega) (fun y hy => by
    obtain ⟨i,hi⟩:=List.mem_iff_getElem?.1 hy
    have:=hxs i y (by simpa using hi)
    have hlt : i<xs.length:=by
      have:=(List.getElem?_eq_some_iff.1 hi).1
      rw [hlen]
      simpa using this
    rw [List.getElem?_eq_getElem hlt] at this
    exact ⟨_,this⟩)
  rw [List.drop_zero,show d.sz=cs.length by omega,List.take_length] at hk
  exact ⟨f' a,by show d.K w (f (f' a)) cs;rw [hf];exact hk,by show g (f (f' a));rw [hf];exact hg⟩
theorem arg_struct {α : Type} {d : Kd α} {t : TypeId} {fs : Array Field} {g : α→Prop} {H : Type} {enc : TypeId×Value→H} {w : World} {base b0 : Nat} {spare : Nat→Bool} {held : Bool} {r : Reach} {v : Value} {dd : DataW H} {p : List MemPlace}
    (ht : P.underlying t=some (.struct fs)) (h : Opens P d t g) (hv : Value.okWide P w r b0 t v) (hd : DataW.Trod enc P w base spare held t v dd p) : ∃ (a : α) (cs : List Value),v = .agg ⟨cs⟩∧d.K w a cs∧g a:=by
  obtain ⟨cs,rfl,_⟩:=okWide_struct ht hv
  obtain ⟨fuel,hf⟩:=hd
  obtain ⟨a,hk,hg⟩:=h H enc w base spare held fuel _ _ hf
  exact ⟨a,cs.toList,rfl,hk,hg⟩
end Go.Proofs.YtpmeglcmhiihoaaW.PrintOpen
end
section
namespace Go.Proofs.Ytpmeglcmhiihoaa.Q
open Go.RowKit Go.Proofs.YtpmeglcmhiihoaaW.PrintWords Go.Proofs.YtpmeglcmhiihoaaW.PrintLast Go.Proofs.YtpmeglcmhiihoaaW.PrintMore Go.Proofs.YtpmeglcmhiihoaaW.PrintOpen
def good23 (x_ : S23) : Prop:=((Lit.int .i64 x_.f0).wf=true)∧(((Lit.int .i64 x_.f1).wf=true)∧((x_.f2.size≤9223372036854775807)))
theorem opens23 : Opens Try.prog k23 23 good23 :=
  opens_struct (f:=(fun x : S23 => (x.f0,x.f1,x.f2))) (fun ⟨x0,x1,x2⟩ => ⟨x0,x1,x2⟩) (fun _ => rfl) Try.underlying23 (by kernel_rfl) (opensF_cons rfl (by kernel_rfl) (opens_int Try.underlying3) (opensF_cons rfl (by kernel_rfl) (opens_int Try.underlying3) (opensF_one rfl (by kernel_rfl) (opens_string Try.underlying9))))
end Go.Proofs.Ytpmeglcmhiihoaa.Q
end
section
namespace Go.Proofs.Ytpmeglcmhiihoaa.Q
def laws_FnExactDepthOf.Pure : Prop:=∀ (x0 : S23),(good23 x0) → ∃ k,laws_FnExactDepthOf.f k x0.f0 x0.f1 x0.f2=some true
end Go.Proofs.Ytpmeglcmhiihoaa.Q
end
section
namespace Go.Proofs.YtpmeglcmhiihoaaW.Pl
open Go Go.RowKit Go.Proofs.YtpmeglcmhiihoaaW.PrintWords Go.Proofs.YtpmeglcmhiihoaaW.PrintMore
theorem w64 {i : Int} (h0 : -9223372036854775808≤i) (h1 : i≤9223372036854775807) : wrap64 i=i:=by unfold wrap64;omega
theorem fuel {k d : Nat} (h : d<k) : ∃ m,k=m + 1∧d≤m:=⟨k - 1,by omega,by omega⟩
theorem rd_at (xs : List Int) (i : Nat) (h : i<xs.length) : rd xs (i : Int)=xs[i]:=by
  unfold rd
  simp [List.getD,h]
theorem getD_at {α : Type} (d : α) (xs : List α) (i : Nat) (h : i<xs.length) : xs.getD (i : Int).toNat d=xs[i]:=by
  simp [List.getD,h]
theorem drop_at {α : Type} (xs : List α) (i : Nat) (h : i<xs.length) : xs.drop i=xs[i] :: xs.drop (i + 1):=List.drop_eq_getElem_cons h
theorem ba_toList (a : ByteArray) : a.toList=a.data.toList:=ByteArray.toList_eq a
def all2 {α β : Type} (e : α→β→Bool) : List α→List β→Bool
  | [],_ => true
  | _ :: _,[] => true
  | x :: xs,y :: ys => e x y && all2 e xs ys
def first {α : Type} (p : α→Bool) : List α→Nat→Int
  | [],_ => -1
  | x :: xs,i => if p x=true then i else first p xs (i + 1)
theorem first_any {α : Type} (p : α→Bool) : ∀ (xs : List α) (i : Nat),decide (first p xs i ≥ 0)=xs.any p
  | [],i => rfl
  | x :: xs,i => by
    by_cases h : p x=true
    · simp [first,h]
    · simp only [first,if_neg h,List.any_cons,first_any p xs (i + 1)]
      simp [h]
theorem first_loop {α : Type} (g : Nat→Int→Option Int) (xs : List α) (p : α→Bool)
    (hstep : ∀ (k i : Nat) (h : i<xs.length),g (k + 1) (i : Int)=if p xs[i]=true then some (i : Int) else g k ((i + 1 : Nat) : Int))
    (hend : ∀ k,g (k + 1) (xs.length : Int)=some (-1)) : ∀ (d k i : Nat),i + d=xs.length→d<k→g k (i : Int)=some (first p (xs.drop i) i):=by
  intro d
  induction d with
  | zero =>
    intro k i hi hk
    obtain ⟨k,rfl,_⟩:=fuel hk
    obtain rfl : i=xs.length:=by omega
    rw [hend,List.drop_length];rfl
  | succ d ih =>
    intro k i hi hk
    obtain ⟨k,rfl,_⟩:=fuel hk
    have hlt : i<xs.length:=by omega
    rw [hstep k i hlt,drop_at xs i hlt]
    by_cases h : p xs[i]=true
    · rw [if_pos h]
      simp [first,h]
    · rw [if_neg h,ih k (i + 1) (by omega) (by omega)]
      simp [first,h]
def total {α : Type} (s : α→Nat) : List α→Nat
  | [] => 0
  | x :: xs => s x + total s xs
def less {α : Type} (s : α→Nat) : List α→Int→Int
  | [],l => l
  | x :: xs,l => if l - s x<0 then -1 else less s xs (l - s x)
end Go.Proofs.YtpmeglcmhiihoaaW.Pl
end
section
namespace Go.Proofs.YtpmeglcmhiihoaaW.Pl
open Go Go.RowKit Go.Proofs.YtpmeglcmhiihoaaW.PrintWords Go.Proofs.YtpmeglcmhiihoaaW.PrintMore
def Eve {α : Type} (g : Nat→Option α) (v : α) : Prop:=∃ K,∀ k,K≤k→g k=some v
theorem Eve.one {α : Type} {v : α} : Eve (fun _ => some v) v:=⟨0,fun _ _ => rfl⟩
theorem Eve.all {α : Type} {g : Nat→Option α} {v : α} (h : ∀ k,g k=some v) : Eve g v:=⟨0,fun k _ => h k⟩
theorem Eve.of {α : Type} {g : Nat→Option α} {v : α} {n : Nat} (h : ∀ k,n<k→g k=some v) : Eve g v:=⟨n + 1,fun k hk => h k (by omega)⟩
theorem Eve.succ {α : Type} {g : Nat→Option α} {v : α} (h : Eve (fun k => g (k + 1)) v) : Eve g v:=by
  obtain ⟨K,h⟩:=h
  refine ⟨K + 1,fun k hk => ?_⟩
  obtain ⟨k,rfl⟩ : ∃ m,k=m + 1:=⟨k - 1,by omega⟩
  exact h k (by omega)
theorem Eve.bind {α β : Type} {g : Nat→Option α} {f : Nat→α→Option β} {v : α} {u : β} (h : Eve g v) (h2 : Eve (fun k => f k v) u) : Eve (fun k => (g k).bind (f k)) u:=by
  obtain ⟨K,h⟩:=h
  obtain ⟨K2,h2⟩:=h2
  refine ⟨max K K2,fun k hk => ?_⟩
  show (g k).bind (f k)=some u
  rw [h k (by omega),Option.bind_some]
  exact h2 k (by omega)
theorem Eve.ite {α : Type} {c : Prop} [Decidable c] {a b : Nat→Option α} {v : α} (h1 : c→Eve a v) (h2 : ¬ c→Eve b v) : Eve (fun k => if c then a k else b k) v:=by
  by_cases h : c
  · simp only [if_pos h];exact h1 h
  · simp only [if_neg h];exact h2 h
theorem Eve.get {α : Type} {g : Nat→Option α} {v : α} (h : Eve g v) : ∃ k,g k=some v:=by
  obtain ⟨K,h⟩:=h
  exact ⟨K,h K (by omega)⟩
theorem Eve.eq {α : Type} {g : Nat→Option α} {v u : α} (h : Eve g v) (e : v=u) : Eve g u:=e ▸ h
theorem Eve.congr {α : Type} {g f : Nat→Option α} {v : α} (h : Eve g v) (e : ∀ k,f k=g k) : Eve f v:=by
  obtain ⟨K,h⟩:=h
  exact ⟨K,fun k hk => by rw [e,h k hk]⟩
theorem ev_loop {σ α β : Type} (xs : List α) (g : Nat→σ→Int→Option β) (R : Nat→σ→List α→β) (I : Nat→σ→Prop)
    (hend : ∀ s,I xs.length s→Eve (fun k => g (k + 1) s (xs.length : Int)) (R xs.length s []))
    (hstep : ∀ (i : Nat) (h : i<xs.length) (s : σ),I i s→(∀ s',I (i + 1) s' → Eve (fun k => g k s' ((i + 1 : Nat) : Int)) (R (i + 1) s' (xs.drop (i + 1)))) →
      Eve (fun k => g (k + 1) s (i : Int)) (R i s (xs[i] :: xs.drop (i + 1)))) :
    ∀ (d i : Nat) (s : σ),i + d=xs.length→I i s→Eve (fun k => g k s (i : Int)) (R i s (xs.drop i)):=by
  intro d
  induction d with
  | zero =>
    intro i s hi hI
    obtain rfl : i=xs.length:=by omega
    rw [List.drop_length]
    exact Eve.succ (hend s hI)
  | succ d ih =>
    intro i s hi hI
    have hlt : i<xs.length:=by omega
    rw [drop_at xs i hlt]
    exact Eve.succ (hstep i hlt s hI (fun s' h' => ih (i + 1) s' (by omega) h'))
theorem ev_loop0 {σ α β : Type} (xs : List α) (g : Nat→σ→Int→Option β) (R : Nat→σ→List α→β) (I : Nat→σ→Prop)
    (hend : ∀ s,I xs.length s→Eve (fun k => g (k + 1) s (xs.length : Int)) (R xs.length s []))
    (hstep : ∀ (i : Nat) (h : i<xs.length) (s : σ),I i s→(∀ s',I (i + 1) s' → Eve (fun k => g k s' ((i + 1 : Nat) : Int)) (R (i + 1) s' (xs.drop (i + 1)))) →
      Eve (fun k => g (k + 1) s (i : Int)) (R i s (xs[i] :: xs.drop (i + 1)))) (s : σ) (h0 : I 0 s) : Eve (fun k => g k s 0) (R 0 s xs):=by
  have:=ev_loop xs g R I hend hstep xs.length 0 s (by omega) h0
  simpa using this
end Go.Proofs.YtpmeglcmhiihoaaW.Pl
end
section
namespace Go.Proofs.Ytpmeglcmhiihoaa.Pure
open Go Go.RowKit Go.Proofs.Ytpmeglcmhiihoaa.Q Go.Proofs.YtpmeglcmhiihoaaW.PrintWords Go.Proofs.YtpmeglcmhiihoaaW.PrintLast Go.Proofs.YtpmeglcmhiihoaaW.PrintMore Go.Proofs.YtpmeglcmhiihoaaW.Pl
theorem wi {i : Nat} (h : i≤9223372036854775806) : wrap64 ((i : Int) + 1)=((i + 1 : Nat) : Int):=w64 (by omega) (by omega)
theorem w64m (y : Int) : wrap64 y=(y + 9223372036854775808) % 18446744073709551616 - 9223372036854775808:=by unfold wrap64;omega
def stp (x b : Int) : Int:=wrap64 (wrap64 (x * 256) + wrap64 b)
theorem or_byte (x b : Int) (h0 : 0≤b) (h1 : b≤255) : Go.bits .or .i64 (wrap64 (x * 256)) (wrap64 b)=stp x b:=by
  have e1 : (BitVec.ofInt 64 (wrap64 (x * 256))).toNat=2 ^ 8 * (x % 72057594037927936).toNat:=by
    rw [BitVec.toNat_ofInt,w64m];omega
  have e2 : (BitVec.ofInt 64 (wrap64 b)).toNat=b.toNat:=by
    rw [BitVec.toNat_ofInt,w64m];omega
  have e3 : (BitVec.ofInt 64 (wrap64 (x * 256)) ||| BitVec.ofInt 64 (wrap64 b)).toNat=2 ^ 8 * (x % 72057594037927936).toNat + b.toNat:=by
    rw [BitVec.toNat_or,e1,e2,Nat.two_pow_add_eq_or_of_lt (by omega)]
  show IntKind.wrap .i64 ((BitVec.ofInt 64 (wrap64 (x * 256)) ||| BitVec.ofInt 64 (wrap64 b)).toNat : Int)=_
  rw [e3,i64_w]
  unfold stp
  rw [w64m,w64m,w64m,w64m]
  omega
def bigV (l : List Int) : Int:=l.foldl stp 0
theorem bytes_in (a : ByteArray) : ∀ b ∈ bytesOf a,0≤b∧b≤255:=by
  intro b hb
  obtain ⟨c,_,rfl⟩:=List.mem_map.1 hb
  have:=c.toNat_lt
  omega
theorem bt_get (a : ByteArray) (i : Nat) (h : i<(bytesOf a).length) : bt a (i : Int)=(bytesOf a)[i]:=by
  rw [← rd_bytesOf,rd_at _ _ h]
theorem big_tells (l : List Int) (hl : l.length≤1048576) (hb : ∀ b ∈ l,0≤b∧b≤255) : Eve (fun k => impl_big.f k l) (bigV l):=by
  simp only [impl_big.f]
  refine ev_loop0 l (fun k (s : Int) i => impl_big.l0 k s l (l.length : Int) i) (fun _ s r => r.foldl stp s) (fun _ _ => True) (fun s _ => ?_) (fun i hi s _ ih => ?_) 0 trivial
  · simp only [impl_big.l0]
    exact Eve.ite (fun h => absurd h (by omega)) (fun _ => Eve.one)
  · have hx:=hb l[i] (List.getElem_mem hi)
    simp only [impl_big.l0]
    refine Eve.ite (fun _ => ?_) (fun h => absurd (by omega) h)
    refine Eve.ite (fun _ => ?_) (fun h => absurd (by omega) h)
    refine Eve.ite (fun _ => ?_) (fun h => absurd (by omega) h)
    simp only [rd_at _ _ hi,or_byte _ _ hx.1 hx.2,wi (show i≤9223372036854775806 by omega)]
    exact ih _ trivial
theorem of_tells (a : ByteArray) (hl : a.size≤1048576) : Eve (fun k => spec_l01Of.f k a) (bigV (bytesOf a)):=by
  have hn : (bytesOf a).length=a.size:=bytesOf_length a
  simp only [spec_l01Of.f]
  refine ev_loop0 (bytesOf a) (fun k (s : Int) i => spec_l01Of.l0 k a s i) (fun _ s r => r.foldl stp s) (fun _ _ => True) (fun s _ => ?_) (fun i hi s _ ih => ?_) 0 trivial
  · simp only [spec_l01Of.l0]
    exact Eve.ite (fun h => absurd h (by omega)) (fun _ => Eve.one)
  · simp only [spec_l01Of.l0]
    refine Eve.ite (fun _ => ?_) (fun h => absurd (by omega) h)
    refine Eve.ite (fun _ => ?_) (fun h => absurd (by omega) h)
    simp only [bt_get a i hi,wi (show i≤9223372036854775806 by omega)]
    exact ih _ trivial
def zer (n : Nat) : ByteArray:=⟨(Lib.repeatL [0] n).toArray⟩
def takV (a : ByteArray) (f : Bool) (n : Nat) : ByteArray×ByteArray×Bool:=if a.size<n then (zer n,a,true) else (a.extract 0 n,a.extract n a.size,f)
def numV (a : ByteArray) (f : Bool) (n : Nat) : Int×ByteArray×Bool:=if a.size<n then (0,a,true) else (bigV (bytesOf (a.extract 0 n)),a.extract n a.size,f)
theorem take_tells (a : ByteArray) (f : Bool) (n : Nat) (hn : n≤65535) : impl_byteReader_take.f a f (n : Int)=some (takV a f n):=by
  unfold impl_byteReader_take.f takV
  by_cases h : a.size<n
  · rw [if_pos (by omega),if_pos h]
    unfold strings_Repeat.f
    rw [if_pos (by omega),if_pos (by rw [show (⟨#[0]⟩ : ByteArray).size=1 from rfl];omega),if_pos (by omega)]
    rfl
  · rw [if_neg (by omega),if_pos (by omega),if_pos (by omega),if_neg h]
    rfl
theorem zer_size (n : Nat) : (zer n).size=n:=by
  show (Lib.repeatL [0] n).toArray.size=n
  rw [List.size_toArray,Lib.repeatL_length];simp
theorem fold_zero : ∀ n : Nat,((Lib.repeatL [0] n).map fun b : UInt8 => (b.toNat : Int)).foldl stp 0=0
  | 0 => rfl
  | n + 1 => by
    have e : stp 0 0=0:=by unfold stp;rw [w64m,w64m,w64m];omega
    simp only [Lib.repeatL,List.cons_append,List.nil_append,List.map_cons,List.foldl_cons]
    rw [show ((0 : UInt8).toNat : Int)=0 from rfl,e]
    exact fold_zero n
theorem big_zer (n : Nat) : bigV (bytesOf (zer n))=0:=by
  unfold bigV bytesOf zer
  exact fold_zero n
theorem num_tells (a : ByteArray) (f : Bool) (n : Nat) (hn : n≤65535) : Eve (fun k => impl_byteReader_num.f k a f (n : Int)) (numV a f n):=by
  simp only [impl_byteReader_num.f,take_tells a f n hn,Option.bind_some]
  unfold takV numV
  by_cases h : a.size<n
  · simp only [if_pos h]
    have hz:=zer_size n
    refine Eve.ite (fun _ => ?_) (fun h => absurd (by omega) h)
    refine Eve.bind (big_tells _ (by rw [bytesOf_length,hz];omega) (bytes_in _)) ?_
    rw [big_zer]
    exact Eve.one
  · simp only [if_neg h]
    have hz : (a.extract 0 n).size≤n:=by rw [ByteArray.size_extract];omega
    refine Eve.ite (fun _ => ?_) (fun h => absurd (by omega) h)
    exact Eve.bind (big_tells _ (by rw [bytesOf_length];omega) (bytes_in _)) Eve.one
theorem big1 (x : Int) (h : 0≤x∧x≤255) : bigV [x]=x:=by
  simp only [bigV,List.foldl_cons,List.foldl_nil,stp]
  rw [w64m,w64m,w64m];omega
theorem big2 (x y : Int) (h : 0≤x∧x≤255) (h2 : 0≤y∧y≤255) : 0≤bigV [x,y]∧bigV [x,y]≤65535:=by
  simp only [bigV,List.foldl_cons,List.foldl_nil,stp]
  simp only [w64m];omega
theorem len1 {l : List Int} (h : l.length=1) : ∃ x,l=[x]:=by
  match l,h with
  | [x],_ => exact ⟨x,rfl⟩
theorem len2 {l : List Int} (h : l.length=2) : ∃ x y,l=[x,y]:=by
  match l,h with
  | [x,y],_ => exact ⟨x,y,rfl⟩
theorem bytes_ext1 (a : ByteArray) (i : Nat) (h : i<a.size) : bigV (bytesOf (a.extract i (i + 1)))=bt a (i : Int):=by
  have hl : (bytesOf (a.extract i (i + 1))).length=1:=by rw [bytesOf_length,ByteArray.size_extract];omega
  obtain ⟨x,hx⟩:=len1 hl
  have h2:=bytes_in (a.extract i (i + 1)) x (by rw [hx];simp)
  have h3:=bt_get (a.extract i (i + 1)) 0 (by omega)
  rw [hx,big1 x h2]
  simp only [hx,List.getElem_cons_zero] at h3
  rw [← h3]
  unfold bt
  have e0 : (((0 : Nat) : Int)).toNat=0:=rfl
  have e1 : ((i : Int)).toNat=i:=Int.toNat_natCast i
  simp only [e0,e1]
  rw [dif_pos (by rw [ByteArray.size_extract];omega),dif_pos h]
  congr 2
  rw [ByteArray.getElem_extract]
  simp
theorem bytes_ext2 (a : ByteArray) (i : Nat) (h : i + 2≤a.size) : 0≤bigV (bytesOf (a.extract i (i + 2)))∧bigV (bytesOf (a.extract i (i + 2)))≤65535:=by
  have hl : (bytesOf (a.extract i (i + 2))).length=2:=by rw [bytesOf_length,ByteArray.size_extract];omega
  obtain ⟨x,y,hx⟩:=len2 hl
  have hb:=bytes_in (a.extract i (i + 2))
  rw [hx] at hb ⊢
  exact big2 x y (hb x (by simp)) (hb y (by simp))
end Go.Proofs.Ytpmeglcmhiihoaa.Pure
end
section
namespace Go.Proofs.Ytpmeglcmhiihoaa.Pure
open Go Go.RowKit Go.Proofs.Ytpmeglcmhiihoaa.Q Go.Proofs.YtpmeglcmhiihoaaW.PrintWords Go.Proofs.YtpmeglcmhiihoaaW.PrintLast Go.Proofs.YtpmeglcmhiihoaaW.PrintMore Go.Proofs.YtpmeglcmhiihoaaW.Pl
abbrev IVal:=S26
abbrev eB : ByteArray:=⟨#[]⟩
abbrev Rd:=Int×Int×ByteArray×ByteArray×Bool
def valV (a : ByteArray) (f : Bool) : Rd :=
  let q:=numV a f 1
  if q.1=1 then (q.1,(numV q.2.1 q.2.2 1).1,eB,(numV q.2.1 q.2.2 1).2.1,(numV q.2.1 q.2.2 1).2.2)
  else if q.1=2 then (q.1,wrap64 ((numV q.2.1 q.2.2 8).1 - 4611686018427387904),eB,(numV q.2.1 q.2.2 8).2.1,(numV q.2.1 q.2.2 8).2.2)
  else if q.1=3∨q.1=4∨q.1=5 then
    let r:=numV q.2.1 q.2.2 2
    (q.1,0,(takV r.2.1 r.2.2 r.1.toNat).1,(takV r.2.1 r.2.2 r.1.toNat).2.1,(takV r.2.1 r.2.2 r.1.toNat).2.2)
  else (q.1,0,eB,q.2.1,q.2.2)
theorem num2_in (a : ByteArray) (f : Bool) : 0≤(numV a f 2).1∧(numV a f 2).1≤65535:=by
  unfold numV
  by_cases h : a.size<2
  · rw [if_pos h];simp
  · rw [if_neg h];exact bytes_ext2 a 0 (by omega)
theorem j0_tells (q x1 : Int) (t : ByteArray) (a : ByteArray) (f : Bool) : Eve (fun k => impl_byteReader_value.j0 k true a f q x1 t) (q,x1,(takV (numV a f 2).2.1 (numV a f 2).2.2 (numV a f 2).1.toNat).1,(takV (numV a f 2).2.1 (numV a f 2).2.2 (numV a f 2).1.toNat).2.1,(takV (numV a f 2).2.1 (numV a f 2).2.2 (numV a f 2).1.toNat).2.2):=by
  refine Eve.succ ?_
  simp only [impl_byteReader_value.j0,if_true]
  refine Eve.bind (num_tells a f 2 (by omega)) ?_
  have hb:=num2_in a f
  have ht:=take_tells (numV a f 2).2.1 (numV a f 2).2.2 (numV a f 2).1.toNat (by omega)
  rw [show (((numV a f 2).1.toNat : Nat) : Int)=(numV a f 2).1 from Int.toNat_of_nonneg hb.1] at ht
  simp only [ht,Option.bind_some]
  exact Eve.one
theorem value_tells (a : ByteArray) (f : Bool) : Eve (fun k => impl_byteReader_value.f k a f) (valV a f):=by
  simp only [impl_byteReader_value.f]
  refine Eve.bind (num_tells a f 1 (by omega)) ?_
  unfold valV
  generalize numV a f 1=q
  simp only
  refine Eve.ite (fun h => ?_) (fun h => ?_)
  · rw [if_pos h]
    exact Eve.bind (num_tells q.2.1 q.2.2 1 (by omega)) Eve.one
  rw [if_neg h]
  refine Eve.ite (fun h2 => ?_) (fun h2 => ?_)
  · rw [if_pos h2]
    exact Eve.bind (num_tells q.2.1 q.2.2 8 (by omega)) Eve.one
  rw [if_neg h2]
  refine Eve.ite (fun h3 => ?_) (fun h3 => ?_)
  · rw [if_pos (.inl h3)]
    simp only [h3,beq_self_eq_true]
    exact j0_tells _ _ _ _ _
  refine Eve.ite (fun h4 => ?_) (fun h4 => ?_)
  · rw [if_pos (.inr (.inl h4))]
    simp only [h4,beq_self_eq_true]
    exact j0_tells _ _ _ _ _
  by_cases h5 : q.1=5
  · rw [if_pos (.inr (.inr h5))]
    simp only [h5,beq_self_eq_true]
    exact j0_tells _ _ _ _ _
  · rw [if_neg (by omega)]
    have : (q.1 == 5)=false:=by simpa using h5
    simp only [this]
    refine Eve.succ ?_
    simp only [impl_byteReader_value.j0,Bool.false_eq_true,if_false]
    exact Eve.one
def nxtV (a : ByteArray) : Option (IVal×ByteArray) :=
  if a.size=0 then none
  else if bt a 0=0 then some (⟨0,0,eB⟩,a.extract 1 a.size)
  else if bt a 0=1 then (if a.size<2 then none else some (⟨1,bt a 1,eB⟩,a.extract 2 a.size))
  else if bt a 0=2 then (if a.size<9 then none else if bt a 1 > 127 then none else some (⟨2,wrap64 (bigV (bytesOf (a.extract 1 9)) - 4611686018427387904),eB⟩,a.extract 9 a.size))
  else if bt a 0=3∨bt a 0=4∨bt a 0=5 then
    (if a.size<3 then none else if (a.size : Int)<3 + bigV (bytesOf (a.extract 1 3)) then none
     else some (⟨bt a 0,0,a.extract 3 (3 + bigV (bytesOf (a.extract 1 3))).toNat⟩,a.extract (3 + bigV (bytesOf (a.extract 1 3))).toNat a.size))
  else none
def told (o : Option (IVal×ByteArray)) : Rd:=match o with|some (v,r) => (v.f0,v.f1,v.f2,r,true)|none => (0,0,eB,eB,false)
theorem wbt (a : ByteArray) (i : Int) : wrap64 (bt a i)=bt a i:=w64 (by have:=bt_range a i;omega) (by have:=bt_range a i;omega)
theorem n0_tells (a : ByteArray) (q : Int) (hs : a.size≤1048576) : Eve (fun k => spec_l01Next.j0 k a true q 0 eB)
    (told (if a.size<3 then none else if (a.size : Int)<3 + bigV (bytesOf (a.extract 1 3)) then none
     else some (⟨q,0,a.extract 3 (3 + bigV (bytesOf (a.extract 1 3))).toNat⟩,a.extract (3 + bigV (bytesOf (a.extract 1 3))).toNat a.size))):=by
  refine Eve.succ ?_
  simp only [spec_l01Next.j0,if_true]
  refine Eve.ite (fun h => ?_) (fun h => ?_)
  · rw [if_pos (by omega)];exact Eve.one
  rw [if_neg (by omega)]
  refine Eve.ite (fun _ => ?_) (fun h => absurd (by omega) h)
  refine Eve.ite (fun _ => ?_) (fun h => absurd (by omega) h)
  refine Eve.bind (of_tells (a.extract 1 3) (by rw [ByteArray.size_extract];omega)) ?_
  have hb:=bytes_ext2 a 1 (by omega)
  simp only [show 1 + 2=3 from rfl] at hb
  have hw : wrap64 (3 + bigV (bytesOf (a.extract 1 3)))=3 + bigV (bytesOf (a.extract 1 3)):=w64 (by omega) (by omega)
  simp only [hw]
  refine Eve.ite (fun h2 => ?_) (fun h2 => ?_)
  · rw [if_pos h2];exact Eve.one
  rw [if_neg h2]
  refine Eve.ite (fun _ => ?_) (fun h => absurd (by omega) h)
  refine Eve.ite (fun _ => ?_) (fun h => absurd (by omega) h)
  exact Eve.ite (fun _ => Eve.one) (fun h => absurd (by omega) h)
theorem next_tells (a : ByteArray) (hs : a.size≤1048576) : Eve (fun k => spec_l01Next.f k a) (told (nxtV a)):=by
  unfold nxtV
  simp only [spec_l01Next.f,wbt]
  refine Eve.ite (fun h => ?_) (fun h => ?_)
  · have hz : a.size=0:=by omega
    rw [if_pos hz];exact Eve.one
  have hz : ¬ a.size=0:=by omega
  rw [if_neg hz]
  refine Eve.ite (fun _ => ?_) (fun h => absurd (by omega) h)
  refine Eve.ite (fun h0 => ?_) (fun h0 => ?_)
  · rw [if_pos h0]
    refine Eve.ite (fun _ => ?_) (fun h => absurd (by omega) h)
    exact Eve.one.eq (by rw [h0];rfl)
  rw [if_neg h0]
  refine Eve.ite (fun h1 => ?_) (fun h1 => ?_)
  · rw [if_pos h1]
    refine Eve.succ ?_
    simp only [spec_l01Next.j1,wbt,h1]
    have hw : wrap64 (1 + 1)=2:=w64 (by omega) (by omega)
    simp only [hw,if_true]
    refine Eve.ite (fun h => ?_) (fun h => ?_)
    · have hy : a.size<2:=by omega
      rw [if_pos hy];exact Eve.one
    have hy : ¬ a.size<2:=by omega
    rw [if_neg hy]
    refine Eve.ite (fun _ => ?_) (fun h => absurd (by omega) h)
    refine Eve.ite (fun _ => ?_) (fun h => absurd (by omega) h)
    exact Eve.ite (fun _ => Eve.one) (fun h => absurd (by omega) h)
  rw [if_neg h1]
  refine Eve.ite (fun h2 => ?_) (fun h2 => ?_)
  · rw [if_pos h2]
    refine Eve.succ ?_
    simp only [spec_l01Next.j1,h2]
    have hw : wrap64 (1 + 8)=9:=w64 (by omega) (by omega)
    simp only [hw]
    refine Eve.ite (fun h => ?_) (fun h => ?_)
    · have hy : a.size<9:=by omega
      rw [if_pos hy];exact Eve.one
    have hy : ¬ a.size<9:=by omega
    rw [if_neg hy]
    refine Eve.ite (fun h => absurd h (by omega)) (fun _ => ?_)
    refine Eve.ite (fun _ => ?_) (fun h => absurd (by omega) h)
    refine Eve.ite (fun h => ?_) (fun h => ?_)
    · rw [if_pos h];exact Eve.one
    rw [if_neg h]
    refine Eve.ite (fun _ => ?_) (fun h => absurd (by omega) h)
    refine Eve.ite (fun _ => ?_) (fun h => absurd (by omega) h)
    refine Eve.bind (of_tells (a.extract 1 9) (by rw [ByteArray.size_extract];omega)) ?_
    refine Eve.ite (fun _ => ?_) (fun h => absurd (by omega) h)
    exact Eve.ite (fun _ => Eve.one) (fun h => absurd (by omega) h)
  rw [if_neg h2]
  refine Eve.ite (fun h3 => ?_) (fun h3 => ?_)
  · rw [if_pos (show bt a 0=3∨bt a 0=4∨bt a 0=5 from .inl h3)]
    simp only [h3,beq_self_eq_true]
    exact n0_tells a 3 hs
  refine Eve.ite (fun h4 => ?_) (fun h4 => ?_)
  · rw [if_pos (show bt a 0=3∨bt a 0=4∨bt a 0=5 from .inr (.inl h4))]
    simp only [h4,beq_self_eq_true]
    exact n0_tells a 4 hs
  by_cases h5 : bt a 0=5
  · rw [if_pos (show bt a 0=3∨bt a 0=4∨bt a 0=5 from .inr (.inr h5))]
    simp only [h5,beq_self_eq_true]
    exact n0_tells a 5 hs
  · have hy : ¬ (bt a 0=3∨bt a 0=4∨bt a 0=5):=by omega
    rw [if_neg hy]
    have : (bt a 0 == 5)=false:=by simpa using h5
    simp only [this]
    refine Eve.succ ?_
    simp only [spec_l01Next.j0,Bool.false_eq_true,if_false]
    exact Eve.one
def Bad (v : IVal) : Prop:=v.f0<0∨v.f0 > 5∨(v.f0=2∧(v.f1 < -1000000000000∨v.f1 > 1000000000000))
def rdv (r : Rd) : IVal:=⟨r.1,r.2.1,r.2.2.1⟩
theorem num_one (a : ByteArray) (f : Bool) (h : 0<a.size) : numV a f 1=(bt a 0,a.extract 1 a.size,f):=by
  unfold numV
  rw [if_neg (by omega)]
  have:=bytes_ext1 a 0 h
  simp only [Nat.zero_add] at this
  rw [this];rfl
theorem num_none (a : ByteArray) (f : Bool) (n : Nat) (h : a.size<n) : numV a f n=(0,a,true):=by unfold numV;rw [if_pos h]
theorem num_some (a : ByteArray) (f : Bool) (n : Nat) (h : n≤a.size) : numV a f n=(bigV (bytesOf (a.extract 0 n)),a.extract n a.size,f):=by unfold numV;rw [if_neg (by omega)]
theorem tail_size (a : ByteArray) (n : Nat) : (a.extract n a.size).size=a.size - n:=by rw [ByteArray.size_extract];omega
theorem ext_ext (a : ByteArray) (n i j : Nat) (h : n + j≤a.size) : (a.extract n a.size).extract i j=a.extract (n + i) (n + j):=by
  rw [ByteArray.extract_extract,Nat.min_eq_left h]
theorem ext_tail (a : ByteArray) (n i : Nat) (h : n≤a.size) : (a.extract n a.size).extract i (a.extract n a.size).size=a.extract (n + i) a.size:=by
  rw [tail_size,ByteArray.extract_extract]
  congr 1
  omega
theorem big8 (l : List Int) (x : Int) (r : List Int) (hl : l=x :: r) (hr : r.length=7) (hb : ∀ b ∈ l,0≤b∧b≤255) (hx : x > 127) : wrap64 (bigV l - 4611686018427387904) < -1000000000000∨wrap64 (bigV l - 4611686018427387904) > 1000000000000:=by
  subst hl
  match r,hr with
  | [b1,b2,b3,b4,b5,b6,b7],_ =>
    have h0:=hb x (by simp)
    have h1:=hb b1 (by simp)
    have h2:=hb b2 (by simp)
    have h3:=hb b3 (by simp)
    have h4:=hb b4 (by simp)
    have h5:=hb b5 (by simp)
    have h6:=hb b6 (by simp)
    have h7:=hb b7 (by simp)
    have e : bigV [x,b1,b2,b3,b4,b5,b6,b7]=x * 72057594037927936 + b1 * 281474976710656 + b2 * 1099511627776 + b3 * 4294967296 + b4 * 16777216 + b5 * 65536 + b6 * 256 + b7 - 18446744073709551616:=by
      simp only [bigV,List.foldl_cons,List.foldl_nil]
      have s0 : stp 0 x=x:=by unfold stp;simp only [w64m];omega
      have s1 : stp x b1=x * 256 + b1:=by unfold stp;simp only [w64m];omega
      have s2 : stp (x * 256 + b1) b2=x * 65536 + b1 * 256 + b2:=by unfold stp;simp only [w64m];omega
      have s3 : stp (x * 65536 + b1 * 256 + b2) b3=x * 16777216 + b1 * 65536 + b2 * 256 + b3:=by unfold stp;simp only [w64m];omega
      have s4 : stp (x * 16777216 + b1 * 65536 + b2 * 256 + b3) b4=x * 4294967296 + b1 * 16777216 + b2 * 65536 + b3 * 256 + b4:=by unfold stp;simp only [w64m];omega
      have s5 : stp (x * 4294967296 + b1 * 16777216 + b2 * 65536 + b3 * 256 + b4) b5=x * 1099511627776 + b1 * 4294967296 + b2 * 16777216 + b3 * 65536 + b4 * 256 + b5:=by unfold stp;simp only [w64m];omega
      have s6 : stp (x * 1099511627776 + b1 * 4294967296 + b2 * 16777216 + b3 * 65536 + b4 * 256 + b5) b6=x * 281474976710656 + b1 * 1099511627776 + b2 * 4294967296 + b3 * 16777216 + b4 * 65536 + b5 * 256 + b6:=by unfold stp;simp only [w64m];omega
      rw [s0,s1,s2,s3,s4,s5,s6]
      unfold stp;simp only [w64m];omega
    rw [e,w64m]
    omega
theorem nxt_some (a : ByteArray) (v : IVal) (r : ByteArray) (h : nxtV a=some (v,r)) : valV a false=(v.f0,v.f1,v.f2,r,false)∧r.size<a.size:=by
  unfold nxtV at h
  by_cases hz : a.size=0
  · rw [if_pos hz] at h;simp at h
  rw [if_neg hz] at h
  unfold valV
  rw [num_one a false (by omega)]
  simp only
  have ht:=tail_size a 1
  by_cases h0 : bt a 0=0
  · rw [if_pos h0] at h
    obtain ⟨rfl,rfl⟩ : _∧_:=by simpa using h
    rw [if_neg (by omega),if_neg (by omega),if_neg (by omega),h0]
    exact ⟨rfl,by omega⟩
  rw [if_neg h0] at h
  by_cases h1 : bt a 0=1
  · rw [if_pos h1] at h
    by_cases h2 : a.size<2
    · rw [if_pos h2] at h;simp at h
    rw [if_neg h2] at h
    obtain ⟨rfl,rfl⟩ : _∧_:=by simpa using h
    rw [if_pos h1,num_some _ _ _ (by omega),ext_ext _ _ _ _ (by omega),ext_tail _ _ _ (by omega),h1]
    have:=bytes_ext1 a 1 (by omega)
    refine ⟨?_,by rw [tail_size];omega⟩
    show (1,bigV (bytesOf (a.extract 1 (1 + 1))),eB,a.extract 2 a.size,false)=_
    rw [this];rfl
  rw [if_neg h1] at h
  by_cases h2 : bt a 0=2
  · rw [if_pos h2] at h
    by_cases h3 : a.size<9
    · rw [if_pos h3] at h;simp at h
    rw [if_neg h3] at h
    by_cases h4 : bt a 1 > 127
    · rw [if_pos h4] at h;simp at h
    rw [if_neg h4] at h
    obtain ⟨rfl,rfl⟩ : _∧_:=by simpa using h
    rw [if_neg h1,if_pos h2,num_some _ _ _ (by omega),ext_ext _ _ _ _ (by omega),ext_tail _ _ _ (by omega),h2]
    exact ⟨rfl,by rw [tail_size];omega⟩
  rw [if_neg h2] at h
  by_cases h3 : bt a 0=3∨bt a 0=4∨bt a 0=5
  · rw [if_pos h3] at h
    by_cases h4 : a.size<3
    · rw [if_pos h4] at h;simp at h
    rw [if_neg h4] at h
    have hb:=bytes_ext2 a 1 (by omega)
    simp only [show 1 + 2=3 from rfl] at hb
    by_cases h5 : (a.size : Int)<3 + bigV (bytesOf (a.extract 1 3))
    · rw [if_pos h5] at h;simp at h
    rw [if_neg h5] at h
    obtain ⟨rfl,rfl⟩ : _∧_:=by simpa using h
    rw [if_neg h1,if_neg h2,if_pos h3,num_some _ _ _ (by omega),ext_ext _ _ _ _ (by omega),ext_tail _ _ _ (by omega)]
    simp only [show 1 + 0=1 from rfl,show 1 + 2=3 from rfl]
    generalize bigV (bytesOf (a.extract 1 3))=n at hb h5 ⊢
    obtain ⟨n,rfl⟩ : ∃ m : Nat,n=(m : Int):=⟨n.toNat,by omega⟩
    have e1 : ((n : Int)).toNat=n:=Int.toNat_natCast n
    have e2 : (3 + (n : Int)).toNat=3 + n:=by omega
    have ht3:=tail_size a 3
    unfold takV
    simp only [e1,e2]
    rw [if_neg (by omega),ext_ext _ _ _ _ (by omega),ext_tail _ _ _ (by omega)]
    exact ⟨rfl,by rw [tail_size];omega⟩
  · rw [if_neg h3] at h;simp at h
theorem nxt_none (a : ByteArray) (h : nxtV a=none) : (valV a false).2.2.2.2=true∨Bad (rdv (valV a false)):=by
  by_cases hz : a.size=0
  · left
    unfold valV
    rw [num_none a false 1 (by omega)]
    simp
  unfold nxtV at h
  rw [if_neg hz] at h
  unfold valV
  rw [num_one a false (by omega)]
  simp only
  have ht:=tail_size a 1
  by_cases h0 : bt a 0=0
  · rw [if_pos h0] at h;simp at h
  rw [if_neg h0] at h
  by_cases h1 : bt a 0=1
  · rw [if_pos h1] at h ⊢
    by_cases h2 : a.size<2
    · left;rw [num_none _ _ _ (by omega)]
    · rw [if_neg h2] at h;simp at h
  rw [if_neg h1] at h ⊢
  by_cases h2 : bt a 0=2
  · rw [if_pos h2] at h ⊢
    by_cases h3 : a.size<9
    · left;rw [num_none _ _ _ (by omega)]
    rw [if_neg h3] at h
    by_cases h4 : bt a 1 > 127
    · right;right;right
      refine ⟨h2,?_⟩
      rw [num_some _ _ _ (by omega),ext_ext _ _ _ _ (by omega)]
      simp only [show 1 + 0=1 from rfl,show 1 + 8=9 from rfl,rdv]
      have hl : (bytesOf (a.extract 1 9)).length=8:=by rw [bytesOf_length,ByteArray.size_extract];omega
      have hg:=bt_get (a.extract 1 9) 0 (by omega)
      have he : bt (a.extract 1 9) ((0 : Nat) : Int)=bt a 1:=by
        unfold bt
        have e0 : (((0 : Nat) : Int)).toNat=0:=rfl
        have e1 : ((1 : Int)).toNat=1:=rfl
        simp only [e0,e1]
        rw [dif_pos (by rw [ByteArray.size_extract];omega),dif_pos (by omega)]
        congr 2
        rw [ByteArray.getElem_extract]
      cases hc : bytesOf (a.extract 1 9) with
      | nil => rw [hc] at hl;simp at hl
      | cons x r =>
        have hb:=bytes_in (a.extract 1 9)
        rw [he] at hg
        simp only [hc,List.getElem_cons_zero] at hg
        rw [hc] at hl hb
        exact big8 _ x r rfl (by simpa using hl) hb (by omega)
    · rw [if_neg h4] at h;simp at h
  rw [if_neg h2] at h ⊢
  by_cases h3 : bt a 0=3∨bt a 0=4∨bt a 0=5
  · rw [if_pos h3] at h ⊢
    left
    by_cases h4 : a.size<3
    · rw [num_none _ _ 2 (by omega)]
      unfold takV
      simp
    rw [if_neg h4] at h
    have hb:=bytes_ext2 a 1 (by omega)
    simp only [show 1 + 2=3 from rfl] at hb
    by_cases h5 : (a.size : Int)<3 + bigV (bytesOf (a.extract 1 3))
    · rw [num_some _ _ 2 (by omega),ext_ext _ _ _ _ (by omega),ext_tail _ _ _ (by omega)]
      simp only [show 1 + 0=1 from rfl,show 1 + 2=3 from rfl]
      unfold takV
      rw [if_pos (by rw [tail_size];omega)]
    · rw [if_neg h5] at h;simp at h
  · rw [if_neg h3]
    right
    have:=bt_range a 0
    right;left
    show bt a 0 > 5
    omega
theorem num_mono (a : ByteArray) (f : Bool) (n : Nat) : (numV a f n).2.1.size≤a.size∧(f=true→(numV a f n).2.2=true):=by
  unfold numV
  by_cases h : a.size<n
  · rw [if_pos h];exact ⟨Nat.le_refl _,fun _ => rfl⟩
  · rw [if_neg h];exact ⟨by simp only [tail_size];omega,fun h => h⟩
theorem tak_mono (a : ByteArray) (f : Bool) (n : Nat) : (takV a f n).2.1.size≤a.size∧(f=true→(takV a f n).2.2=true):=by
  unfold takV
  by_cases h : a.size<n
  · rw [if_pos h];exact ⟨Nat.le_refl _,fun _ => rfl⟩
  · rw [if_neg h];exact ⟨by simp only [tail_size];omega,fun h => h⟩
theorem val_mono (a : ByteArray) (f : Bool) : (valV a f).2.2.2.1.size≤(numV a f 1).2.1.size∧(f=true→(valV a f).2.2.2.2=true):=by
  have hq:=num_mono a f 1
  unfold valV
  generalize numV a f 1=q at hq
  simp only
  by_cases h1 : q.1=1
  · rw [if_pos h1]
    have:=num_mono q.2.1 q.2.2 1
    exact ⟨this.1,fun h => this.2 (hq.2 h)⟩
  rw [if_neg h1]
  by_cases h2 : q.1=2
  · rw [if_pos h2]
    have:=num_mono q.2.1 q.2.2 8
    exact ⟨this.1,fun h => this.2 (hq.2 h)⟩
  rw [if_neg h2]
  by_cases h3 : q.1=3∨q.1=4∨q.1=5
  · rw [if_pos h3]
    have hr:=num_mono q.2.1 q.2.2 2
    have ht:=tak_mono (numV q.2.1 q.2.2 2).2.1 (numV q.2.1 q.2.2 2).2.2 (numV q.2.1 q.2.2 2).1.toNat
    exact ⟨Nat.le_trans ht.1 hr.1,fun h => ht.2 (hr.2 (hq.2 h))⟩
  · rw [if_neg h3]
    exact ⟨Nat.le_refl _,hq.2⟩
theorem val_less (a : ByteArray) (f : Bool) (h : 0<a.size) : (valV a f).2.2.2.1.size<a.size:=by
  have h1:=(val_mono a f).1
  rw [num_one a f h] at h1
  have:=tail_size a 1
  simp only at h1
  omega
end Go.Proofs.Ytpmeglcmhiihoaa.Pure
end
section
namespace Go.Proofs.Ytpmeglcmhiihoaa.Pure
open Go Go.RowKit Go.Proofs.Ytpmeglcmhiihoaa.Q Go.Proofs.YtpmeglcmhiihoaaW.PrintWords Go.Proofs.YtpmeglcmhiihoaaW.PrintLast Go.Proofs.YtpmeglcmhiihoaaW.PrintMore Go.Proofs.YtpmeglcmhiihoaaW.Pl
abbrev IFld:=S68
theorem emp (a : ByteArray) : a.toList=([] : List UInt8)↔a.size=0:=by
  rw [ba_toList,← data_length,List.length_eq_zero_iff]
def itS : Nat→ByteArray→Option (List IVal)
  | 0,a => if a.size=0 then some [] else none
  | m + 1,a => if a.size=0 then some [] else match nxtV a with
    | none => none
    | some (v,r) => (itS m r).map (v :: ·)
def toldL (acc : List IVal) (o : Option (List IVal)) : List IVal×Bool:=match o with|some l => (acc ++ l,true)|none => ([],false)
theorem items_spec : ∀ (m : Nat) (a : ByteArray) (acc : List IVal),a.size≤m→a.size≤1048576→acc.length + a.size≤1048576→Eve (fun k => spec_l01Items.l0 k a acc) (toldL acc (itS m a)):=by
  intro m
  induction m with
  | zero =>
    intro a acc h1 h2 h3
    refine Eve.succ ?_
    simp only [spec_l01Items.l0,itS]
    have hz : a.size=0:=by omega
    rw [if_pos hz]
    exact Eve.ite (fun h => absurd h (by omega)) (fun _ => Eve.one.eq (by simp [toldL]))
  | succ m ih =>
    intro a acc h1 h2 h3
    refine Eve.succ ?_
    simp only [spec_l01Items.l0,itS]
    by_cases hz : a.size=0
    · rw [if_pos hz]
      exact Eve.ite (fun h => absurd h (by omega)) (fun _ => Eve.one.eq (by simp [toldL]))
    rw [if_neg hz]
    refine Eve.ite (fun _ => ?_) (fun h => absurd (by omega) h)
    refine Eve.bind (next_tells a h2) ?_
    cases hn : nxtV a with
    | none => simp only [told,Bool.false_eq_true,if_false];exact Eve.one
    | some p =>
      obtain ⟨v,r⟩:=p
      have hs:=nxt_some a v r hn
      simp only [told,if_true]
      refine Eve.ite (fun _ => ?_) (fun h => absurd (by omega) h)
      refine (ih r (acc ++ [⟨v.f0,v.f1,v.f2⟩]) (by omega) (by omega) (by simp;omega)).eq ?_
      cases itS m r with
      | none => rfl
      | some l => simp [toldL]
theorem tak_size (a : ByteArray) (f : Bool) (n : Nat) (_h : a.size≤1048576) (hn : n≤65535) : (takV a f n).1.size≤1048576:=by
  unfold takV
  by_cases h2 : a.size<n
  · rw [if_pos h2];simp only [zer_size];omega
  · rw [if_neg h2];simp only [ByteArray.size_extract];omega
theorem val_size (a : ByteArray) (f : Bool) (h : a.size≤1048576) : (rdv (valV a f)).f2.size≤1048576:=by
  have hq:=num_mono a f 1
  unfold valV
  generalize numV a f 1=q at hq
  simp only [rdv]
  by_cases h1 : q.1=1
  · rw [if_pos h1];exact Nat.zero_le _
  rw [if_neg h1]
  by_cases h2 : q.1=2
  · rw [if_pos h2];exact Nat.zero_le _
  rw [if_neg h2]
  by_cases h3 : q.1=3∨q.1=4∨q.1=5
  · rw [if_pos h3]
    have hr:=num_mono q.2.1 q.2.2 2
    have hn:=num2_in q.2.1 q.2.2
    exact tak_size _ _ _ (by omega) (by omega)
  · rw [if_neg h3];exact Nat.zero_le _
theorem items_stop (acc : List IVal) (a : ByteArray) : Eve (fun k => impl_items.l0 k acc a true) (acc,false):=by
  refine Eve.succ ?_
  simp only [impl_items.l0,if_true,Bool.not_true]
  exact Eve.ite (fun _ => Eve.one) (fun _ => Eve.one)
theorem items_end (acc : List IVal) (a : ByteArray) (h : a.size=0) : Eve (fun k => impl_items.l0 k acc a false) (acc,true):=by
  refine Eve.succ ?_
  simp only [impl_items.l0,Bool.not_false]
  exact Eve.ite (fun _ => Eve.one) (fun h2 => absurd ((emp a).2 h) h2)
theorem items_step (acc : List IVal) (a : ByteArray) (h : 0<a.size) (hl : acc.length≤1048576) {x : List IVal×Bool}
    (hx : Eve (fun k => impl_items.l0 k (acc ++ [rdv (valV a false)]) (valV a false).2.2.2.1 (valV a false).2.2.2.2) x) : Eve (fun k => impl_items.l0 k acc a false) x:=by
  refine Eve.succ ?_
  simp only [impl_items.l0,Bool.false_eq_true,if_false]
  refine Eve.ite (fun h2 => absurd ((emp a).1 h2) (by omega)) (fun _ => ?_)
  refine Eve.bind (value_tells a false) ?_
  exact Eve.ite (fun _ => hx) (fun h2 => absurd (by omega) h2)
theorem items_some : ∀ (m : Nat) (a : ByteArray) (acc l : List IVal),itS m a=some l→acc.length + a.size≤1048576→Eve (fun k => impl_items.l0 k acc a false) (acc ++ l,true):=by
  intro m
  induction m with
  | zero =>
    intro a acc l h h2
    simp only [itS] at h
    by_cases hz : a.size=0
    · rw [if_pos hz] at h
      obtain rfl : []=l:=by simpa using h
      exact (items_end acc a hz).eq (by simp)
    · rw [if_neg hz] at h;simp at h
  | succ m ih =>
    intro a acc l h h2
    simp only [itS] at h
    by_cases hz : a.size=0
    · rw [if_pos hz] at h
      obtain rfl : []=l:=by simpa using h
      exact (items_end acc a hz).eq (by simp)
    rw [if_neg hz] at h
    cases hn : nxtV a with
    | none => rw [hn] at h;simp at h
    | some p =>
      obtain ⟨v,r⟩:=p
      rw [hn] at h
      simp only [Option.map_eq_some_iff] at h
      obtain ⟨l',h',rfl⟩:=h
      obtain ⟨hs,hlt⟩:=nxt_some a v r hn
      refine items_step acc a (by omega) (by omega) ?_
      rw [hs]
      refine (ih r (acc ++ [rdv (v.f0,v.f1,v.f2,r,false)]) l' h' (by simp;omega)).eq ?_
      simp [rdv]
theorem items_some_end : ∀ (m : Nat) (a : ByteArray) (acc : List IVal),a.size≤m→acc.length + a.size≤1048576 → ∃ l ok,Eve (fun k => impl_items.l0 k acc a false) (acc ++ l,ok)∧(l.length≤a.size ∧ ∀ x ∈ l,x.f2.size≤1048576):=by
  intro m
  induction m with
  | zero => intro a acc h1 h2;exact ⟨[],true,(items_end acc a (by omega)).eq (by simp),by simp,by simp⟩
  | succ m ih =>
    intro a acc h1 h2
    by_cases hz : a.size=0
    · exact ⟨[],true,(items_end acc a hz).eq (by simp),by simp,by simp⟩
    have hlt:=val_less a false (by omega)
    have hvs:=val_size a false (by omega)
    cases hf : (valV a false).2.2.2.2 with
    | true =>
      refine ⟨[rdv (valV a false)],false,items_step acc a (by omega) (by omega) ?_,by simp;omega,by simpa using hvs⟩
      rw [hf]
      exact items_stop _ _
    | false =>
      obtain ⟨l,ok,hl,hl1,hl2⟩:=ih (valV a false).2.2.2.1 (acc ++ [rdv (valV a false)]) (by omega) (by simp;omega)
      refine ⟨rdv (valV a false) :: l,ok,items_step acc a (by omega) (by omega) ?_,by simp;omega,by simpa using ⟨hvs,hl2⟩⟩
      rw [hf]
      exact hl.eq (by simp)
theorem items_none : ∀ (m : Nat) (a : ByteArray) (acc : List IVal),a.size≤m→itS m a=none→acc.length + a.size≤1048576 → ∃ l ok,Eve (fun k => impl_items.l0 k acc a false) (acc ++ l,ok)∧(ok=false ∨ ∃ v ∈ l,Bad v)∧(l.length≤a.size ∧ ∀ x ∈ l,x.f2.size≤1048576):=by
  intro m
  induction m with
  | zero =>
    intro a acc h1 h h2
    simp only [itS] at h
    rw [if_pos (show a.size=0 by omega)] at h;simp at h
  | succ m ih =>
    intro a acc h1 h h2
    simp only [itS] at h
    by_cases hz : a.size=0
    · rw [if_pos hz] at h;simp at h
    rw [if_neg hz] at h
    have hlt:=val_less a false (by omega)
    have hvs:=val_size a false (by omega)
    cases hn : nxtV a with
    | some p =>
      obtain ⟨v,r⟩:=p
      rw [hn] at h
      simp only [Option.map_eq_none_iff] at h
      obtain ⟨hs,hlt⟩:=nxt_some a v r hn
      rw [hs] at hvs
      obtain ⟨l,ok,hl,hb,hl1,hl2⟩:=ih r (acc ++ [rdv (v.f0,v.f1,v.f2,r,false)]) (by omega) h (by simp;omega)
      refine ⟨rdv (v.f0,v.f1,v.f2,r,false) :: l,ok,?_,?_,by simp;omega,by simpa using ⟨hvs,hl2⟩⟩
      · refine items_step acc a (by omega) (by omega) ?_
        rw [hs]
        exact hl.eq (by simp)
      · rcases hb with hb|⟨x,hx,hb⟩
        · exact .inl hb
        · exact .inr ⟨x,by simp [hx],hb⟩
    | none =>
      have hv:=nxt_none a hn
      cases hf : (valV a false).2.2.2.2 with
      | true =>
        refine ⟨[rdv (valV a false)],false,items_step acc a (by omega) (by omega) ?_,.inl rfl,by simp;omega,by simpa using hvs⟩
        rw [hf]
        exact items_stop _ _
      | false =>
        rw [hf] at hv
        obtain ⟨l,ok,hl,hl1,hl2⟩:=items_some_end m (valV a false).2.2.2.1 (acc ++ [rdv (valV a false)]) (by omega) (by simp;omega)
        refine ⟨rdv (valV a false) :: l,ok,items_step acc a (by omega) (by omega) ?_,.inr ⟨_,by simp,hv.resolve_left (by simp)⟩,by simp;omega,by simpa using ⟨hvs,hl2⟩⟩
        rw [hf]
        exact hl.eq (by simp)
def fdS : Nat→ByteArray→Option (List IFld)
  | 0,a => if a.size=0 then some [] else none
  | m + 1,a => if a.size=0 then some [] else if (a.size : Int)<1 + bt a 0 then none else match nxtV (a.extract (1 + bt a 0).toNat a.size) with
    | none => none
    | some (v,r) => (fdS m r).map ((⟨a.extract 1 (1 + bt a 0).toNat,v⟩ : IFld) :: ·)
def toldF (acc : List IFld) (o : Option (List IFld)) : List IFld×Bool:=match o with|some l => (acc ++ l,true)|none => ([],false)
theorem wb1 (a : ByteArray) : wrap64 (1 + bt a 0)=1 + bt a 0:=w64 (by have:=bt_range a 0;omega) (by have:=bt_range a 0;omega)
theorem fields_spec : ∀ (m : Nat) (a : ByteArray) (acc : List IFld),a.size≤m→a.size≤1048576→acc.length + a.size≤1048576→Eve (fun k => spec_l01Fields.l0 k a acc) (toldF acc (fdS m a)):=by
  intro m
  induction m with
  | zero =>
    intro a acc h1 h2 h3
    refine Eve.succ ?_
    simp only [spec_l01Fields.l0,fdS]
    have hz : a.size=0:=by omega
    rw [if_pos hz]
    exact Eve.ite (fun h => absurd h (by omega)) (fun _ => Eve.one.eq (by simp [toldF]))
  | succ m ih =>
    intro a acc h1 h2 h3
    refine Eve.succ ?_
    simp only [spec_l01Fields.l0,fdS,wbt,wb1]
    by_cases hz : a.size=0
    · rw [if_pos hz]
      exact Eve.ite (fun h => absurd h (by omega)) (fun _ => Eve.one.eq (by simp [toldF]))
    rw [if_neg hz]
    have hb:=bt_range a 0
    refine Eve.ite (fun _ => ?_) (fun h => absurd (by omega) h)
    refine Eve.ite (fun _ => ?_) (fun h => absurd (by omega) h)
    refine Eve.ite (fun h => ?_) (fun h => ?_)
    · rw [if_pos h];exact Eve.one
    rw [if_neg h]
    refine Eve.ite (fun _ => ?_) (fun h => absurd (by omega) h)
    refine Eve.ite (fun _ => ?_) (fun h => absurd (by omega) h)
    refine Eve.ite (fun _ => ?_) (fun h => absurd (by omega) h)
    have ht:=tail_size a (1 + bt a 0).toNat
    refine Eve.bind (next_tells _ (by omega)) ?_
    cases hn : nxtV (a.extract (1 + bt a 0).toNat a.size) with
    | none => simp only [told,Bool.false_eq_true,if_false];exact Eve.one
    | some p =>
      obtain ⟨v,r⟩:=p
      have hs:=nxt_some _ v r hn
      simp only [told,if_true]
      refine Eve.ite (fun _ => ?_) (fun h => absurd (by omega) h)
      refine (ih r (acc ++ [⟨a.extract 1 (1 + bt a 0).toNat,⟨v.f0,v.f1,v.f2⟩⟩]) (by omega) (by omega) (by simp;omega)).eq ?_
      cases fdS m r with
      | none => rfl
      | some l => simp [toldF]
def fdV (a : ByteArray) : ByteArray×Rd :=
  let q:=numV a false 1
  let t:=takV q.2.1 q.2.2 q.1.toNat
  (t.1,valV t.2.1 t.2.2)
def fdv (x : ByteArray×Rd) : IFld:=⟨x.1,rdv x.2⟩
theorem fields_stop (acc : List IFld) (a : ByteArray) : Eve (fun k => impl_fields.l0 k acc a true) (acc,false):=by
  have hj : Eve (fun k => impl_fields.j1 k acc false a true) (acc,false):=Eve.succ (by simp only [impl_fields.j1,Bool.false_eq_true,if_false,Bool.not_true];exact Eve.one)
  refine Eve.succ ?_
  simp only [impl_fields.l0,Bool.not_true]
  exact Eve.ite (fun _ => hj) (fun _ => hj)
theorem fields_end (acc : List IFld) (a : ByteArray) (h : a.size=0) : Eve (fun k => impl_fields.l0 k acc a false) (acc,true):=by
  refine Eve.succ ?_
  simp only [impl_fields.l0]
  refine Eve.ite (fun _ => Eve.succ ?_) (fun h2 => absurd ((emp a).2 h) h2)
  simp only [impl_fields.j1,Bool.false_eq_true,if_false,Bool.not_false]
  exact Eve.one
theorem fields_step (acc : List IFld) (a : ByteArray) (h : 0<a.size) (hl : acc.length≤1048576) {x : List IFld×Bool}
    (hx : Eve (fun k => impl_fields.l0 k (acc ++ [fdv (fdV a)]) (fdV a).2.2.2.2.1 (fdV a).2.2.2.2.2) x) : Eve (fun k => impl_fields.l0 k acc a false) x:=by
  refine Eve.succ ?_
  simp only [impl_fields.l0,Bool.not_false]
  refine Eve.ite (fun h2 => absurd ((emp a).1 h2) (by omega)) (fun _ => Eve.succ ?_)
  simp only [impl_fields.j1,if_true]
  refine Eve.bind (num_tells a false 1 (by omega)) ?_
  have hb : 0≤(numV a false 1).1∧(numV a false 1).1≤65535:=by
    rw [num_one a false h]
    have:=bt_range a 0
    simp only;omega
  have ht:=take_tells (numV a false 1).2.1 (numV a false 1).2.2 (numV a false 1).1.toNat (by omega)
  rw [show (((numV a false 1).1.toNat : Nat) : Int)=(numV a false 1).1 from Int.toNat_of_nonneg hb.1] at ht
  simp only [ht,Option.bind_some]
  refine Eve.bind (value_tells _ _) ?_
  exact Eve.ite (fun _ => hx) (fun h2 => absurd (by omega) h2)
theorem fdV_less (a : ByteArray) (h : 0<a.size) : (fdV a).2.2.2.2.1.size<a.size:=by
  unfold fdV
  rw [num_one a false h]
  simp only
  have h1:=tail_size a 1
  have h2:=(tak_mono (a.extract 1 a.size) false (bt a 0).toNat).1
  have h3:=(val_mono (takV (a.extract 1 a.size) false (bt a 0).toNat).2.1 (takV (a.extract 1 a.size) false (bt a 0).toNat).2.2).1
  have h4:=(num_mono (takV (a.extract 1 a.size) false (bt a 0).toNat).2.1 (takV (a.extract 1 a.size) false (bt a 0).toNat).2.2 1).1
  omega
theorem fdV_ok (a : ByteArray) (h : 0<a.size) (h2 : ¬ (a.size : Int)<1 + bt a 0) : fdV a=(a.extract 1 (1 + bt a 0).toNat,valV (a.extract (1 + bt a 0).toNat a.size) false):=by
  unfold fdV
  rw [num_one a false h]
  simp only
  have hb:=bt_range a 0
  have ht:=tail_size a 1
  have e : (1 + bt a 0).toNat=1 + (bt a 0).toNat:=by omega
  unfold takV
  rw [if_neg (by omega),e]
  simp only
  rw [ext_ext _ _ _ _ (by omega),ext_tail _ _ _ (by omega)]
theorem fdV_bad (a : ByteArray) (h : 0<a.size) (h2 : (a.size : Int)<1 + bt a 0) : (fdV a).2.2.2.2.2=true:=by
  unfold fdV
  rw [num_one a false h]
  simp only
  have hb:=bt_range a 0
  have ht:=tail_size a 1
  refine (val_mono _ _).2 ?_
  unfold takV
  rw [if_pos (by omega)]
theorem fields_some : ∀ (m : Nat) (a : ByteArray) (acc l : List IFld),fdS m a=some l→acc.length + a.size≤1048576→Eve (fun k => impl_fields.l0 k acc a false) (acc ++ l,true):=by
  intro m
  induction m with
  | zero =>
    intro a acc l h h2
    simp only [fdS] at h
    by_cases hz : a.size=0
    · rw [if_pos hz] at h
      obtain rfl : []=l:=by simpa using h
      exact (fields_end acc a hz).eq (by simp)
    · rw [if_neg hz] at h;simp at h
  | succ m ih =>
    intro a acc l h h2
    simp only [fdS] at h
    by_cases hz : a.size=0
    · rw [if_pos hz] at h
      obtain rfl : []=l:=by simpa using h
      exact (fields_end acc a hz).eq (by simp)
    rw [if_neg hz] at h
    by_cases hy : (a.size : Int)<1 + bt a 0
    · rw [if_pos hy] at h;simp at h
    rw [if_neg hy] at h
    cases hn : nxtV (a.extract (1 + bt a 0).toNat a.size) with
    | none => rw [hn] at h;simp at h
    | some p =>
      obtain ⟨v,r⟩:=p
      rw [hn] at h
      simp only [Option.map_eq_some_iff] at h
      obtain ⟨l',h',rfl⟩:=h
      obtain ⟨hs,hlt⟩:=nxt_some _ v r hn
      have ht:=tail_size a (1 + bt a 0).toNat
      have hb:=bt_range a 0
      refine fields_step acc a (by omega) (by omega) ?_
      rw [fdV_ok a (by omega) hy,hs]
      refine (ih r (acc ++ [fdv (a.extract 1 (1 + bt a 0).toNat,(v.f0,v.f1,v.f2,r,false))]) l' h' (by simp;omega)).eq ?_
      simp [fdv,rdv]
theorem fdV_size (a : ByteArray) (h : 0<a.size) (h2 : a.size≤1048576) : (fdv (fdV a)).f0.size≤1048576∧(fdv (fdV a)).f1.f2.size≤1048576:=by
  unfold fdV fdv
  rw [num_one a false h]
  have hb:=bt_range a 0
  have ht:=tail_size a 1
  have hm:=(tak_mono (a.extract 1 a.size) false (bt a 0).toNat).1
  exact ⟨tak_size (a.extract 1 a.size) false (bt a 0).toNat (by omega) (by omega),val_size (takV (a.extract 1 a.size) false (bt a 0).toNat).2.1 (takV (a.extract 1 a.size) false (bt a 0).toNat).2.2 (by omega)⟩
theorem fields_some_end : ∀ (m : Nat) (a : ByteArray) (acc : List IFld),a.size≤m→acc.length + a.size≤1048576 → ∃ l ok,Eve (fun k => impl_fields.l0 k acc a false) (acc ++ l,ok)∧(l.length≤a.size ∧ ∀ x ∈ l,x.f0.size≤1048576∧x.f1.f2.size≤1048576):=by
  intro m
  induction m with
  | zero => intro a acc h1 h2;exact ⟨[],true,(fields_end acc a (by omega)).eq (by simp),by simp,by simp⟩
  | succ m ih =>
    intro a acc h1 h2
    by_cases hz : a.size=0
    · exact ⟨[],true,(fields_end acc a hz).eq (by simp),by simp,by simp⟩
    have hlt:=fdV_less a (by omega)
    have hvs:=fdV_size a (by omega) (by omega)
    cases hf : (fdV a).2.2.2.2.2 with
    | true =>
      refine ⟨[fdv (fdV a)],false,fields_step acc a (by omega) (by omega) ?_,by simp;omega,by simpa using hvs⟩
      rw [hf]
      exact fields_stop _ _
    | false =>
      obtain ⟨l,ok,hl,hl1,hl2⟩:=ih (fdV a).2.2.2.2.1 (acc ++ [fdv (fdV a)]) (by omega) (by simp;omega)
      refine ⟨fdv (fdV a) :: l,ok,fields_step acc a (by omega) (by omega) ?_,by simp;omega,by simpa using ⟨hvs,hl2⟩⟩
      rw [hf]
      exact hl.eq (by simp)
theorem fields_none : ∀ (m : Nat) (a : ByteArray) (acc : List IFld),a.size≤m→fdS m a=none→acc.length + a.size≤1048576 → ∃ l ok,Eve (fun k => impl_fields.l0 k acc a false) (acc ++ l,ok)∧(ok=false ∨ ∃ v ∈ l,Bad v.f1)∧(l.length≤a.size ∧ ∀ x ∈ l,x.f0.size≤1048576∧x.f1.f2.size≤1048576):=by
  intro m
  induction m with
  | zero =>
    intro a acc h1 h h2
    simp only [fdS] at h
    rw [if_pos (show a.size=0 by omega)] at h;simp at h
  | succ m ih =>
    intro a acc h1 h h2
    simp only [fdS] at h
    by_cases hz : a.size=0
    · rw [if_pos hz] at h;simp at h
    rw [if_neg hz] at h
    have hlt:=fdV_less a (by omega)
    have hvs:=fdV_size a (by omega) (by omega)
    by_cases hy : (a.size : Int)<1 + bt a 0
    · refine ⟨[fdv (fdV a)],false,fields_step acc a (by omega) (by omega) ?_,.inl rfl,by simp;omega,by simpa using hvs⟩
      rw [fdV_bad a (by omega) hy]
      exact fields_stop _ _
    rw [if_neg hy] at h
    have ht:=tail_size a (1 + bt a 0).toNat
    have hb0:=bt_range a 0
    have hok:=fdV_ok a (by omega) hy
    cases hn : nxtV (a.extract (1 + bt a 0).toNat a.size) with
    | some p =>
      obtain ⟨v,r⟩:=p
      rw [hn] at h
      simp only [Option.map_eq_none_iff] at h
      obtain ⟨hs,hlt⟩:=nxt_some _ v r hn
      rw [hok,hs] at hvs
      obtain ⟨l,ok,hl,hb,hl1,hl2⟩:=ih r (acc ++ [fdv (a.extract 1 (1 + bt a 0).toNat,(v.f0,v.f1,v.f2,r,false))]) (by omega) h (by simp;omega)
      refine ⟨fdv (a.extract 1 (1 + bt a 0).toNat,(v.f0,v.f1,v.f2,r,false)) :: l,ok,?_,?_,by simp;omega,by simpa using ⟨hvs,hl2⟩⟩
      · refine fields_step acc a (by omega) (by omega) ?_
        rw [hok,hs]
        exact hl.eq (by simp)
      · rcases hb with hb|⟨x,hx,hb⟩
        · exact .inl hb
        · exact .inr ⟨x,by simp [hx],hb⟩
    | none =>
      have hv:=nxt_none _ hn
      cases hf : (fdV a).2.2.2.2.2 with
      | true =>
        refine ⟨[fdv (fdV a)],false,fields_step acc a (by omega) (by omega) ?_,.inl rfl,by simp;omega,by simpa using hvs⟩
        rw [hf]
        exact fields_stop _ _
      | false =>
        obtain ⟨l,ok,hl,hl1,hl2⟩:=fields_some_end m (fdV a).2.2.2.2.1 (acc ++ [fdv (fdV a)]) (by omega) (by simp;omega)
        refine ⟨fdv (fdV a) :: l,ok,fields_step acc a (by omega) (by omega) ?_,.inr ⟨fdv (fdV a),by simp,?_⟩,by simp;omega,by simpa using ⟨hvs,hl2⟩⟩
        · rw [hf]
          exact hl.eq (by simp)
        · have e1 : (fdV a).2=valV (a.extract (1 + bt a 0).toNat a.size) false:=by rw [hok]
          have e2 : (fdv (fdV a)).f1=rdv (fdV a).2:=rfl
          rw [e2,e1]
          rw [e1] at hf
          rcases hv with hv|hv
          · rw [hf] at hv;cases hv
          · exact hv
end Go.Proofs.Ytpmeglcmhiihoaa.Pure
end
section
namespace Go.Proofs.Ytpmeglcmhiihoaa.Pure
open Go Go.RowKit Go.Proofs.Ytpmeglcmhiihoaa.Q Go.Proofs.YtpmeglcmhiihoaaW.PrintWords Go.Proofs.YtpmeglcmhiihoaaW.PrintLast Go.Proofs.YtpmeglcmhiihoaaW.PrintMore Go.Proofs.YtpmeglcmhiihoaaW.Pl
def isL (c : Int) : Bool:=(decide (97≤c) && decide (c≤122)) || (decide (65≤c) && decide (c≤90)) || (c == 95)
def isD (c : Int) : Bool:=decide (48≤c) && decide (c≤57)
theorem specL (c : Int) : spec_l00Letter.f c=some (isL c):=by
  unfold spec_l00Letter.f isL
  split <;> split <;> (try split) <;> (try split) <;> simp <;> omega
theorem implL (c : Int) : impl_isLetter.f c=some (isL c):=by
  unfold impl_isLetter.f isL
  split <;> split <;> (try split) <;> (try split) <;> simp <;> omega
theorem specD (c : Int) : spec_l00Digit.f c=some (isD c):=by
  unfold spec_l00Digit.f isD
  split <;> simp <;> omega
theorem implD (c : Int) : impl_isDigit.f c=some (isD c):=by
  unfold impl_isDigit.f isD
  split <;> simp <;> omega
def wgo (first : Bool) : List Int→Bool
  | [] => true
  | c :: cs => (isL c || (isD c && !first)) && wgo false cs
def word (s : ByteArray) : Bool:=wgo true (bytesOf s) && (decide (1≤(s.size : Int)) && decide ((s.size : Int)≤40))
theorem word_spec (s : ByteArray) (hs : s.size≤1048576) : Eve (fun k => spec_l00Word.f k s) (word s):=by
  have hn : (bytesOf s).length=s.size:=bytesOf_length s
  have hj : Eve (fun k => spec_l00Word.j0 k s true) false:=Eve.succ (by simp only [spec_l00Word.j0,if_true];exact Eve.one)
  simp only [spec_l00Word.f]
  refine Eve.ite (fun h => hj.eq ?_) (fun h => ?_)
  · have : decide (1≤(s.size : Int))=false:=by simp;omega
    simp [word,this]
  refine Eve.ite (fun h2 => hj.eq ?_) (fun h2 => ?_)
  · have : decide ((s.size : Int)≤40)=false:=by simp;omega
    simp [word,this]
  refine Eve.ite (fun _ => ?_) (fun h => absurd (by omega) h)
  have hw : word s=wgo true (bytesOf s):=by
    have a1 : decide (1≤(s.size : Int))=true:=by simp;omega
    have a2 : decide ((s.size : Int)≤40)=true:=by simp;omega
    simp [word,a1,a2]
  have hb:=bt_get s 0 (by omega)
  simp only [show ((0 : Nat) : Int)=0 from rfl] at hb
  have hc : bytesOf s=bt s 0 :: (bytesOf s).drop 1:=by rw [hb];exact drop_at (bytesOf s) 0 (by omega)
  simp only [specL,Option.bind_some]
  cases hl : isL (bt s 0) with
  | false =>
    refine hj.eq ?_
    rw [hw,hc]
    simp [wgo,hl]
  | true =>
    refine Eve.succ ?_
    simp only [spec_l00Word.j0,Bool.not_true,Bool.false_eq_true,if_false]
    have:=ev_loop (bytesOf s) (fun k (_ : Unit) i => spec_l00Word.l0 k s i) (fun _ _ r => wgo false r) (fun i _ => 1≤i) (fun _ _ => by
      simp only [spec_l00Word.l0]
      exact Eve.ite (fun h => absurd h (by omega)) (fun _ => Eve.one)) (fun i hi _ hI ih => by
      have hnx:=ih () (by omega)
      simp only [spec_l00Word.l0,specL,specD,Option.bind_some,wi (show i≤9223372036854775806 by omega),bt_get s i hi]
      refine Eve.ite (fun _ => ?_) (fun h => absurd (by omega) h)
      refine Eve.ite (fun _ => ?_) (fun h => absurd (by omega) h)
      refine Eve.ite (fun h1 => hnx.eq (by simp [wgo,h1])) (fun h1 => ?_)
      exact Eve.ite (fun h2 => hnx.eq (by simp [wgo,h2])) (fun h2 => Eve.one.eq (by simp [wgo,h1,h2]))) ((bytesOf s).length - 1) 1 () (by omega) (by omega)
    refine this.eq ?_
    rw [hw]
    conv => rhs;rw [hc]
    simp [wgo,hl]
theorem word_impl (s : ByteArray) (hs : s.size≤1048576) : Eve (fun k => impl_NameOK.f k s) (word s):=by
  have hn : (bytesOf s).length=s.size:=bytesOf_length s
  simp only [impl_NameOK.f]
  refine ev_loop0 (bytesOf s) (fun k (_ : Unit) i => impl_NameOK.l0 k s (s.size : Int) i) (fun i _ r => wgo (decide (i=0)) r && (decide (1≤(s.size : Int)) && decide ((s.size : Int)≤40))) (fun _ _ => True) (fun _ _ => ?_) (fun i hi _ _ ih => ?_) () trivial
  · simp only [impl_NameOK.l0]
    refine Eve.ite (fun h => absurd h (by omega)) (fun _ => Eve.all fun k => ?_)
    unfold impl_inRange.f
    by_cases h : 1≤(s.size : Int)
    · rw [if_pos h];simp [wgo,h]
    · rw [if_neg h];simp [wgo,h]
  · have hnx:=ih () trivial
    simp only [Nat.add_one_ne_zero,decide_false] at hnx
    simp only [impl_NameOK.l0,implL,implD,Option.bind_some,wi (show i≤9223372036854775806 by omega),bt_get s i hi]
    refine Eve.ite (fun _ => ?_) (fun h => absurd (by omega) h)
    refine Eve.ite (fun _ => ?_) (fun h => absurd (by omega) h)
    refine Eve.ite (fun _ => ?_) (fun h => absurd (by omega) h)
    refine Eve.ite (fun h1 => hnx.eq (by simp [wgo,h1])) (fun h1 => ?_)
    refine Eve.ite (fun h2 => ?_) (fun h2 => Eve.one.eq (by simp [wgo,h1,h2]))
    refine Eve.ite (fun h3 => Eve.one.eq ?_) (fun h3 => hnx.eq ?_)
    · obtain rfl : i=0:=by omega
      simp [wgo,h1]
    · have : ¬ i=0:=by omega
      simp [wgo,h2,this]
def nam (s : ByteArray) : Bool:=word s && decide ((s.size : Int)≤12)
theorem nam_spec (s : ByteArray) (hs : s.size≤1048576) : Eve (fun k => spec_l01Name.f k s) (nam s):=by
  simp only [spec_l01Name.f,spec_NameOK.f]
  refine Eve.bind (v:=word s) (Eve.bind (word_spec s hs) Eve.one) ?_
  refine Eve.ite (fun h => Eve.one.eq (by simp [nam,h])) (fun h => Eve.one.eq (by simp [nam,h]))
theorem nam_impl (s : ByteArray) (hs : s.size≤1048576) : Eve (fun k => impl_isShort.f k s) (nam s):=by
  simp only [impl_isShort.f]
  refine Eve.ite (fun h => (Eve.bind (word_impl s hs) Eve.one).eq (by simp [nam,h])) (fun h => Eve.one.eq (by simp [nam,h]))
def nms : Option ByteArray→List IFld→Bool
  | _,[] => true
  | p,f :: fs => nam f.f0 && ((match p with|none => true|some q => Op.bytesLess q.toList f.f0.toList) && nms (some f.f0) fs)
def inr (a b c : Int) : Bool:=decide (b≤a) && decide (a≤c)
theorem in_spec (a b c : Int) : spec_l01In.f a b c=some (inr a b c):=by
  unfold spec_l01In.f inr
  by_cases h : b≤a
  · rw [if_pos h];simp [h]
  · rw [if_neg h];simp [h]
theorem in_impl (a b c : Int) : impl_inRange.f a b c=some (inr a b c):=in_spec a b c
abbrev emB (a : ByteArray) : Bool:=a.toList == ([] : List UInt8)
def flat (v : IVal) : Bool :=
  if v.f0=0 then decide (v.f1=0) && emB v.f2
  else if v.f0=1 then inr v.f1 0 1 && emB v.f2
  else if v.f0=2 then inr v.f1 (-1000000000000) 1000000000000 && emB v.f2
  else if v.f0=3 then decide (v.f1=0) && decide ((v.f2.size : Int)≤300)
  else false
def rightV : Nat→IVal→Bool
  | 0,v => flat v
  | d + 1,v =>
    if v.f0=4 then decide (v.f1=0) && (decide ((v.f2.size : Int)≤300) && (match itS v.f2.size v.f2 with|some l => l.all (rightV d)|none => false))
    else if v.f0=5 then decide (v.f1=0) && (decide ((v.f2.size : Int)≤300) && (match fdS v.f2.size v.f2 with|some l => nms none l && l.all (fun f => rightV d f.f1)|none => false))
    else flat v
theorem bad_right (v : IVal) (h : Bad v) : ∀ d,rightV d v=false:=by
  have hf : flat v=false:=by
    unfold flat
    rcases h with h|h|⟨h,h2⟩
    · rw [if_neg (by omega),if_neg (by omega),if_neg (by omega),if_neg (by omega)]
    · rw [if_neg (by omega),if_neg (by omega),if_neg (by omega),if_neg (by omega)]
    · rw [if_neg (by omega),if_neg (by omega),if_pos h]
      have : inr v.f1 (-1000000000000) 1000000000000=false:=by unfold inr;simp;omega
      rw [this];rfl
  intro d
  cases d with
  | zero => exact hf
  | succ d =>
    unfold rightV
    rcases h with h|h|⟨h,h2⟩
    · rw [if_neg (by omega),if_neg (by omega)];exact hf
    · rw [if_neg (by omega),if_neg (by omega)];exact hf
    · rw [if_neg (by omega),if_neg (by omega)];exact hf
theorem rdV (l : List IVal) (i : Nat) (h : i<l.length) : rd_T26 l (i : Int)=l[i]:=getD_at _ l i h
theorem rdF (l : List IFld) (i : Nat) (h : i<l.length) : rd_T68 l (i : Int)=l[i]:=getD_at _ l i h
theorem its_size : ∀ (m : Nat) (a : ByteArray) (l : List IVal),itS m a=some l→a.size≤1048576→l.length≤a.size ∧ ∀ x ∈ l,x.f2.size≤1048576:=by
  intro m
  induction m with
  | zero =>
    intro a l h h2
    simp only [itS] at h
    by_cases hz : a.size=0
    · rw [if_pos hz] at h
      obtain rfl : []=l:=by simpa using h
      simp
    · rw [if_neg hz] at h;simp at h
  | succ m ih =>
    intro a l h h2
    simp only [itS] at h
    by_cases hz : a.size=0
    · rw [if_pos hz] at h
      obtain rfl : []=l:=by simpa using h
      simp
    rw [if_neg hz] at h
    cases hn : nxtV a with
    | none => rw [hn] at h;simp at h
    | some p =>
      obtain ⟨v,r⟩:=p
      rw [hn] at h
      simp only [Option.map_eq_some_iff] at h
      obtain ⟨l',h',rfl⟩:=h
      obtain ⟨hs,hlt⟩:=nxt_some a v r hn
      have hv:=val_size a false h2
      rw [hs] at hv
      obtain ⟨i1,i2⟩:=ih r l' h' (by omega)
      refine ⟨by simp;omega,fun x hx => ?_⟩
      rcases List.mem_cons.1 hx with rfl|hx
      · exact hv
      · exact i2 x hx
theorem fds_size : ∀ (m : Nat) (a : ByteArray) (l : List IFld),fdS m a=some l→a.size≤1048576→l.length≤a.size ∧ ∀ x ∈ l,x.f0.size≤1048576∧x.f1.f2.size≤1048576:=by
  intro m
  induction m with
  | zero =>
    intro a l h h2
    simp only [fdS] at h
    by_cases hz : a.size=0
    · rw [if_pos hz] at h
      obtain rfl : []=l:=by simpa using h
      simp
    · rw [if_neg hz] at h;simp at h
  | succ m ih =>
    intro a l h h2
    simp only [fdS] at h
    by_cases hz : a.size=0
    · rw [if_pos hz] at h
      obtain rfl : []=l:=by simpa using h
      simp
    rw [if_neg hz] at h
    by_cases hy : (a.size : Int)<1 + bt a 0
    · rw [if_pos hy] at h;simp at h
    rw [if_neg hy] at h
    have ht:=tail_size a (1 + bt a 0).toNat
    have hb:=bt_range a 0
    cases hn : nxtV (a.extract (1 + bt a 0).toNat a.size) with
    | none => rw [hn] at h;simp at h
    | some p =>
      obtain ⟨v,r⟩:=p
      rw [hn] at h
      simp only [Option.map_eq_some_iff] at h
      obtain ⟨l',h',rfl⟩:=h
      obtain ⟨hs,hlt⟩:=nxt_some _ v r hn
      have hv:=val_size (a.extract (1 + bt a 0).toNat a.size) false (by omega)
      rw [hs] at hv
      obtain ⟨i1,i2⟩:=ih r l' h' (by omega)
      refine ⟨by simp;omega,fun x hx => ?_⟩
      rcases List.mem_cons.1 hx with rfl|hx
      · exact ⟨by simp only [ByteArray.size_extract];omega,hv⟩
      · exact i2 x hx
end Go.Proofs.Ytpmeglcmhiihoaa.Pure
end
section
namespace Go.Proofs.Ytpmeglcmhiihoaa.Pure
open Go Go.RowKit Go.Proofs.Ytpmeglcmhiihoaa.Q Go.Proofs.YtpmeglcmhiihoaaW.PrintWords Go.Proofs.YtpmeglcmhiihoaaW.PrintLast Go.Proofs.YtpmeglcmhiihoaaW.PrintMore Go.Proofs.YtpmeglcmhiihoaaW.Pl
theorem dn (d : Nat) (h : d≤1000) : wrap64 (((d + 1 : Nat) : Int) - 1)=(d : Int):=by rw [w64 (by omega) (by omega)];omega
theorem spec_flat (v : IVal) (e : Int) (h4 : v.f0≠4) (h5 : v.f0≠5) : Eve (fun k => spec_l01OK.f k v.f0 v.f1 v.f2 e) (flat v):=by
  refine Eve.succ ?_
  simp only [spec_l01OK.f,in_spec,Option.bind_some]
  unfold flat
  refine Eve.ite (fun h => ?_) (fun h => ?_)
  · rw [if_pos h]
    exact Eve.ite (fun h => Eve.one.eq (by simp [h])) (fun h => Eve.one.eq (by simp [h]))
  rw [if_neg h]
  refine Eve.ite (fun h => ?_) (fun h => ?_)
  · rw [if_pos h]
    exact Eve.ite (fun h => Eve.one.eq (by simp [h])) (fun h => Eve.one.eq (by simp [h]))
  rw [if_neg h]
  refine Eve.ite (fun h => ?_) (fun h => ?_)
  · rw [if_pos h]
    exact Eve.ite (fun h => Eve.one.eq (by simp [h])) (fun h => Eve.one.eq (by simp [h]))
  rw [if_neg h]
  refine Eve.ite (fun h => ?_) (fun h => ?_)
  · rw [if_pos h]
    exact Eve.ite (fun h => Eve.one.eq (by simp [h])) (fun h => Eve.one.eq (by simp [h]))
  rw [if_neg h]
  refine Eve.ite (fun h => absurd h h4) (fun _ => ?_)
  exact Eve.ite (fun h => absurd h h5) (fun _ => Eve.one)
theorem impl_flat (v : IVal) (e : Int) (h4 : v.f0≠4) (h5 : v.f0≠5) : Eve (fun k => impl_isRight.f k v.f0 v.f1 v.f2 e) (flat v):=by
  refine Eve.succ ?_
  simp only [impl_isRight.f,impl_isNumber.f,in_impl,Option.bind_some]
  unfold flat
  refine Eve.ite (fun h => ?_) (fun h => ?_)
  · rw [if_pos h]
    exact Eve.one.eq (by rw [h];by_cases h1 : v.f1=0 <;> simp [h1])
  rw [if_neg h]
  refine Eve.ite (fun h => ?_) (fun h => ?_)
  · rw [if_pos h]
    exact Eve.ite (fun h => Eve.one.eq (by simp [h])) (fun h => Eve.one.eq (by simp [h]))
  rw [if_neg h]
  refine Eve.ite (fun h => ?_) (fun h => ?_)
  · rw [if_pos h]
    exact Eve.ite (fun h => Eve.one.eq (by simp [h])) (fun h => Eve.one.eq (by simp [h]))
  rw [if_neg h]
  refine Eve.ite (fun h => ?_) (fun h => ?_)
  · rw [if_pos h]
    exact Eve.ite (fun h => Eve.one.eq (by simp [h])) (fun h => Eve.one.eq (by simp [h]))
  rw [if_neg h]
  refine Eve.ite (fun h => absurd h h4) (fun _ => ?_)
  have : (v.f0 == 5)=false:=by simpa using h5
  simp only [this]
  refine Eve.succ ?_
  simp only [impl_isRight.j0,Bool.false_eq_true,if_false]
  exact Eve.one
theorem spec_j0_true (e : Int) (l : List IVal) : Eve (fun k => spec_l01OK.j0 k e l true) false:=Eve.succ (by simp only [spec_l01OK.j0,if_true];exact Eve.one)
theorem spec_j2_true (e : Int) (l : List IFld) : Eve (fun k => spec_l01OK.j2 k e l true) false:=Eve.succ (by simp only [spec_l01OK.j2,if_true];exact Eve.one)
theorem right_spec : ∀ (d : Nat) (v : IVal),d≤1000→v.f2.size≤1048576→Eve (fun k => spec_l01OK.f k v.f0 v.f1 v.f2 (d : Int)) (rightV d v):=by
  intro d
  induction d with
  | zero =>
    intro v hd hs
    by_cases h4 : v.f0=4
    · have hf : flat v=false:=by unfold flat;rw [if_neg (by omega),if_neg (by omega),if_neg (by omega),if_neg (by omega)]
      show Eve _ (flat v)
      rw [hf]
      refine Eve.succ ?_
      simp only [spec_l01OK.f,h4]
      simp only [show ¬ (4 : Int)=0 by omega,show ¬ (4 : Int)=1 by omega,show ¬ (4 : Int)=2 by omega,show ¬ (4 : Int)=3 by omega,if_false,if_true]
      simp only [spec_l01Items.f]
      refine Eve.bind (items_spec _ v.f2 [] (Nat.le_refl _) hs (by simp;omega)) ?_
      have hj:=spec_j0_true ((0 : Nat) : Int) (toldL [] (itS v.f2.size v.f2)).1
      refine Eve.ite (fun _ => ?_) (fun _ => hj)
      refine Eve.ite (fun _ => ?_) (fun _ => hj)
      exact Eve.ite (fun _ => hj) (fun _ => hj)
    by_cases h5 : v.f0=5
    · have hf : flat v=false:=by unfold flat;rw [if_neg (by omega),if_neg (by omega),if_neg (by omega),if_neg (by omega)]
      show Eve _ (flat v)
      rw [hf]
      refine Eve.succ ?_
      simp only [spec_l01OK.f,h5]
      simp only [show ¬ (5 : Int)=0 by omega,show ¬ (5 : Int)=1 by omega,show ¬ (5 : Int)=2 by omega,show ¬ (5 : Int)=3 by omega,show ¬ (5 : Int)=4 by omega,if_false,if_true]
      simp only [spec_l01Fields.f]
      refine Eve.bind (fields_spec _ v.f2 [] (Nat.le_refl _) hs (by simp;omega)) ?_
      have hj:=spec_j2_true ((0 : Nat) : Int) (toldF [] (fdS v.f2.size v.f2)).1
      refine Eve.ite (fun _ => ?_) (fun _ => hj)
      refine Eve.ite (fun _ => ?_) (fun _ => hj)
      exact Eve.ite (fun _ => hj) (fun _ => hj)
    exact spec_flat v _ h4 h5
  | succ d ih =>
    intro v hd hs
    have he : (((d + 1 : Nat) : Int) == 0)=false:=by simp;omega
    by_cases h4 : v.f0=4
    · unfold rightV
      rw [if_pos h4]
      refine Eve.succ ?_
      simp only [spec_l01OK.f,h4]
      simp only [show ¬ (4 : Int)=0 by omega,show ¬ (4 : Int)=1 by omega,show ¬ (4 : Int)=2 by omega,show ¬ (4 : Int)=3 by omega,if_false,if_true]
      simp only [spec_l01Items.f]
      refine Eve.bind (items_spec _ v.f2 [] (Nat.le_refl _) hs (by simp;omega)) ?_
      have hj:=spec_j0_true ((d + 1 : Nat) : Int) (toldL [] (itS v.f2.size v.f2)).1
      refine Eve.ite (fun h1 => ?_) (fun h1 => hj.eq (by simp [h1]))
      cases hi : itS v.f2.size v.f2 with
      | none =>
        rw [hi] at hj
        simp only [toldL,Bool.false_eq_true,if_false]
        exact hj.eq (by simp)
      | some l =>
        rw [hi] at hj
        simp only [toldL,if_true,List.nil_append] at hj ⊢
        refine Eve.ite (fun h2 => hj.eq ?_) (fun h2 => ?_)
        · have : decide ((v.f2.size : Int)≤300)=false:=by simp;omega
          simp [this]
        obtain ⟨hl1,hl2⟩:=its_size _ _ l hi hs
        have hsz : decide ((v.f2.size : Int)≤300)=true:=by simp;omega
        simp only [he]
        refine Eve.succ ?_
        simp only [spec_l01OK.j0,Bool.false_eq_true,if_false]
        have:=ev_loop0 l (fun k (_ : Unit) i => spec_l01OK.l0 k ((d + 1 : Nat) : Int) l i) (fun _ _ r => r.all (rightV d)) (fun _ _ => True) (fun _ _ => by
          simp only [spec_l01OK.l0]
          exact Eve.ite (fun h => absurd h (by omega)) (fun _ => Eve.one)) (fun i hi _ _ ih2 => by
          simp only [spec_l01OK.l0]
          refine Eve.ite (fun _ => ?_) (fun h => absurd (by omega) h)
          refine Eve.ite (fun _ => ?_) (fun h => absurd (by omega) h)
          simp only [rdV l i hi,dn d (by omega),wi (show i≤9223372036854775806 by omega)]
          refine Eve.bind (ih l[i] (by omega) (hl2 _ (List.getElem_mem hi))) ?_
          exact Eve.ite (fun h => (ih2 () trivial).eq (by rw [List.all_cons,h,Bool.true_and])) (fun h => Eve.one.eq (by rw [List.all_cons,Bool.eq_false_iff.mpr h,Bool.false_and]))) () trivial
        exact this.eq (by simp [h1,hsz])
    by_cases h5 : v.f0=5
    · unfold rightV
      rw [if_neg h4,if_pos h5]
      refine Eve.succ ?_
      simp only [spec_l01OK.f,h5]
      simp only [show ¬ (5 : Int)=0 by omega,show ¬ (5 : Int)=1 by omega,show ¬ (5 : Int)=2 by omega,show ¬ (5 : Int)=3 by omega,show ¬ (5 : Int)=4 by omega,if_false,if_true]
      simp only [spec_l01Fields.f]
      refine Eve.bind (fields_spec _ v.f2 [] (Nat.le_refl _) hs (by simp;omega)) ?_
      have hj:=spec_j2_true ((d + 1 : Nat) : Int) (toldF [] (fdS v.f2.size v.f2)).1
      refine Eve.ite (fun h1 => ?_) (fun h1 => hj.eq (by simp [h1]))
      cases hi : fdS v.f2.size v.f2 with
      | none =>
        rw [hi] at hj
        simp only [toldF,Bool.false_eq_true,if_false]
        exact hj.eq (by simp)
      | some l =>
        rw [hi] at hj
        simp only [toldF,if_true,List.nil_append] at hj ⊢
        refine Eve.ite (fun h2 => hj.eq ?_) (fun h2 => ?_)
        · have : decide ((v.f2.size : Int)≤300)=false:=by simp;omega
          simp [this]
        obtain ⟨hl1,hl2⟩:=fds_size _ _ l hi hs
        have hsz : decide ((v.f2.size : Int)≤300)=true:=by simp;omega
        simp only [he]
        refine Eve.succ ?_
        simp only [spec_l01OK.j2,Bool.false_eq_true,if_false]
        have:=ev_loop0 l (fun k (_ : Unit) i => spec_l01OK.l1 k ((d + 1 : Nat) : Int) l i) (fun i _ r => nms (if i=0 then none else some (l.getD (i - 1) z68).f0) r && r.all (fun f => rightV d f.f1)) (fun _ _ => True) (fun _ _ => by
          simp only [spec_l01OK.l1]
          exact Eve.ite (fun h => absurd h (by omega)) (fun _ => Eve.one.eq (by simp [nms]))) (fun i hi _ _ ih2 => by
          have hnx:=ih2 () trivial
          simp only [Nat.add_one_ne_zero,if_false,Nat.add_sub_cancel,List.getD_eq_getElem?_getD,List.getElem?_eq_getElem hi,Option.getD_some] at hnx
          simp only [spec_l01OK.l1]
          refine Eve.ite (fun _ => ?_) (fun h => absurd (by omega) h)
          refine Eve.ite (fun _ => ?_) (fun h => absurd (by omega) h)
          have hm:=hl2 _ (List.getElem_mem hi)
          simp only [rdF l i hi,dn d (by omega),wi (show i≤9223372036854775806 by omega)]
          refine Eve.bind (nam_spec _ hm.1) ?_
          refine Eve.ite (fun hn => ?_) (fun hn => Eve.one.eq (by simp [nms,hn]))
          refine Eve.ite (fun h3 => ?_) (fun h3 => ?_)
          · have hw : wrap64 ((i : Int) - 1)=((i - 1 : Nat) : Int):=by rw [w64 (by omega) (by omega)];omega
            simp only [hw]
            refine Eve.ite (fun _ => ?_) (fun h => absurd (by omega) h)
            refine Eve.ite (fun _ => ?_) (fun h => absurd (by omega) h)
            rw [if_neg (by omega),List.getD_eq_getElem?_getD,List.getElem?_eq_getElem (show i - 1<l.length by omega),Option.getD_some]
            simp only [rdF l (i - 1) (show i - 1<l.length by omega)]
            refine Eve.ite (fun h6 => ?_) (fun h6 => Eve.one.eq (by simp [nms,h6]))
            refine Eve.bind (ih l[i].f1 (by omega) hm.2) ?_
            exact Eve.ite (fun h => hnx.eq (by simp only [nms,hn,h6,List.all_cons,h,Bool.true_and])) (fun h => Eve.one.eq (by rw [List.all_cons,Bool.eq_false_iff.mpr h,Bool.false_and,Bool.and_false]))
          · obtain rfl : i=0:=by omega
            rw [if_pos rfl]
            refine Eve.bind (ih l[0].f1 (by omega) hm.2) ?_
            exact Eve.ite (fun h => hnx.eq (by simp [nms,hn,h])) (fun h => Eve.one.eq (by simp [h]))) () trivial
        rw [if_pos rfl] at this
        exact this.eq (by simp [h1,hsz])
    unfold rightV
    rw [if_neg h4,if_neg h5]
    exact spec_flat v _ h4 h5
end Go.Proofs.Ytpmeglcmhiihoaa.Pure
end
section
namespace Go.Proofs.Ytpmeglcmhiihoaa.Pure
open Go Go.RowKit Go.Proofs.Ytpmeglcmhiihoaa.Q Go.Proofs.YtpmeglcmhiihoaaW.PrintWords Go.Proofs.YtpmeglcmhiihoaaW.PrintLast Go.Proofs.YtpmeglcmhiihoaaW.PrintMore Go.Proofs.YtpmeglcmhiihoaaW.Pl
theorem Eve.list {α β : Type} (g : Nat→α→Option β) (q : α→β) : ∀ l : List α,(∀ x ∈ l,Eve (fun k => g k x) (q x)) → ∃ K,∀ k,K≤k → ∀ x ∈ l,g k x=some (q x)
  | [],_ => ⟨0,fun _ _ x hx => by simp at hx⟩
  | y :: l,h => by
    obtain ⟨K,hK⟩:=Eve.list g q l (fun x hx => h x (by simp [hx]))
    obtain ⟨K2,hK2⟩:=h y (by simp)
    refine ⟨max K K2,fun k hk x hx => ?_⟩
    rcases List.mem_cons.1 hx with rfl|hx
    · exact hK2 k (by omega)
    · exact hK k (by omega) x hx
theorem cf_tells (l : List IVal) (q : IVal→Bool) (e : Int) (hl : l.length≤4194304) (h : ∀ x ∈ l,Eve (fun k => impl_isRight.f k x.f0 x.f1 x.f2 (wrap64 (e - 1))) (q x)) :
    Eve (fun k => impl_Value_at_isRight_1.f k (impl_isRight.f k) l e) (l.any (fun x => !q x)):=by
  obtain ⟨K,hK⟩:=Eve.list (fun k (x : IVal) => impl_isRight.f k x.f0 x.f1 x.f2 (wrap64 (e - 1))) q l h
  refine ⟨max K (l.length + 1),fun k hk => ?_⟩
  have hG : ∀ x ∈ l,impl_isRight.f k x.f0 x.f1 x.f2 (wrap64 (e - 1))=some (q x):=hK k (by omega)
  show impl_Value_at_isRight_1.f k (impl_isRight.f k) l e=_
  generalize impl_isRight.f k=G at hG
  unfold impl_Value_at_isRight_1.f impl_Value_at_isRight_1_200001.f
  have:=first_loop (fun k i => impl_Value_at_isRight_1_200001.l0 G k l (l.length : Int) i e) l (fun x => !q x) (fun k i hi => by
    have hx:=hG l[i] (List.getElem_mem hi)
    simp only [impl_Value_at_isRight_1_200001.l0]
    rw [if_pos (by omega),if_pos (by omega),if_pos (by omega),rdV l i hi,wi (show i≤9223372036854775806 by omega)]
    unfold impl_isRight_1.f
    rw [hx]
    rfl) (fun k => by simp only [impl_Value_at_isRight_1_200001.l0];rw [if_neg (by omega)]) l.length k 0 (by omega) (by omega)
  rw [show ((0 : Nat) : Int)=0 from rfl,List.drop_zero] at this
  rw [this]
  simp only [Option.bind_some,first_any]
theorem any_not (l : List IVal) (q : IVal→Bool) : (!(l.any (fun x => !q x)))=l.all q:=by
  induction l with
  | nil => rfl
  | cons x l ih => simp only [List.any_cons,List.all_cons,← ih];cases q x <;> simp
theorem inner_loop (l : List IFld) (hl : l.length≤1048576) (hn : ∀ f ∈ l,f.f0.size≤1048576) (ok : Bool) : Eve (fun k => impl_inner.l0 k l ok [] l (l.length : Int) 0) (l.map (·.f1),ok && nms none l):=by
  have:=ev_loop0 l (fun k (s : Bool×List IVal) i => impl_inner.l0 k l s.1 s.2 l (l.length : Int) i) (fun i s r => (s.2 ++ r.map (·.f1),s.1 && nms (if i=0 then none else some (l.getD (i - 1) z68).f0) r)) (fun i s => s.2.length=i) (fun s _ => by
    simp only [impl_inner.l0]
    exact Eve.ite (fun h => absurd h (by omega)) (fun _ => Eve.one.eq (by simp [nms]))) (fun i hi s hI ih => by
    obtain ⟨b,out⟩:=s
    simp only at hI
    have hf:=hn l[i] (List.getElem_mem hi)
    have hnx:=fun b' => ih (b',out ++ [⟨l[i].f1.f0,l[i].f1.f1,l[i].f1.f2⟩]) (by simp;omega)
    simp only [Nat.add_one_ne_zero,if_false,Nat.add_sub_cancel,List.getD_eq_getElem?_getD,List.getElem?_eq_getElem hi,Option.getD_some] at hnx
    have hout : ∀ r : List IFld,out ++ [(⟨l[i].f1.f0,l[i].f1.f1,l[i].f1.f2⟩ : IVal)] ++ r.map (·.f1)=out ++ (l[i] :: r).map (·.f1):=by intro r;simp
    simp only [impl_inner.l0]
    refine Eve.ite (fun _ => ?_) (fun h => absurd (by omega) h)
    refine Eve.ite (fun _ => ?_) (fun h => absurd (by omega) h)
    refine Eve.ite (fun _ => ?_) (fun h => absurd (by omega) h)
    simp only [rdF l i hi,wi (show i≤9223372036854775806 by omega)]
    refine Eve.ite (fun hb => ?_) (fun hb => ?_)
    · refine Eve.bind (nam_impl _ hf) ?_
      refine Eve.ite (fun h1 => ?_) (fun h1 => ?_)
      · refine Eve.ite (fun h2 => ?_) (fun h2 => ?_)
        · obtain rfl : i=0:=by omega
          refine Eve.ite (fun _ => (hnx true).eq ?_) (fun h => absurd (by omega) h)
          rw [hout,if_pos rfl]
          simp only [nms,h1,hb,Bool.true_and]
        · have hw : wrap64 ((i : Int) - 1)=((i - 1 : Nat) : Int):=by rw [w64 (by omega) (by omega)];omega
          simp only [hw]
          refine Eve.ite (fun _ => ?_) (fun h => absurd (by omega) h)
          refine Eve.ite (fun _ => ?_) (fun h => absurd (by omega) h)
          refine Eve.ite (fun _ => ?_) (fun h => absurd (by omega) h)
          have hi1 : i - 1<l.length:=by omega
          have hz : ¬ i=0:=by omega
          simp only [rdF l (i - 1) hi1]
          refine (hnx _).eq ?_
          rw [hout,if_neg hz,List.getD_eq_getElem?_getD,List.getElem?_eq_getElem hi1,Option.getD_some]
          simp only [nms,h1,hb,Bool.true_and]
      · refine Eve.ite (fun _ => (hnx false).eq ?_) (fun h => absurd (by omega) h)
        rw [hout]
        simp only [nms,Bool.eq_false_iff.mpr h1,Bool.false_and,Bool.and_false]
    · refine Eve.ite (fun _ => (hnx false).eq ?_) (fun h => absurd (by omega) h)
      rw [hout]
      simp only [Bool.eq_false_iff.mpr hb,Bool.false_and]) (ok,[]) rfl
  exact this.eq (by simp)
end Go.Proofs.Ytpmeglcmhiihoaa.Pure
end
section
namespace Go.Proofs.Ytpmeglcmhiihoaa.Pure
open Go Go.RowKit Go.Proofs.Ytpmeglcmhiihoaa.Q Go.Proofs.YtpmeglcmhiihoaaW.PrintWords Go.Proofs.YtpmeglcmhiihoaaW.PrintLast Go.Proofs.YtpmeglcmhiihoaaW.PrintMore Go.Proofs.YtpmeglcmhiihoaaW.Pl
theorem inner_four (v : IVal) (h4 : v.f0=4) (hs : v.f2.size≤1048576) : ∃ l ok,Eve (fun k => impl_inner.f k v.f0 v.f1 v.f2) (l,ok)∧l.length≤1048576∧(∀ x ∈ l,x.f2.size≤1048576) ∧
    ((itS v.f2.size v.f2=some l∧ok=true)∨(itS v.f2.size v.f2=none∧(ok=false ∨ ∃ x ∈ l,Bad x))):=by
  simp only [impl_inner.f,impl_items.f,if_pos h4]
  cases hi : itS v.f2.size v.f2 with
  | some l =>
    obtain ⟨h1,h2⟩:=its_size _ _ l hi hs
    exact ⟨l,true,(Eve.bind (items_some _ v.f2 [] l hi (by simp;omega)) Eve.one),by omega,h2,.inl ⟨rfl,rfl⟩⟩
  | none =>
    obtain ⟨l,ok,hl,hb,h1,h2⟩:=items_none _ v.f2 [] (Nat.le_refl _) hi (by simp;omega)
    exact ⟨l,ok,(Eve.bind hl Eve.one),by omega,h2,.inr ⟨rfl,hb⟩⟩
theorem inner_five (v : IVal) (h5 : v.f0=5) (hs : v.f2.size≤1048576) : ∃ l ok,Eve (fun k => impl_inner.f k v.f0 v.f1 v.f2) (l,ok)∧l.length≤1048576∧(∀ x ∈ l,x.f2.size≤1048576) ∧
    ((∃ fs,fdS v.f2.size v.f2=some fs∧l=fs.map (·.f1)∧ok=nms none fs)∨(fdS v.f2.size v.f2=none∧(ok=false ∨ ∃ x ∈ l,Bad x))):=by
  have h4 : ¬ v.f0=4:=by omega
  simp only [impl_inner.f,impl_fields.f,if_neg h4]
  cases hi : fdS v.f2.size v.f2 with
  | some fs =>
    obtain ⟨h1,h2⟩:=fds_size _ _ fs hi hs
    refine ⟨fs.map (·.f1),nms none fs,?_,by simp;omega,?_,.inl ⟨fs,rfl,rfl,rfl⟩⟩
    · refine Eve.bind (fields_some _ v.f2 [] fs hi (by simp;omega)) ?_
      exact (inner_loop fs (by omega) (fun f hf => (h2 f hf).1) true).eq (by simp)
    · intro x hx
      obtain ⟨f,hf,rfl⟩:=List.mem_map.1 hx
      exact (h2 f hf).2
  | none =>
    obtain ⟨fs,ok,hl,hb,h1,h2⟩:=fields_none _ v.f2 [] (Nat.le_refl _) hi (by simp;omega)
    refine ⟨fs.map (·.f1),ok && nms none fs,?_,by simp;omega,?_,.inr ⟨rfl,?_⟩⟩
    · refine Eve.bind hl ?_
      exact inner_loop fs (by omega) (fun f hf => (h2 f hf).1) ok
    · intro x hx
      obtain ⟨f,hf,rfl⟩:=List.mem_map.1 hx
      exact (h2 f hf).2
    · rcases hb with hb|⟨f,hf,hb⟩
      · left;rw [hb];rfl
      · right;exact ⟨f.f1,List.mem_map.2 ⟨f,hf,rfl⟩,hb⟩
theorem all_bad (l : List IVal) (q : IVal→Bool) (x : IVal) (hx : x ∈ l) (h : q x=false) : l.all q=false:=by
  rw [List.all_eq_false]
  exact ⟨x,hx,by simp [h]⟩
theorem nest_tells (v : IVal) (d : Nat) (l : List IVal) (ok : Bool) (hd : d≤1000) (h45 : v.f0=4∨v.f0=5) (hin : Eve (fun k => impl_inner.f k v.f0 v.f1 v.f2) (l,ok)) (hl : l.length≤1048576)
    (hq : ∀ x ∈ l,Eve (fun k => impl_isRight.f k x.f0 x.f1 x.f2 (d : Int)) (rightV d x)) :
    Eve (fun k => impl_isRight.f k v.f0 v.f1 v.f2 ((d + 1 : Nat) : Int)) (decide (v.f1=0) && (decide ((v.f2.size : Int)≤300) && (ok && l.all (rightV d)))):=by
  have hj : Eve (fun k => impl_isRight.j0 k true v.f0 v.f1 v.f2 ((d + 1 : Nat) : Int)) (decide (v.f1=0) && (decide ((v.f2.size : Int)≤300) && (ok && l.all (rightV d)))):=by
    refine Eve.succ ?_
    simp only [impl_isRight.j0,if_true]
    refine Eve.bind hin ?_
    refine Eve.ite (fun h1 => ?_) (fun h1 => Eve.one.eq (by simp [h1]))
    refine Eve.ite (fun h2 => ?_) (fun h2 => Eve.one.eq (by simp [h2]))
    refine Eve.ite (fun _ => ?_) (fun h => absurd (by omega) h)
    refine Eve.ite (fun h3 => ?_) (fun h3 => Eve.one.eq (by rw [show ok=false from Bool.eq_false_iff.mpr h3];simp))
    have hc:=cf_tells l (rightV d) ((d + 1 : Nat) : Int) (by omega) (fun x hx => by rw [dn d hd];exact hq x hx)
    refine Eve.bind hc (Eve.one.eq ?_)
    rw [any_not,show ok=true from h3]
    simp [h1,h2]
  refine Eve.succ ?_
  simp only [impl_isRight.f]
  rcases h45 with h|h
  · simp only [h] at hj ⊢
    simp only [show ¬ (4 : Int)=0 by omega,show ¬ (4 : Int)=1 by omega,show ¬ (4 : Int)=2 by omega,show ¬ (4 : Int)=3 by omega,if_false,if_true,beq_self_eq_true]
    exact hj
  · simp only [h] at hj ⊢
    simp only [show ¬ (5 : Int)=0 by omega,show ¬ (5 : Int)=1 by omega,show ¬ (5 : Int)=2 by omega,show ¬ (5 : Int)=3 by omega,show ¬ (5 : Int)=4 by omega,if_false,beq_self_eq_true]
    exact hj
theorem nest_zero (v : IVal) (l : List IVal) (ok : Bool) (h45 : v.f0=4∨v.f0=5) (hin : Eve (fun k => impl_inner.f k v.f0 v.f1 v.f2) (l,ok)) : Eve (fun k => impl_isRight.f k v.f0 v.f1 v.f2 ((0 : Nat) : Int)) false:=by
  have hj : Eve (fun k => impl_isRight.j0 k true v.f0 v.f1 v.f2 ((0 : Nat) : Int)) false:=by
    refine Eve.succ ?_
    simp only [impl_isRight.j0,if_true]
    refine Eve.bind hin ?_
    refine Eve.ite (fun _ => ?_) (fun _ => Eve.one)
    refine Eve.ite (fun _ => ?_) (fun _ => Eve.one)
    exact Eve.ite (fun h => absurd h (by omega)) (fun _ => Eve.one)
  refine Eve.succ ?_
  simp only [impl_isRight.f]
  rcases h45 with h|h
  · simp only [h] at hj ⊢
    simp only [show ¬ (4 : Int)=0 by omega,show ¬ (4 : Int)=1 by omega,show ¬ (4 : Int)=2 by omega,show ¬ (4 : Int)=3 by omega,if_false,if_true,beq_self_eq_true]
    exact hj
  · simp only [h] at hj ⊢
    simp only [show ¬ (5 : Int)=0 by omega,show ¬ (5 : Int)=1 by omega,show ¬ (5 : Int)=2 by omega,show ¬ (5 : Int)=3 by omega,show ¬ (5 : Int)=4 by omega,if_false,beq_self_eq_true]
    exact hj
theorem right_impl : ∀ (d : Nat) (v : IVal),d≤1000→v.f2.size≤1048576→Eve (fun k => impl_isRight.f k v.f0 v.f1 v.f2 (d : Int)) (rightV d v):=by
  intro d
  induction d with
  | zero =>
    intro v hd hs
    by_cases h4 : v.f0=4
    · obtain ⟨l,ok,hin,_⟩:=inner_four v h4 hs
      refine (nest_zero v l ok (.inl h4) hin).eq ?_
      show false=flat v
      unfold flat;rw [if_neg (by omega),if_neg (by omega),if_neg (by omega),if_neg (by omega)]
    by_cases h5 : v.f0=5
    · obtain ⟨l,ok,hin,_⟩:=inner_five v h5 hs
      refine (nest_zero v l ok (.inr h5) hin).eq ?_
      show false=flat v
      unfold flat;rw [if_neg (by omega),if_neg (by omega),if_neg (by omega),if_neg (by omega)]
    exact impl_flat v _ h4 h5
  | succ d ih =>
    intro v hd hs
    by_cases h4 : v.f0=4
    · obtain ⟨l,ok,hin,hl,hsz,hc⟩:=inner_four v h4 hs
      refine (nest_tells v d l ok (by omega) (.inl h4) hin hl (fun x hx => ih x (by omega) (hsz x hx))).eq ?_
      unfold rightV
      rw [if_pos h4]
      rcases hc with ⟨hi,rfl⟩|⟨hi,hb⟩
      · rw [hi];simp
      · rw [hi]
        rcases hb with rfl|⟨x,hx,hb⟩
        · simp
        · rw [all_bad l (rightV d) x hx (bad_right x hb d)];simp
    by_cases h5 : v.f0=5
    · obtain ⟨l,ok,hin,hl,hsz,hc⟩:=inner_five v h5 hs
      refine (nest_tells v d l ok (by omega) (.inr h5) hin hl (fun x hx => ih x (by omega) (hsz x hx))).eq ?_
      unfold rightV
      rw [if_neg h4,if_pos h5]
      rcases hc with ⟨fs,hi,rfl,rfl⟩|⟨hi,hb⟩
      · rw [hi,List.all_map];rfl
      · rw [hi]
        rcases hb with rfl|⟨x,hx,hb⟩
        · simp
        · rw [all_bad l (rightV d) x hx (bad_right x hb d)];simp
    unfold rightV
    rw [if_neg h4,if_neg h5]
    exact impl_flat v _ h4 h5
theorem right_small (d : Nat) (v : IVal) (h : 300<v.f2.size) : rightV d v=false:=by
  have he : emB v.f2=false:=by
    have : ¬ v.f2.toList=([] : List UInt8):=fun e => by have:=(emp _).1 e;omega
    simpa [emB] using this
  have hz : decide ((v.f2.size : Int)≤300)=false:=by simp;omega
  have hf : flat v=false:=by
    unfold flat
    rw [he,hz]
    repeat' split
    all_goals simp
  cases d with
  | zero => exact hf
  | succ d =>
    unfold rightV
    rw [hz,hf]
    repeat' split
    all_goals simp
theorem ok_impl (v : IVal) (hs : v.f2.size≤1048576) : Eve (fun k => impl_ValueOK.f k v.f0 v.f1 v.f2) (rightV 5 v):=by
  simp only [impl_ValueOK.f]
  exact Eve.bind (right_impl 5 v (by omega) hs) Eve.one
theorem ok_spec (v : IVal) (hs : v.f2.size≤1048576) : Eve (fun k => spec_ValueOK.f k v.f0 v.f1 v.f2) (rightV 5 v):=by
  simp only [spec_ValueOK.f]
  refine Eve.ite (fun _ => Eve.bind (right_spec 5 v (by omega) hs) Eve.one) (fun h => Eve.one.eq ?_)
  rw [right_small 5 v (by omega)]
end Go.Proofs.Ytpmeglcmhiihoaa.Pure
end
section
namespace Go.Proofs.Ytpmeglcmhiihoaa.Q
open Go.RowKit Go.Proofs.YtpmeglcmhiihoaaW.PrintWords Go.Proofs.YtpmeglcmhiihoaaW.PrintLast Go.Proofs.YtpmeglcmhiihoaaW.PrintMore
attribute [local go_sem] max2_int min2_int max_two min_two max_three min_three max_four min_four max2_str min2_str str_geq str_gtr str_leq   -- for this text's walks alone
set_option linter.unusedVariables false
set_option linter.unusedSimpArgs false

def laws_eqValue.f (a0_0 : Int) (a0_1 : Int) (a0_2 : ByteArray) (a1_0 : Int) (a1_1 : Int) (a1_2 : ByteArray) : Option (Bool):=if a0_0=a1_0 then (if a0_1=a1_1 then (if a0_2.toList=a1_2.toList then (some true) else (some false)) else (some false)) else (some false)
set_option maxHeartbeats 8000000 in
set_option maxRecDepth 100000 in
theorem laws_eqValue.calls (a0_0 : Int) (a0_1 : Int) (a0_2 : ByteArray) (a1_0 : Int) (a1_1 : Int) (a1_2 : ByteArray) (r : Bool) (w : World) (h : laws_eqValue.f a0_0 a0_1 a0_2 a1_0 a1_1 a1_2=some r) :
  Calls Try.prog 21 #[.agg #[.int .i64 a0_0,.int .i64 a0_1,.string a0_2],.agg #[.int .i64 a1_0,.int .i64 a1_1,.string a1_2]] w fun e w' => e = .returned (.bool r)∧Below w.heap.size w w':=by
 have hu26:=Try.underlying26
 have HB:=Aside0.mk (Below.refl w.heap.size w)
 have H : (if a0_0=a1_0 then (if a0_1=a1_1 then (if a0_2.toList=a1_2.toList then (some true) else (some false)) else (some false)) else (some false))=some r:=h
 clear h
 by_cases c3 : a0_0=a1_0
 ·
  rw [if_pos c3] at H
  have c3b0 : (a0_0 == a1_0)=true:=beq_iff_eq.mpr c3
  have c3b1 : (a0_0 != a1_0)=false:=bne_eq_false_iff_eq.mpr c3
  clear c3
  by_cases c4 : a0_1=a1_1
  ·
   rw [if_pos c4] at H
   have c4b0 : (a0_1 == a1_1)=true:=beq_iff_eq.mpr c4
   have c4b1 : (a0_1 != a1_1)=false:=bne_eq_false_iff_eq.mpr c4
   clear c4
   by_cases c5 : a0_2.toList=a1_2.toList
   ·
    rw [if_pos c5] at H
    have c5b0 : (a0_2.toList == a1_2.toList)=true:=beq_iff_eq.mpr c5
    have c5b1 : (a0_2.toList != a1_2.toList)=false:=bne_eq_false_iff_eq.mpr c5
    clear c5
    obtain rfl:=Option.some.inj H
    go_enter Try.func21,Try.ntmps21
    go_wp2_with (first|((with_reducible refine gate_dst (N:=2) rfl ?_);refine box_event ?hg (N:=2) ?hd (cs:=#[.int .i64 a0_0,.int .i64 a0_1,.string a0_2]) (t:=26) ?hr ?_;(case hd => rfl);(case hg => rfl);(case hr => first|(go_simp;done)|(go_simp;rfl));intro gb312 hg w6 hbox hb;have n0_:=Aside0.mk (below_step (by repeat (first|(with_reducible first|exact HB.out|apply below_alloc|apply pw_below_drewN|apply below_drew1)|exact HB.out)) hb);have n1_:=Aside0.mk (hbox);have n2_:=Aside0.mk ((by rw [hg];exact (below_size (by repeat (first|(with_reducible first|exact HB.out|apply below_alloc|apply pw_below_drewN|apply below_drew1)|exact HB.out))) : w.heap.size≤gb312));have n3_:=Aside0.mk ((by rw [hg];exact (below_size (by repeat (first|(with_reducible first|exact HB.out|apply below_alloc|apply pw_below_drewN|apply below_drew1)|exact HB.out))) : w.heap.size≤gb312));clear HB;have HB:=n0_;have BK312:=n1_;have GW312:=n2_;have GE312:=n3_;clear n0_ n1_ n2_ n3_;clear hb hbox hg)|((with_reducible refine gate_dst (N:=3) rfl ?_);refine box_event ?hg (N:=3) ?hd (cs:=#[.int .i64 a1_0,.int .i64 a1_1,.string a1_2]) (t:=26) ?hr ?_;(case hd => rfl);(case hg => rfl);(case hr => first|(go_simp;done)|(go_simp;rfl));intro gb313 hg w7 hbox hb;have n0_:=Aside0.mk (blk_below (g:=gb312) (o:=.cells #[.int .i64 a0_0,.int .i64 a0_1,.string a0_2] 26 (0,0)) (by (with_reducible repeat (first|refine blk_drewN ?_ _|refine blk_drew ?_|refine blk_alloc ?_ _));exact BK312.out) hb);have n1_:=Aside0.mk (below_step (by repeat (first|(with_reducible first|exact HB.out|apply below_alloc|apply pw_below_drewN|apply below_drew1|refine below_set ?_ GE312.out)|exact HB.out)) hb);have n2_:=Aside0.mk (hbox);have n3_:=Aside0.mk ((by rw [hg];exact (below_size (by repeat (first|(with_reducible first|exact HB.out|apply below_alloc|apply pw_below_drewN|apply below_drew1|refine below_set ?_ GE312.out)|exact HB.out))) : w.heap.size≤gb313));have n4_:=Aside0.mk ((by rw [hg];exact (below_size (by repeat (first|(with_reducible first|exact HB.out|apply below_alloc|apply pw_below_drewN|apply below_drew1|refine below_set ?_ GE312.out)|exact HB.out))) : w.heap.size≤gb313));have n5_:=Aside0.mk ((by rw [hg];exact Nat.ne_of_lt (blk_lt (g:=gb312) (o:=.cells #[.int .i64 a0_0,.int .i64 a0_1,.string a0_2] 26 (0,0)) (by (with_reducible repeat (first|refine blk_drewN ?_ _|refine blk_drew ?_|refine blk_alloc ?_ _));exact BK312.out)) : gb312≠gb313));have n6_:=Aside0.mk ((by rw [hg];exact Nat.ne_of_gt (blk_lt (g:=gb312) (o:=.cells #[.int .i64 a0_0,.int .i64 a0_1,.string a0_2] 26 (0,0)) (by (with_reducible repeat (first|refine blk_drewN ?_ _|refine blk_drew ?_|refine blk_alloc ?_ _));exact BK312.out)) : gb313≠gb312));clear BK312;clear HB;have BK312:=n0_;have HB:=n1_;have BK313:=n2_;have GW313:=n3_;have GE313:=n4_;have NB312_313:=n5_;have NB313_312:=n6_;clear n0_ n1_ n2_ n3_ n4_ n5_ n6_;clear hb hbox hg;have hnb8:=NB312_313.out;have hnc8:=NB313_312.out;have hcz9_0 : w7.cell? ⟨gb312,0,none⟩=some (.int .i64 a0_0):=(blk_cell BK312.out 0).trans rfl;have hcz9_1 : w7.cell? ⟨gb312,1,none⟩=some (.int .i64 a0_1):=(blk_cell BK312.out 1).trans rfl;have hcz9_2 : w7.cell? ⟨gb312,2,none⟩=some (.string a0_2):=(blk_cell BK312.out 2).trans rfl;have hfz9_0:=blk_frozen BK312.out 0;have hfz9_1:=blk_frozen BK312.out 1;have hfz9_2:=blk_frozen BK312.out 2;have hcz10_0 : w7.cell? ⟨gb313,0,none⟩=some (.int .i64 a1_0):=(blk_cell BK313.out 0).trans rfl;have hcz10_1 : w7.cell? ⟨gb313,1,none⟩=some (.int .i64 a1_1):=(blk_cell BK313.out 1).trans rfl;have hcz10_2 : w7.cell? ⟨gb313,2,none⟩=some (.string a1_2):=(blk_cell BK313.out 2).trans rfl;have hfz10_0:=blk_frozen BK313.out 0;have hfz10_1:=blk_frozen BK313.out 1;have hfz10_2:=blk_frozen BK313.out 2))
    go_ret
    exact ⟨by first|rfl|(simp [errW_none,errW_some] <;> rfl)|(simp [*,errW_none,errW_some] <;> rfl),by repeat (first|(with_reducible first|exact HB.out|apply below_alloc|apply pw_below_drewN|apply below_drew1|refine below_set ?_ GE312.out|refine below_set ?_ GE313.out)|exact HB.out)⟩
   ·
    rw [if_neg c5] at H
    have c5b0 : (a0_2.toList == a1_2.toList)=false:=beq_eq_false_iff_ne.mpr c5
    have c5b1 : (a0_2.toList != a1_2.toList)=true:=bne_iff_ne.mpr c5
    obtain rfl:=Option.some.inj H
    go_enter Try.func21,Try.ntmps21
    go_wp2_with (first|((with_reducible refine gate_dst (N:=2) rfl ?_);refine box_event ?hg (N:=2) ?hd (cs:=#[.int .i64 a0_0,.int .i64 a0_1,.string a0_2]) (t:=26) ?hr ?_;(case hd => rfl);(case hg => rfl);(case hr => first|(go_simp;done)|(go_simp;rfl));intro gb312 hg w11 hbox hb;have n0_:=Aside0.mk (below_step (by repeat (first|(with_reducible first|exact HB.out|apply below_alloc|apply pw_below_drewN|apply below_drew1)|exact HB.out)) hb);have n1_:=Aside0.mk (hbox);have n2_:=Aside0.mk ((by rw [hg];exact (below_size (by repeat (first|(with_reducible first|exact HB.out|apply below_alloc|apply pw_below_drewN|apply below_drew1)|exact HB.out))) : w.heap.size≤gb312));have n3_:=Aside0.mk ((by rw [hg];exact (below_size (by repeat (first|(with_reducible first|exact HB.out|apply below_alloc|apply pw_below_drewN|apply below_drew1)|exact HB.out))) : w.heap.size≤gb312));clear HB;have HB:=n0_;have BK312:=n1_;have GW312:=n2_;have GE312:=n3_;clear n0_ n1_ n2_ n3_;clear hb hbox hg)|((with_reducible refine gate_dst (N:=3) rfl ?_);refine box_event ?hg (N:=3) ?hd (cs:=#[.int .i64 a1_0,.int .i64 a1_1,.string a1_2]) (t:=26) ?hr ?_;(case hd => rfl);(case hg => rfl);(case hr => first|(go_simp;done)|(go_simp;rfl));intro gb313 hg w12 hbox hb;have n0_:=Aside0.mk (blk_below (g:=gb312) (o:=.cells #[.int .i64 a0_0,.int .i64 a0_1,.string a0_2] 26 (0,0)) (by (with_reducible repeat (first|refine blk_drewN ?_ _|refine blk_drew ?_|refine blk_alloc ?_ _));exact BK312.out) hb);have n1_:=Aside0.mk (below_step (by repeat (first|(with_reducible first|exact HB.out|apply below_alloc|apply pw_below_drewN|apply below_drew1|refine below_set ?_ GE312.out)|exact HB.out)) hb);have n2_:=Aside0.mk (hbox);have n3_:=Aside0.mk ((by rw [hg];exact (below_size (by repeat (first|(with_reducible first|exact HB.out|apply below_alloc|apply pw_below_drewN|apply below_drew1|refine below_set ?_ GE312.out)|exact HB.out))) : w.heap.size≤gb313));have n4_:=Aside0.mk ((by rw [hg];exact (below_size (by repeat (first|(with_reducible first|exact HB.out|apply below_alloc|apply pw_below_drewN|apply below_drew1|refine below_set ?_ GE312.out)|exact HB.out))) : w.heap.size≤gb313));have n5_:=Aside0.mk ((by rw [hg];exact Nat.ne_of_lt (blk_lt (g:=gb312) (o:=.cells #[.int .i64 a0_0,.int .i64 a0_1,.string a0_2] 26 (0,0)) (by (with_reducible repeat (first|refine blk_drewN ?_ _|refine blk_drew ?_|refine blk_alloc ?_ _));exact BK312.out)) : gb312≠gb313));have n6_:=Aside0.mk ((by rw [hg];exact Nat.ne_of_gt (blk_lt (g:=gb312) (o:=.cells #[.int .i64 a0_0,.int .i64 a0_1,.string a0_2] 26 (0,0)) (by (with_reducible repeat (first|refine blk_drewN ?_ _|refine blk_drew ?_|refine blk_alloc ?_ _));exact BK312.out)) : gb313≠gb312));clear BK312;clear HB;have BK312:=n0_;have HB:=n1_;have BK313:=n2_;have GW313:=n3_;have GE313:=n4_;have NB312_313:=n5_;have NB313_312:=n6_;clear n0_ n1_ n2_ n3_ n4_ n5_ n6_;clear hb hbox hg;have hnb13:=NB312_313.out;have hnc13:=NB313_312.out;have hcz14_0 : w12.cell? ⟨gb312,0,none⟩=some (.int .i64 a0_0):=(blk_cell BK312.out 0).trans rfl;have hcz14_1 : w12.cell? ⟨gb312,1,none⟩=some (.int .i64 a0_1):=(blk_cell BK312.out 1).trans rfl;have hcz14_2 : w12.cell? ⟨gb312,2,none⟩=some (.string a0_2):=(blk_cell BK312.out 2).trans rfl;have hfz14_0:=blk_frozen BK312.out 0;have hfz14_1:=blk_frozen BK312.out 1;have hfz14_2:=blk_frozen BK312.out 2;have hcz15_0 : w12.cell? ⟨gb313,0,none⟩=some (.int .i64 a1_0):=(blk_cell BK313.out 0).trans rfl;have hcz15_1 : w12.cell? ⟨gb313,1,none⟩=some (.int .i64 a1_1):=(blk_cell BK313.out 1).trans rfl;have hcz15_2 : w12.cell? ⟨gb313,2,none⟩=some (.string a1_2):=(blk_cell BK313.out 2).trans rfl;have hfz15_0:=blk_frozen BK313.out 0;have hfz15_1:=blk_frozen BK313.out 1;have hfz15_2:=blk_frozen BK313.out 2))
    go_ret
    exact ⟨by first|rfl|(simp [errW_none,errW_some] <;> rfl)|(simp [*,errW_none,errW_some] <;> rfl),by repeat (first|(with_reducible first|exact HB.out|apply below_alloc|apply pw_below_drewN|apply below_drew1|refine below_set ?_ GE312.out|refine below_set ?_ GE313.out)|exact HB.out)⟩
  ·
   rw [if_neg c4] at H
   have c4b0 : (a0_1 == a1_1)=false:=beq_eq_false_iff_ne.mpr c4
   have c4b1 : (a0_1 != a1_1)=true:=bne_iff_ne.mpr c4
   obtain rfl:=Option.some.inj H
   go_enter Try.func21,Try.ntmps21
   go_wp2_with (first|((with_reducible refine gate_dst (N:=2) rfl ?_);refine box_event ?hg (N:=2) ?hd (cs:=#[.int .i64 a0_0,.int .i64 a0_1,.string a0_2]) (t:=26) ?hr ?_;(case hd => rfl);(case hg => rfl);(case hr => first|(go_simp;done)|(go_simp;rfl));intro gb312 hg w16 hbox hb;have n0_:=Aside0.mk (below_step (by repeat (first|(with_reducible first|exact HB.out|apply below_alloc|apply pw_below_drewN|apply below_drew1)|exact HB.out)) hb);have n1_:=Aside0.mk (hbox);have n2_:=Aside0.mk ((by rw [hg];exact (below_size (by repeat (first|(with_reducible first|exact HB.out|apply below_alloc|apply pw_below_drewN|apply below_drew1)|exact HB.out))) : w.heap.size≤gb312));have n3_:=Aside0.mk ((by rw [hg];exact (below_size (by repeat (first|(with_reducible first|exact HB.out|apply below_alloc|apply pw_below_drewN|apply below_drew1)|exact HB.out))) : w.heap.size≤gb312));clear HB;have HB:=n0_;have BK312:=n1_;have GW312:=n2_;have GE312:=n3_;clear n0_ n1_ n2_ n3_;clear hb hbox hg)|((with_reducible refine gate_dst (N:=3) rfl ?_);refine box_event ?hg (N:=3) ?hd (cs:=#[.int .i64 a1_0,.int .i64 a1_1,.string a1_2]) (t:=26) ?hr ?_;(case hd => rfl);(case hg => rfl);(case hr => first|(go_simp;done)|(go_simp;rfl));intro gb313 hg w17 hbox hb;have n0_:=Aside0.mk (blk_below (g:=gb312) (o:=.cells #[.int .i64 a0_0,.int .i64 a0_1,.string a0_2] 26 (0,0)) (by (with_reducible repeat (first|refine blk_drewN ?_ _|refine blk_drew ?_|refine blk_alloc ?_ _));exact BK312.out) hb);have n1_:=Aside0.mk (below_step (by repeat (first|(with_reducible first|exact HB.out|apply below_alloc|apply pw_below_drewN|apply below_drew1|refine below_set ?_ GE312.out)|exact HB.out)) hb);have n2_:=Aside0.mk (hbox);have n3_:=Aside0.mk ((by rw [hg];exact (below_size (by repeat (first|(with_reducible first|exact HB.out|apply below_alloc|apply pw_below_drewN|apply below_drew1|refine below_set ?_ GE312.out)|exact HB.out))) : w.heap.size≤gb313));have n4_:=Aside0.mk ((by rw [hg];exact (below_size (by repeat (first|(with_reducible first|exact HB.out|apply below_alloc|apply pw_below_drewN|apply below_drew1|refine below_set ?_ GE312.out)|exact HB.out))) : w.heap.size≤gb313));have n5_:=Aside0.mk ((by rw [hg];exact Nat.ne_of_lt (blk_lt (g:=gb312) (o:=.cells #[.int .i64 a0_0,.int .i64 a0_1,.string a0_2] 26 (0,0)) (by (with_reducible repeat (first|refine blk_drewN ?_ _|refine blk_drew ?_|refine blk_alloc ?_ _));exact BK312.out)) : gb312≠gb313));have n6_:=Aside0.mk ((by rw [hg];exact Nat.ne_of_gt (blk_lt (g:=gb312) (o:=.cells #[.int .i64 a0_0,.int .i64 a0_1,.string a0_2] 26 (0,0)) (by (with_reducible repeat (first|refine blk_drewN ?_ _|refine blk_drew ?_|refine blk_alloc ?_ _));exact BK312.out)) : gb313≠gb312));clear BK312;clear HB;have BK312:=n0_;have HB:=n1_;have BK313:=n2_;have GW313:=n3_;have GE313:=n4_;have NB312_313:=n5_;have NB313_312:=n6_;clear n0_ n1_ n2_ n3_ n4_ n5_ n6_;clear hb hbox hg;have hnb18:=NB312_313.out;have hnc18:=NB313_312.out;have hcz19_0 : w17.cell? ⟨gb312,0,none⟩=some (.int .i64 a0_0):=(blk_cell BK312.out 0).trans rfl;have hcz19_1 : w17.cell? ⟨gb312,1,none⟩=some (.int .i64 a0_1):=(blk_cell BK312.out 1).trans rfl;have hcz19_2 : w17.cell? ⟨gb312,2,none⟩=some (.string a0_2):=(blk_cell BK312.out 2).trans rfl;have hfz19_0:=blk_frozen BK312.out 0;have hfz19_1:=blk_frozen BK312.out 1;have hfz19_2:=blk_frozen BK312.out 2;have hcz20_0 : w17.cell? ⟨gb313,0,none⟩=some (.int .i64 a1_0):=(blk_cell BK313.out 0).trans rfl;have hcz20_1 : w17.cell? ⟨gb313,1,none⟩=some (.int .i64 a1_1):=(blk_cell BK313.out 1).trans rfl;have hcz20_2 : w17.cell? ⟨gb313,2,none⟩=some (.string a1_2):=(blk_cell BK313.out 2).trans rfl;have hfz20_0:=blk_frozen BK313.out 0;have hfz20_1:=blk_frozen BK313.out 1;have hfz20_2:=blk_frozen BK313.out 2))
   go_ret
   exact ⟨by first|rfl|(simp [errW_none,errW_some] <;> rfl)|(simp [*,errW_none,errW_some] <;> rfl),by repeat (first|(with_reducible first|exact HB.out|apply below_alloc|apply pw_below_drewN|apply below_drew1|refine below_set ?_ GE312.out|refine below_set ?_ GE313.out)|exact HB.out)⟩
 ·
  rw [if_neg c3] at H
  have c3b0 : (a0_0 == a1_0)=false:=beq_eq_false_iff_ne.mpr c3
  have c3b1 : (a0_0 != a1_0)=true:=bne_iff_ne.mpr c3
  obtain rfl:=Option.some.inj H
  go_enter Try.func21,Try.ntmps21
  go_wp2_with (first|((with_reducible refine gate_dst (N:=2) rfl ?_);refine box_event ?hg (N:=2) ?hd (cs:=#[.int .i64 a0_0,.int .i64 a0_1,.string a0_2]) (t:=26) ?hr ?_;(case hd => rfl);(case hg => rfl);(case hr => first|(go_simp;done)|(go_simp;rfl));intro gb312 hg w21 hbox hb;have n0_:=Aside0.mk (below_step (by repeat (first|(with_reducible first|exact HB.out|apply below_alloc|apply pw_below_drewN|apply below_drew1)|exact HB.out)) hb);have n1_:=Aside0.mk (hbox);have n2_:=Aside0.mk ((by rw [hg];exact (below_size (by repeat (first|(with_reducible first|exact HB.out|apply below_alloc|apply pw_below_drewN|apply below_drew1)|exact HB.out))) : w.heap.size≤gb312));have n3_:=Aside0.mk ((by rw [hg];exact (below_size (by repeat (first|(with_reducible first|exact HB.out|apply below_alloc|apply pw_below_drewN|apply below_drew1)|exact HB.out))) : w.heap.size≤gb312));clear HB;have HB:=n0_;have BK312:=n1_;have GW312:=n2_;have GE312:=n3_;clear n0_ n1_ n2_ n3_;clear hb hbox hg)|((with_reducible refine gate_dst (N:=3) rfl ?_);refine box_event ?hg (N:=3) ?hd (cs:=#[.int .i64 a1_0,.int .i64 a1_1,.string a1_2]) (t:=26) ?hr ?_;(case hd => rfl);(case hg => rfl);(case hr => first|(go_simp;done)|(go_simp;rfl));intro gb313 hg w22 hbox hb;have n0_:=Aside0.mk (blk_below (g:=gb312) (o:=.cells #[.int .i64 a0_0,.int .i64 a0_1,.string a0_2] 26 (0,0)) (by (with_reducible repeat (first|refine blk_drewN ?_ _|refine blk_drew ?_|refine blk_alloc ?_ _));exact BK312.out) hb);have n1_:=Aside0.mk (below_step (by repeat (first|(with_reducible first|exact HB.out|apply below_alloc|apply pw_below_drewN|apply below_drew1|refine below_set ?_ GE312.out)|exact HB.out)) hb);have n2_:=Aside0.mk (hbox);have n3_:=Aside0.mk ((by rw [hg];exact (below_size (by repeat (first|(with_reducible first|exact HB.out|apply below_alloc|apply pw_below_drewN|apply below_drew1|refine below_set ?_ GE312.out)|exact HB.out))) : w.heap.size≤gb313));have n4_:=Aside0.mk ((by rw [hg];exact (below_size (by repeat (first|(with_reducible first|exact HB.out|apply below_alloc|apply pw_below_drewN|apply below_drew1|refine below_set ?_ GE312.out)|exact HB.out))) : w.heap.size≤gb313));have n5_:=Aside0.mk ((by rw [hg];exact Nat.ne_of_lt (blk_lt (g:=gb312) (o:=.cells #[.int .i64 a0_0,.int .i64 a0_1,.string a0_2] 26 (0,0)) (by (with_reducible repeat (first|refine blk_drewN ?_ _|refine blk_drew ?_|refine blk_alloc ?_ _));exact BK312.out)) : gb312≠gb313));have n6_:=Aside0.mk ((by rw [hg];exact Nat.ne_of_gt (blk_lt (g:=gb312) (o:=.cells #[.int .i64 a0_0,.int .i64 a0_1,.string a0_2] 26 (0,0)) (by (with_reducible repeat (first|refine blk_drewN ?_ _|refine blk_drew ?_|refine blk_alloc ?_ _));exact BK312.out)) : gb313≠gb312));clear BK312;clear HB;have BK312:=n0_;have HB:=n1_;have BK313:=n2_;have GW313:=n3_;have GE313:=n4_;have NB312_313:=n5_;have NB313_312:=n6_;clear n0_ n1_ n2_ n3_ n4_ n5_ n6_;clear hb hbox hg;have hnb23:=NB312_313.out;have hnc23:=NB313_312.out;have hcz24_0 : w22.cell? ⟨gb312,0,none⟩=some (.int .i64 a0_0):=(blk_cell BK312.out 0).trans rfl;have hcz24_1 : w22.cell? ⟨gb312,1,none⟩=some (.int .i64 a0_1):=(blk_cell BK312.out 1).trans rfl;have hcz24_2 : w22.cell? ⟨gb312,2,none⟩=some (.string a0_2):=(blk_cell BK312.out 2).trans rfl;have hfz24_0:=blk_frozen BK312.out 0;have hfz24_1:=blk_frozen BK312.out 1;have hfz24_2:=blk_frozen BK312.out 2;have hcz25_0 : w22.cell? ⟨gb313,0,none⟩=some (.int .i64 a1_0):=(blk_cell BK313.out 0).trans rfl;have hcz25_1 : w22.cell? ⟨gb313,1,none⟩=some (.int .i64 a1_1):=(blk_cell BK313.out 1).trans rfl;have hcz25_2 : w22.cell? ⟨gb313,2,none⟩=some (.string a1_2):=(blk_cell BK313.out 2).trans rfl;have hfz25_0:=blk_frozen BK313.out 0;have hfz25_1:=blk_frozen BK313.out 1;have hfz25_2:=blk_frozen BK313.out 2))
  go_ret
  exact ⟨by first|rfl|(simp [errW_none,errW_some] <;> rfl)|(simp [*,errW_none,errW_some] <;> rfl),by repeat (first|(with_reducible first|exact HB.out|apply below_alloc|apply pw_below_drewN|apply below_drew1|refine below_set ?_ GE312.out|refine below_set ?_ GE313.out)|exact HB.out)⟩

end Go.Proofs.Ytpmeglcmhiihoaa.Q
end
section
namespace Go.Proofs.Ytpmeglcmhiihoaa.Q
open Go.RowKit Go.Proofs.YtpmeglcmhiihoaaW.PrintWords Go.Proofs.YtpmeglcmhiihoaaW.PrintLast Go.Proofs.YtpmeglcmhiihoaaW.PrintMore
attribute [local go_sem] max2_int min2_int max_two min_two max_three min_three max_four min_four max2_str min2_str str_geq str_gtr str_leq   -- for this text's walks alone
set_option linter.unusedVariables false
set_option linter.unusedSimpArgs false

def laws_eqValueS.l0 : Nat→List (S26)→List (S26)→Int→Option (Bool)
 | 0,_,_,_ => none
 | k + 1,x0,x1,x5 => if x5<(x0.length : Int) then (if 0≤x5 then (if x5<(x1.length : Int) then ((laws_eqValue.f ((rd_T26 x0 x5).f0) ((rd_T26 x0 x5).f1) ((rd_T26 x0 x5).f2) ((rd_T26 x1 x5).f0) ((rd_T26 x1 x5).f1) ((rd_T26 x1 x5).f2)).bind fun t499 => (if t499=true then (laws_eqValueS.l0 k x0 x1 (wrap64 (x5 + 1))) else (some false))) else (none)) else (none)) else (some true)
def laws_eqValueS.f (k : Nat) (l0 : List (S26)) (l1 : List (S26)) : Option (Bool):=if (l0.length : Int)=(l1.length : Int) then (laws_eqValueS.l0 k l0 l1 0) else (some false)
theorem laws_eqValueS.mono_l : ∀ k,(∀ y0 y1 y2,LeO (laws_eqValueS.l0 k y0 y1 y2) (laws_eqValueS.l0 (k + 1) y0 y1 y2))
 | 0 => fun _ _ _ r h => by simp [laws_eqValueS.l0] at h
 | k + 1 => by
  have ih0:=laws_eqValueS.mono_l k
  ·
   intro y0 y1 y2
   unfold laws_eqValueS.l0
   repeat' first
   | (with_reducible exact ih0 _ _ _)
   | (with_reducible exact LeO.refl _)
   | (with_reducible exact LeO.none _)
   | (with_reducible refine LeO.ite ?_ ?_)
   | (with_reducible refine LeO.bind ?_ (fun _ => ?_))
   | exact ih0 _ _ _
   | exact LeO.none _
   | refine LeO.ite ?_ ?_
   | refine LeO.bind ?_ (fun _ => ?_)
theorem laws_eqValueS.mono : ∀ a0 a1 k,LeO (laws_eqValueS.f k a0 a1) (laws_eqValueS.f (k + 1) a0 a1):=by
 intro a0 a1 k
 have ih0:=laws_eqValueS.mono_l k
 unfold laws_eqValueS.f
 repeat' first
   | (with_reducible exact ih0 _ _ _)
   | (with_reducible exact LeO.refl _)
   | (with_reducible exact LeO.none _)
   | (with_reducible refine LeO.ite ?_ ?_)
   | (with_reducible refine LeO.bind ?_ (fun _ => ?_))
   | exact ih0 _ _ _
   | exact LeO.none _
   | refine LeO.ite ?_ ?_
   | refine LeO.bind ?_ (fun _ => ?_)
def laws_eqValueS.T6 : Bool×List (List Nat×List Nat):=(true,[([],[]),([],[]),([0,1],[0,1]),([2],[2]),([],[]),([],[]),([4,5],[4,5]),([6],[6]),([3,7],[3,7]),([8],[8])])
def laws_eqValueS.B6 : List Nat:=[0,0,3,7,0,0,48,112,255,511]
theorem laws_eqValueS.tab6 : rtab .any (opsOf Try.f31 6)=laws_eqValueS.T6:=by kernel_rfl
theorem laws_eqValueS.bits6 : waitsOk laws_eqValueS.T6.2 laws_eqValueS.B6=true:=by kernel_rfl
set_option maxHeartbeats 8000000 in
set_option maxRecDepth 100000 in
theorem laws_eqValueS.calls (k : Nat) (A0 : Option Addr) (c0 : Nat) (l0 : List (S26)) (A1 : Option Addr) (c1 : Nat) (l1 : List (S26)) (r : Bool) (w : World) (hr0 : Kd.C k26 w A0 l0.length l0) (hc0 : l0.length≤c0) (hr1 : Kd.C k26 w A1 l1.length l1) (hc1 : l1.length≤c1) (h : laws_eqValueS.f k l0 l1=some r) :
  Calls Try.prog 31 #[.slice A0 l0.length c0,.slice A1 l1.length c1] w fun e w' => e = .returned (.bool r)∧Below w.heap.size w w':=by
 have hu26:=Try.underlying26
 have HR0:=Aside0.mk hr0
 have HC0:=Aside0.mk hc0
 clear hr0 hc0
 have HR1:=Aside0.mk hr1
 have HC1:=Aside0.mk hc1
 clear hr1 hc1
 have HB:=Aside0.mk (Below.refl w.heap.size w)
 have H : (if (l0.length : Int)=(l1.length : Int) then (laws_eqValueS.l0 k l0 l1 0) else (some false))=some r:=h
 clear h
 by_cases c3 : (l0.length : Int)=(l1.length : Int)
 ·
  rw [if_pos c3] at H
  have c3b0 : ((l0.length : Int) == (l1.length : Int))=true:=beq_iff_eq.mpr c3
  have c3b1 : ((l0.length : Int) != (l1.length : Int))=false:=bne_eq_false_iff_eq.mpr c3
  have c3b2 : (l0.length == l1.length)=true:=by first|simpa using c3|(simp at c3 ⊢;omega)
  clear c3
  have H':=Aside0.mk H
  clear H
  go_enter Try.func31,Try.ntmps31
  go_wp2
  go_loopg [5] k (fun kq v5 w' => ∃ (x5_1 : Int),v5 = .int .i64 x5_1∧Aside0 (laws_eqValueS.l0 kq l0 l1 x5_1=some r)∧Aside0 (kq≤k)∧Aside0 (Below w.heap.size w w'))
  case atStart => exact ⟨(0),(by first|rfl|(simp;done)|(simp [*];done)),H',⟨Nat.le_refl _⟩,⟨by repeat (first|(with_reducible first|exact HB.out|apply below_alloc|apply pw_below_drewN|apply below_drew1)|exact HB.out)⟩⟩
  case round =>
   clear H'
   try clear c1
   try clear p2
   try clear c3
   try clear c3b0
   try clear c3b1
   try clear c3b2
   obtain ⟨x5_1,rfl,HA,HK1,HB⟩:=hrel
   cases gk with
   | zero => exact absurd HA.out (by simp [laws_eqValueS.l0])
   | succ k1 =>
    have H:=HA.out
    clear HA
    simp only [laws_eqValueS.l0] at H
    by_cases c4 : x5_1<(l0.length : Int)
    ·
     rw [if_pos c4] at H
     have c4b0 : decide (x5_1<(l0.length : Int))=true:=decide_eq_true c4
     clear c4
     by_cases c5 : 0≤x5_1
     ·
      rw [if_pos c5] at H
      have c5b0 : decide (0≤x5_1)=true:=decide_eq_true c5
      clear c5
      by_cases c6 : x5_1<(l1.length : Int)
      ·
       rw [if_pos c6] at H
       have c6b0 : decide (x5_1<(l1.length : Int))=true:=decide_eq_true c6
       clear c6
       replace H:=Option.bind_eq_some_iff.mp H
       obtain ⟨t499,A70,H⟩:=H
       replace H : (if t499=true then (laws_eqValueS.l0 k1 l0 l1 (wrap64 (x5_1 + 1))) else (some false))=some r:=H
       have A7:=Aside0.mk A70
       clear A70
       by_cases c8 : t499=true
       ·
        subst c8
        have H1 : (laws_eqValueS.l0 k1 l0 l1 (wrap64 (x5_1 + 1)))=some r:=by rw [if_pos rfl] at H;exact H
        clear H
        have H:=H1
        clear H1
        have H':=Aside0.mk H
        clear H
        try go_wp2
        have n0_:=Aside0.mk (below_drew1 HB.out)
        clear HB
        have HB:=n0_
        clear n0_
        have p497 : 0≤(x5_1 : Int):=of_decide_eq_true (by first|(with_reducible assumption)|assumption)
        have q497 : x5_1<(l0.length : Int):=of_decide_eq_true (by first|(with_reducible assumption)|assumption)
        obtain ⟨ad497,e497,hx497_0,hx497_1,hx497_2⟩:=at_T26 HR0.out x5_1 p497 q497
        have hw497_2:=hx497_2
        have hw497_1:=hx497_1
        have hw497_0:=hx497_0
        cases e497
        replace hx497_0:=(HB.out.cell (World.block_lt_of_cell? w _ hx497_0)).trans hx497_0
        replace hx497_1:=(HB.out.cell (World.block_lt_of_cell? w _ hx497_1)).trans hx497_1
        replace hx497_2:=(HB.out.cell (World.block_lt_of_cell? w _ hx497_2)).trans hx497_2
        replace p497:=eq_true p497
        replace q497:=eq_true q497
        have p498 : 0≤(x5_1 : Int):=of_decide_eq_true (by first|(with_reducible assumption)|assumption)
        have q498 : x5_1<(l1.length : Int):=of_decide_eq_true (by first|(with_reducible assumption)|assumption)
        obtain ⟨ad498,e498,hx498_0,hx498_1,hx498_2⟩:=at_T26 HR1.out x5_1 p498 q498
        have hw498_2:=hx498_2
        have hw498_1:=hx498_1
        have hw498_0:=hx498_0
        cases e498
        replace hx498_0:=(HB.out.cell (World.block_lt_of_cell? w _ hx498_0)).trans hx498_0
        replace hx498_1:=(HB.out.cell (World.block_lt_of_cell? w _ hx498_1)).trans hx498_1
        replace hx498_2:=(HB.out.cell (World.block_lt_of_cell? w _ hx498_2)).trans hx498_2
        replace p498:=eq_true p498
        replace q498:=eq_true q498
        refine start_ (n:=10) (S:=fun w' => w'.cell? (ad497.add ((x5_1).toNat * 3))=some (.int .i64 ((rd_T26 l0 x5_1).f0))∧w'.cell? ⟨(ad497.add ((x5_1).toNat * 3)).block,(ad497.add ((x5_1).toNat * 3)).off + 1,none⟩=some (.int .i64 ((rd_T26 l0 x5_1).f1))∧w'.cell? ⟨(ad497.add ((x5_1).toNat * 3)).block,(ad497.add ((x5_1).toNat * 3)).off + 2,none⟩=some (.string ((rd_T26 l0 x5_1).f2))∧w'.cell? (ad498.add ((x5_1).toNat * 3))=some (.int .i64 ((rd_T26 l1 x5_1).f0))∧w'.cell? ⟨(ad498.add ((x5_1).toNat * 3)).block,(ad498.add ((x5_1).toNat * 3)).off + 1,none⟩=some (.int .i64 ((rd_T26 l1 x5_1).f1))∧w'.cell? ⟨(ad498.add ((x5_1).toNat * 3)).block,(ad498.add ((x5_1).toNat * 3)).off + 2,none⟩=some (.string ((rd_T26 l1 x5_1).f2))) (ds:=[]) #[false,false,false,false,false,false,false,false,false,false] (by kernel_rfl) rfl rfl ⟨((HB.out.cell (World.block_lt_of_cell? w _ hw497_0)).trans hw497_0),((HB.out.cell (World.block_lt_of_cell? w _ hw497_1)).trans hw497_1),((HB.out.cell (World.block_lt_of_cell? w _ hw497_2)).trans hw497_2),((HB.out.cell (World.block_lt_of_cell? w _ hw498_0)).trans hw498_0),((HB.out.cell (World.block_lt_of_cell? w _ hw498_1)).trans hw498_1),((HB.out.cell (World.block_lt_of_cell? w _ hw498_2)).trans hw498_2)⟩ (fun hHeld => ?_);refine with_tabW laws_eqValueS.tab6 laws_eqValueS.bits6 (fun HT_ HW_ => ?_)
        generalize wr.drew=w9 at HB hx497_0 hx497_1 hx497_2 hx498_0 hx498_1 hx498_2 hHeld ⊢
        refine pure_ (i:=0) (N:=some 17) (v:=?_) (a':=?_) #[true,false,false,false,false,false,false,false,false,false] rfl rfl (any_of HT_.out (by kernel_rfl)) (fun _ _ _ h => h) (Or.inl ⟨by rfl,?_⟩) ?_ ?_
        rotate_left
        ·
         intro w'
         go_simp
         with_reducible rfl
        rotate_left
        ·
         simp only [Act.put,List.setIfInBounds_toArray,List.set_cons_zero,List.set_cons_succ,i64_w,i32_w]
         rfl
        refine pure_ (i:=1) (N:=some 18) (v:=?_) (a':=?_) #[true,true,false,false,false,false,false,false,false,false] rfl rfl (any_of HT_.out (by kernel_rfl)) (fun _ _ _ h => h) (Or.inl ⟨by rfl,?_⟩) ?_ ?_
        rotate_left
        ·
         intro w'
         go_simp
         with_reducible rfl
        rotate_left
        ·
         simp only [Act.put,List.setIfInBounds_toArray,List.set_cons_zero,List.set_cons_succ,i64_w,i32_w]
         rfl
        refine pure_ (i:=2) (N:=some 19) (v:=?_) (a':=?_) #[true,true,true,false,false,false,false,false,false,false] rfl rfl (any_of HT_.out (by kernel_rfl)) (fun _ _ _ h => h) (Or.inl ⟨by rfl,?_⟩) ?_ ?_
        rotate_left
        ·
         intro w'
         go_simp
         with_reducible rfl
        rotate_left
        ·
         simp only [Act.put,List.setIfInBounds_toArray,List.set_cons_zero,List.set_cons_succ,i64_w,i32_w]
         rfl
        refine pure_ (i:=4) (N:=some 21) (v:=?_) (a':=?_) #[true,true,true,false,true,false,false,false,false,false] rfl rfl (any_of HT_.out (by kernel_rfl)) (fun _ _ _ h => h) (Or.inl ⟨by rfl,?_⟩) ?_ ?_
        rotate_left
        ·
         intro w'
         go_simp
         with_reducible rfl
        rotate_left
        ·
         simp only [Act.put,List.setIfInBounds_toArray,List.set_cons_zero,List.set_cons_succ,i64_w,i32_w]
         rfl
        refine pure_ (i:=5) (N:=some 22) (v:=?_) (a':=?_) #[true,true,true,false,true,true,false,false,false,false] rfl rfl (any_of HT_.out (by kernel_rfl)) (fun _ _ _ h => h) (Or.inl ⟨by rfl,?_⟩) ?_ ?_
        rotate_left
        ·
         intro w'
         go_simp
         with_reducible rfl
        rotate_left
        ·
         simp only [Act.put,List.setIfInBounds_toArray,List.set_cons_zero,List.set_cons_succ,i64_w,i32_w]
         rfl
        refine pure_ (i:=6) (N:=some 23) (v:=?_) (a':=?_) #[true,true,true,false,true,true,true,false,false,false] rfl rfl (any_of HT_.out (by kernel_rfl)) (fun _ _ _ h => h) (Or.inl ⟨by rfl,?_⟩) ?_ ?_
        rotate_left
        ·
         intro w'
         go_simp
         with_reducible rfl
        rotate_left
        ·
         simp only [Act.put,List.setIfInBounds_toArray,List.set_cons_zero,List.set_cons_succ,i64_w,i32_w]
         rfl
        refine take_ (i:=3) (N:=some 20) (v:=?_) (a':=?_) #[true,true,true,true,true,true,true,false,false,false] rfl rfl (take_ofW HT_.out HW_.out (by kernel_rfl)) (fun _ _ _ h => h) (Or.inl ⟨by rfl,?_⟩) hHeld ?_ ?_
        rotate_left
        ·
         rintro w' ⟨s0,s1,s2,s3,s4,s5⟩
         go_simp
         with_reducible rfl
        rotate_left
        ·
         simp only [Act.put,List.setIfInBounds_toArray,List.set_cons_zero,List.set_cons_succ,i64_w,i32_w]
         rfl
        refine take_ (i:=7) (N:=some 24) (v:=?_) (a':=?_) #[true,true,true,true,true,true,true,true,false,false] rfl rfl (take_ofW HT_.out HW_.out (by kernel_rfl)) (fun _ _ _ h => h) (Or.inl ⟨by rfl,?_⟩) hHeld ?_ ?_
        rotate_left
        ·
         rintro w' ⟨s0,s1,s2,s3,s4,s5⟩
         go_simp
         with_reducible rfl
        rotate_left
        ·
         simp only [Act.put,List.setIfInBounds_toArray,List.set_cons_zero,List.set_cons_succ,i64_w,i32_w]
         rfl
        refine one_ (i:=8) (N:=some 25) #[true,true,true,true,true,true,true,true,true,false] rfl rfl (one_of HT_.out (by kernel_rfl)) (by decide) (fun K hK => ?_)
        refine goes_ Try.func21 (by kernel_rfl) rfl #[.agg #[.int .i64 ((rd_T26 l0 x5_1).f0),.int .i64 ((rd_T26 l0 x5_1).f1),.string ((rd_T26 l0 x5_1).f2)],.agg #[.int .i64 ((rd_T26 l1 x5_1).f0),.int .i64 ((rd_T26 l1 x5_1).f1),.string ((rd_T26 l1 x5_1).f2)]] (by rfl) rfl rfl (by (try simp only [List.map_toArray,List.map_cons,List.map_nil]);first|done|rfl|(simp only [List.length_drop,List.length_take];rfl)|(simp only [gt_iff_lt,ge_iff_le,Int.ofNat_lt,Int.ofNat_le];rfl)) ?_
        with_reducible refine (laws_eqValue.calls  ((rd_T26 l0 x5_1).f0) ((rd_T26 l0 x5_1).f1) ((rd_T26 l0 x5_1).f2) ((rd_T26 l1 x5_1).f0) ((rd_T26 l1 x5_1).f1) ((rd_T26 l1 x5_1).f2) true _ A7.out).mono ?_
        rintro e w10 ⟨rfl,hb⟩
        refine ⟨_,rfl,?_⟩
        have n0_:=Aside0.mk (below_step (by repeat (first|(with_reducible first|exact HB.out|apply below_alloc|apply pw_below_drewN|apply below_drew1)|exact HB.out)) hb)
        clear HB
        have HB:=n0_
        clear n0_
        (try clear hb)
        (try clear hb2)
        (try clear hk)
        (try clear hi)
        refine hK.out _ _ ⟨((HB.out.cell (World.block_lt_of_cell? w _ hw497_0)).trans hw497_0),((HB.out.cell (World.block_lt_of_cell? w _ hw497_1)).trans hw497_1),((HB.out.cell (World.block_lt_of_cell? w _ hw497_2)).trans hw497_2),((HB.out.cell (World.block_lt_of_cell? w _ hw498_0)).trans hw498_0),((HB.out.cell (World.block_lt_of_cell? w _ hw498_1)).trans hw498_1),((HB.out.cell (World.block_lt_of_cell? w _ hw498_2)).trans hw498_2)⟩ (fun hHeld => ?_)
        clear hK K
        refine norm_ (a':=?_) ?_ ?_
        rotate_left
        ·
         show Act.put _ (some 25) _=_
         simp only [Act.put,List.setIfInBounds_toArray,List.set_cons_zero,List.set_cons_succ,i64_w,i32_w]
         rfl
        refine pure_ (i:=9) (N:=some 26) (v:=?_) (a':=?_) #[true,true,true,true,true,true,true,true,true,true] rfl rfl (any_of HT_.out (by kernel_rfl)) (fun _ _ _ h => h) (Or.inl ⟨by rfl,?_⟩) ?_ ?_
        rotate_left
        ·
         intro w'
         go_simp
         with_reducible rfl
        rotate_left
        ·
         simp only [Act.put,List.setIfInBounds_toArray,List.set_cons_zero,List.set_cons_succ,i64_w,i32_w]
         rfl
        refine done_ (done_of HT_.out (by kernel_rfl)) ?_
        try go_wp2
        go_roundg k1
        case measure => have:=HK1.out;omega
        case rel => exact ⟨(wrap64 (x5_1 + 1)),(by first|rfl|(simp;done)|(simp [*];done)),H',⟨by have:=HK1.out;omega⟩,⟨by repeat (first|(with_reducible first|exact HB.out|apply below_alloc|apply pw_below_drewN|apply below_drew1)|exact HB.out)⟩⟩
       ·
        replace c8:=Bool.eq_false_iff.mpr c8
        subst c8
        have H1 : (some false)=some r:=by rw [if_neg (show ¬ (false=true) by decide)] at H;exact H
        clear H
        have H:=H1
        clear H1
        obtain rfl:=Option.some.inj H
        try go_wp2
        have n0_:=Aside0.mk (below_drew1 HB.out)
        clear HB
        have HB:=n0_
        clear n0_
        have p497 : 0≤(x5_1 : Int):=of_decide_eq_true (by first|(with_reducible assumption)|assumption)
        have q497 : x5_1<(l0.length : Int):=of_decide_eq_true (by first|(with_reducible assumption)|assumption)
        obtain ⟨ad497,e497,hx497_0,hx497_1,hx497_2⟩:=at_T26 HR0.out x5_1 p497 q497
        have hw497_2:=hx497_2
        have hw497_1:=hx497_1
        have hw497_0:=hx497_0
        cases e497
        replace hx497_0:=(HB.out.cell (World.block_lt_of_cell? w _ hx497_0)).trans hx497_0
        replace hx497_1:=(HB.out.cell (World.block_lt_of_cell? w _ hx497_1)).trans hx497_1
        replace hx497_2:=(HB.out.cell (World.block_lt_of_cell? w _ hx497_2)).trans hx497_2
        replace p497:=eq_true p497
        replace q497:=eq_true q497
        have p498 : 0≤(x5_1 : Int):=of_decide_eq_true (by first|(with_reducible assumption)|assumption)
        have q498 : x5_1<(l1.length : Int):=of_decide_eq_true (by first|(with_reducible assumption)|assumption)
        obtain ⟨ad498,e498,hx498_0,hx498_1,hx498_2⟩:=at_T26 HR1.out x5_1 p498 q498
        have hw498_2:=hx498_2
        have hw498_1:=hx498_1
        have hw498_0:=hx498_0
        cases e498
        replace hx498_0:=(HB.out.cell (World.block_lt_of_cell? w _ hx498_0)).trans hx498_0
        replace hx498_1:=(HB.out.cell (World.block_lt_of_cell? w _ hx498_1)).trans hx498_1
        replace hx498_2:=(HB.out.cell (World.block_lt_of_cell? w _ hx498_2)).trans hx498_2
        replace p498:=eq_true p498
        replace q498:=eq_true q498
        refine start_ (n:=10) (S:=fun w' => w'.cell? (ad497.add ((x5_1).toNat * 3))=some (.int .i64 ((rd_T26 l0 x5_1).f0))∧w'.cell? ⟨(ad497.add ((x5_1).toNat * 3)).block,(ad497.add ((x5_1).toNat * 3)).off + 1,none⟩=some (.int .i64 ((rd_T26 l0 x5_1).f1))∧w'.cell? ⟨(ad497.add ((x5_1).toNat * 3)).block,(ad497.add ((x5_1).toNat * 3)).off + 2,none⟩=some (.string ((rd_T26 l0 x5_1).f2))∧w'.cell? (ad498.add ((x5_1).toNat * 3))=some (.int .i64 ((rd_T26 l1 x5_1).f0))∧w'.cell? ⟨(ad498.add ((x5_1).toNat * 3)).block,(ad498.add ((x5_1).toNat * 3)).off + 1,none⟩=some (.int .i64 ((rd_T26 l1 x5_1).f1))∧w'.cell? ⟨(ad498.add ((x5_1).toNat * 3)).block,(ad498.add ((x5_1).toNat * 3)).off + 2,none⟩=some (.string ((rd_T26 l1 x5_1).f2))) (ds:=[]) #[false,false,false,false,false,false,false,false,false,false] (by kernel_rfl) rfl rfl ⟨((HB.out.cell (World.block_lt_of_cell? w _ hw497_0)).trans hw497_0),((HB.out.cell (World.block_lt_of_cell? w _ hw497_1)).trans hw497_1),((HB.out.cell (World.block_lt_of_cell? w _ hw497_2)).trans hw497_2),((HB.out.cell (World.block_lt_of_cell? w _ hw498_0)).trans hw498_0),((HB.out.cell (World.block_lt_of_cell? w _ hw498_1)).trans hw498_1),((HB.out.cell (World.block_lt_of_cell? w _ hw498_2)).trans hw498_2)⟩ (fun hHeld => ?_);refine with_tabW laws_eqValueS.tab6 laws_eqValueS.bits6 (fun HT_ HW_ => ?_)
        generalize wr.drew=w11 at HB hx497_0 hx497_1 hx497_2 hx498_0 hx498_1 hx498_2 hHeld ⊢
        refine pure_ (i:=0) (N:=some 17) (v:=?_) (a':=?_) #[true,false,false,false,false,false,false,false,false,false] rfl rfl (any_of HT_.out (by kernel_rfl)) (fun _ _ _ h => h) (Or.inl ⟨by rfl,?_⟩) ?_ ?_
        rotate_left
        ·
         intro w'
         go_simp
         with_reducible rfl
        rotate_left
        ·
         simp only [Act.put,List.setIfInBounds_toArray,List.set_cons_zero,List.set_cons_succ,i64_w,i32_w]
         rfl
        refine pure_ (i:=1) (N:=some 18) (v:=?_) (a':=?_) #[true,true,false,false,false,false,false,false,false,false] rfl rfl (any_of HT_.out (by kernel_rfl)) (fun _ _ _ h => h) (Or.inl ⟨by rfl,?_⟩) ?_ ?_
        rotate_left
        ·
         intro w'
         go_simp
         with_reducible rfl
        rotate_left
        ·
         simp only [Act.put,List.setIfInBounds_toArray,List.set_cons_zero,List.set_cons_succ,i64_w,i32_w]
         rfl
        refine pure_ (i:=2) (N:=some 19) (v:=?_) (a':=?_) #[true,true,true,false,false,false,false,false,false,false] rfl rfl (any_of HT_.out (by kernel_rfl)) (fun _ _ _ h => h) (Or.inl ⟨by rfl,?_⟩) ?_ ?_
        rotate_left
        ·
         intro w'
         go_simp
         with_reducible rfl
        rotate_left
        ·
         simp only [Act.put,List.setIfInBounds_toArray,List.set_cons_zero,List.set_cons_succ,i64_w,i32_w]
         rfl
        refine pure_ (i:=4) (N:=some 21) (v:=?_) (a':=?_) #[true,true,true,false,true,false,false,false,false,false] rfl rfl (any_of HT_.out (by kernel_rfl)) (fun _ _ _ h => h) (Or.inl ⟨by rfl,?_⟩) ?_ ?_
        rotate_left
        ·
         intro w'
         go_simp
         with_reducible rfl
        rotate_left
        ·
         simp only [Act.put,List.setIfInBounds_toArray,List.set_cons_zero,List.set_cons_succ,i64_w,i32_w]
         rfl
        refine pure_ (i:=5) (N:=some 22) (v:=?_) (a':=?_) #[true,true,true,false,true,true,false,false,false,false] rfl rfl (any_of HT_.out (by kernel_rfl)) (fun _ _ _ h => h) (Or.inl ⟨by rfl,?_⟩) ?_ ?_
        rotate_left
        ·
         intro w'
         go_simp
         with_reducible rfl
        rotate_left
        ·
         simp only [Act.put,List.setIfInBounds_toArray,List.set_cons_zero,List.set_cons_succ,i64_w,i32_w]
         rfl
        refine pure_ (i:=6) (N:=some 23) (v:=?_) (a':=?_) #[true,true,true,false,true,true,true,false,false,false] rfl rfl (any_of HT_.out (by kernel_rfl)) (fun _ _ _ h => h) (Or.inl ⟨by rfl,?_⟩) ?_ ?_
        rotate_left
        ·
         intro w'
         go_simp
         with_reducible rfl
        rotate_left
        ·
         simp only [Act.put,List.setIfInBounds_toArray,List.set_cons_zero,List.set_cons_succ,i64_w,i32_w]
         rfl
        refine take_ (i:=3) (N:=some 20) (v:=?_) (a':=?_) #[true,true,true,true,true,true,true,false,false,false] rfl rfl (take_ofW HT_.out HW_.out (by kernel_rfl)) (fun _ _ _ h => h) (Or.inl ⟨by rfl,?_⟩) hHeld ?_ ?_
        rotate_left
        ·
         rintro w' ⟨s0,s1,s2,s3,s4,s5⟩
         go_simp
         with_reducible rfl
        rotate_left
        ·
         simp only [Act.put,List.setIfInBounds_toArray,List.set_cons_zero,List.set_cons_succ,i64_w,i32_w]
         rfl
        refine take_ (i:=7) (N:=some 24) (v:=?_) (a':=?_) #[true,true,true,true,true,true,true,true,false,false] rfl rfl (take_ofW HT_.out HW_.out (by kernel_rfl)) (fun _ _ _ h => h) (Or.inl ⟨by rfl,?_⟩) hHeld ?_ ?_
        rotate_left
        ·
         rintro w' ⟨s0,s1,s2,s3,s4,s5⟩
         go_simp
         with_reducible rfl
        rotate_left
        ·
         simp only [Act.put,List.setIfInBounds_toArray,List.set_cons_zero,List.set_cons_succ,i64_w,i32_w]
         rfl
        refine one_ (i:=8) (N:=some 25) #[true,true,true,true,true,true,true,true,true,false] rfl rfl (one_of HT_.out (by kernel_rfl)) (by decide) (fun K hK => ?_)
        refine goes_ Try.func21 (by kernel_rfl) rfl #[.agg #[.int .i64 ((rd_T26 l0 x5_1).f0),.int .i64 ((rd_T26 l0 x5_1).f1),.string ((rd_T26 l0 x5_1).f2)],.agg #[.int .i64 ((rd_T26 l1 x5_1).f0),.int .i64 ((rd_T26 l1 x5_1).f1),.string ((rd_T26 l1 x5_1).f2)]] (by rfl) rfl rfl (by (try simp only [List.map_toArray,List.map_cons,List.map_nil]);first|done|rfl|(simp only [List.length_drop,List.length_take];rfl)|(simp only [gt_iff_lt,ge_iff_le,Int.ofNat_lt,Int.ofNat_le];rfl)) ?_
        with_reducible refine (laws_eqValue.calls  ((rd_T26 l0 x5_1).f0) ((rd_T26 l0 x5_1).f1) ((rd_T26 l0 x5_1).f2) ((rd_T26 l1 x5_1).f0) ((rd_T26 l1 x5_1).f1) ((rd_T26 l1 x5_1).f2) false _ A7.out).mono ?_
        rintro e w12 ⟨rfl,hb⟩
        refine ⟨_,rfl,?_⟩
        have n0_:=Aside0.mk (below_step (by repeat (first|(with_reducible first|exact HB.out|apply below_alloc|apply pw_below_drewN|apply below_drew1)|exact HB.out)) hb)
        clear HB
        have HB:=n0_
        clear n0_
        (try clear hb)
        (try clear hb2)
        (try clear hk)
        (try clear hi)
        refine hK.out _ _ ⟨((HB.out.cell (World.block_lt_of_cell? w _ hw497_0)).trans hw497_0),((HB.out.cell (World.block_lt_of_cell? w _ hw497_1)).trans hw497_1),((HB.out.cell (World.block_lt_of_cell? w _ hw497_2)).trans hw497_2),((HB.out.cell (World.block_lt_of_cell? w _ hw498_0)).trans hw498_0),((HB.out.cell (World.block_lt_of_cell? w _ hw498_1)).trans hw498_1),((HB.out.cell (World.block_lt_of_cell? w _ hw498_2)).trans hw498_2)⟩ (fun hHeld => ?_)
        clear hK K
        refine norm_ (a':=?_) ?_ ?_
        rotate_left
        ·
         show Act.put _ (some 25) _=_
         simp only [Act.put,List.setIfInBounds_toArray,List.set_cons_zero,List.set_cons_succ,i64_w,i32_w]
         rfl
        refine pure_ (i:=9) (N:=some 26) (v:=?_) (a':=?_) #[true,true,true,true,true,true,true,true,true,true] rfl rfl (any_of HT_.out (by kernel_rfl)) (fun _ _ _ h => h) (Or.inl ⟨by rfl,?_⟩) ?_ ?_
        rotate_left
        ·
         intro w'
         go_simp
         with_reducible rfl
        rotate_left
        ·
         simp only [Act.put,List.setIfInBounds_toArray,List.set_cons_zero,List.set_cons_succ,i64_w,i32_w]
         rfl
        refine done_ (done_of HT_.out (by kernel_rfl)) ?_
        try go_wp2
        go_ret
        exact ⟨by first|rfl|(simp [errW_none,errW_some] <;> rfl)|(simp [*,errW_none,errW_some] <;> rfl),by repeat (first|(with_reducible first|exact HB.out|apply below_alloc|apply pw_below_drewN|apply below_drew1)|exact HB.out)⟩
      ·
       rw [if_neg c6] at H
       exact absurd H (by simp)
     ·
      rw [if_neg c5] at H
      exact absurd H (by simp)
    ·
     rw [if_neg c4] at H
     have c4b0 : decide (x5_1<(l0.length : Int))=false:=decide_eq_false c4
     clear c4
     obtain rfl:=Option.some.inj H
     go_wp2
     go_ret
     exact ⟨by first|rfl|(simp [errW_none,errW_some] <;> rfl)|(simp [*,errW_none,errW_some] <;> rfl),by repeat (first|(with_reducible first|exact HB.out|apply below_alloc|apply pw_below_drewN|apply below_drew1)|exact HB.out)⟩
 ·
  rw [if_neg c3] at H
  have c3b0 : ((l0.length : Int) == (l1.length : Int))=false:=beq_eq_false_iff_ne.mpr c3
  have c3b1 : ((l0.length : Int) != (l1.length : Int))=true:=bne_iff_ne.mpr c3
  have c3b2 : (l0.length == l1.length)=false:=by first|simpa using c3|(simp at c3 ⊢;omega)
  obtain rfl:=Option.some.inj H
  go_enter Try.func31,Try.ntmps31
  go_wp2
  go_ret
  exact ⟨by first|rfl|(simp [errW_none,errW_some] <;> rfl)|(simp [*,errW_none,errW_some] <;> rfl),by repeat (first|(with_reducible first|exact HB.out|apply below_alloc|apply pw_below_drewN|apply below_drew1)|exact HB.out)⟩

end Go.Proofs.Ytpmeglcmhiihoaa.Q
end
section
namespace Go.Proofs.Ytpmeglcmhiihoaa.Q
open Go.RowKit Go.Proofs.YtpmeglcmhiihoaaW.PrintWords Go.Proofs.YtpmeglcmhiihoaaW.PrintLast Go.Proofs.YtpmeglcmhiihoaaW.PrintMore
attribute [local go_sem] max2_int min2_int max_two min_two max_three min_three max_four min_four max2_str min2_str str_geq str_gtr str_leq   -- for this text's walks alone
set_option linter.unusedVariables false
set_option linter.unusedSimpArgs false

def laws_szValueS.l0 : Nat→List (S23)→Int→Int→Option (Int)
 | 0,_,_,_ => none
 | k + 1,x0,x1,x5 => if x5<(x0.length : Int) then (if 0≤x5 then ((laws_szValue.f ((rd_T23 x0 x5).f0) ((rd_T23 x0 x5).f1) ((rd_T23 x0 x5).f2) x1).bind fun t721 => (if t721<0 then (some (-1)) else (laws_szValueS.l0 k x0 t721 (wrap64 (x5 + 1))))) else (none)) else (some x1)
def laws_szValueS.f (k : Nat) (l0 : List (S23)) (a1 : Int) : Option (Int):=if (wrap64 (a1 - (l0.length : Int)))<0 then (some (-1)) else (laws_szValueS.l0 k l0 (wrap64 (a1 - (l0.length : Int))) 0)
theorem laws_szValueS.mono_l : ∀ k,(∀ y0 y1 y2,LeO (laws_szValueS.l0 k y0 y1 y2) (laws_szValueS.l0 (k + 1) y0 y1 y2))
 | 0 => fun _ _ _ r h => by simp [laws_szValueS.l0] at h
 | k + 1 => by
  have ih0:=laws_szValueS.mono_l k
  ·
   intro y0 y1 y2
   unfold laws_szValueS.l0
   repeat' first
   | (with_reducible exact ih0 _ _ _)
   | (with_reducible exact LeO.refl _)
   | (with_reducible exact LeO.none _)
   | (with_reducible refine LeO.ite ?_ ?_)
   | (with_reducible refine LeO.bind ?_ (fun _ => ?_))
   | exact ih0 _ _ _
   | exact LeO.none _
   | refine LeO.ite ?_ ?_
   | refine LeO.bind ?_ (fun _ => ?_)
theorem laws_szValueS.mono : ∀ a0 a1 k,LeO (laws_szValueS.f k a0 a1) (laws_szValueS.f (k + 1) a0 a1):=by
 intro a0 a1 k
 have ih0:=laws_szValueS.mono_l k
 unfold laws_szValueS.f
 repeat' first
   | (with_reducible exact ih0 _ _ _)
   | (with_reducible exact LeO.refl _)
   | (with_reducible exact LeO.none _)
   | (with_reducible refine LeO.ite ?_ ?_)
   | (with_reducible refine LeO.bind ?_ (fun _ => ?_))
   | exact ih0 _ _ _
   | exact LeO.none _
   | refine LeO.ite ?_ ?_
   | refine LeO.bind ?_ (fun _ => ?_)
set_option maxHeartbeats 8000000 in
set_option maxRecDepth 100000 in
theorem laws_szValueS.calls (k : Nat) (A0 : Option Addr) (c0 : Nat) (l0 : List (S23)) (a1 : Int) (r : Int) (w : World) (hr0 : Kd.C k23 w A0 l0.length l0) (hc0 : l0.length≤c0) (h : laws_szValueS.f k l0 a1=some r) :
  Calls Try.prog 41 #[.slice A0 l0.length c0,.int .i64 a1] w fun e w' => e = .returned (.int .i64 r)∧Below w.heap.size w w':=by
 have hu23:=Try.underlying23
 have HR0:=Aside0.mk hr0
 have HC0:=Aside0.mk hc0
 clear hr0 hc0
 have HB:=Aside0.mk (Below.refl w.heap.size w)
 have H : (if (wrap64 (a1 - (l0.length : Int)))<0 then (some (-1)) else (laws_szValueS.l0 k l0 (wrap64 (a1 - (l0.length : Int))) 0))=some r:=h
 clear h
 by_cases c3 : (wrap64 (a1 - (l0.length : Int)))<0
 ·
  rw [if_pos c3] at H
  have c3b0 : decide ((wrap64 (a1 - (l0.length : Int)))<0)=true:=decide_eq_true c3
  clear c3
  obtain rfl:=Option.some.inj H
  go_enter Try.func41,Try.ntmps41
  go_wp2
  go_ret
  exact ⟨by first|rfl|(simp [errW_none,errW_some] <;> rfl)|(simp [*,errW_none,errW_some] <;> rfl),by repeat (first|(with_reducible first|exact HB.out|apply below_alloc|apply pw_below_drewN|apply below_drew1)|exact HB.out)⟩
 ·
  rw [if_neg c3] at H
  have c3b0 : decide ((wrap64 (a1 - (l0.length : Int)))<0)=false:=decide_eq_false c3
  clear c3
  have H':=Aside0.mk H
  clear H
  go_enter Try.func41,Try.ntmps41
  go_wp2
  go_loopg [1,5] k (fun kq v1 v5 w' => ∃ (x1_1 : Int) (x5_1 : Int),v1 = .int .i64 x1_1∧v5 = .int .i64 x5_1∧Aside0 (laws_szValueS.l0 kq l0 x1_1 x5_1=some r)∧Aside0 (kq≤k)∧Aside0 (Below w.heap.size w w'))
  case atStart => exact ⟨(wrap64 (a1 - (l0.length : Int))),(0),(by first|rfl|(simp;done)|(simp [*];done)),(by first|rfl|(simp;done)|(simp [*];done)),H',⟨Nat.le_refl _⟩,⟨by repeat (first|(with_reducible first|exact HB.out|apply below_alloc|apply pw_below_drewN|apply below_drew1)|exact HB.out)⟩⟩
  case round =>
   clear H'
   try clear p2
   try clear c3
   try clear c3b0
   obtain ⟨x1_1,x5_1,rfl,rfl,HA,HK1,HB⟩:=hrel
   cases gk with
   | zero => exact absurd HA.out (by simp [laws_szValueS.l0])
   | succ k1 =>
    have H:=HA.out
    clear HA
    simp only [laws_szValueS.l0] at H
    by_cases c4 : x5_1<(l0.length : Int)
    ·
     rw [if_pos c4] at H
     have c4b0 : decide (x5_1<(l0.length : Int))=true:=decide_eq_true c4
     clear c4
     by_cases c5 : 0≤x5_1
     ·
      rw [if_pos c5] at H
      have c5b0 : decide (0≤x5_1)=true:=decide_eq_true c5
      clear c5
      replace H:=Option.bind_eq_some_iff.mp H
      obtain ⟨t721,A60,H⟩:=H
      replace H : (if t721<0 then (some (-1)) else (laws_szValueS.l0 k1 l0 t721 (wrap64 (x5_1 + 1))))=some r:=H
      have A6:=Aside0.mk A60
      clear A60
      by_cases c7 : t721<0
      ·
       rw [if_pos c7] at H
       have c7b0 : decide (t721<0)=true:=decide_eq_true c7
       clear c7
       obtain rfl:=Option.some.inj H
       have p720 : 0≤(x5_1 : Int):=of_decide_eq_true (by first|(with_reducible assumption)|assumption)
       have q720 : x5_1<(l0.length : Int):=of_decide_eq_true (by first|(with_reducible assumption)|assumption)
       obtain ⟨ad720,e720,hx720_0,hx720_1,hx720_2⟩:=at_T23 HR0.out x5_1 p720 q720
       cases e720
       replace hx720_0:=(HB.out.cell (World.block_lt_of_cell? w _ hx720_0)).trans hx720_0
       replace hx720_1:=(HB.out.cell (World.block_lt_of_cell? w _ hx720_1)).trans hx720_1
       replace hx720_2:=(HB.out.cell (World.block_lt_of_cell? w _ hx720_2)).trans hx720_2
       replace p720:=eq_true p720
       replace q720:=eq_true q720
       go_wp2_with (first|((with_reducible refine gate_callee (f:=14) rfl ?_);refine goesL_ (some 23) rfl rfl Try.func14 (by kernel_rfl) rfl #[.agg #[.int .i64 ((rd_T23 l0 x5_1).f0),.int .i64 ((rd_T23 l0 x5_1).f1),.string ((rd_T23 l0 x5_1).f2)],.int .i64 x1_1] rfl (by (try simp only [List.map_toArray,List.map_cons,List.map_nil]);first|done|rfl|(simp only [List.length_drop,List.length_take];rfl)|(simp only [gt_iff_lt,ge_iff_le,Int.ofNat_lt,Int.ofNat_le];rfl)) ?_;(with_reducible refine (laws_szValue.calls  ((rd_T23 l0 x5_1).f0) ((rd_T23 l0 x5_1).f1) ((rd_T23 l0 x5_1).f2) x1_1 t721 _ A6.out).mono ?_);rintro e w8 ⟨rfl,hb⟩;refine ⟨_,rfl,?_⟩;have n0_:=Aside0.mk (below_step (by repeat (first|(with_reducible first|exact HB.out|apply below_alloc|apply pw_below_drewN|apply below_drew1)|exact HB.out)) hb);clear HB;have HB:=n0_;clear n0_;(try clear hb);(try clear hb2);(try clear hk);(try clear hi)))
       go_ret
       exact ⟨by first|rfl|(simp [errW_none,errW_some] <;> rfl)|(simp [*,errW_none,errW_some] <;> rfl),by repeat (first|(with_reducible first|exact HB.out|apply below_alloc|apply pw_below_drewN|apply below_drew1)|exact HB.out)⟩
      ·
       rw [if_neg c7] at H
       have c7b0 : decide (t721<0)=false:=decide_eq_false c7
       clear c7
       have H':=Aside0.mk H
       clear H
       have p720 : 0≤(x5_1 : Int):=of_decide_eq_true (by first|(with_reducible assumption)|assumption)
       have q720 : x5_1<(l0.length : Int):=of_decide_eq_true (by first|(with_reducible assumption)|assumption)
       obtain ⟨ad720,e720,hx720_0,hx720_1,hx720_2⟩:=at_T23 HR0.out x5_1 p720 q720
       cases e720
       replace hx720_0:=(HB.out.cell (World.block_lt_of_cell? w _ hx720_0)).trans hx720_0
       replace hx720_1:=(HB.out.cell (World.block_lt_of_cell? w _ hx720_1)).trans hx720_1
       replace hx720_2:=(HB.out.cell (World.block_lt_of_cell? w _ hx720_2)).trans hx720_2
       replace p720:=eq_true p720
       replace q720:=eq_true q720
       go_wp2_with (first|((with_reducible refine gate_callee (f:=14) rfl ?_);refine goesL_ (some 23) rfl rfl Try.func14 (by kernel_rfl) rfl #[.agg #[.int .i64 ((rd_T23 l0 x5_1).f0),.int .i64 ((rd_T23 l0 x5_1).f1),.string ((rd_T23 l0 x5_1).f2)],.int .i64 x1_1] rfl (by (try simp only [List.map_toArray,List.map_cons,List.map_nil]);first|done|rfl|(simp only [List.length_drop,List.length_take];rfl)|(simp only [gt_iff_lt,ge_iff_le,Int.ofNat_lt,Int.ofNat_le];rfl)) ?_;(with_reducible refine (laws_szValue.calls  ((rd_T23 l0 x5_1).f0) ((rd_T23 l0 x5_1).f1) ((rd_T23 l0 x5_1).f2) x1_1 t721 _ A6.out).mono ?_);rintro e w9 ⟨rfl,hb⟩;refine ⟨_,rfl,?_⟩;have n0_:=Aside0.mk (below_step (by repeat (first|(with_reducible first|exact HB.out|apply below_alloc|apply pw_below_drewN|apply below_drew1)|exact HB.out)) hb);clear HB;have HB:=n0_;clear n0_;(try clear hb);(try clear hb2);(try clear hk);(try clear hi)))
       go_roundg k1
       case measure => have:=HK1.out;omega
       case rel => exact ⟨(t721),(wrap64 (x5_1 + 1)),(by first|rfl|(simp;done)|(simp [*];done)),(by first|rfl|(simp;done)|(simp [*];done)),H',⟨by have:=HK1.out;omega⟩,⟨by repeat (first|(with_reducible first|exact HB.out|apply below_alloc|apply pw_below_drewN|apply below_drew1)|exact HB.out)⟩⟩
     ·
      rw [if_neg c5] at H
      exact absurd H (by simp)
    ·
     rw [if_neg c4] at H
     have c4b0 : decide (x5_1<(l0.length : Int))=false:=decide_eq_false c4
     clear c4
     obtain rfl:=Option.some.inj H
     go_wp2
     go_ret
     exact ⟨by first|rfl|(simp [errW_none,errW_some] <;> rfl)|(simp [*,errW_none,errW_some] <;> rfl),by repeat (first|(with_reducible first|exact HB.out|apply below_alloc|apply pw_below_drewN|apply below_drew1)|exact HB.out)⟩

end Go.Proofs.Ytpmeglcmhiihoaa.Q
end
section
namespace Go.Proofs.Ytpmeglcmhiihoaa.Q
open Go.RowKit Go.Proofs.YtpmeglcmhiihoaaW.PrintWords Go.Proofs.YtpmeglcmhiihoaaW.PrintLast Go.Proofs.YtpmeglcmhiihoaaW.PrintMore
attribute [local go_sem] max2_int min2_int max_two min_two max_three min_three max_four min_four max2_str min2_str str_geq str_gtr str_leq   -- for this text's walks alone
set_option linter.unusedVariables false
set_option linter.unusedSimpArgs false

def laws_toValueS.l0 : Nat→List (S23)→List (S26)→Int→Option ((List (S26)))
 | 0,_,_,_ => none
 | k + 1,x0,x3,x4 => if x4<(x0.length : Int) then (if 0≤x4 then ((laws_toValue.f ((rd_T23 x0 x4).f0) ((rd_T23 x0 x4).f1) ((rd_T23 x0 x4).f2)).bind fun bt742 => (if x4<(x3.length : Int) then (laws_toValueS.l0 k x0 (x3.set (x4 : Int).toNat (⟨bt742.1,bt742.2.1,bt742.2.2⟩ : S26)) (wrap64 (x4 + 1))) else (none))) else (none)) else (some x3)
def laws_toValueS.f (k : Nat) (l0 : List (S23)) : Option ((List (S26))):=if 0≤(l0.length : Int) then (if ((l0.length : Int) : Int).toNat≤8796093022208 then (laws_toValueS.l0 k l0 (List.replicate ((l0.length : Int) : Int).toNat z26) 0) else (none)) else (none)
theorem laws_toValueS.mono_l : ∀ k,(∀ y0 y1 y2,LeO (laws_toValueS.l0 k y0 y1 y2) (laws_toValueS.l0 (k + 1) y0 y1 y2))
 | 0 => fun _ _ _ r h => by simp [laws_toValueS.l0] at h
 | k + 1 => by
  have ih0:=laws_toValueS.mono_l k
  ·
   intro y0 y1 y2
   unfold laws_toValueS.l0
   repeat' first
   | (with_reducible exact ih0 _ _ _)
   | (with_reducible exact LeO.refl _)
   | (with_reducible exact LeO.none _)
   | (with_reducible refine LeO.ite ?_ ?_)
   | (with_reducible refine LeO.bind ?_ (fun _ => ?_))
   | exact ih0 _ _ _
   | exact LeO.none _
   | refine LeO.ite ?_ ?_
   | refine LeO.bind ?_ (fun _ => ?_)
theorem laws_toValueS.mono : ∀ a0 k,LeO (laws_toValueS.f k a0) (laws_toValueS.f (k + 1) a0):=by
 intro a0 k
 have ih0:=laws_toValueS.mono_l k
 unfold laws_toValueS.f
 repeat' first
   | (with_reducible exact ih0 _ _ _)
   | (with_reducible exact LeO.refl _)
   | (with_reducible exact LeO.none _)
   | (with_reducible refine LeO.ite ?_ ?_)
   | (with_reducible refine LeO.bind ?_ (fun _ => ?_))
   | exact ih0 _ _ _
   | exact LeO.none _
   | refine LeO.ite ?_ ?_
   | refine LeO.bind ?_ (fun _ => ?_)
set_option maxHeartbeats 8000000 in
set_option maxRecDepth 100000 in
theorem laws_toValueS.calls (k : Nat) (A0 : Option Addr) (c0 : Nat) (l0 : List (S23)) (r : List (S26)) (w : World) (hr0 : Kd.C k23 w A0 l0.length l0) (hc0 : l0.length≤c0) (h : laws_toValueS.f k l0=some r) :
  Calls Try.prog 43 #[.slice A0 l0.length c0] w fun e w' => ∃ v0_ : Value,e = .returned (v0_)∧Kd.R k26 26 w' w.heap.size (fun _ => True) v0_ r∧Below w.heap.size w w':=by
 have hu23:=Try.underlying23
 have hu26:=Try.underlying26
 have HR0:=Aside0.mk hr0
 have HC0:=Aside0.mk hc0
 clear hr0 hc0
 have HB:=Aside0.mk (Below.refl w.heap.size w)
 have H : (if 0≤(l0.length : Int) then (if ((l0.length : Int) : Int).toNat≤8796093022208 then (laws_toValueS.l0 k l0 (List.replicate ((l0.length : Int) : Int).toNat z26) 0) else (none)) else (none))=some r:=h
 clear h
 by_cases c2 : 0≤(l0.length : Int)
 ·
  rw [if_pos c2] at H
  have c2b0:=eq_true c2
  have c2b1 : decide (0≤(l0.length : Int))=true:=decide_eq_true c2
  clear c2
  by_cases c3 : ((l0.length : Int) : Int).toNat≤8796093022208
  ·
   rw [if_pos c3] at H
   have c3b0:=eq_true c3
   have c3b1 : decide (((l0.length : Int) : Int).toNat≤8796093022208)=true:=decide_eq_true c3
   clear c3
   obtain ⟨y738,hy738⟩ : ∃ y_ : List (S26),y_=(List.replicate ((l0.length : Int) : Int).toNat z26):=⟨_,rfl⟩
   replace H : (laws_toValueS.l0 k l0 y738 0)=some r:=by first|(rw [hy738];with_reducible exact H)|(have H2_:=(Option.bind_some _ _).symm.trans H;rw [hy738];with_reducible exact H2_)|(have H2_:=(Option.bind_some _ _).symm.trans H;with_reducible exact H2_)|with_reducible exact H|(rw [hy738];exact H)|exact H
   have Ny738:=Aside0.mk hy738
   clear hy738
   have H':=Aside0.mk H
   clear H
   go_enter Try.func43,Try.ntmps43
   go_wp2_with (first|((with_reducible refine gate_dst (N:=7) rfl ?_);refine Kd.R_make k26 _ 26 rfl (N:=7) rfl 41 _ _ rfl (l0.length : Int) rfl rfl Try.underlying41 (.agg #[(.int .i64 0),(.int .i64 0),(.string ⟨#[]⟩)]) 32 info26 rfl (by decide) (by omega) z26 (ok:=fun _ => True) (okp:=fun _ => True) (k26_mkM _ _ _ z26 ) (fun _ hk => hk) trivial (of_decide_eq_true (by first|(with_reducible assumption)|assumption)) (Nat.le_trans (Nat.mul_le_mul_right _ (of_decide_eq_true (by first|(with_reducible assumption)|assumption) : (l0.length : Int).toNat≤8796093022208)) (by omega)) (Below.refl _ _) (Nat.le_refl _) ?_;intro v739 w4 ho5 hb hg_ hnew_;clear hg_ hnew_;(first|rw [← Ny738.out] at ho5|(simp only [Int.reduceToNat] at ho5;rw [← Ny738.out] at ho5));have n0_:=Aside0.mk (Kd.R_lower ho5 (below_size (by repeat (first|(with_reducible first|exact HB.out|apply below_alloc|apply pw_below_drewN|apply below_drew1)|exact HB.out))));have n1_:=Aside0.mk (below_step (by repeat (first|(with_reducible first|exact HB.out|apply below_alloc|apply pw_below_drewN|apply below_drew1)|exact HB.out)) hb);clear HB;have HO740:=n0_;have HB:=n1_;clear n0_ n1_;clear hb ho5))
   go_loopg [4] k (fun kq v4 w' => ∃ (x3_1 : List (S26)) (x4_1 : Int),v4 = .int .i64 x4_1∧Aside0 (laws_toValueS.l0 kq l0 x3_1 x4_1=some r)∧Aside0 (kq≤k)∧Aside0 (Kd.R k26 26 w' w.heap.size (fun _ => True) v739 x3_1)∧Aside0 (Below w.heap.size w w'))
   case atStart => exact ⟨(y738),(0),(by first|rfl|(simp;done)|(simp [*];done)),H',⟨Nat.le_refl _⟩,⟨by (with_reducible repeat (first|apply Kd.R_alloc|apply Kd.R_drewN|apply Kd.R_drew));exact HO740.out⟩,⟨by repeat (first|(with_reducible first|exact HB.out|apply below_alloc|apply pw_below_drewN|apply below_drew1)|exact HB.out)⟩⟩
   case round =>
    clear H'
    try clear c2
    try clear c2b0
    try clear c2b1
    try clear p2
    try clear c3
    try clear c3b0
    try clear c3b1
    try clear c4
    obtain ⟨x3_1,x4_1,rfl,HA,HK1,HO_3,HB⟩:=hrel
    cases gk with
    | zero => exact absurd HA.out (by simp [laws_toValueS.l0])
    | succ k1 =>
     have H:=HA.out
     clear HA
     simp only [laws_toValueS.l0] at H
     by_cases c6 : x4_1<(l0.length : Int)
     ·
      rw [if_pos c6] at H
      have c6b0 : decide (x4_1<(l0.length : Int))=true:=decide_eq_true c6
      clear c6
      by_cases c7 : 0≤x4_1
      ·
       rw [if_pos c7] at H
       have c7b0 : decide (0≤x4_1)=true:=decide_eq_true c7
       clear c7
       replace H:=Option.bind_eq_some_iff.mp H
       obtain ⟨⟨t742,t743,t744⟩,A80,H⟩:=H
       replace H : (if x4_1<(x3_1.length : Int) then (laws_toValueS.l0 k1 l0 (x3_1.set (x4_1 : Int).toNat (⟨t742,t743,t744⟩ : S26)) (wrap64 (x4_1 + 1))) else (none))=some r:=H
       have A8:=Aside0.mk A80
       clear A80
       by_cases c9 : x4_1<(x3_1.length : Int)
       ·
        rw [if_pos c9] at H
        have c9b0 : decide (x4_1<(x3_1.length : Int))=true:=decide_eq_true c9
        clear c9
        obtain ⟨y745,hy745⟩ : ∃ y_ : List (S26),y_=(x3_1.set (x4_1 : Int).toNat (⟨t742,t743,t744⟩ : S26)):=⟨_,rfl⟩
        replace H : (laws_toValueS.l0 k1 l0 y745 (wrap64 (x4_1 + 1)))=some r:=by first|(rw [hy745];with_reducible exact H)|(have H2_:=(Option.bind_some _ _).symm.trans H;rw [hy745];with_reducible exact H2_)|(have H2_:=(Option.bind_some _ _).symm.trans H;with_reducible exact H2_)|with_reducible exact H|(rw [hy745];exact H)|exact H
        have Ny745:=Aside0.mk hy745
        clear hy745
        have H':=Aside0.mk H
        clear H
        have p741 : 0≤(x4_1 : Int):=of_decide_eq_true (by first|(with_reducible assumption)|assumption)
        have q741 : x4_1<(l0.length : Int):=of_decide_eq_true (by first|(with_reducible assumption)|assumption)
        obtain ⟨ad741,e741,hx741_0,hx741_1,hx741_2⟩:=at_T23 HR0.out x4_1 p741 q741
        cases e741
        replace hx741_0:=(HB.out.cell (World.block_lt_of_cell? w _ hx741_0)).trans hx741_0
        replace hx741_1:=(HB.out.cell (World.block_lt_of_cell? w _ hx741_1)).trans hx741_1
        replace hx741_2:=(HB.out.cell (World.block_lt_of_cell? w _ hx741_2)).trans hx741_2
        replace p741:=eq_true p741
        replace q741:=eq_true q741
        go_wp2_with (first|((with_reducible refine gate_callee (f:=16) rfl ?_);refine goesL_ (some 20) rfl rfl Try.func16 (by kernel_rfl) rfl #[.agg #[.int .i64 ((rd_T23 l0 x4_1).f0),.int .i64 ((rd_T23 l0 x4_1).f1),.string ((rd_T23 l0 x4_1).f2)]] rfl (by (try simp only [List.map_toArray,List.map_cons,List.map_nil]);first|done|rfl|(simp only [List.length_drop,List.length_take];rfl)|(simp only [gt_iff_lt,ge_iff_le,Int.ofNat_lt,Int.ofNat_le];rfl)) ?_;(with_reducible refine (laws_toValue.calls  ((rd_T23 l0 x4_1).f0) ((rd_T23 l0 x4_1).f1) ((rd_T23 l0 x4_1).f2) t742 t743 t744 _ A8.out).mono ?_);rintro e w11 ⟨rfl,hb⟩;refine ⟨_,rfl,?_⟩;have n0_:=Aside0.mk (Kd.R_below (by (with_reducible repeat (first|apply Kd.R_alloc|apply Kd.R_drewN|apply Kd.R_drew));exact HO_3.out) hb);have n1_:=Aside0.mk (below_step (by repeat (first|(with_reducible first|exact HB.out|apply below_alloc|apply pw_below_drewN|apply below_drew1)|exact HB.out)) hb);clear HO_3;clear HB;have HO_3:=n0_;have HB:=n1_;clear n0_ n1_;(try clear hb);(try clear hb2);(try clear hk);(try clear hi);have p10 : 0≤(x4_1 : Int):=of_decide_eq_true (by first|(with_reducible assumption)|assumption);have q10 : (x4_1 : Int)<((x3_1.length : Int) : Int):=of_decide_eq_true (by first|(with_reducible assumption)|assumption);obtain ⟨go10,co10,eo10,gb10,gl10,cl10,HG10⟩:=Kd.R_form HO_3.out (by omega);(first|cases eo10|(injection eo10 with ea_ en_ ec_;(first|subst ea_|(injection ea_ with ea_;subst ea_));subst ec_;clear en_));have GB10:=Aside0.mk gb10;have GG10:=Aside0.mk HG10;clear gb10 gl10 HG10;obtain ⟨ce10,hcl10,hM10,hcc10,hfr10⟩:=Kd.R_elem HO_3.out z26 (x4_1 : Int) p10 q10;obtain rfl:=k26_openM hM10;have hx10_0 : w11.cell? ⟨go10,(x4_1 : Int).toNat * 3,none⟩=some (.int .i64 ((rd_T26 x3_1 x4_1).f0)):=hcc10 0 _ rfl;have hx10_1 : w11.cell? ⟨go10,(x4_1 : Int).toNat * 3 + 1,none⟩=some (.int .i64 ((rd_T26 x3_1 x4_1).f1)):=hcc10 1 _ rfl;have hx10_2 : w11.cell? ⟨go10,(x4_1 : Int).toNat * 3 + 2,none⟩=some (.string ((rd_T26 x3_1 x4_1).f2)):=hcc10 2 _ rfl;have hf10_0 : w11.frozen? ⟨go10,(x4_1 : Int).toNat * 3,none⟩=false:=hfr10 0;have hf10_1 : w11.frozen? ⟨go10,(x4_1 : Int).toNat * 3 + 1,none⟩=false:=hfr10 1;have hf10_2 : w11.frozen? ⟨go10,(x4_1 : Int).toNat * 3 + 2,none⟩=false:=hfr10 2;clear hcl10 hcc10 hfr10 hM10;replace p10:=eq_true p10;replace q10:=eq_true q10;have HX12:=Aside0.mk (show Kd.R k26 26 w11 w.heap.size (fun _ => True) (.slice (some ⟨go10,0,none⟩) x3_1.length co10) x3_1 from (by (with_reducible repeat (first|apply Kd.R_alloc|apply Kd.R_drewN|apply Kd.R_drew));exact HO_3.out));obtain ⟨ce12,hcl12,hM12,hcc12,hfr12⟩:=Kd.R_elem HX12.out z26 (x4_1 : Int) (of_decide_eq_true (by first|(with_reducible assumption)|assumption)) (by have h_ : (x4_1 : Int)<((x3_1.length : Int) : Int):=of_decide_eq_true (by first|(with_reducible assumption)|assumption);first|exact h_|(have e_:=(Kd.R_reads' HO_3.out).1;omega)|simpa using h_);obtain rfl:=k26_openM hM12;have HP12:=Kd.R_seg HX12.out (x4_1 : Int) (of_decide_eq_true (by first|(with_reducible assumption)|assumption)) (by have h_ : (x4_1 : Int)<((x3_1.length : Int) : Int):=of_decide_eq_true (by first|(with_reducible assumption)|assumption);first|exact h_|(have e_:=(Kd.R_reads' HO_3.out).1;omega)|simpa using h_) (seg:=[.int .i64 t742,.int .i64 t743,.string t744]) (j:=0) hcl12 hcc12 (show 3≤3 from by decide) (x':=(⟨t742,t743,t744⟩ : S26)) (k26_mkM _ _ _ (⟨t742,t743,t744⟩ : S26) ) (fun _ hk => hk);have hx12_0:=hcc12 0 _ rfl;(try simp only [show (k26).sz=3 from rfl,Nat.mul_one,Nat.add_zero] at hx12_0);have hf12_0:=hfr12 0;(try simp only [show (k26).sz=3 from rfl,Nat.mul_one,Nat.add_zero] at hf12_0);have hx12_1:=hcc12 1 _ rfl;(try simp only [show (k26).sz=3 from rfl,Nat.mul_one,Nat.add_zero] at hx12_1);have hf12_1:=hfr12 1;(try simp only [show (k26).sz=3 from rfl,Nat.mul_one,Nat.add_zero] at hf12_1);have hx12_2:=hcc12 2 _ rfl;(try simp only [show (k26).sz=3 from rfl,Nat.mul_one,Nat.add_zero] at hx12_2);have hf12_2:=hfr12 2;(try simp only [show (k26).sz=3 from rfl,Nat.mul_one,Nat.add_zero] at hf12_2);clear hcl12 hcc12 hfr12 hM12)|((with_reducible refine gate_store (t:=26) (p:=21) rfl ?_);refine store_event (t:=26) (p:=21) (v:=?vo_w13) (w1:=(((w11.setCell ⟨go10,(x4_1 : Int).toNat * 3,none⟩ (.int .i64 t742)).setCell ⟨go10,(x4_1 : Int).toNat * 3 + 1,none⟩ (.int .i64 t743)).setCell ⟨go10,(x4_1 : Int).toNat * 3 + 2,none⟩ (.string t744))) ?hg ?ho ?hn ?hr ?_;(case ho => rfl);(case hg => rfl);(case hn => rfl);(case hr => first|(go_simp;done)|(go_simp;rfl));intro w13 hw;have hg : w11.grownBy w13 (some go10):=(by rw [hw];exact HP12.2);have hp_ : Kd.R k26 26 w13 w.heap.size (fun _ => True) (.slice (some ⟨go10,0,none⟩) x3_1.length co10) y745:=(by rw [hw,Ny745.out];exact HP12.1);clear HP12;have n0_:=Aside0.mk (hp_);have n1_:=Aside0.mk ((by rw [hw];exact below_set (below_set (below_set (HB.out) GB10.out) GB10.out) GB10.out : Below w.heap.size w w13));clear HO_3;clear HB;have HO_3:=n0_;have HB:=n1_;clear n0_ n1_;clear hg hw hp_))
        go_roundg k1
        case measure => have:=HK1.out;omega
        case rel => exact ⟨(y745),(wrap64 (x4_1 + 1)),(by first|rfl|(simp;done)|(simp [*];done)),H',⟨by have:=HK1.out;omega⟩,⟨by (with_reducible repeat (first|apply Kd.R_alloc|apply Kd.R_drewN|apply Kd.R_drew));exact HO_3.out⟩,⟨by repeat (first|(with_reducible first|exact HB.out|apply below_alloc|apply pw_below_drewN|apply below_drew1)|exact HB.out)⟩⟩
       ·
        rw [if_neg c9] at H
        exact absurd H (by simp)
      ·
       rw [if_neg c7] at H
       exact absurd H (by simp)
     ·
      rw [if_neg c6] at H
      have c6b0 : decide (x4_1<(l0.length : Int))=false:=decide_eq_false c6
      clear c6
      obtain rfl:=Option.some.inj H
      go_wp2
      go_ret
      exact ⟨_,by first|rfl|(simp [errW_none,errW_some] <;> rfl)|(simp [*,errW_none,errW_some] <;> rfl),by (with_reducible repeat (first|apply Kd.R_alloc|apply Kd.R_drewN|apply Kd.R_drew));exact HO_3.out,by repeat (first|(with_reducible first|exact HB.out|apply below_alloc|apply pw_below_drewN|apply below_drew1)|exact HB.out)⟩
  ·
   rw [if_neg c3] at H
   exact absurd H (by simp)
 ·
  rw [if_neg c2] at H
  exact absurd H (by simp)

end Go.Proofs.Ytpmeglcmhiihoaa.Q
end
section
namespace Go.Proofs.Ytpmeglcmhiihoaa.Pure
open Go.RowKit Go.Proofs.Ytpmeglcmhiihoaa.Q Go.Proofs.YtpmeglcmhiihoaaW.PrintWords Go.Proofs.YtpmeglcmhiihoaaW.PrintLast Go.Proofs.YtpmeglcmhiihoaaW.Pl
abbrev LVal:=S23

def iv (v : LVal) : IVal:=⟨v.f0,v.f1,v.f2⟩
theorem szValue_tells (v : LVal) (h : v.f2.size≤9223372036854775807) {left : Int} (h0 : 0≤left) (h1 : left≤1048576) :
    laws_szValue.f v.f0 v.f1 v.f2 left=some (if left - v.f2.size<0 then -1 else left - v.f2.size):=by
  unfold laws_szValue.f
  rw [w64 (by omega) (by omega)]
  split <;> rfl
theorem toValue_tells (v : LVal) : laws_toValue.f v.f0 v.f1 v.f2=some (v.f0,v.f1,v.f2):=rfl
def ve (a b : IVal) : Bool:=a.f0 == b.f0 && (a.f1 == b.f1 && a.f2.toList == b.f2.toList)
end Go.Proofs.Ytpmeglcmhiihoaa.Pure
end
section
namespace Go.Proofs.Ytpmeglcmhiihoaa.Pure
open Go Go.RowKit Go.Proofs.Ytpmeglcmhiihoaa.Q Go.Proofs.YtpmeglcmhiihoaaW.PrintWords Go.Proofs.YtpmeglcmhiihoaaW.PrintLast Go.Proofs.YtpmeglcmhiihoaaW.PrintMore Go.Proofs.YtpmeglcmhiihoaaW.Pl
theorem right_four {d : Nat} {v : IVal} (h : rightV d v=true) (h4 : v.f0=4) : ∃ e l,d=e + 1∧itS v.f2.size v.f2=some l∧l.all (rightV e)=true:=by
  cases d with
  | zero =>
    have : flat v=true:=h
    unfold flat at this
    rw [if_neg (by omega),if_neg (by omega),if_neg (by omega),if_neg (by omega)] at this
    cases this
  | succ e =>
    unfold rightV at h
    rw [if_pos h4] at h
    cases hi : itS v.f2.size v.f2 with
    | none => rw [hi] at h;simp at h
    | some l =>
      rw [hi] at h
      simp only [Bool.and_eq_true] at h
      exact ⟨e,l,rfl,rfl,h.2.2⟩
theorem right_five {d : Nat} {v : IVal} (h : rightV d v=true) (h5 : v.f0=5) : ∃ e l,d=e + 1∧fdS v.f2.size v.f2=some l∧nms none l=true∧l.all (fun f => rightV e f.f1)=true:=by
  have h4 : ¬ v.f0=4:=by omega
  cases d with
  | zero =>
    have : flat v=true:=h
    unfold flat at this
    rw [if_neg (by omega),if_neg (by omega),if_neg (by omega),if_neg (by omega)] at this
    cases this
  | succ e =>
    unfold rightV at h
    rw [if_neg h4,if_pos h5] at h
    cases hi : fdS v.f2.size v.f2 with
    | none => rw [hi] at h;simp at h
    | some l =>
      rw [hi] at h
      simp only [Bool.and_eq_true] at h
      exact ⟨e,l,rfl,rfl,h.2.2.1,h.2.2.2⟩
end Go.Proofs.Ytpmeglcmhiihoaa.Pure
end
section
namespace Go.Proofs.Ytpmeglcmhiihoaa.Pure
open Go Go.RowKit Go.Proofs.Ytpmeglcmhiihoaa.Q Go.Proofs.YtpmeglcmhiihoaaW.PrintWords Go.Proofs.YtpmeglcmhiihoaaW.PrintLast Go.Proofs.YtpmeglcmhiihoaaW.PrintMore Go.Proofs.YtpmeglcmhiihoaaW.Pl
def depV : Nat→IVal→Int
  | 0,_ => 0
  | d + 1,v =>
    if v.f0=4 then (match itS v.f2.size v.f2 with|some l => (l.map (depV d)).foldl mx 0 + 1|none => 0)
    else if v.f0=5 then (match fdS v.f2.size v.f2 with|some l => (l.map (fun f => depV d f.f1)).foldl mx 0 + 1|none => 0)
    else 0
theorem mx_in {d : Int} {x y : Int} (hx : 0≤x∧x≤d) (hy : 0≤y∧y≤d) : 0≤mx x y∧mx x y≤d:=by
  unfold mx
  split <;> omega
theorem fold_in (d : Int) : ∀ (l : List Int) (x : Int),0≤x∧x≤d→(∀ y ∈ l,0≤y∧y≤d)→0≤l.foldl mx x∧l.foldl mx x≤d
  | [],_,h,_ => h
  | y :: l,x,h,h2 => fold_in d l (mx x y) (mx_in h (h2 y (by simp))) (fun z hz => h2 z (by simp [hz]))
theorem dep_in : ∀ (d : Nat) (v : IVal),0≤depV d v∧depV d v≤d:=by
  intro d
  induction d with
  | zero => intro v;simp [depV]
  | succ d ih =>
    intro v
    unfold depV
    by_cases h4 : v.f0=4
    · rw [if_pos h4]
      cases itS v.f2.size v.f2 with
      | none => simp only;omega
      | some l =>
        have:=fold_in d (l.map (depV d)) 0 (by omega) (fun y hy => by
          obtain ⟨x,_,rfl⟩:=List.mem_map.1 hy
          exact ih x)
        simp only;omega
    rw [if_neg h4]
    by_cases h5 : v.f0=5
    · rw [if_pos h5]
      cases fdS v.f2.size v.f2 with
      | none => simp only;omega
      | some l =>
        have:=fold_in d (l.map (fun f => depV d f.f1)) 0 (by omega) (fun y hy => by
          obtain ⟨x,_,rfl⟩:=List.mem_map.1 hy
          exact ih x.f1)
        simp only;omega
    · rw [if_neg h5];omega
theorem dep_spec : ∀ (d : Nat) (v : IVal),d≤1000→v.f2.size≤1048576→rightV d v=true→Eve (fun k => spec_l01Depth.f k v.f0 v.f1 v.f2) (depV d v):=by
  intro d
  induction d with
  | zero =>
    intro v hd hs h
    refine Eve.succ ?_
    simp only [spec_l01Depth.f]
    refine Eve.ite (fun h4 => ?_) (fun _ => Eve.ite (fun h5 => ?_) (fun _ => Eve.one))
    · obtain ⟨e,_,he,_⟩:=right_four h h4;cases he
    · obtain ⟨e,_,he,_⟩:=right_five h h5;cases he
  | succ d ih =>
    intro v hd hs h
    refine Eve.succ ?_
    simp only [spec_l01Depth.f,spec_l01Items.f,spec_l01Fields.f]
    refine Eve.ite (fun h4 => ?_) (fun h4 => Eve.ite (fun h5 => ?_) (fun h5 => ?_))
    · obtain ⟨e,l,he,hi,hr⟩:=right_four h h4
      obtain rfl : d=e:=by omega
      obtain ⟨h1,h2⟩:=its_size _ _ l hi hs
      have hit:=items_spec _ v.f2 [] (Nat.le_refl _) hs (by simp;omega)
      rw [hi] at hit
      refine Eve.bind hit ?_
      unfold depV
      rw [if_pos h4,hi]
      simp only [toldL,List.nil_append]
      refine (ev_loop0 l (fun k (x : Int) i => spec_l01Depth.l0 k x l i) (fun _ x r => (r.map (depV d)).foldl mx x + 1) (fun _ x => 0≤x∧x≤d) (fun x hx => ?_) (fun i hi x hx ih2 => ?_) 0 (by omega))
      · simp only [spec_l01Depth.l0]
        refine Eve.ite (fun h => absurd h (by omega)) (fun _ => Eve.one.eq ?_)
        rw [w64 (by omega) (by omega)];rfl
      · have hm:=List.getElem_mem hi
        simp only [spec_l01Depth.l0,rdV l i hi,wi (show i≤9223372036854775806 by omega)]
        refine Eve.ite (fun _ => ?_) (fun h => absurd (by omega) h)
        refine Eve.ite (fun _ => ?_) (fun h => absurd (by omega) h)
        refine Eve.bind (ih l[i] (by omega) (h2 _ hm) (List.all_eq_true.1 hr _ hm)) ?_
        exact ih2 _ (mx_in hx (dep_in d l[i]))
    · obtain ⟨e,l,he,hi,_,hr⟩:=right_five h h5
      obtain rfl : d=e:=by omega
      obtain ⟨h1,h2⟩:=fds_size _ _ l hi hs
      have hit:=fields_spec _ v.f2 [] (Nat.le_refl _) hs (by simp;omega)
      rw [hi] at hit
      refine Eve.bind hit ?_
      unfold depV
      rw [if_neg h4,if_pos h5,hi]
      simp only [toldF,List.nil_append]
      refine (ev_loop0 l (fun k (x : Int) i => spec_l01Depth.l1 k x l i) (fun _ x r => (r.map (fun f => depV d f.f1)).foldl mx x + 1) (fun _ x => 0≤x∧x≤d) (fun x hx => ?_) (fun i hi x hx ih2 => ?_) 0 (by omega))
      · simp only [spec_l01Depth.l1]
        refine Eve.ite (fun h => absurd h (by omega)) (fun _ => Eve.one.eq ?_)
        rw [w64 (by omega) (by omega)];rfl
      · have hm:=List.getElem_mem hi
        simp only [spec_l01Depth.l1,rdF l i hi,wi (show i≤9223372036854775806 by omega)]
        refine Eve.ite (fun _ => ?_) (fun h => absurd (by omega) h)
        refine Eve.ite (fun _ => ?_) (fun h => absurd (by omega) h)
        refine Eve.bind (ih l[i].f1 (by omega) (h2 _ hm).2 (List.all_eq_true.1 hr _ hm)) ?_
        exact ih2 _ (mx_in hx (dep_in d l[i].f1))
    · unfold depV
      rw [if_neg h4,if_neg h5]
      exact Eve.one
theorem dep_loop (l : List IVal) (d : Nat) (hd : d≤1000) (hl : l.length≤1048576) (h : ∀ x ∈ l,Eve (fun k => impl_depth.f k x.f0 x.f1 x.f2) (depV d x)) : Eve (fun k => impl_depth.l0 k 0 l (l.length : Int) 0) ((l.map (depV d)).foldl mx 0 + 1):=by
  refine (ev_loop0 l (fun k (x : Int) i => impl_depth.l0 k x l (l.length : Int) i) (fun _ x r => (r.map (depV d)).foldl mx x + 1) (fun _ x => 0≤x∧x≤d) (fun x hx => ?_) (fun i hi x hx ih2 => ?_) 0 (by omega))
  · simp only [impl_depth.l0]
    refine Eve.ite (fun h => absurd h (by omega)) (fun _ => Eve.one.eq ?_)
    rw [w64 (by omega) (by omega)];rfl
  · simp only [impl_depth.l0,rdV l i hi,wi (show i≤9223372036854775806 by omega)]
    refine Eve.ite (fun _ => ?_) (fun h => absurd (by omega) h)
    refine Eve.ite (fun _ => ?_) (fun h => absurd (by omega) h)
    refine Eve.ite (fun _ => ?_) (fun h => absurd (by omega) h)
    refine Eve.bind (h l[i] (List.getElem_mem hi)) ?_
    exact ih2 _ (mx_in hx (dep_in d l[i]))
theorem dep_nest (v : IVal) (d : Nat) (l : List IVal) (ok : Bool) (hd : d≤1000) (h45 : v.f0=4∨v.f0=5) (hin : Eve (fun k => impl_inner.f k v.f0 v.f1 v.f2) (l,ok)) (hl : l.length≤1048576)
    (hq : ∀ x ∈ l,Eve (fun k => impl_depth.f k x.f0 x.f1 x.f2) (depV d x)) : Eve (fun k => impl_depth.f k v.f0 v.f1 v.f2) ((l.map (depV d)).foldl mx 0 + 1):=by
  have hj : Eve (fun k => impl_depth.j0 k false v.f0 v.f1 v.f2) ((l.map (depV d)).foldl mx 0 + 1):=by
    refine Eve.succ ?_
    simp only [impl_depth.j0,Bool.false_eq_true,if_false]
    refine Eve.bind hin ?_
    refine Eve.ite (fun _ => dep_loop l d hd hl hq) (fun h => Eve.one.eq ?_)
    have : l=[]:=List.length_eq_zero_iff.1 (by simp only at h;omega)
    rw [this];rfl
  refine Eve.succ ?_
  simp only [impl_depth.f]
  rcases h45 with h|h
  · simp only [if_pos h];exact hj
  · have h4 : ¬ v.f0=4:=by omega
    have h5 : (v.f0 != 5)=false:=by rw [h];rfl
    simp only [if_neg h4,h5];exact hj
theorem dep_impl : ∀ (d : Nat) (v : IVal),d≤1000→v.f2.size≤1048576→rightV d v=true→Eve (fun k => impl_depth.f k v.f0 v.f1 v.f2) (depV d v):=by
  intro d
  have flat0 : ∀ (v : IVal),v.f0≠4→v.f0≠5→Eve (fun k => impl_depth.f k v.f0 v.f1 v.f2) 0:=by
    intro v h4 h5
    refine Eve.succ ?_
    have h5' : (v.f0 != 5)=true:=by simpa using h5
    simp only [impl_depth.f,if_neg h4,h5']
    refine Eve.succ ?_
    simp only [impl_depth.j0,if_true]
    exact Eve.one
  induction d with
  | zero =>
    intro v hd hs h
    refine flat0 v (fun h4 => ?_) (fun h5 => ?_)
    · obtain ⟨e,_,he,_⟩:=right_four h h4;cases he
    · obtain ⟨e,_,he,_⟩:=right_five h h5;cases he
  | succ d ih =>
    intro v hd hs h
    by_cases h4 : v.f0=4
    · obtain ⟨e,l,he,hi,hr⟩:=right_four h h4
      obtain rfl : d=e:=by omega
      obtain ⟨l2,ok,hin,hl,hsz,hc⟩:=inner_four v h4 hs
      rw [hi] at hc
      have hl2 : l=l2:=by
        rcases hc with ⟨e,_⟩|⟨e,_⟩
        · simpa using e
        · simp at e
      subst hl2
      refine (dep_nest v d l ok (by omega) (.inl h4) hin hl (fun x hx => ih x (by omega) (hsz x hx) (List.all_eq_true.1 hr _ hx))).eq ?_
      unfold depV
      rw [if_pos h4,hi]
    by_cases h5 : v.f0=5
    · obtain ⟨e,fs,he,hi,_,hr⟩:=right_five h h5
      obtain rfl : d=e:=by omega
      obtain ⟨l2,ok,hin,hl,hsz,hc⟩:=inner_five v h5 hs
      rw [hi] at hc
      have hl2 : l2=fs.map (·.f1):=by
        rcases hc with ⟨f2,e,e2,_⟩|⟨e,_⟩
        · obtain rfl : fs=f2:=by simpa using e
          exact e2
        · simp at e
      subst hl2
      refine (dep_nest v d _ ok (by omega) (.inr h5) hin hl (fun x hx => ih x (by omega) (hsz x hx) ?_)).eq ?_
      · obtain ⟨f,hf,rfl⟩:=List.mem_map.1 hx
        exact List.all_eq_true.1 hr f hf
      · unfold depV
        rw [if_neg h4,if_pos h5,hi,List.map_map];rfl
    unfold depV
    rw [if_neg h4,if_neg h5]
    exact flat0 v h4 h5
end Go.Proofs.Ytpmeglcmhiihoaa.Pure
end
section
namespace Go.Proofs.Ytpmeglcmhiihoaa.Pure
open Go Go.RowKit Go.Proofs.Ytpmeglcmhiihoaa.Q Go.Proofs.YtpmeglcmhiihoaaW.PrintWords Go.Proofs.YtpmeglcmhiihoaaW.PrintLast Go.Proofs.YtpmeglcmhiihoaaW.PrintMore Go.Proofs.YtpmeglcmhiihoaaW.Pl
theorem FnExactDepthOf : laws_FnExactDepthOf.Pure:=by
  rintro x ⟨_,_,hx⟩
  refine Eve.get (g:=fun k => laws_FnExactDepthOf.f k x.f0 x.f1 x.f2) ?_
  simp only [laws_FnExactDepthOf.f,toValue_tells,szValue_tells x hx (left:=1048576) (by omega) (by omega),Option.bind_some]
  by_cases h : (1048576 : Int) - x.f2.size<0
  · simp only [if_pos h];exact Eve.ite (fun _ => Eve.one) (fun h => absurd h (by omega))
  simp only [if_neg h]
  have hs : (iv x).f2.size≤1048576:=by show x.f2.size≤_;omega
  have h1 : Eve (fun k => spec_DepthOf.f k x.f0 x.f1 x.f2) (if rightV 5 (iv x)=true then (depV 5 (iv x),0) else (0,1)):=by
    simp only [spec_DepthOf.f]
    refine Eve.bind (ok_spec (iv x) hs) ?_
    refine Eve.ite (fun h => ?_) (fun h => ?_)
    · rw [if_pos h];exact Eve.bind (dep_spec 5 (iv x) (by omega) hs h) Eve.one
    · rw [if_neg h];exact Eve.one
  have h2 : Eve (fun k => impl_DepthOf.f k x.f0 x.f1 x.f2) (if rightV 5 (iv x)=true then (depV 5 (iv x),0) else (0,1)):=by
    simp only [impl_DepthOf.f]
    refine Eve.bind (ok_impl (iv x) hs) ?_
    refine Eve.ite (fun h => ?_) (fun h => ?_)
    · rw [if_pos h];exact Eve.bind (dep_impl 5 (iv x) (by omega) hs h) Eve.one
    · rw [if_neg h];exact Eve.one
  refine Eve.bind h1 ?_
  refine Eve.bind h2 ?_
  simp only [if_true]
  exact Eve.one
end Go.Proofs.Ytpmeglcmhiihoaa.Pure
end
section
namespace Go.Proofs.Ytpmeglcmhiihoaa.fnExactDepthOf
open Go.ChangeShapes Go.WideShapes Go.ChangeAt Go.RowKit Go.Proofs.YtpmeglcmhiihoaaW.PrintWords Go.Proofs.YtpmeglcmhiihoaaW.PrintOpen Go.Proofs.Ytpmeglcmhiihoaa.Q
open Go.ChangeMaps (open_string shut_string)
set_option linter.unusedVariables false
theorem own : ownKnob Try.prog.godebug=none:=by kernel_rfl
theorem laidOut : laidOutB Try.prog=true:=by kernel_rfl
set_option maxRecDepth 100000 in
theorem lifted (os : Os) (started : os.Started) (H : Type) (enc : TypeId×Value→H) :
    ReturnsInHanded {} Try.checked os 5 .any (Rows.fnExactDepthOfSpec.pre6 enc Try.prog Try.f5 Rows.fnExactDepthOfRow.domain false) (Rows.fnExactDepthOfSpec.post enc Try.prog Try.f5 false true false false):=by
  refine returnsInHanded_of_change_sized (C:=Try.checked) own started (by kernel_rfl) Try.func5
    (ChangeSpec.witness6 (enc:=enc) (C:=Try.checked) false ⟨#[],#[.agg #[.int .i64 0,.int .i64 0,.string ByteArray.empty]],[]⟩ 8 (by kernel_rfl) (by kernel_rfl) (by kernel_rfl) (by kernel_rfl)) ?_
  intro W base args ds gs before hval0 hW hcnd hsz0 _
  have hval : ∀ (j : Nat) t v,Try.f5.params[j]? = some t→args[j]? = some v→Value.okWide Try.prog W .any base t v:=hval0
  have hW':=hW
  obtain ⟨p,q,hA0,hV,rfl,hfz,hnd⟩:=hW
  have hA : DataW.TrodAll enc Try.prog W 0 (fun _ => true) true Try.f5.params.toList args.toList ds p:=hA0
  rw [Try.params5] at hA hval
  obtain ⟨v0,vs0,d0,ds0,p0,q0,hargs,rfl,rfl,h0,r0⟩:=trodAll_cons hA
  obtain ⟨rfl,rfl,rfl⟩:=trodAll_nil r0
  obtain rfl : args = #[v0]:=by cases args;simp_all
  obtain ⟨rfl,rfl⟩:=trodVars_none hV
  have t0:=h0
  have lt0 : ∀ x ∈ p0,x.block<W.heap.size:=by obtain ⟨m,hm⟩:=t0;exact DataW.trod_lt m _ _ _ hm
  obtain ⟨x0,cs0,rfl,K0,g0⟩:=arg_struct Try.underlying23 opens23 (hval 0 23 v0 rfl rfl) h0
  obtain rfl:=k23_open K0
  clear hA0 hval0 hsz0
  obtain ⟨k,hp⟩:=Pure.FnExactDepthOf x0 g0
  refine (laws_FnExactDepthOf.calls k x0.f0 x0.f1 x0.f2 true W  hp).mono fun e W' ⟨he,bel0⟩ => ?_
  have bel : Below W.heap.size W W':=bel0
  subst he
  exact ⟨_,rfl,_,_,_,[],_,[],hW',trodAll_mk1 (shut_bool Try.underlying4 _),(trodAll_cons_mk (Below.trod laidOut (by kernel_rfl) (of_decide_eq_true (by kernel_rfl)) t0 bel lt0) trodAll_mk0),rfl,bel.frame _,fun h => by cases h⟩
theorem over : Rows.fnExactDepthOfRow.holds Try.pinned (OpenSpec.ofChange Rows.fnExactDepthOfSpec) :=
  OpenClaim.holds_of_wide 5 Try.f5 rfl rfl rfl rfl rfl rfl rfl ⟨rfl,rfl,rfl,rfl,rfl⟩ rfl rfl rfl rfl rfl (by kernel_rfl) Try.func5 (by kernel_rfl)
    (of_decide_eq_true (by kernel_rfl)) (by unfold Func.isWrapper;first|(rw [if_pos (by decide +kernel)];kernel_rfl)|(rw [if_neg (by decide +kernel)];exact ⟨rfl,rfl⟩))
    (fun os started H enc _ => lifted os started H enc)
theorem proved : Rows.FnExactDepthOfSaid:=over
#print axioms proved
end Go.Proofs.Ytpmeglcmhiihoaa.fnExactDepthOf
namespace Go.Proofs.Ytpmeglcmhiihoaa
theorem fnExactDepthOf_holds : Rows.FnExactDepthOfSaid:=fnExactDepthOf.proved
end Go.Proofs.Ytpmeglcmhiihoaa
end

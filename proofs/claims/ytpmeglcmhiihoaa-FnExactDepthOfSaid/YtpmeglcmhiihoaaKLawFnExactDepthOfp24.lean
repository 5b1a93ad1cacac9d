/- Texts of this claim, merged by a program of this session: Q15, Q57, Q23, Q85, Q86, Q114, Q115, Q92, Q91, Q56, Q62, Q65, Q121, Q122, Q111, Q81. -/
import Derived.Test.YtpmeglcmhiihoaaKLawFnExactDepthOfp22
import Derived.Test.YtpmeglcmhiihoaaKLawFnExactDepthOfp23
section
namespace Go.Proofs.Ytpmeglcmhiihoaa.Q
open Go.RowKit Go.Proofs.YtpmeglcmhiihoaaW.PrintWords Go.Proofs.YtpmeglcmhiihoaaW.PrintLast Go.Proofs.YtpmeglcmhiihoaaW.PrintMore
attribute [local go_sem] max2_int min2_int max_two min_two max_three min_three max_four min_four max2_str min2_str str_geq str_gtr str_leq   -- for this text's walks alone
set_option linter.unusedVariables false
set_option linter.unusedSimpArgs false

def spec_ValueOK.f (k : Nat) (a0_0 : Int) (a0_1 : Int) (a0_2 : ByteArray) : Option (Bool):=if (a0_2.size : Int)≤65536 then ((spec_l01OK.f k a0_0 a0_1 a0_2 5).bind fun t166 => (some t166)) else (some false)
theorem spec_ValueOK.mono : ∀ a0 a1 a2 k,LeO (spec_ValueOK.f k a0 a1 a2) (spec_ValueOK.f (k + 1) a0 a1 a2):=by
 intro a0 a1 a2 k
 unfold spec_ValueOK.f
 repeat' first
   | (with_reducible exact spec_l01OK.mono _ _ _ _ _)
   | (with_reducible exact LeO.refl _)
   | (with_reducible exact LeO.none _)
   | (with_reducible refine LeO.ite ?_ ?_)
   | (with_reducible refine LeO.bind ?_ (fun _ => ?_))
   | exact spec_l01OK.mono _ _ _ _ _
   | exact LeO.none _
   | refine LeO.ite ?_ ?_
   | refine LeO.bind ?_ (fun _ => ?_)
set_option maxHeartbeats 8000000 in
set_option maxRecDepth 100000 in
theorem spec_ValueOK.calls (k : Nat) (a0_0 : Int) (a0_1 : Int) (a0_2 : ByteArray) (r : Bool) (w : World) (h : spec_ValueOK.f k a0_0 a0_1 a0_2=some r) :
  Calls Try.prog 15 #[.agg #[.int .i64 a0_0,.int .i64 a0_1,.string a0_2]] w fun e w' => e = .returned (.bool r)∧Below w.heap.size w w':=by
 have hu26:=Try.underlying26
 have HB:=Aside0.mk (Below.refl w.heap.size w)
 have H : (if (a0_2.size : Int)≤65536 then ((spec_l01OK.f k a0_0 a0_1 a0_2 5).bind fun t166 => (some t166)) else (some false))=some r:=h
 clear h
 by_cases c2 : (a0_2.size : Int)≤65536
 ·
  rw [if_pos c2] at H
  have c2b0 : decide ((a0_2.size : Int)≤65536)=true:=decide_eq_true c2
  have c2b1 : decide (a0_2.size≤65536)=true:=decide_eq_true (by omega)
  clear c2
  replace H:=Option.bind_eq_some_iff.mp H
  obtain ⟨t166,A30,H⟩:=H
  replace H : (some t166)=some r:=H
  have A3:=Aside0.mk A30
  clear A30
  obtain rfl:=Option.some.inj H
  go_enter Try.func15,Try.ntmps15
  go_wp2_with (first|((with_reducible refine gate_dst (N:=1) rfl ?_);refine box_event ?hg (N:=1) ?hd (cs:=#[.int .i64 a0_0,.int .i64 a0_1,.string a0_2]) (t:=26) ?hr ?_;(case hd => rfl);(case hg => rfl);(case hr => first|(go_simp;done)|(go_simp;rfl));intro gb165 hg w4 hbox hb;have n0_:=Aside0.mk (below_step (by repeat (first|(with_reducible first|exact HB.out|apply below_alloc|apply pw_below_drewN|apply below_drew1)|exact HB.out)) hb);have n1_:=Aside0.mk (hbox);have n2_:=Aside0.mk ((by rw [hg];exact (below_size (by repeat (first|(with_reducible first|exact HB.out|apply below_alloc|apply pw_below_drewN|apply below_drew1)|exact HB.out))) : w.heap.size≤gb165));have n3_:=Aside0.mk ((by rw [hg];exact (below_size (by repeat (first|(with_reducible first|exact HB.out|apply below_alloc|apply pw_below_drewN|apply below_drew1)|exact HB.out))) : w.heap.size≤gb165));clear HB;have HB:=n0_;have BK165:=n1_;have GW165:=n2_;have GE165:=n3_;clear n0_ n1_ n2_ n3_;clear hb hbox hg;have hcz5_0 : w4.cell? ⟨gb165,0,none⟩=some (.int .i64 a0_0):=(blk_cell BK165.out 0).trans rfl;have hcz5_1 : w4.cell? ⟨gb165,1,none⟩=some (.int .i64 a0_1):=(blk_cell BK165.out 1).trans rfl;have hcz5_2 : w4.cell? ⟨gb165,2,none⟩=some (.string a0_2):=(blk_cell BK165.out 2).trans rfl;have hfz5_0:=blk_frozen BK165.out 0;have hfz5_1:=blk_frozen BK165.out 1;have hfz5_2:=blk_frozen BK165.out 2)|(go_at_call 53;(with_reducible refine (spec_l01OK.calls k  a0_0 a0_1 a0_2 5 t166 _ A3.out).mono ?_);rintro e w6 ⟨rfl,hb⟩;have n0_:=Aside0.mk (blk_below (g:=gb165) (o:=.cells #[.int .i64 a0_0,.int .i64 a0_1,.string a0_2] 26 (0,0)) (by (with_reducible repeat (first|refine blk_drewN ?_ _|refine blk_drew ?_|refine blk_alloc ?_ _));exact BK165.out) hb);have n1_:=Aside0.mk (below_step (by repeat (first|(with_reducible first|exact HB.out|apply below_alloc|apply pw_below_drewN|apply below_drew1|refine below_set ?_ GE165.out)|exact HB.out)) hb);clear BK165;clear HB;have BK165:=n0_;have HB:=n1_;clear n0_ n1_;(try clear hb);(try clear hb2);(try clear hk);(try clear hi)))
  go_ret
  exact ⟨by first|rfl|(simp [errW_none,errW_some] <;> rfl)|(simp [*,errW_none,errW_some] <;> rfl),by repeat (first|(with_reducible first|exact HB.out|apply below_alloc|apply pw_below_drewN|apply below_drew1|refine below_set ?_ GE165.out)|exact HB.out)⟩
 ·
  rw [if_neg c2] at H
  have c2b0 : decide ((a0_2.size : Int)≤65536)=false:=decide_eq_false c2
  have c2b1 : decide (a0_2.size≤65536)=false:=decide_eq_false (by omega)
  clear c2
  obtain rfl:=Option.some.inj H
  go_enter Try.func15,Try.ntmps15
  go_wp2_with (first|((with_reducible refine gate_dst (N:=1) rfl ?_);refine box_event ?hg (N:=1) ?hd (cs:=#[.int .i64 a0_0,.int .i64 a0_1,.string a0_2]) (t:=26) ?hr ?_;(case hd => rfl);(case hg => rfl);(case hr => first|(go_simp;done)|(go_simp;rfl));intro gb165 hg w7 hbox hb;have n0_:=Aside0.mk (below_step (by repeat (first|(with_reducible first|exact HB.out|apply below_alloc|apply pw_below_drewN|apply below_drew1)|exact HB.out)) hb);have n1_:=Aside0.mk (hbox);have n2_:=Aside0.mk ((by rw [hg];exact (below_size (by repeat (first|(with_reducible first|exact HB.out|apply below_alloc|apply pw_below_drewN|apply below_drew1)|exact HB.out))) : w.heap.size≤gb165));have n3_:=Aside0.mk ((by rw [hg];exact (below_size (by repeat (first|(with_reducible first|exact HB.out|apply below_alloc|apply pw_below_drewN|apply below_drew1)|exact HB.out))) : w.heap.size≤gb165));clear HB;have HB:=n0_;have BK165:=n1_;have GW165:=n2_;have GE165:=n3_;clear n0_ n1_ n2_ n3_;clear hb hbox hg;have hcz8_0 : w7.cell? ⟨gb165,0,none⟩=some (.int .i64 a0_0):=(blk_cell BK165.out 0).trans rfl;have hcz8_1 : w7.cell? ⟨gb165,1,none⟩=some (.int .i64 a0_1):=(blk_cell BK165.out 1).trans rfl;have hcz8_2 : w7.cell? ⟨gb165,2,none⟩=some (.string a0_2):=(blk_cell BK165.out 2).trans rfl;have hfz8_0:=blk_frozen BK165.out 0;have hfz8_1:=blk_frozen BK165.out 1;have hfz8_2:=blk_frozen BK165.out 2))
  go_ret
  exact ⟨by first|rfl|(simp [errW_none,errW_some] <;> rfl)|(simp [*,errW_none,errW_some] <;> rfl),by repeat (first|(with_reducible first|exact HB.out|apply below_alloc|apply pw_below_drewN|apply below_drew1|refine below_set ?_ GE165.out)|exact HB.out)⟩

end Go.Proofs.Ytpmeglcmhiihoaa.Q
end
section
namespace Go.Proofs.Ytpmeglcmhiihoaa.Q
open Go.RowKit Go.Proofs.YtpmeglcmhiihoaaW.PrintWords Go.Proofs.YtpmeglcmhiihoaaW.PrintLast Go.Proofs.YtpmeglcmhiihoaaW.PrintMore
attribute [local go_sem] max2_int min2_int max_two min_two max_three min_three max_four min_four max2_str min2_str str_geq str_gtr str_leq   -- for this text's walks alone
set_option linter.unusedVariables false
set_option linter.unusedSimpArgs false

mutual
def spec_l01Depth.l0 : Nat→Int→List (S26)→Int→Option (Int)
 | 0,_,_,_ => none
 | k + 1,x3,x4,x6 => if x6<(x4.length : Int) then (if 0≤x6 then ((spec_l01Depth.f k ((rd_T26 x4 x6).f0) ((rd_T26 x4 x6).f1) ((rd_T26 x4 x6).f2)).bind fun t343 => (spec_l01Depth.l0 k (mx x3 t343) x4 (wrap64 (x6 + 1)))) else (none)) else (some (wrap64 (x3 + 1)))
def spec_l01Depth.l1 : Nat→Int→List (S68)→Int→Option (Int)
 | 0,_,_,_ => none
 | k + 1,x3,x7,x9 => if x9<(x7.length : Int) then (if 0≤x9 then ((spec_l01Depth.f k ((rd_T68 x7 x9).f1.f0) ((rd_T68 x7 x9).f1.f1) ((rd_T68 x7 x9).f1.f2)).bind fun t349 => (spec_l01Depth.l1 k (mx x3 t349) x7 (wrap64 (x9 + 1)))) else (none)) else (some (wrap64 (x3 + 1)))
def spec_l01Depth.f : Nat→Int→Int→ByteArray→Option (Int)
 | 0,_,_,_ => none
 | k + 1,a0_0,a0_1,a0_2 => if a0_0=4 then ((spec_l01Items.f k a0_2).bind fun bt338 => (spec_l01Depth.l0 k 0 bt338.1 0)) else (if a0_0=5 then ((spec_l01Fields.f k a0_2).bind fun bt344 => (spec_l01Depth.l1 k 0 bt344.1 0)) else (some 0))
end
theorem spec_l01Depth.mono_l : ∀ k,(∀ y0 y1 y2,LeO (spec_l01Depth.f k y0 y1 y2) (spec_l01Depth.f (k + 1) y0 y1 y2))∧(∀ y0 y1 y2,LeO (spec_l01Depth.l0 k y0 y1 y2) (spec_l01Depth.l0 (k + 1) y0 y1 y2))∧(∀ y0 y1 y2,LeO (spec_l01Depth.l1 k y0 y1 y2) (spec_l01Depth.l1 (k + 1) y0 y1 y2))
 | 0 => ⟨fun _ _ _ r h => by simp [spec_l01Depth.f] at h,fun _ _ _ r h => by simp [spec_l01Depth.l0] at h,fun _ _ _ r h => by simp [spec_l01Depth.l1] at h⟩
 | k + 1 => by
  obtain ⟨ih0,ih1,ih2⟩:=spec_l01Depth.mono_l k
  refine ⟨?_,?_,?_⟩
  ·
   intro y0 y1 y2
   unfold spec_l01Depth.f
   repeat' first
   | (with_reducible exact ih0 _ _ _)
   | (with_reducible exact ih1 _ _ _)
   | (with_reducible exact ih2 _ _ _)
   | (with_reducible exact spec_l01Items.mono _ _)
   | (with_reducible exact spec_l01Fields.mono _ _)
   | (with_reducible exact LeO.refl _)
   | (with_reducible exact LeO.none _)
   | (with_reducible refine LeO.ite ?_ ?_)
   | (with_reducible refine LeO.bind ?_ (fun _ => ?_))
   | exact ih0 _ _ _
   | exact ih1 _ _ _
   | exact ih2 _ _ _
   | exact spec_l01Items.mono _ _
   | exact spec_l01Fields.mono _ _
   | exact LeO.none _
   | refine LeO.ite ?_ ?_
   | refine LeO.bind ?_ (fun _ => ?_)
  ·
   intro y0 y1 y2
   unfold spec_l01Depth.l0
   repeat' first
   | (with_reducible exact ih0 _ _ _)
   | (with_reducible exact ih1 _ _ _)
   | (with_reducible exact ih2 _ _ _)
   | (with_reducible exact spec_l01Items.mono _ _)
   | (with_reducible exact spec_l01Fields.mono _ _)
   | (with_reducible exact LeO.refl _)
   | (with_reducible exact LeO.none _)
   | (with_reducible refine LeO.ite ?_ ?_)
   | (with_reducible refine LeO.bind ?_ (fun _ => ?_))
   | exact ih0 _ _ _
   | exact ih1 _ _ _
   | exact ih2 _ _ _
   | exact spec_l01Items.mono _ _
   | exact spec_l01Fields.mono _ _
   | exact LeO.none _
   | refine LeO.ite ?_ ?_
   | refine LeO.bind ?_ (fun _ => ?_)
  ·
   intro y0 y1 y2
   unfold spec_l01Depth.l1
   repeat' first
   | (with_reducible exact ih0 _ _ _)
   | (with_reducible exact ih1 _ _ _)
   | (with_reducible exact ih2 _ _ _)
   | (with_reducible exact spec_l01Items.mono _ _)
   | (with_reducible exact spec_l01Fields.mono _ _)
   | (with_reducible exact LeO.refl _)
   | (with_reducible exact LeO.none _)
   | (with_reducible refine LeO.ite ?_ ?_)
   | (with_reducible refine LeO.bind ?_ (fun _ => ?_))
   | exact ih0 _ _ _
   | exact ih1 _ _ _
   | exact ih2 _ _ _
   | exact spec_l01Items.mono _ _
   | exact spec_l01Fields.mono _ _
   | exact LeO.none _
   | refine LeO.ite ?_ ?_
   | refine LeO.bind ?_ (fun _ => ?_)
theorem spec_l01Depth.mono : ∀ a0 a1 a2 k,LeO (spec_l01Depth.f k a0 a1 a2) (spec_l01Depth.f (k + 1) a0 a1 a2):=by
 intro a0 a1 a2 k
 obtain ⟨ih0,ih1,ih2⟩:=spec_l01Depth.mono_l k
 exact ih0 a0 a1 a2
set_option maxHeartbeats 8000000 in
set_option maxRecDepth 100000 in
theorem spec_l01Depth.calls (k : Nat) : ∀ (a0_0 : Int) (a0_1 : Int) (a0_2 : ByteArray) (r : Int) (w : World) (h : spec_l01Depth.f k a0_0 a0_1 a0_2=some r),
  Calls Try.prog 57 #[.agg #[.int .i64 a0_0,.int .i64 a0_1,.string a0_2]] w fun e w' => e = .returned (.int .i64 r)∧Below w.heap.size w w':=by
 induction k using Nat.strongRecOn with
 | _ k ih =>
 intro a0_0 a0_1 a0_2 r w h
 cases k with
 | zero => exact absurd h (by simp [spec_l01Depth.f])
 | succ k =>
 simp only [spec_l01Depth.f] at h
 have hu26:=Try.underlying26
 have HB:=Aside0.mk (Below.refl w.heap.size w)
 have H : (if a0_0=4 then ((spec_l01Items.f k a0_2).bind fun bt338 => (spec_l01Depth.l0 k 0 bt338.1 0)) else (if a0_0=5 then ((spec_l01Fields.f k a0_2).bind fun bt344 => (spec_l01Depth.l1 k 0 bt344.1 0)) else (some 0)))=some r:=h
 clear h
 by_cases c2 : a0_0=4
 ·
  rw [if_pos c2] at H
  have c2b0 : (a0_0 == 4)=true:=beq_iff_eq.mpr c2
  have c2b1 : (a0_0 != 4)=false:=bne_eq_false_iff_eq.mpr c2
  clear c2
  replace H:=Option.bind_eq_some_iff.mp H
  obtain ⟨⟨t338,t339⟩,A30,H⟩:=H
  replace H : (spec_l01Depth.l0 k 0 t338 0)=some r:=H
  have A3:=Aside0.mk A30
  clear A30
  have H':=Aside0.mk H
  clear H
  go_enter Try.func57,Try.ntmps57
  go_wp2_with (first|((with_reducible refine gate_dst (N:=1) rfl ?_);refine box_event ?hg (N:=1) ?hd (cs:=#[.int .i64 a0_0,.int .i64 a0_1,.string a0_2]) (t:=26) ?hr ?_;(case hd => rfl);(case hg => rfl);(case hr => first|(go_simp;done)|(go_simp;rfl));intro gb337 hg w4 hbox hb;have n0_:=Aside0.mk (below_step (by repeat (first|(with_reducible first|exact HB.out|apply below_alloc|apply pw_below_drewN|apply below_drew1)|exact HB.out)) hb);have n1_:=Aside0.mk (hbox);have n2_:=Aside0.mk ((by rw [hg];exact (below_size (by repeat (first|(with_reducible first|exact HB.out|apply below_alloc|apply pw_below_drewN|apply below_drew1)|exact HB.out))) : w.heap.size≤gb337));have n3_:=Aside0.mk ((by rw [hg];exact (below_size (by repeat (first|(with_reducible first|exact HB.out|apply below_alloc|apply pw_below_drewN|apply below_drew1)|exact HB.out))) : w.heap.size≤gb337));clear HB;have HB:=n0_;have BK337:=n1_;have GW337:=n2_;have GE337:=n3_;clear n0_ n1_ n2_ n3_;clear hb hbox hg;have hcz5_0 : w4.cell? ⟨gb337,0,none⟩=some (.int .i64 a0_0):=(blk_cell BK337.out 0).trans rfl;have hcz5_1 : w4.cell? ⟨gb337,1,none⟩=some (.int .i64 a0_1):=(blk_cell BK337.out 1).trans rfl;have hcz5_2 : w4.cell? ⟨gb337,2,none⟩=some (.string a0_2):=(blk_cell BK337.out 2).trans rfl;have hfz5_0:=blk_frozen BK337.out 0;have hfz5_1:=blk_frozen BK337.out 1;have hfz5_2:=blk_frozen BK337.out 2)|((with_reducible refine gate_callee (f:=61) rfl ?_);refine goesL_ (some 16) rfl rfl Try.func61 (by kernel_rfl) rfl #[.string a0_2] rfl (by (try simp only [List.map_toArray,List.map_cons,List.map_nil]);first|done|rfl|(simp only [List.length_drop,List.length_take];rfl)|(simp only [gt_iff_lt,ge_iff_le,Int.ofNat_lt,Int.ofNat_le];rfl)) ?_;(with_reducible refine (spec_l01Items.calls k  a0_2 t338 t339 _ A3.out).mono ?_);rintro e w6 ⟨v340,rfl,ho0,hb⟩;refine ⟨_,rfl,?_⟩;have n0_:=Aside0.mk (Kd.R_lower (Kd.R_newB ho0 (g:=gb337) (o:=.cells #[.int .i64 a0_0,.int .i64 a0_1,.string a0_2] 26 (0,0)) (by (with_reducible repeat (first|refine blk_drewN ?_ _|refine blk_drew ?_|refine blk_alloc ?_ _));exact BK337.out)) (below_size (by repeat (first|(with_reducible first|exact HB.out|apply below_alloc|apply pw_below_drewN|apply below_drew1|refine below_set ?_ GE337.out)|exact HB.out))));have n1_:=Aside0.mk (blk_below (g:=gb337) (o:=.cells #[.int .i64 a0_0,.int .i64 a0_1,.string a0_2] 26 (0,0)) (by (with_reducible repeat (first|refine blk_drewN ?_ _|refine blk_drew ?_|refine blk_alloc ?_ _));exact BK337.out) hb);have n2_:=Aside0.mk (below_step (by repeat (first|(with_reducible first|exact HB.out|apply below_alloc|apply pw_below_drewN|apply below_drew1|refine below_set ?_ GE337.out)|exact HB.out)) hb);clear BK337;clear HB;have HO341:=n0_;have BK337:=n1_;have HB:=n2_;clear n0_ n1_ n2_;(try clear hb);(try clear hb2);(try clear hk);(try clear hi);(try clear ho0)))
  go_loopg [3,6] k (fun kq v3 v6 w' => ∃ (x3_1 : Int) (x6_1 : Int),v3 = .int .i64 x3_1∧v6 = .int .i64 x6_1∧Aside0 (spec_l01Depth.l0 kq x3_1 t338 x6_1=some r)∧Aside0 (kq≤k)∧Aside0 (Kd.R k26 26 w' w.heap.size (fun k_ => k_≠gb337) v340 t338)∧Aside0 (w'.heap[gb337]? = some (.cells #[.int .i64 a0_0,.int .i64 a0_1,.string a0_2] 26 (0,0)))∧Aside0 (Below w.heap.size w w'))
  case atStart => exact ⟨(0),(0),(by first|rfl|(simp;done)|(simp [*];done)),(by first|rfl|(simp;done)|(simp [*];done)),H',⟨Nat.le_refl _⟩,⟨by (with_reducible repeat (first|apply Kd.R_alloc|apply Kd.R_drewN|apply Kd.R_drew));exact Kd.R_mono HO341.out (fun _ hk => hk.2)⟩,⟨by (with_reducible repeat (first|refine blk_drewN ?_ _|refine blk_drew ?_|refine blk_alloc ?_ _));exact BK337.out⟩,⟨by repeat (first|(with_reducible first|exact HB.out|apply below_alloc|apply pw_below_drewN|apply below_drew1|refine below_set ?_ GE337.out)|exact HB.out)⟩⟩
  case round =>
   clear H'
   try clear c2
   try clear c2b0
   try clear c2b1
   try clear p2
   try clear c5
   try clear c6
   try clear hcz5_0
   try clear hcz5_1
   try clear hcz5_2
   try clear hfz5_0
   try clear hfz5_1
   try clear hfz5_2
   obtain ⟨x3_1,x6_1,rfl,rfl,HA,HK1,HO_4,BK337,HB⟩:=hrel
   cases gk with
   | zero => exact absurd HA.out (by simp [spec_l01Depth.l0])
   | succ k1 =>
    have H:=HA.out
    clear HA
    simp only [spec_l01Depth.l0] at H
    by_cases c7 : x6_1<(t338.length : Int)
    ·
     rw [if_pos c7] at H
     have c7b0 : decide (x6_1<(t338.length : Int))=true:=decide_eq_true c7
     clear c7
     by_cases c8 : 0≤x6_1
     ·
      rw [if_pos c8] at H
      have c8b0 : decide (0≤x6_1)=true:=decide_eq_true c8
      clear c8
      replace H:=Option.bind_eq_some_iff.mp H
      obtain ⟨t343,A90,H⟩:=H
      replace H : (spec_l01Depth.l0 k1 (mx x3_1 t343) t338 (wrap64 (x6_1 + 1)))=some r:=H
      have A9:=Aside0.mk A90
      clear A90
      obtain ⟨ji10,hji10⟩ : ∃ j_ : Int,(mx x3_1 t343)=j_:=⟨_,rfl⟩
      replace H : (spec_l01Depth.l0 k1 ji10 t338 (wrap64 (x6_1 + 1)))=some r:=by first|(rw [hji10] at H;exact H)|(simp only [hji10] at H ⊢;exact H)
      (try rw [hji10] at A9)
      have hji10_ : (if x3_1<t343 then t343 else x3_1)=ji10:=hji10
      have H':=Aside0.mk H
      clear H
      obtain ⟨Ao11,co11,eo11⟩:=Kd.R_slice HO_4.out
      subst eo11
      have p342 : 0≤(x6_1 : Int):=of_decide_eq_true (by first|(with_reducible assumption)|assumption)
      have q342 : x6_1<(t338.length : Int):=of_decide_eq_true (by first|(with_reducible assumption)|assumption)
      obtain ⟨ad342,e342,hx342_0,hx342_1,hx342_2⟩:=at_T26 (Kd.R_reads' HO_4.out).2.2 x6_1 p342 q342
      cases e342
      replace p342:=eq_true p342
      replace q342:=eq_true q342
      go_wp2_with (first|((with_reducible refine gate_callee (f:=57) rfl ?_);refine goesL_ (some 30) rfl rfl Try.func57 (by kernel_rfl) rfl #[.agg #[.int .i64 ((rd_T26 t338 x6_1).f0),.int .i64 ((rd_T26 t338 x6_1).f1),.string ((rd_T26 t338 x6_1).f2)]] rfl (by (try simp only [List.map_toArray,List.map_cons,List.map_nil]);first|done|rfl|(simp only [List.length_drop,List.length_take];rfl)|(simp only [gt_iff_lt,ge_iff_le,Int.ofNat_lt,Int.ofNat_le];rfl)) ?_;(with_reducible refine (ih k1 (by have:=HK1.out;omega)  ((rd_T26 t338 x6_1).f0) ((rd_T26 t338 x6_1).f1) ((rd_T26 t338 x6_1).f2) t343 _ A9.out).mono ?_);rintro e w12 ⟨rfl,hb⟩;refine ⟨_,rfl,?_⟩;have n0_:=Aside0.mk (Kd.R_below (by (with_reducible repeat (first|apply Kd.R_alloc|apply Kd.R_drewN|apply Kd.R_drew));exact HO_4.out) hb);have n1_:=Aside0.mk (blk_below (g:=gb337) (o:=.cells #[.int .i64 a0_0,.int .i64 a0_1,.string a0_2] 26 (0,0)) (by (with_reducible repeat (first|refine blk_drewN ?_ _|refine blk_drew ?_|refine blk_alloc ?_ _));exact BK337.out) hb);have n2_:=Aside0.mk (below_step (by repeat (first|(with_reducible first|exact HB.out|apply below_alloc|apply pw_below_drewN|apply below_drew1|refine below_set ?_ GE337.out)|exact HB.out)) hb);clear HO_4;clear BK337;clear HB;have HO_4:=n0_;have BK337:=n1_;have HB:=n2_;clear n0_ n1_ n2_;(try clear hb);(try clear hb2);(try clear hk);(try clear hi)))
      go_roundg k1
      case measure => have:=HK1.out;omega
      case rel => exact ⟨(ji10),(wrap64 (x6_1 + 1)),(by first|rfl|(simp;done)|(simp only [← hji10] <;> (first|rfl|simp))|(simp [*];done)),(by first|rfl|(simp;done)|(simp [*];done)),H',⟨by have:=HK1.out;omega⟩,⟨by (with_reducible repeat (first|apply Kd.R_alloc|apply Kd.R_drewN|apply Kd.R_drew));exact HO_4.out⟩,⟨by (with_reducible repeat (first|refine blk_drewN ?_ _|refine blk_drew ?_|refine blk_alloc ?_ _));exact BK337.out⟩,⟨by repeat (first|(with_reducible first|exact HB.out|apply below_alloc|apply pw_below_drewN|apply below_drew1|refine below_set ?_ GE337.out)|exact HB.out)⟩⟩
     ·
      rw [if_neg c8] at H
      exact absurd H (by simp)
    ·
     rw [if_neg c7] at H
     have c7b0 : decide (x6_1<(t338.length : Int))=false:=decide_eq_false c7
     clear c7
     obtain rfl:=Option.some.inj H
     obtain ⟨Ao13,co13,eo13⟩:=Kd.R_slice HO_4.out
     subst eo13
     go_wp2
     go_ret
     exact ⟨by first|rfl|(simp [errW_none,errW_some] <;> rfl)|(simp [*,errW_none,errW_some] <;> rfl),by repeat (first|(with_reducible first|exact HB.out|apply below_alloc|apply pw_below_drewN|apply below_drew1|refine below_set ?_ GE337.out)|exact HB.out)⟩
 ·
  rw [if_neg c2] at H
  have c2b0 : (a0_0 == 4)=false:=beq_eq_false_iff_ne.mpr c2
  have c2b1 : (a0_0 != 4)=true:=bne_iff_ne.mpr c2
  by_cases c14 : a0_0=5
  ·
   rw [if_pos c14] at H
   have c14b0 : (a0_0 == 5)=true:=beq_iff_eq.mpr c14
   have c14b1 : (a0_0 != 5)=false:=bne_eq_false_iff_eq.mpr c14
   clear c14
   replace H:=Option.bind_eq_some_iff.mp H
   obtain ⟨⟨t344,t345⟩,A150,H⟩:=H
   replace H : (spec_l01Depth.l1 k 0 t344 0)=some r:=H
   have A15:=Aside0.mk A150
   clear A150
   have H':=Aside0.mk H
   clear H
   go_enter Try.func57,Try.ntmps57
   go_wp2_with (first|((with_reducible refine gate_dst (N:=1) rfl ?_);refine box_event ?hg (N:=1) ?hd (cs:=#[.int .i64 a0_0,.int .i64 a0_1,.string a0_2]) (t:=26) ?hr ?_;(case hd => rfl);(case hg => rfl);(case hr => first|(go_simp;done)|(go_simp;rfl));intro gb337 hg w16 hbox hb;have n0_:=Aside0.mk (below_step (by repeat (first|(with_reducible first|exact HB.out|apply below_alloc|apply pw_below_drewN|apply below_drew1)|exact HB.out)) hb);have n1_:=Aside0.mk (hbox);have n2_:=Aside0.mk ((by rw [hg];exact (below_size (by repeat (first|(with_reducible first|exact HB.out|apply below_alloc|apply pw_below_drewN|apply below_drew1)|exact HB.out))) : w.heap.size≤gb337));have n3_:=Aside0.mk ((by rw [hg];exact (below_size (by repeat (first|(with_reducible first|exact HB.out|apply below_alloc|apply pw_below_drewN|apply below_drew1)|exact HB.out))) : w.heap.size≤gb337));clear HB;have HB:=n0_;have BK337:=n1_;have GW337:=n2_;have GE337:=n3_;clear n0_ n1_ n2_ n3_;clear hb hbox hg;have hcz17_0 : w16.cell? ⟨gb337,0,none⟩=some (.int .i64 a0_0):=(blk_cell BK337.out 0).trans rfl;have hcz17_1 : w16.cell? ⟨gb337,1,none⟩=some (.int .i64 a0_1):=(blk_cell BK337.out 1).trans rfl;have hcz17_2 : w16.cell? ⟨gb337,2,none⟩=some (.string a0_2):=(blk_cell BK337.out 2).trans rfl;have hfz17_0:=blk_frozen BK337.out 0;have hfz17_1:=blk_frozen BK337.out 1;have hfz17_2:=blk_frozen BK337.out 2)|((with_reducible refine gate_callee (f:=64) rfl ?_);refine goesL_ (some 40) rfl rfl Try.func64 (by kernel_rfl) rfl #[.string a0_2] rfl (by (try simp only [List.map_toArray,List.map_cons,List.map_nil]);first|done|rfl|(simp only [List.length_drop,List.length_take];rfl)|(simp only [gt_iff_lt,ge_iff_le,Int.ofNat_lt,Int.ofNat_le];rfl)) ?_;(with_reducible refine (spec_l01Fields.calls k  a0_2 t344 t345 _ A15.out).mono ?_);rintro e w18 ⟨v346,rfl,ho0,hb⟩;refine ⟨_,rfl,?_⟩;have n0_:=Aside0.mk (Kd.R_lower ho0 (below_size (by repeat (first|(with_reducible first|exact HB.out|apply below_alloc|apply pw_below_drewN|apply below_drew1|refine below_set ?_ GE337.out)|exact HB.out))));have n1_:=Aside0.mk (blk_below (g:=gb337) (o:=.cells #[.int .i64 a0_0,.int .i64 a0_1,.string a0_2] 26 (0,0)) (by (with_reducible repeat (first|refine blk_drewN ?_ _|refine blk_drew ?_|refine blk_alloc ?_ _));exact BK337.out) hb);have n2_:=Aside0.mk (below_step (by repeat (first|(with_reducible first|exact HB.out|apply below_alloc|apply pw_below_drewN|apply below_drew1|refine below_set ?_ GE337.out)|exact HB.out)) hb);clear BK337;clear HB;have HO347:=n0_;have BK337:=n1_;have HB:=n2_;clear n0_ n1_ n2_;(try clear hb);(try clear hb2);(try clear hk);(try clear hi);(try clear ho0)))
   go_loopg [3,9] k (fun kq v3 v9 w' => ∃ (x3_1 : Int) (x9_1 : Int),v3 = .int .i64 x3_1∧v9 = .int .i64 x9_1∧Aside0 (spec_l01Depth.l1 kq x3_1 t344 x9_1=some r)∧Aside0 (kq≤k)∧Aside0 (Kd.R k68 68 w' w.heap.size (fun _ => True) v346 t344)∧Aside0 (w'.heap[gb337]? = some (.cells #[.int .i64 a0_0,.int .i64 a0_1,.string a0_2] 26 (0,0)))∧Aside0 (Below w.heap.size w w'))
   case atStart => exact ⟨(0),(0),(by first|rfl|(simp;done)|(simp [*];done)),(by first|rfl|(simp;done)|(simp [*];done)),H',⟨Nat.le_refl _⟩,⟨by (with_reducible repeat (first|apply Kd.R_alloc|apply Kd.R_drewN|apply Kd.R_drew));exact HO347.out⟩,⟨by (with_reducible repeat (first|refine blk_drewN ?_ _|refine blk_drew ?_|refine blk_alloc ?_ _));exact BK337.out⟩,⟨by repeat (first|(with_reducible first|exact HB.out|apply below_alloc|apply pw_below_drewN|apply below_drew1|refine below_set ?_ GE337.out)|exact HB.out)⟩⟩
   case round =>
    clear H'
    try clear c1
    try clear c2
    try clear c2b0
    try clear c2b1
    try clear p2
    try clear p3
    try clear q3
    try clear hx3
    try clear c5
    try clear c6
    try clear p6
    try clear c7
    try clear c7b0
    try clear c8
    try clear c8b0
    try clear c14
    try clear c14b0
    try clear c14b1
    try clear hcz17_0
    try clear hcz17_1
    try clear hcz17_2
    try clear hcz5_0
    try clear hcz5_1
    try clear hcz5_2
    try clear hfz17_0
    try clear hfz17_1
    try clear hfz17_2
    try clear hfz5_0
    try clear hfz5_1
    try clear hfz5_2
    try clear hx342_0
    try clear hx342_1
    try clear hx342_2
    try clear p2
    try clear p342
    try clear q342
    obtain ⟨x3_1,x9_1,rfl,rfl,HA,HK1,HO_7,BK337,HB⟩:=hrel
    cases gk with
    | zero => exact absurd HA.out (by simp [spec_l01Depth.l1])
    | succ k1 =>
     have H:=HA.out
     clear HA
     simp only [spec_l01Depth.l1] at H
     by_cases c19 : x9_1<(t344.length : Int)
     ·
      rw [if_pos c19] at H
      have c19b0 : decide (x9_1<(t344.length : Int))=true:=decide_eq_true c19
      clear c19
      by_cases c20 : 0≤x9_1
      ·
       rw [if_pos c20] at H
       have c20b0 : decide (0≤x9_1)=true:=decide_eq_true c20
       clear c20
       replace H:=Option.bind_eq_some_iff.mp H
       obtain ⟨t349,A210,H⟩:=H
       replace H : (spec_l01Depth.l1 k1 (mx x3_1 t349) t344 (wrap64 (x9_1 + 1)))=some r:=H
       have A21:=Aside0.mk A210
       clear A210
       obtain ⟨ji22,hji22⟩ : ∃ j_ : Int,(mx x3_1 t349)=j_:=⟨_,rfl⟩
       replace H : (spec_l01Depth.l1 k1 ji22 t344 (wrap64 (x9_1 + 1)))=some r:=by first|(rw [hji22] at H;exact H)|(simp only [hji22] at H ⊢;exact H)
       (try rw [hji22] at A21)
       have hji22_ : (if x3_1<t349 then t349 else x3_1)=ji22:=hji22
       have H':=Aside0.mk H
       clear H
       obtain ⟨Ao23,co23,eo23⟩:=Kd.R_slice HO_7.out
       subst eo23
       have p348 : 0≤(x9_1 : Int):=of_decide_eq_true (by first|(with_reducible assumption)|assumption)
       have q348 : x9_1<(t344.length : Int):=of_decide_eq_true (by first|(with_reducible assumption)|assumption)
       obtain ⟨ad348,e348,hx348_0,hx348_1,hx348_2,hx348_3⟩:=at_T68 (Kd.R_reads' HO_7.out).2.2 x9_1 p348 q348
       cases e348
       replace p348:=eq_true p348
       replace q348:=eq_true q348
       go_wp2_with (first|((with_reducible refine gate_callee (f:=57) rfl ?_);refine goesL_ (some 55) rfl rfl Try.func57 (by kernel_rfl) rfl #[.agg #[.int .i64 ((rd_T68 t344 x9_1).f1.f0),.int .i64 ((rd_T68 t344 x9_1).f1.f1),.string ((rd_T68 t344 x9_1).f1.f2)]] rfl (by (try simp only [List.map_toArray,List.map_cons,List.map_nil]);first|done|rfl|(simp only [List.length_drop,List.length_take];rfl)|(simp only [gt_iff_lt,ge_iff_le,Int.ofNat_lt,Int.ofNat_le];rfl)) ?_;(with_reducible refine (ih k1 (by have:=HK1.out;omega)  ((rd_T68 t344 x9_1).f1.f0) ((rd_T68 t344 x9_1).f1.f1) ((rd_T68 t344 x9_1).f1.f2) t349 _ A21.out).mono ?_);rintro e w24 ⟨rfl,hb⟩;refine ⟨_,rfl,?_⟩;have n0_:=Aside0.mk (Kd.R_below (by (with_reducible repeat (first|apply Kd.R_alloc|apply Kd.R_drewN|apply Kd.R_drew));exact HO_7.out) hb);have n1_:=Aside0.mk (blk_below (g:=gb337) (o:=.cells #[.int .i64 a0_0,.int .i64 a0_1,.string a0_2] 26 (0,0)) (by (with_reducible repeat (first|refine blk_drewN ?_ _|refine blk_drew ?_|refine blk_alloc ?_ _));exact BK337.out) hb);have n2_:=Aside0.mk (below_step (by repeat (first|(with_reducible first|exact HB.out|apply below_alloc|apply pw_below_drewN|apply below_drew1|refine below_set ?_ GE337.out)|exact HB.out)) hb);clear HO_7;clear BK337;clear HB;have HO_7:=n0_;have BK337:=n1_;have HB:=n2_;clear n0_ n1_ n2_;(try clear hb);(try clear hb2);(try clear hk);(try clear hi)))
       go_roundg k1
       case measure => have:=HK1.out;omega
       case rel => exact ⟨(ji22),(wrap64 (x9_1 + 1)),(by first|rfl|(simp;done)|(simp only [← hji22] <;> (first|rfl|simp))|(simp [*];done)),(by first|rfl|(simp;done)|(simp [*];done)),H',⟨by have:=HK1.out;omega⟩,⟨by (with_reducible repeat (first|apply Kd.R_alloc|apply Kd.R_drewN|apply Kd.R_drew));exact HO_7.out⟩,⟨by (with_reducible repeat (first|refine blk_drewN ?_ _|refine blk_drew ?_|refine blk_alloc ?_ _));exact BK337.out⟩,⟨by repeat (first|(with_reducible first|exact HB.out|apply below_alloc|apply pw_below_drewN|apply below_drew1|refine below_set ?_ GE337.out)|exact HB.out)⟩⟩
      ·
       rw [if_neg c20] at H
       exact absurd H (by simp)
     ·
      rw [if_neg c19] at H
      have c19b0 : decide (x9_1<(t344.length : Int))=false:=decide_eq_false c19
      clear c19
      obtain rfl:=Option.some.inj H
      obtain ⟨Ao25,co25,eo25⟩:=Kd.R_slice HO_7.out
      subst eo25
      go_wp2
      go_ret
      exact ⟨by first|rfl|(simp [errW_none,errW_some] <;> rfl)|(simp [*,errW_none,errW_some] <;> rfl),by repeat (first|(with_reducible first|exact HB.out|apply below_alloc|apply pw_below_drewN|apply below_drew1|refine below_set ?_ GE337.out)|exact HB.out)⟩
  ·
   rw [if_neg c14] at H
   have c14b0 : (a0_0 == 5)=false:=beq_eq_false_iff_ne.mpr c14
   have c14b1 : (a0_0 != 5)=true:=bne_iff_ne.mpr c14
   obtain rfl:=Option.some.inj H
   go_enter Try.func57,Try.ntmps57
   go_wp2_with (first|((with_reducible refine gate_dst (N:=1) rfl ?_);refine box_event ?hg (N:=1) ?hd (cs:=#[.int .i64 a0_0,.int .i64 a0_1,.string a0_2]) (t:=26) ?hr ?_;(case hd => rfl);(case hg => rfl);(case hr => first|(go_simp;done)|(go_simp;rfl));intro gb337 hg w26 hbox hb;have n0_:=Aside0.mk (below_step (by repeat (first|(with_reducible first|exact HB.out|apply below_alloc|apply pw_below_drewN|apply below_drew1)|exact HB.out)) hb);have n1_:=Aside0.mk (hbox);have n2_:=Aside0.mk ((by rw [hg];exact (below_size (by repeat (first|(with_reducible first|exact HB.out|apply below_alloc|apply pw_below_drewN|apply below_drew1)|exact HB.out))) : w.heap.size≤gb337));have n3_:=Aside0.mk ((by rw [hg];exact (below_size (by repeat (first|(with_reducible first|exact HB.out|apply below_alloc|apply pw_below_drewN|apply below_drew1)|exact HB.out))) : w.heap.size≤gb337));clear HB;have HB:=n0_;have BK337:=n1_;have GW337:=n2_;have GE337:=n3_;clear n0_ n1_ n2_ n3_;clear hb hbox hg;have hcz27_0 : w26.cell? ⟨gb337,0,none⟩=some (.int .i64 a0_0):=(blk_cell BK337.out 0).trans rfl;have hcz27_1 : w26.cell? ⟨gb337,1,none⟩=some (.int .i64 a0_1):=(blk_cell BK337.out 1).trans rfl;have hcz27_2 : w26.cell? ⟨gb337,2,none⟩=some (.string a0_2):=(blk_cell BK337.out 2).trans rfl;have hfz27_0:=blk_frozen BK337.out 0;have hfz27_1:=blk_frozen BK337.out 1;have hfz27_2:=blk_frozen BK337.out 2))
   go_ret
   exact ⟨by first|rfl|(simp [errW_none,errW_some] <;> rfl)|(simp [*,errW_none,errW_some] <;> rfl),by repeat (first|(with_reducible first|exact HB.out|apply below_alloc|apply pw_below_drewN|apply below_drew1|refine below_set ?_ GE337.out)|exact HB.out)⟩

end Go.Proofs.Ytpmeglcmhiihoaa.Q
end
section
namespace Go.Proofs.Ytpmeglcmhiihoaa.Q
open Go.RowKit Go.Proofs.YtpmeglcmhiihoaaW.PrintWords Go.Proofs.YtpmeglcmhiihoaaW.PrintLast Go.Proofs.YtpmeglcmhiihoaaW.PrintMore
attribute [local go_sem] max2_int min2_int max_two min_two max_three min_three max_four min_four max2_str min2_str str_geq str_gtr str_leq   -- for this text's walks alone
set_option linter.unusedVariables false
set_option linter.unusedSimpArgs false

def spec_DepthOf.f (k : Nat) (a0_0 : Int) (a0_1 : Int) (a0_2 : ByteArray) : Option (Int×Int):=(spec_ValueOK.f k a0_0 a0_1 a0_2).bind fun t351 => (if t351=true then ((spec_l01Depth.f k a0_0 a0_1 a0_2).bind fun t352 => (some (t352,0))) else (some (0,1)))
theorem spec_DepthOf.mono : ∀ a0 a1 a2 k,LeO (spec_DepthOf.f k a0 a1 a2) (spec_DepthOf.f (k + 1) a0 a1 a2):=by
 intro a0 a1 a2 k
 unfold spec_DepthOf.f
 repeat' first
   | (with_reducible exact spec_ValueOK.mono _ _ _ _)
   | (with_reducible exact spec_l01Depth.mono _ _ _ _)
   | (with_reducible exact LeO.refl _)
   | (with_reducible exact LeO.none _)
   | (with_reducible refine LeO.ite ?_ ?_)
   | (with_reducible refine LeO.bind ?_ (fun _ => ?_))
   | exact spec_ValueOK.mono _ _ _ _
   | exact spec_l01Depth.mono _ _ _ _
   | exact LeO.none _
   | refine LeO.ite ?_ ?_
   | refine LeO.bind ?_ (fun _ => ?_)
set_option maxHeartbeats 8000000 in
set_option maxRecDepth 100000 in
theorem spec_DepthOf.calls (k : Nat) (a0_0 : Int) (a0_1 : Int) (a0_2 : ByteArray) (r1 : Int) (r2 : Int) (w : World) (h : spec_DepthOf.f k a0_0 a0_1 a0_2=some (r1,r2)) :
  Calls Try.prog 23 #[.agg #[.int .i64 a0_0,.int .i64 a0_1,.string a0_2]] w fun e w' => e = .returned (.tuple #[.int .i64 r1,.int .i64 r2])∧Below w.heap.size w w':=by
 have hu26:=Try.underlying26
 have HB:=Aside0.mk (Below.refl w.heap.size w)
 have H : ((spec_ValueOK.f k a0_0 a0_1 a0_2).bind fun t351 => (if t351=true then ((spec_l01Depth.f k a0_0 a0_1 a0_2).bind fun t352 => (some (t352,0))) else (some (0,1))))=some (r1,r2):=h
 clear h
 replace H:=Option.bind_eq_some_iff.mp H
 obtain ⟨t351,A20,H⟩:=H
 replace H : (if t351=true then ((spec_l01Depth.f k a0_0 a0_1 a0_2).bind fun t352 => (some (t352,0))) else (some (0,1)))=some (r1,r2):=H
 have A2:=Aside0.mk A20
 clear A20
 by_cases c3 : t351=true
 ·
  subst c3
  have H1 : ((spec_l01Depth.f k a0_0 a0_1 a0_2).bind fun t352 => (some (t352,0)))=some (r1,r2):=by rw [if_pos rfl] at H;exact H
  clear H
  have H:=H1
  clear H1
  replace H:=Option.bind_eq_some_iff.mp H
  obtain ⟨t352,A40,H⟩:=H
  replace H : (some (t352,0))=some (r1,r2):=H
  have A4:=Aside0.mk A40
  clear A40
  simp only [Option.some.injEq,Prod.mk.injEq] at H
  obtain ⟨rfl,rfl⟩:=H
  go_enter Try.func23,Try.ntmps23
  go_wp2_with (first|((with_reducible refine gate_dst (N:=1) rfl ?_);refine box_event ?hg (N:=1) ?hd (cs:=#[.int .i64 a0_0,.int .i64 a0_1,.string a0_2]) (t:=26) ?hr ?_;(case hd => rfl);(case hg => rfl);(case hr => first|(go_simp;done)|(go_simp;rfl));intro gb350 hg w5 hbox hb;have n0_:=Aside0.mk (below_step (by repeat (first|(with_reducible first|exact HB.out|apply below_alloc|apply pw_below_drewN|apply below_drew1)|exact HB.out)) hb);have n1_:=Aside0.mk (hbox);have n2_:=Aside0.mk ((by rw [hg];exact (below_size (by repeat (first|(with_reducible first|exact HB.out|apply below_alloc|apply pw_below_drewN|apply below_drew1)|exact HB.out))) : w.heap.size≤gb350));have n3_:=Aside0.mk ((by rw [hg];exact (below_size (by repeat (first|(with_reducible first|exact HB.out|apply below_alloc|apply pw_below_drewN|apply below_drew1)|exact HB.out))) : w.heap.size≤gb350));clear HB;have HB:=n0_;have BK350:=n1_;have GW350:=n2_;have GE350:=n3_;clear n0_ n1_ n2_ n3_;clear hb hbox hg;have hcz6_0 : w5.cell? ⟨gb350,0,none⟩=some (.int .i64 a0_0):=(blk_cell BK350.out 0).trans rfl;have hcz6_1 : w5.cell? ⟨gb350,1,none⟩=some (.int .i64 a0_1):=(blk_cell BK350.out 1).trans rfl;have hcz6_2 : w5.cell? ⟨gb350,2,none⟩=some (.string a0_2):=(blk_cell BK350.out 2).trans rfl;have hfz6_0:=blk_frozen BK350.out 0;have hfz6_1:=blk_frozen BK350.out 1;have hfz6_2:=blk_frozen BK350.out 2)|((with_reducible refine gate_callee (f:=15) rfl ?_);refine goesL_ (some 5) rfl rfl Try.func15 (by kernel_rfl) rfl #[.agg #[.int .i64 a0_0,.int .i64 a0_1,.string a0_2]] rfl (by (try simp only [List.map_toArray,List.map_cons,List.map_nil]);first|done|rfl|(simp only [List.length_drop,List.length_take];rfl)|(simp only [gt_iff_lt,ge_iff_le,Int.ofNat_lt,Int.ofNat_le];rfl)) ?_;(with_reducible refine (spec_ValueOK.calls k  a0_0 a0_1 a0_2 true _ A2.out).mono ?_);rintro e w7 ⟨rfl,hb⟩;refine ⟨_,rfl,?_⟩;have n0_:=Aside0.mk (blk_below (g:=gb350) (o:=.cells #[.int .i64 a0_0,.int .i64 a0_1,.string a0_2] 26 (0,0)) (by (with_reducible repeat (first|refine blk_drewN ?_ _|refine blk_drew ?_|refine blk_alloc ?_ _));exact BK350.out) hb);have n1_:=Aside0.mk (below_step (by repeat (first|(with_reducible first|exact HB.out|apply below_alloc|apply pw_below_drewN|apply below_drew1|refine below_set ?_ GE350.out)|exact HB.out)) hb);clear BK350;clear HB;have BK350:=n0_;have HB:=n1_;clear n0_ n1_;(try clear hb);(try clear hb2);(try clear hk);(try clear hi);have hcz8_0 : w7.cell? ⟨gb350,0,none⟩=some (.int .i64 a0_0):=(blk_cell BK350.out 0).trans rfl;have hcz8_1 : w7.cell? ⟨gb350,1,none⟩=some (.int .i64 a0_1):=(blk_cell BK350.out 1).trans rfl;have hcz8_2 : w7.cell? ⟨gb350,2,none⟩=some (.string a0_2):=(blk_cell BK350.out 2).trans rfl;have hfz8_0:=blk_frozen BK350.out 0;have hfz8_1:=blk_frozen BK350.out 1;have hfz8_2:=blk_frozen BK350.out 2)|((with_reducible refine gate_callee (f:=57) rfl ?_);refine goesL_ (some 8) rfl rfl Try.func57 (by kernel_rfl) rfl #[.agg #[.int .i64 a0_0,.int .i64 a0_1,.string a0_2]] rfl (by (try simp only [List.map_toArray,List.map_cons,List.map_nil]);first|done|rfl|(simp only [List.length_drop,List.length_take];rfl)|(simp only [gt_iff_lt,ge_iff_le,Int.ofNat_lt,Int.ofNat_le];rfl)) ?_;(with_reducible refine (spec_l01Depth.calls k  a0_0 a0_1 a0_2 t352 _ A4.out).mono ?_);rintro e w9 ⟨rfl,hb⟩;refine ⟨_,rfl,?_⟩;have n0_:=Aside0.mk (blk_below (g:=gb350) (o:=.cells #[.int .i64 a0_0,.int .i64 a0_1,.string a0_2] 26 (0,0)) (by (with_reducible repeat (first|refine blk_drewN ?_ _|refine blk_drew ?_|refine blk_alloc ?_ _));exact BK350.out) hb);have n1_:=Aside0.mk (below_step (by repeat (first|(with_reducible first|exact HB.out|apply below_alloc|apply pw_below_drewN|apply below_drew1|refine below_set ?_ GE350.out)|exact HB.out)) hb);clear BK350;clear HB;have BK350:=n0_;have HB:=n1_;clear n0_ n1_;(try clear hb);(try clear hb2);(try clear hk);(try clear hi)))
  go_ret2
  exact ⟨by first|rfl|(simp [errW_none,errW_some] <;> rfl)|(simp [*,errW_none,errW_some] <;> rfl),by repeat (first|(with_reducible first|exact HB.out|apply below_alloc|apply pw_below_drewN|apply below_drew1|refine below_set ?_ GE350.out)|exact HB.out)⟩
 ·
  replace c3:=Bool.eq_false_iff.mpr c3
  subst c3
  have H1 : (some (0,1))=some (r1,r2):=by rw [if_neg (show ¬ (false=true) by decide)] at H;exact H
  clear H
  have H:=H1
  clear H1
  simp only [Option.some.injEq,Prod.mk.injEq] at H
  obtain ⟨rfl,rfl⟩:=H
  go_enter Try.func23,Try.ntmps23
  go_wp2_with (first|((with_reducible refine gate_dst (N:=1) rfl ?_);refine box_event ?hg (N:=1) ?hd (cs:=#[.int .i64 a0_0,.int .i64 a0_1,.string a0_2]) (t:=26) ?hr ?_;(case hd => rfl);(case hg => rfl);(case hr => first|(go_simp;done)|(go_simp;rfl));intro gb350 hg w10 hbox hb;have n0_:=Aside0.mk (below_step (by repeat (first|(with_reducible first|exact HB.out|apply below_alloc|apply pw_below_drewN|apply below_drew1)|exact HB.out)) hb);have n1_:=Aside0.mk (hbox);have n2_:=Aside0.mk ((by rw [hg];exact (below_size (by repeat (first|(with_reducible first|exact HB.out|apply below_alloc|apply pw_below_drewN|apply below_drew1)|exact HB.out))) : w.heap.size≤gb350));have n3_:=Aside0.mk ((by rw [hg];exact (below_size (by repeat (first|(with_reducible first|exact HB.out|apply below_alloc|apply pw_below_drewN|apply below_drew1)|exact HB.out))) : w.heap.size≤gb350));clear HB;have HB:=n0_;have BK350:=n1_;have GW350:=n2_;have GE350:=n3_;clear n0_ n1_ n2_ n3_;clear hb hbox hg;have hcz11_0 : w10.cell? ⟨gb350,0,none⟩=some (.int .i64 a0_0):=(blk_cell BK350.out 0).trans rfl;have hcz11_1 : w10.cell? ⟨gb350,1,none⟩=some (.int .i64 a0_1):=(blk_cell BK350.out 1).trans rfl;have hcz11_2 : w10.cell? ⟨gb350,2,none⟩=some (.string a0_2):=(blk_cell BK350.out 2).trans rfl;have hfz11_0:=blk_frozen BK350.out 0;have hfz11_1:=blk_frozen BK350.out 1;have hfz11_2:=blk_frozen BK350.out 2)|((with_reducible refine gate_callee (f:=15) rfl ?_);refine goesL_ (some 5) rfl rfl Try.func15 (by kernel_rfl) rfl #[.agg #[.int .i64 a0_0,.int .i64 a0_1,.string a0_2]] rfl (by (try simp only [List.map_toArray,List.map_cons,List.map_nil]);first|done|rfl|(simp only [List.length_drop,List.length_take];rfl)|(simp only [gt_iff_lt,ge_iff_le,Int.ofNat_lt,Int.ofNat_le];rfl)) ?_;(with_reducible refine (spec_ValueOK.calls k  a0_0 a0_1 a0_2 false _ A2.out).mono ?_);rintro e w12 ⟨rfl,hb⟩;refine ⟨_,rfl,?_⟩;have n0_:=Aside0.mk (blk_below (g:=gb350) (o:=.cells #[.int .i64 a0_0,.int .i64 a0_1,.string a0_2] 26 (0,0)) (by (with_reducible repeat (first|refine blk_drewN ?_ _|refine blk_drew ?_|refine blk_alloc ?_ _));exact BK350.out) hb);have n1_:=Aside0.mk (below_step (by repeat (first|(with_reducible first|exact HB.out|apply below_alloc|apply pw_below_drewN|apply below_drew1|refine below_set ?_ GE350.out)|exact HB.out)) hb);clear BK350;clear HB;have BK350:=n0_;have HB:=n1_;clear n0_ n1_;(try clear hb);(try clear hb2);(try clear hk);(try clear hi)))
  go_ret2
  exact ⟨by first|rfl|(simp [errW_none,errW_some] <;> rfl)|(simp [*,errW_none,errW_some] <;> rfl),by repeat (first|(with_reducible first|exact HB.out|apply below_alloc|apply pw_below_drewN|apply below_drew1|refine below_set ?_ GE350.out)|exact HB.out)⟩

end Go.Proofs.Ytpmeglcmhiihoaa.Q
end
section
namespace Go.Proofs.Ytpmeglcmhiihoaa.Q
open Go.RowKit Go.Proofs.YtpmeglcmhiihoaaW.PrintWords Go.Proofs.YtpmeglcmhiihoaaW.PrintLast Go.Proofs.YtpmeglcmhiihoaaW.PrintMore
attribute [local go_sem] max2_int min2_int max_two min_two max_three min_three max_four min_four max2_str min2_str str_geq str_gtr str_leq   -- for this text's walks alone
set_option linter.unusedVariables false
set_option linter.unusedSimpArgs false

def impl_inRange.f (a0 : Int) (a1 : Int) (a2 : Int) : Option (Bool):=if a1≤a0 then (some (decide (a0≤a2))) else (some false)
set_option maxHeartbeats 8000000 in
set_option maxRecDepth 100000 in
theorem impl_inRange.calls (a0 : Int) (a1 : Int) (a2 : Int) (r : Bool) (w : World) (h : impl_inRange.f a0 a1 a2=some r) :
  Calls Try.prog 85 #[.int .i64 a0,.int .i64 a1,.int .i64 a2] w fun e w' => e = .returned (.bool r)∧Drawn0 w w':=by
 have H : (if a1≤a0 then (some (decide (a0≤a2))) else (some false))=some r:=h
 clear h
 by_cases c4 : a1≤a0
 ·
  rw [if_pos c4] at H
  have c4b0 : decide (a1≤a0)=true:=decide_eq_true c4
  clear c4
  obtain rfl:=Option.some.inj H
  go_enter Try.func85,Try.ntmps85
  go_wp2
  go_ret
  exact ⟨by first|rfl|(simp;done)|(simp [*];done),by repeat (first|exact Drawn0.refl _|apply Drawn0.step)⟩
 ·
  rw [if_neg c4] at H
  have c4b0 : decide (a1≤a0)=false:=decide_eq_false c4
  clear c4
  obtain rfl:=Option.some.inj H
  go_enter Try.func85,Try.ntmps85
  go_wp2
  go_ret
  exact ⟨by first|rfl|(simp;done)|(simp [*];done),by repeat (first|exact Drawn0.refl _|apply Drawn0.step)⟩

end Go.Proofs.Ytpmeglcmhiihoaa.Q
end
section
namespace Go.Proofs.Ytpmeglcmhiihoaa.Q
open Go.RowKit Go.Proofs.YtpmeglcmhiihoaaW.PrintWords Go.Proofs.YtpmeglcmhiihoaaW.PrintLast Go.Proofs.YtpmeglcmhiihoaaW.PrintMore
attribute [local go_sem] max2_int min2_int max_two min_two max_three min_three max_four min_four max2_str min2_str str_geq str_gtr str_leq   -- for this text's walks alone
set_option linter.unusedVariables false
set_option linter.unusedSimpArgs false

def impl_isNumber.f (a0 : Int) : Option (Bool):=(impl_inRange.f a0 (-1000000000000) 1000000000000).bind fun t170 => (some t170)
set_option maxHeartbeats 8000000 in
set_option maxRecDepth 100000 in
theorem impl_isNumber.calls (a0 : Int) (r : Bool) (w : World) (h : impl_isNumber.f a0=some r) :
  Calls Try.prog 86 #[.int .i64 a0] w fun e w' => e = .returned (.bool r)∧Drawn0 w w':=by
 have H : ((impl_inRange.f a0 (-1000000000000) 1000000000000).bind fun t170 => (some t170))=some r:=h
 clear h
 replace H:=Option.bind_eq_some_iff.mp H
 obtain ⟨t170,A20,H⟩:=H
 replace H : (some t170)=some r:=H
 have A2:=Aside0.mk A20
 clear A20
 obtain rfl:=Option.some.inj H
 go_enter Try.func86,Try.ntmps86
 go_wp2_with (first|((with_reducible refine gate_callee (f:=85) rfl ?_);refine goesL_ (some 4) rfl rfl Try.func85 (by kernel_rfl) rfl #[.int .i64 a0,.int .i64 (-1000000000000),.int .i64 1000000000000] rfl (by (try simp only [List.map_toArray,List.map_cons,List.map_nil]);first|done|rfl|(simp only [List.length_drop,List.length_take];rfl)|(simp only [gt_iff_lt,ge_iff_le,Int.ofNat_lt,Int.ofNat_le];rfl)) ?_;(with_reducible refine (impl_inRange.calls  a0 (-1000000000000) 1000000000000 t170 _ A2.out).mono ?_);rintro e w' ⟨rfl,⟨nd,rfl⟩⟩;refine ⟨_,rfl,?_⟩))
 go_ret
 exact ⟨by first|rfl|(simp;done)|(simp [*];done),by repeat (first|exact Drawn0.refl _|apply Drawn0.step)⟩

end Go.Proofs.Ytpmeglcmhiihoaa.Q
end
section
namespace Go.Proofs.Ytpmeglcmhiihoaa.Q
open Go.RowKit Go.Proofs.YtpmeglcmhiihoaaW.PrintWords Go.Proofs.YtpmeglcmhiihoaaW.PrintLast Go.Proofs.YtpmeglcmhiihoaaW.PrintMore
attribute [local go_sem] max2_int min2_int max_two min_two max_three min_three max_four min_four max2_str min2_str str_geq str_gtr str_leq   -- for this text's walks alone
set_option linter.unusedVariables false
set_option linter.unusedSimpArgs false

def impl_big.l0 : Nat→Int→List Int→Int→Int→Option (Int)
 | 0,_,_,_,_ => none
 | k + 1,x3,x6,x7,x8 => if x8<x7 then (if 0≤x8 then (if x8<(x6.length : Int) then (impl_big.l0 k (Go.bits .or .i64 (wrap64 (x3 * 256)) (wrap64 (rd x6 x8))) x6 x7 (wrap64 (x8 + 1))) else (none)) else (none)) else (some x3)
def impl_big.f (k : Nat) (l0 : List Int) : Option (Int):=impl_big.l0 k 0 l0 (l0.length : Int) 0
theorem impl_big.mono_l : ∀ k,(∀ y0 y1 y2 y3,LeO (impl_big.l0 k y0 y1 y2 y3) (impl_big.l0 (k + 1) y0 y1 y2 y3))
 | 0 => fun _ _ _ _ r h => by simp [impl_big.l0] at h
 | k + 1 => by
  have ih0:=impl_big.mono_l k
  ·
   intro y0 y1 y2 y3
   unfold impl_big.l0
   repeat' first
   | (with_reducible exact ih0 _ _ _ _)
   | (with_reducible exact LeO.refl _)
   | (with_reducible exact LeO.none _)
   | (with_reducible refine LeO.ite ?_ ?_)
   | (with_reducible refine LeO.bind ?_ (fun _ => ?_))
   | exact ih0 _ _ _ _
   | exact LeO.none _
   | refine LeO.ite ?_ ?_
   | refine LeO.bind ?_ (fun _ => ?_)
theorem impl_big.mono : ∀ a0 k,LeO (impl_big.f k a0) (impl_big.f (k + 1) a0):=by
 intro a0 k
 have ih0:=impl_big.mono_l k
 unfold impl_big.f
 repeat' first
   | (with_reducible exact ih0 _ _ _ _)
   | (with_reducible exact LeO.refl _)
   | (with_reducible exact LeO.none _)
   | (with_reducible refine LeO.ite ?_ ?_)
   | (with_reducible refine LeO.bind ?_ (fun _ => ?_))
   | exact ih0 _ _ _ _
   | exact LeO.none _
   | refine LeO.ite ?_ ?_
   | refine LeO.bind ?_ (fun _ => ?_)
set_option maxHeartbeats 8000000 in
set_option maxRecDepth 100000 in
theorem impl_big.calls (k : Nat) (A0 : Option Addr) (c0 : Nat) (l0 : List Int) (r : Int) (w : World) (hr0 : Kd.C (Kd.int .u8) w A0 l0.length l0) (hc0 : l0.length≤c0) (h : impl_big.f k l0=some r) :
  Calls Try.prog 114 #[.slice A0 l0.length c0] w fun e w' => e = .returned (.int .i64 r)∧Drawn0 w w':=by
 have HR0:=Aside0.mk hr0
 have HC0:=Aside0.mk hc0
 clear hr0 hc0
 have H : (impl_big.l0 k 0 l0 (l0.length : Int) 0)=some r:=h
 clear h
 have H':=Aside0.mk H
 clear H
 go_enter Try.func114,Try.ntmps114
 go_wp2
 go_loopg [3,8] k (fun kq v3 v8 w' => ∃ (x3_1 : Int) (x8_1 : Int),v3 = .int .i64 x3_1∧v8 = .int .i64 x8_1∧Aside0 (impl_big.l0 kq x3_1 l0 (l0.length : Int) x8_1=some r)∧Aside0 (kq≤k)∧Drawn0 w w')
 case atStart => exact ⟨(0),(0),(by first|rfl|(simp;done)|(simp [*];done)),(by first|rfl|(simp;done)|(simp [*];done)),H',⟨Nat.le_refl _⟩,by repeat (first|exact Drawn0.refl _|apply Drawn0.step)⟩
 case round =>
  clear H'
  try clear c1
  obtain ⟨x3_1,x8_1,rfl,rfl,HA,HK1,⟨m1,rfl⟩⟩:=hrel
  cases gk with
  | zero => exact absurd HA.out (by simp [impl_big.l0])
  | succ k1 =>
   have H:=HA.out
   clear HA
   simp only [impl_big.l0] at H
   by_cases c2 : x8_1<(l0.length : Int)
   ·
    rw [if_pos c2] at H
    have c2b0 : decide (x8_1<(l0.length : Int))=true:=decide_eq_true c2
    clear c2
    by_cases c3 : 0≤x8_1
    ·
     rw [if_pos c3] at H
     have c3b0 : decide (0≤x8_1)=true:=decide_eq_true c3
     clear c3
     by_cases c4 : x8_1<(l0.length : Int)
     ·
      rw [if_pos c4] at H
      have c4b0 : decide (x8_1<(l0.length : Int))=true:=decide_eq_true c4
      clear c4
      have H':=Aside0.mk H
      clear H
      have p175 : 0≤(x8_1 : Int):=of_decide_eq_true (by first|(with_reducible assumption)|assumption)
      have q175 : x8_1<(l0.length : Int):=of_decide_eq_true (by first|(with_reducible assumption)|assumption)
      obtain ⟨ad175,e175,hx175_0⟩:=Kd.at_int HR0.out x8_1 p175 q175
      cases e175
      replace p175:=eq_true p175
      replace q175:=eq_true q175
      go_wp2
      go_roundg k1
      case measure => have:=HK1.out;omega
      case rel => exact ⟨(Go.bits .or .i64 (wrap64 (x3_1 * 256)) (wrap64 (rd l0 x8_1))),(wrap64 (x8_1 + 1)),(by first|rfl|(simp;done)|(simp [*];done)),(by first|rfl|(simp;done)|(simp [*];done)),H',⟨by have:=HK1.out;omega⟩,by repeat (first|exact Drawn0.refl _|apply Drawn0.step)⟩
     ·
      rw [if_neg c4] at H
      exact absurd H (by simp)
    ·
     rw [if_neg c3] at H
     exact absurd H (by simp)
   ·
    rw [if_neg c2] at H
    have c2b0 : decide (x8_1<(l0.length : Int))=false:=decide_eq_false c2
    clear c2
    obtain rfl:=Option.some.inj H
    go_wp2
    go_ret
    exact ⟨by first|rfl|(simp;done)|(simp [*];done),by repeat (first|exact Drawn0.refl _|apply Drawn0.step)⟩

end Go.Proofs.Ytpmeglcmhiihoaa.Q
end
section
namespace Go.Proofs.Ytpmeglcmhiihoaa.Q
open Go.RowKit Go.Proofs.YtpmeglcmhiihoaaW.PrintWords Go.Proofs.YtpmeglcmhiihoaaW.PrintLast Go.Proofs.YtpmeglcmhiihoaaW.PrintMore
attribute [local go_sem] max2_int min2_int max_two min_two max_three min_three max_four min_four max2_str min2_str str_geq str_gtr str_leq   -- for this text's walks alone
set_option linter.unusedVariables false
set_option linter.unusedSimpArgs false

def strings_Repeat.f (a0 : ByteArray) (a1 : Int) : Option (ByteArray):=if 0≤a1 then (if a0.size * a1.toNat≤140737488355328 then (if a1≤9223372036854775807 then (some ⟨(Lib.repeatL a0.data.toList a1.toNat).toArray⟩) else (none)) else (none)) else (none)
theorem strings_Repeat.calls (a0 : ByteArray) (a1 : Int) (r : ByteArray) (w : World) (h : strings_Repeat.f a0 a1=some r) :
  Calls Try.prog 115 #[.string a0,.int .i64 a1] w fun e w' => e = .returned (.string r)∧Below w.heap.size w w':=by
 unfold strings_Repeat.f at h
 by_cases h0 : 0≤a1
 ·
  rw [if_pos h0] at h
  by_cases h1 : a0.size * a1.toNat≤140737488355328
  ·
   rw [if_pos h1] at h
   by_cases h2 : a1≤9223372036854775807
   ·
    rw [if_pos h2] at h
    obtain rfl:=Option.some.inj h
    have:=Try.strings_Repeat a0 a1.toNat w (by omega) h1
    rw [Int.toNat_of_nonneg h0] at this
    exact this
   ·
    rw [if_neg h2] at h;exact absurd h (by simp)
  ·
   rw [if_neg h1] at h;exact absurd h (by simp)
 ·
  rw [if_neg h0] at h;exact absurd h (by simp)

end Go.Proofs.Ytpmeglcmhiihoaa.Q
end
section
namespace Go.Proofs.Ytpmeglcmhiihoaa.Q
open Go.RowKit Go.Proofs.YtpmeglcmhiihoaaW.PrintWords Go.Proofs.YtpmeglcmhiihoaaW.PrintLast Go.Proofs.YtpmeglcmhiihoaaW.PrintMore
attribute [local go_sem] max2_int min2_int max_two min_two max_three min_three max_four min_four max2_str min2_str str_geq str_gtr str_leq   -- for this text's walks alone
set_option linter.unusedVariables false
set_option linter.unusedSimpArgs false

def IsS74 (w0 W : World) (g : Nat) (f0 : ByteArray) (f1 : Bool) : Prop:=W.heap[g]? = some (.cells #[.string f0,.bool f1] 74 (0,0))∧w0.heap.size≤g
theorem IsS74.grown {w0 W : World} {g : Nat} {f0 : ByteArray} {f1 : Bool} {W1 : World} {row : Option Nat} (h : IsS74 w0 W g f0 f1) (hw : W.grownBy W1 row) (hne : some g≠row) : IsS74 w0 W1 g f0 f1:=by
 obtain ⟨hb,hg⟩:=h
 exact ⟨blk_grown hb hw hne,hg⟩
theorem IsS74.fresh {w0 W : World} {g : Nat} {f0 : ByteArray} {f1 : Bool} (h : IsS74 w0 W g f0 f1) : ∀ k,W.heap.size≤k→k≠g:=by
 obtain ⟨hb,hg⟩:=h
 exact Kd.freshB hb
theorem IsS74.kept {w0 W : World} {g : Nat} {f0 : ByteArray} {f1 : Bool} {W1 : World} {S : Nat→Prop} (h : IsS74 w0 W g f0 f1) (hk : Kept W W1 S) (hne : ¬ S g) : IsS74 w0 W1 g f0 f1:=by
 obtain ⟨hb,hg⟩:=h
 exact ⟨blk_kept hb hk hne,hg⟩
theorem IsS74.below {w0 W : World} {g : Nat} {f0 : ByteArray} {f1 : Bool} {W1 : World} (h : IsS74 w0 W g f0 f1) (hw : Below W.heap.size W W1) : IsS74 w0 W1 g f0 f1:=h.grown (grown_of_below hw none) (by simp)
theorem IsS74.alloc {w0 W : World} {g : Nat} {f0 : ByteArray} {f1 : Bool} (h : IsS74 w0 W g f0 f1) (o : Obj) : IsS74 w0 (W.alloc o) g f0 f1:=h.below (below_alloc (Below.refl _ _) o)
theorem IsS74.drewN {w0 W : World} {g : Nat} {f0 : ByteArray} {f1 : Bool} (h : IsS74 w0 W g f0 f1) (m : Nat) : IsS74 w0 (W.drewN m) g f0 f1:=h
theorem IsS74.drew {w0 W : World} {g : Nat} {f0 : ByteArray} {f1 : Bool} (h : IsS74 w0 W g f0 f1) : IsS74 w0 W.drew g f0 f1:=h
theorem IsS74.at_ {w0 W : World} {g : Nat} {f0 : ByteArray} {f1 : Bool} {w' : World} {m : Nat} (hq : W.drewN m=w') (h : IsS74 w0 W g f0 f1) : IsS74 w0 w' g f0 f1:=by subst hq;exact IsS74.drewN h m
theorem IsS74.apart {w0 W : World} {g : Nat} {f0 : ByteArray} {f1 : Bool} {α : Type} {d : Kd α} {e : Nat} {base : Nat} {ok : Nat→Prop} {v : Value} {xs : List α} (h : IsS74 w0 W g f0 f1) (ho : d.R e W base ok v xs) (ht : ∀ q,q ∈ e :: d.E→q≠74) : d.R e W base (fun k => ok k∧k≠g) v xs:=by
 obtain ⟨hb,hg⟩:=h
 exact Kd.R_types ho hb ht
theorem IsS74.own_ne {w0 W : World} {g : Nat} {f0 : ByteArray} {f1 : Bool} {α : Type} {d : Kd α} {e : Nat} {base : Nat} {ok : Nat→Prop} {v : Value} {xs : List α} (h : IsS74 w0 W g f0 f1) (ho : d.R e W base ok v xs) (ht : e≠74) : some g≠v.ownBlock:=by
 obtain ⟨hb,hg⟩:=h
 exact Kd.R_ne ho hb ht
theorem IsS74.lt {w0 W : World} {g : Nat} {f0 : ByteArray} {f1 : Bool} (h : IsS74 w0 W g f0 f1) : g<W.heap.size:=by
 obtain ⟨hb,hg⟩:=h
 exact blk_lt hb
theorem IsS74.ge {w0 W : World} {g : Nat} {f0 : ByteArray} {f1 : Bool} (h : IsS74 w0 W g f0 f1) : w0.heap.size≤g:=by
 obtain ⟨hb,hg⟩:=h
 exact hg
theorem IsS74.far {w0 W : World} {g : Nat} {f0 : ByteArray} {f1 : Bool} {p : Addr} (h : IsS74 w0 W g f0 f1) (hne : g≠p.block) (u : Value) : IsS74 w0 (W.setCell p u) g f0 f1:=by
 obtain ⟨hb,hg⟩:=h
 exact ⟨blk_far hb hne u,hg⟩
theorem cellS74_0 {W : World} {g : Nat} {f0 : ByteArray} {f1 : Bool} (h : W.heap[g]? = some (.cells #[.string f0,.bool f1] 74 (0,0))) : W.cell? ⟨g,0,none⟩=some (.string f0):=(blk_cell h 0).trans rfl
theorem IsS74.set_0 {w0 W : World} {g : Nat} {f0 : ByteArray} {f1 : Bool} (h : IsS74 w0 W g f0 f1) (x : ByteArray) : IsS74 w0 (W.setCell ⟨g,0,none⟩ (.string x)) g x f1:=by
 obtain ⟨hb,hg⟩:=h
 exact ⟨by simpa using blk_set hb 0 (.string x),hg⟩
theorem cellS74_1 {W : World} {g : Nat} {f0 : ByteArray} {f1 : Bool} (h : W.heap[g]? = some (.cells #[.string f0,.bool f1] 74 (0,0))) : W.cell? ⟨g,1,none⟩=some (.bool f1):=(blk_cell h 1).trans rfl
theorem IsS74.set_1 {w0 W : World} {g : Nat} {f0 : ByteArray} {f1 : Bool} (h : IsS74 w0 W g f0 f1) (x : Bool) : IsS74 w0 (W.setCell ⟨g,1,none⟩ (.bool x)) g f0 x:=by
 obtain ⟨hb,hg⟩:=h
 exact ⟨by simpa using blk_set hb 1 (.bool x),hg⟩
theorem IsS74.new (w0 W : World) (f0 : ByteArray) (f1 : Bool) (hB : Below w0.heap.size w0 W) : IsS74 w0 (W.alloc (.cells #[.string f0,.bool f1] 74)) W.heap.size f0 f1:=⟨by simpa using heap_alloc_new W _,hB.size⟩

def impl_byteReader_take.f (s0_0 : ByteArray) (s0_1 : Bool) (a1 : Int) : Option (ByteArray×ByteArray×Bool):=if a1 > (s0_0.size : Int) then ((strings_Repeat.f (⟨#[0]⟩ : ByteArray) a1).bind fun t174 => (some (t174,s0_0,true))) else (if 0≤a1 then (if a1≤(s0_0.size : Int) then (some (s0_0.extract 0 (a1 : Int).toNat,s0_0.extract (a1 : Int).toNat s0_0.size,s0_1)) else (none)) else (none))
set_option maxHeartbeats 8000000 in
set_option maxRecDepth 100000 in
theorem impl_byteReader_take.calls (g : Nat) (s0_0 : ByteArray) (s0_1 : Bool) (a1 : Int) (r1 : ByteArray) (r2 : ByteArray) (r3 : Bool) (w0 w : World) (hI : IsS74 w0 w g s0_0 s0_1) (hB : Below w0.heap.size w0 w) (h : impl_byteReader_take.f s0_0 s0_1 a1=some (r1,r2,r3)) :
  Calls Try.prog 92 #[.pointer (some ⟨g,0,none⟩),.int .i64 a1] w fun e w' => e = .returned (.string r1)∧IsS74 w0 w' g r2 r3∧Below w0.heap.size w0 w' ∧ KeepBut w w' g none:=by
 have HI0:=Aside0.mk hI
 have HK:=Aside0.mk (KeepBut.refl w g none)
 have HL:=Aside0.mk hB.size
 clear hI
 have HW0:=Aside0.mk hB.size
 have HB:=Aside0.mk hB
 clear hB
 have H : (if a1 > (s0_0.size : Int) then ((strings_Repeat.f (⟨#[0]⟩ : ByteArray) a1).bind fun t174 => (some (t174,s0_0,true))) else (if 0≤a1 then (if a1≤(s0_0.size : Int) then (some (s0_0.extract 0 (a1 : Int).toNat,s0_0.extract (a1 : Int).toNat s0_0.size,s0_1)) else (none)) else (none)))=some (r1,r2,r3):=h
 clear h
 by_cases c3 : a1 > (s0_0.size : Int)
 ·
  rw [if_pos c3] at H
  have c3b0 : decide ((s0_0.size : Int)<a1)=true:=decide_eq_true c3
  clear c3
  replace H:=Option.bind_eq_some_iff.mp H
  obtain ⟨t174,A40,H⟩:=H
  replace H : (some (t174,s0_0,true))=some (r1,r2,r3):=H
  have A4:=Aside0.mk A40
  clear A40
  simp only [Option.some.injEq,Prod.mk.injEq] at H
  obtain ⟨rfl,rfl,rfl⟩:=H
  obtain ⟨HGz5,hgz5⟩:=HI0.out
  have hcz5_0:=cellS74_0 HGz5
  have hcz5_1:=cellS74_1 HGz5
  have hfz5_0:=blk_frozen HGz5 0
  have hfz5_1:=blk_frozen HGz5 1
  clear HGz5 hgz5
  go_enter Try.func92,Try.ntmps92
  go_wp2_with (first|((with_reducible refine gate_callee (f:=115) rfl ?_);refine goesL_ (some 17) rfl rfl Try.func115 (by kernel_rfl) rfl #[.string (⟨#[0]⟩ : ByteArray),.int .i64 a1] rfl (by (try simp only [List.map_toArray,List.map_cons,List.map_nil]);first|done|rfl|(simp only [List.length_drop,List.length_take];rfl)|(simp only [gt_iff_lt,ge_iff_le,Int.ofNat_lt,Int.ofNat_le];rfl)) ?_;(with_reducible refine (strings_Repeat.calls  (⟨#[0]⟩ : ByteArray) a1 t174 _ A4.out).mono ?_);rintro e w6 ⟨rfl,hb⟩;refine ⟨_,rfl,?_⟩;have n0_:=Aside0.mk (IsS74.below (show IsS74 w0 (w.setCell ⟨g,1,none⟩ (.bool true)) g s0_0 true from by repeat (first|(with_reducible first|exact HI0.out|apply IsS74.alloc|apply IsS74.drewN|apply IsS74.drew|apply IsS74.set_0|apply IsS74.set_1)|exact HI0.out)) hb);have n1_:=Aside0.mk (KeepBut.trans (by repeat (first|(with_reducible first|exact HK.out|apply KeepBut.set_|apply keep_drewN|apply keep_drew|apply keep_alloc)|exact HK.out)) (KeepBut.of_below hb g none) (.inl rfl));have n2_:=Aside0.mk (below_step (by repeat (first|(with_reducible first|exact HB.out|apply below_alloc|apply pw_below_drewN|apply below_drew1|refine below_set ?_ (IsS74.ge HI0.out))|exact HB.out)) hb);clear HI0;clear HK;clear HB;have HI0:=n0_;have HK:=n1_;have HB:=n2_;clear n0_ n1_ n2_;(try clear hb);(try clear hb2);(try clear hk);(try clear hi)))
  go_ret
  exact ⟨by first|rfl|(simp [errW_none,errW_some] <;> rfl)|(simp [*,errW_none,errW_some] <;> rfl),by repeat (first|(with_reducible first|exact HI0.out|apply IsS74.alloc|apply IsS74.drewN|apply IsS74.drew|apply IsS74.set_0|apply IsS74.set_1)|exact HI0.out),by repeat (first|(with_reducible first|exact HB.out|apply below_alloc|apply pw_below_drewN|apply below_drew1|refine below_set ?_ (IsS74.ge HI0.out))|exact HB.out),by repeat (first|(with_reducible first|exact HK.out|apply KeepBut.set_|apply keep_drewN|apply keep_drew|apply keep_alloc)|exact HK.out)⟩
 ·
  rw [if_neg c3] at H
  have c3b0 : decide ((s0_0.size : Int)<a1)=false:=decide_eq_false c3
  clear c3
  by_cases c7 : 0≤a1
  ·
   rw [if_pos c7] at H
   have c7b0:=eq_true c7
   have c7b1 : decide (0≤a1)=true:=decide_eq_true c7
   clear c7
   by_cases c8 : a1≤(s0_0.size : Int)
   ·
    rw [if_pos c8] at H
    have c8b0:=eq_true c8
    have c8b1 : decide (a1≤(s0_0.size : Int))=true:=decide_eq_true c8
    clear c8
    have c9b0:=eq_true (of_decide_eq_true (by first|(with_reducible assumption)|assumption) : 0≤a1)
    have c10b0:=eq_true (of_decide_eq_true (by first|(with_reducible assumption)|assumption) : a1≤(s0_0.size : Int))
    simp only [Option.some.injEq,Prod.mk.injEq] at H
    obtain ⟨rfl,rfl,rfl⟩:=H
    obtain ⟨HGz11,hgz11⟩:=HI0.out
    have hcz11_0:=cellS74_0 HGz11
    have hcz11_1:=cellS74_1 HGz11
    have hfz11_0:=blk_frozen HGz11 0
    have hfz11_1:=blk_frozen HGz11 1
    clear HGz11 hgz11
    go_enter Try.func92,Try.ntmps92
    go_wp2
    go_ret
    exact ⟨by first|rfl|(simp [errW_none,errW_some] <;> rfl)|(simp [*,errW_none,errW_some] <;> rfl),by repeat (first|(with_reducible first|exact HI0.out|apply IsS74.alloc|apply IsS74.drewN|apply IsS74.drew|apply IsS74.set_0|apply IsS74.set_1)|exact HI0.out),by repeat (first|(with_reducible first|exact HB.out|apply below_alloc|apply pw_below_drewN|apply below_drew1|refine below_set ?_ (IsS74.ge HI0.out))|exact HB.out),by repeat (first|(with_reducible first|exact HK.out|apply KeepBut.set_|apply keep_drewN|apply keep_drew|apply keep_alloc)|exact HK.out)⟩
   ·
    rw [if_neg c8] at H
    exact absurd H (by simp)
  ·
   rw [if_neg c7] at H
   exact absurd H (by simp)

end Go.Proofs.Ytpmeglcmhiihoaa.Q
end
section
namespace Go.Proofs.Ytpmeglcmhiihoaa.Q
open Go.RowKit Go.Proofs.YtpmeglcmhiihoaaW.PrintWords Go.Proofs.YtpmeglcmhiihoaaW.PrintLast Go.Proofs.YtpmeglcmhiihoaaW.PrintMore
attribute [local go_sem] max2_int min2_int max_two min_two max_three min_three max_four min_four max2_str min2_str str_geq str_gtr str_leq   -- for this text's walks alone
set_option linter.unusedVariables false
set_option linter.unusedSimpArgs false

def impl_byteReader_num.f (k : Nat) (s0_0 : ByteArray) (s0_1 : Bool) (a1 : Int) : Option (Int×ByteArray×Bool):=(impl_byteReader_take.f s0_0 s0_1 a1).bind fun bt176 => (if bt176.1.size≤9223372036854775807 then ((impl_big.f k (bytesOf bt176.1)).bind fun t182 => (some (t182,bt176.2.1,bt176.2.2))) else (none))
theorem impl_byteReader_num.mono : ∀ a0 a1 a2 k,LeO (impl_byteReader_num.f k a0 a1 a2) (impl_byteReader_num.f (k + 1) a0 a1 a2):=by
 intro a0 a1 a2 k
 unfold impl_byteReader_num.f
 repeat' first
   | (with_reducible exact impl_big.mono _ _)
   | (with_reducible exact LeO.refl _)
   | (with_reducible exact LeO.none _)
   | (with_reducible refine LeO.ite ?_ ?_)
   | (with_reducible refine LeO.bind ?_ (fun _ => ?_))
   | exact impl_big.mono _ _
   | exact LeO.none _
   | refine LeO.ite ?_ ?_
   | refine LeO.bind ?_ (fun _ => ?_)
set_option maxHeartbeats 8000000 in
set_option maxRecDepth 100000 in
theorem impl_byteReader_num.calls (k : Nat) (g : Nat) (s0_0 : ByteArray) (s0_1 : Bool) (a1 : Int) (r1 : Int) (r2 : ByteArray) (r3 : Bool) (w0 w : World) (hI : IsS74 w0 w g s0_0 s0_1) (hB : Below w0.heap.size w0 w) (h : impl_byteReader_num.f k s0_0 s0_1 a1=some (r1,r2,r3)) :
  Calls Try.prog 91 #[.pointer (some ⟨g,0,none⟩),.int .i64 a1] w fun e w' => e = .returned (.int .i64 r1)∧IsS74 w0 w' g r2 r3∧Below w0.heap.size w0 w' ∧ KeepBut w w' g none:=by
 have HI0:=Aside0.mk hI
 have HK:=Aside0.mk (KeepBut.refl w g none)
 have HL:=Aside0.mk hB.size
 clear hI
 have HW0:=Aside0.mk hB.size
 have HB:=Aside0.mk hB
 clear hB
 have H : ((impl_byteReader_take.f s0_0 s0_1 a1).bind fun bt176 => (if bt176.1.size≤9223372036854775807 then ((impl_big.f k (bytesOf bt176.1)).bind fun t182 => (some (t182,bt176.2.1,bt176.2.2))) else (none)))=some (r1,r2,r3):=h
 clear h
 replace H:=Option.bind_eq_some_iff.mp H
 obtain ⟨⟨t176,t177,t178⟩,A30,H⟩:=H
 replace H : (if t176.size≤9223372036854775807 then ((impl_big.f k (bytesOf t176)).bind fun t182 => (some (t182,t177,t178))) else (none))=some (r1,r2,r3):=H
 have A3:=Aside0.mk A30
 clear A30
 by_cases c4 : t176.size≤9223372036854775807
 ·
  rw [if_pos c4] at H
  have c4b0:=eq_true c4
  have c4b1 : decide (t176.size≤9223372036854775807)=true:=decide_eq_true c4
  try have c4b2 : (9223372036854775807<t176.size)=False:=eq_false (Nat.not_lt.2 c4)
  clear c4
  obtain ⟨y179,hy179⟩ : ∃ y_ : List Int,y_=(bytesOf t176):=⟨_,rfl⟩
  replace H : ((impl_big.f k y179).bind fun t182 => (some (t182,t177,t178)))=some (r1,r2,r3):=by first|(rw [hy179];with_reducible exact H)|(have H2_:=(Option.bind_some _ _).symm.trans H;rw [hy179];with_reducible exact H2_)|(have H2_:=(Option.bind_some _ _).symm.trans H;with_reducible exact H2_)|with_reducible exact H|(rw [hy179];exact H)|exact H
  have Ny179:=Aside0.mk hy179
  clear hy179
  replace H:=Option.bind_eq_some_iff.mp H
  obtain ⟨t182,A50,H⟩:=H
  replace H : (some (t182,t177,t178))=some (r1,r2,r3):=H
  have A5:=Aside0.mk A50
  clear A50
  simp only [Option.some.injEq,Prod.mk.injEq] at H
  obtain ⟨rfl,rfl,rfl⟩:=H
  go_enter Try.func91,Try.ntmps91
  go_wp2_with (first|((with_reducible refine gate_callee (f:=92) rfl ?_);refine goesL_ (some 7) rfl rfl Try.func92 (by kernel_rfl) rfl #[.pointer (some ⟨g,0,none⟩),.int .i64 a1] rfl (by (try simp only [List.map_toArray,List.map_cons,List.map_nil]);first|done|rfl|(simp only [List.length_drop,List.length_take];rfl)|(simp only [gt_iff_lt,ge_iff_le,Int.ofNat_lt,Int.ofNat_le];rfl)) ?_;(with_reducible refine (impl_byteReader_take.calls  g s0_0 s0_1 a1 t176 t177 t178 w0 _ ?side1 ?side2 A3.out).mono ?_);(case side1 => repeat (first|(with_reducible first|exact HI0.out|apply IsS74.alloc|apply IsS74.drewN|apply IsS74.drew|apply IsS74.set_0|apply IsS74.set_1)|exact HI0.out));(case side2 => repeat (first|(with_reducible first|exact HB.out|apply below_alloc|apply pw_below_drewN|apply below_drew1|refine below_set ?_ (IsS74.ge HI0.out))|exact HB.out));rintro e w6 ⟨rfl,hi,hb,hk⟩;refine ⟨_,rfl,?_⟩;have n0_:=Aside0.mk (KeepBut.trans (by repeat (first|(with_reducible first|exact HK.out|apply KeepBut.set_|apply keep_drewN|apply keep_drew|apply keep_alloc)|exact HK.out)) hk (.inl rfl));have n1_:=Aside0.mk (hb);have n2_:=Aside0.mk (hi);clear HK;clear HB;clear HI0;have HK:=n0_;have HB:=n1_;have HI0:=n2_;clear n0_ n1_ n2_;(try clear hb);(try clear hb2);(try clear hk);(try clear hi))|((with_reducible refine gate_dst (N:=8) rfl ?_);refine conv_event (base:=w6.heap.size) ?hg (N:=8) ?hd 9 29 5 t176 rfl ?hx Try.underlying9 Try.underlying29 Try.underlying5 (of_decide_eq_true (by first|(with_reducible assumption)|assumption)) ?_;(case hd => rfl);(case hg => rfl);(case hx => first|(go_simp;done)|(go_simp;rfl)|rfl);intro v180 w7 ho8 hb;(first|rw [← Ny179.out] at ho8|(simp only [Int.reduceToNat] at ho8;rw [← Ny179.out] at ho8));have n0_:=Aside0.mk (Kd.V_lower (Kd.V_mono (ok':=fun k_ => k_≠g) ho8 (fun k_ hk_ => (IsS74.fresh (by repeat (first|(with_reducible first|exact HI0.out|apply IsS74.alloc|apply IsS74.drewN|apply IsS74.drew|apply IsS74.set_0|apply IsS74.set_1)|exact HI0.out)) k_ hk_))) (keep_size (w:=w) (g:=g) (row:=none) (by repeat (first|(with_reducible first|exact HK.out|apply KeepBut.set_|apply keep_drewN|apply keep_drew|apply keep_alloc)|exact HK.out))));have n1_:=Aside0.mk (IsS74.below (by repeat (first|(with_reducible first|exact HI0.out|apply IsS74.alloc|apply IsS74.drewN|apply IsS74.drew|apply IsS74.set_0|apply IsS74.set_1)|exact HI0.out)) hb);have n2_:=Aside0.mk (KeepBut.trans (by repeat (first|(with_reducible first|exact HK.out|apply KeepBut.set_|apply keep_drewN|apply keep_drew|apply keep_alloc)|exact HK.out)) (KeepBut.of_below hb g none) (.inl rfl));have n3_:=Aside0.mk (below_step (by repeat (first|(with_reducible first|exact HB.out|apply below_alloc|apply pw_below_drewN|apply below_drew1|refine below_set ?_ (IsS74.ge HI0.out))|exact HB.out)) hb);clear HI0;clear HK;clear HB;have HO181:=n0_;have HI0:=n1_;have HK:=n2_;have HB:=n3_;clear n0_ n1_ n2_ n3_;clear hb ho8;obtain ⟨Ao9,co9,eo9⟩:=Kd.V_slice HO181.out;subst eo9)|((with_reducible refine gate_callee (f:=114) rfl ?_);refine goesL_ (some 9) rfl rfl Try.func114 (by kernel_rfl) rfl #[.slice Ao9 y179.length co9] rfl (by (try simp only [List.map_toArray,List.map_cons,List.map_nil]);first|done|rfl|(simp only [List.length_drop,List.length_take];rfl)|(simp only [gt_iff_lt,ge_iff_le,Int.ofNat_lt,Int.ofNat_le];rfl)) ?_;(with_reducible refine (impl_big.calls k  _ _ y179 t182 _ ?side1 ?side2 A5.out).mono ?_);(case side1 => repeat (first|exact (Kd.V_reads' HO181.out).2.2|(with_reducible refine Kd.C_alloc ?_ _)|(with_reducible refine Kd.C_drewN ?_ _)|(with_reducible refine Kd.C_drew ?_)));(case side2 => exact (Kd.V_reads' HO181.out).2.1);rintro e w' ⟨rfl,⟨nd,rfl⟩⟩;refine ⟨_,rfl,?_⟩))
  go_ret
  exact ⟨by first|rfl|(simp [errW_none,errW_some] <;> rfl)|(simp [*,errW_none,errW_some] <;> rfl),by repeat (first|(with_reducible first|exact HI0.out|apply IsS74.alloc|apply IsS74.drewN|apply IsS74.drew|apply IsS74.set_0|apply IsS74.set_1)|exact HI0.out),by repeat (first|(with_reducible first|exact HB.out|apply below_alloc|apply pw_below_drewN|apply below_drew1|refine below_set ?_ (IsS74.ge HI0.out))|exact HB.out),by repeat (first|(with_reducible first|exact HK.out|apply KeepBut.set_|apply keep_drewN|apply keep_drew|apply keep_alloc)|exact HK.out)⟩
 ·
  rw [if_neg c4] at H
  exact absurd H (by simp)

end Go.Proofs.Ytpmeglcmhiihoaa.Q
end
section
namespace Go.Proofs.Ytpmeglcmhiihoaa.Q
open Go.RowKit Go.Proofs.YtpmeglcmhiihoaaW.PrintWords Go.Proofs.YtpmeglcmhiihoaaW.PrintLast Go.Proofs.YtpmeglcmhiihoaaW.PrintMore
attribute [local go_sem] max2_int min2_int max_two min_two max_three min_three max_four min_four max2_str min2_str str_geq str_gtr str_leq   -- for this text's walks alone
set_option linter.unusedVariables false
set_option linter.unusedSimpArgs false

def impl_byteReader_value.j0 : Nat→Bool→ByteArray→Bool→Int→Int→ByteArray→Option (Int×Int×ByteArray×ByteArray×Bool)
 | 0,_,_,_,_,_,_ => none
 | k + 1,x20,x1000,x1001,x188000,x188001,x188002 => if x20=true then ((impl_byteReader_num.f k x1000 x1001 2).bind fun bt194 => ((impl_byteReader_take.f bt194.2.1 bt194.2.2 bt194.1).bind fun bt197 => (some (x188000,x188001,bt197.1,bt197.2.1,bt197.2.2)))) else (some (x188000,x188001,x188002,x1000,x1001))
def impl_byteReader_value.f (k : Nat) (s0_0 : ByteArray) (s0_1 : Bool) : Option (Int×Int×ByteArray×ByteArray×Bool):=(impl_byteReader_num.f k s0_0 s0_1 1).bind fun bt184 => (if bt184.1=1 then ((impl_byteReader_num.f k bt184.2.1 bt184.2.2 1).bind fun bt188 => (some (bt184.1,bt188.1,(⟨#[]⟩ : ByteArray),bt188.2.1,bt188.2.2))) else (if bt184.1=2 then ((impl_byteReader_num.f k bt184.2.1 bt184.2.2 8).bind fun bt191 => (some (bt184.1,wrap64 (bt191.1 - 4611686018427387904),(⟨#[]⟩ : ByteArray),bt191.2.1,bt191.2.2))) else (if bt184.1=3 then (impl_byteReader_value.j0 k (bt184.1 == 3) bt184.2.1 bt184.2.2 bt184.1 0 (⟨#[]⟩ : ByteArray)) else (if bt184.1=4 then (impl_byteReader_value.j0 k (bt184.1 == 4) bt184.2.1 bt184.2.2 bt184.1 0 (⟨#[]⟩ : ByteArray)) else (impl_byteReader_value.j0 k (bt184.1 == 5) bt184.2.1 bt184.2.2 bt184.1 0 (⟨#[]⟩ : ByteArray))))))
theorem impl_byteReader_value.mono_l : ∀ k,(∀ y0 y1 y2 y3 y4 y5,LeO (impl_byteReader_value.j0 k y0 y1 y2 y3 y4 y5) (impl_byteReader_value.j0 (k + 1) y0 y1 y2 y3 y4 y5))
 | 0 => fun _ _ _ _ _ _ r h => by simp [impl_byteReader_value.j0] at h
 | k + 1 => by
  have ih0:=impl_byteReader_value.mono_l k
  ·
   intro y0 y1 y2 y3 y4 y5
   unfold impl_byteReader_value.j0
   repeat' first
   | (with_reducible exact ih0 _ _ _ _ _ _)
   | (with_reducible exact impl_byteReader_num.mono _ _ _ _)
   | (with_reducible exact LeO.refl _)
   | (with_reducible exact LeO.none _)
   | (with_reducible refine LeO.ite ?_ ?_)
   | (with_reducible refine LeO.bind ?_ (fun _ => ?_))
   | exact ih0 _ _ _ _ _ _
   | exact impl_byteReader_num.mono _ _ _ _
   | exact LeO.none _
   | refine LeO.ite ?_ ?_
   | refine LeO.bind ?_ (fun _ => ?_)
theorem impl_byteReader_value.mono : ∀ a0 a1 k,LeO (impl_byteReader_value.f k a0 a1) (impl_byteReader_value.f (k + 1) a0 a1):=by
 intro a0 a1 k
 have ih0:=impl_byteReader_value.mono_l k
 unfold impl_byteReader_value.f
 repeat' first
   | (with_reducible exact ih0 _ _ _ _ _ _)
   | (with_reducible exact impl_byteReader_num.mono _ _ _ _)
   | (with_reducible exact LeO.refl _)
   | (with_reducible exact LeO.none _)
   | (with_reducible refine LeO.ite ?_ ?_)
   | (with_reducible refine LeO.bind ?_ (fun _ => ?_))
   | exact ih0 _ _ _ _ _ _
   | exact impl_byteReader_num.mono _ _ _ _
   | exact LeO.none _
   | refine LeO.ite ?_ ?_
   | refine LeO.bind ?_ (fun _ => ?_)
set_option maxHeartbeats 8000000 in
set_option maxRecDepth 100000 in
theorem impl_byteReader_value.calls (k : Nat) (g : Nat) (s0_0 : ByteArray) (s0_1 : Bool) (r1 : Int) (r2 : Int) (r3 : ByteArray) (r4 : ByteArray) (r5 : Bool) (w0 w : World) (hI : IsS74 w0 w g s0_0 s0_1) (hB : Below w0.heap.size w0 w) (h : impl_byteReader_value.f k s0_0 s0_1=some (r1,r2,r3,r4,r5)) :
  Calls Try.prog 56 #[.pointer (some ⟨g,0,none⟩)] w fun e w' => e = .returned (.agg #[.int .i64 r1,.int .i64 r2,.string r3])∧IsS74 w0 w' g r4 r5∧Below w0.heap.size w0 w' ∧ KeepBut w w' g none:=by
 have hu26:=Try.underlying26
 have HI0:=Aside0.mk hI
 have HK:=Aside0.mk (KeepBut.refl w g none)
 have HL:=Aside0.mk hB.size
 clear hI
 have HW0:=Aside0.mk hB.size
 have HB:=Aside0.mk hB
 clear hB
 have H : ((impl_byteReader_num.f k s0_0 s0_1 1).bind fun bt184 => (if bt184.1=1 then ((impl_byteReader_num.f k bt184.2.1 bt184.2.2 1).bind fun bt188 => (some (bt184.1,bt188.1,(⟨#[]⟩ : ByteArray),bt188.2.1,bt188.2.2))) else (if bt184.1=2 then ((impl_byteReader_num.f k bt184.2.1 bt184.2.2 8).bind fun bt191 => (some (bt184.1,wrap64 (bt191.1 - 4611686018427387904),(⟨#[]⟩ : ByteArray),bt191.2.1,bt191.2.2))) else (if bt184.1=3 then (impl_byteReader_value.j0 k (bt184.1 == 3) bt184.2.1 bt184.2.2 bt184.1 0 (⟨#[]⟩ : ByteArray)) else (if bt184.1=4 then (impl_byteReader_value.j0 k (bt184.1 == 4) bt184.2.1 bt184.2.2 bt184.1 0 (⟨#[]⟩ : ByteArray)) else (impl_byteReader_value.j0 k (bt184.1 == 5) bt184.2.1 bt184.2.2 bt184.1 0 (⟨#[]⟩ : ByteArray)))))))=some (r1,r2,r3,r4,r5):=h
 clear h
 replace H:=Option.bind_eq_some_iff.mp H
 obtain ⟨⟨t184,t185,t186⟩,A20,H⟩:=H
 replace H : (if t184=1 then ((impl_byteReader_num.f k t185 t186 1).bind fun bt188 => (some (t184,bt188.1,(⟨#[]⟩ : ByteArray),bt188.2.1,bt188.2.2))) else (if t184=2 then ((impl_byteReader_num.f k t185 t186 8).bind fun bt191 => (some (t184,wrap64 (bt191.1 - 4611686018427387904),(⟨#[]⟩ : ByteArray),bt191.2.1,bt191.2.2))) else (if t184=3 then (impl_byteReader_value.j0 k (t184 == 3) t185 t186 t184 0 (⟨#[]⟩ : ByteArray)) else (if t184=4 then (impl_byteReader_value.j0 k (t184 == 4) t185 t186 t184 0 (⟨#[]⟩ : ByteArray)) else (impl_byteReader_value.j0 k (t184 == 5) t185 t186 t184 0 (⟨#[]⟩ : ByteArray))))))=some (r1,r2,r3,r4,r5):=H
 have A2:=Aside0.mk A20
 clear A20
 by_cases c3 : t184=1
 ·
  rw [if_pos c3] at H
  have c3b0 : (t184 == 1)=true:=beq_iff_eq.mpr c3
  have c3b1 : (t184 != 1)=false:=bne_eq_false_iff_eq.mpr c3
  clear c3
  replace H:=Option.bind_eq_some_iff.mp H
  obtain ⟨⟨t188,t189,t190⟩,A40,H⟩:=H
  replace H : (some (t184,t188,(⟨#[]⟩ : ByteArray),t189,t190))=some (r1,r2,r3,r4,r5):=H
  have A4:=Aside0.mk A40
  clear A40
  simp only [Option.some.injEq,Prod.mk.injEq] at H
  obtain ⟨rfl,rfl,rfl,rfl,rfl⟩:=H
  go_enter Try.func56,Try.ntmps56
  go_wp2_with (first|((with_reducible refine gate_dst (N:=2) rfl ?_);refine box_event ?hg (N:=2) ?hd (cs:=#[.int .i64 0,.int .i64 0,.string (⟨#[]⟩ : ByteArray)]) (t:=26) ?hr ?_;(case hd => rfl);(case hg => rfl);(case hr => first|(go_simp;done)|(go_simp;rfl));intro gb183 hg w5 hbox hb;have n0_:=Aside0.mk (IsS74.below (by repeat (first|(with_reducible first|exact HI0.out|apply IsS74.alloc|apply IsS74.drewN|apply IsS74.drew|apply IsS74.set_0|apply IsS74.set_1)|exact HI0.out)) hb);have n1_:=Aside0.mk (KeepBut.trans (by repeat (first|(with_reducible first|exact HK.out|apply KeepBut.set_|apply keep_drewN|apply keep_drew|apply keep_alloc)|exact HK.out)) (KeepBut.of_below hb g none) (.inl rfl));have n2_:=Aside0.mk (below_step (by repeat (first|(with_reducible first|exact HB.out|apply below_alloc|apply pw_below_drewN|apply below_drew1|refine below_set ?_ (IsS74.ge HI0.out))|exact HB.out)) hb);have n3_:=Aside0.mk (hbox);have n4_:=Aside0.mk ((by rw [hg];exact (keep_size (w:=w) (g:=g) (row:=none) (by repeat (first|(with_reducible first|exact HK.out|apply KeepBut.set_|apply keep_drewN|apply keep_drew|apply keep_alloc)|exact HK.out))) : w.heap.size≤gb183));have n5_:=Aside0.mk ((Nat.le_trans HW0.out (by rw [hg];exact (keep_size (w:=w) (g:=g) (row:=none) (by repeat (first|(with_reducible first|exact HK.out|apply KeepBut.set_|apply keep_drewN|apply keep_drew|apply keep_alloc)|exact HK.out))) : w.heap.size≤gb183) : w0.heap.size≤gb183));have n6_:=Aside0.mk ((by rw [hg];exact Nat.ne_of_lt (IsS74.lt (show IsS74 w0 _ g s0_0 s0_1 from by repeat (first|(with_reducible first|exact HI0.out|apply IsS74.alloc|apply IsS74.drewN|apply IsS74.drew|apply IsS74.set_0|apply IsS74.set_1)|exact HI0.out))) : g≠gb183));have n7_:=Aside0.mk ((by rw [hg];exact Nat.ne_of_gt (IsS74.lt (show IsS74 w0 _ g s0_0 s0_1 from by repeat (first|(with_reducible first|exact HI0.out|apply IsS74.alloc|apply IsS74.drewN|apply IsS74.drew|apply IsS74.set_0|apply IsS74.set_1)|exact HI0.out))) : gb183≠g));clear HI0;clear HK;clear HB;have HI0:=n0_;have HK:=n1_;have HB:=n2_;have BK183:=n3_;have GW183:=n4_;have GE183:=n5_;have NB0_183:=n6_;have NB183_0:=n7_;clear n0_ n1_ n2_ n3_ n4_ n5_ n6_ n7_;clear hb hbox hg)|((with_reducible refine gate_callee (f:=91) rfl ?_);refine goesL_ (some 5) rfl rfl Try.func91 (by kernel_rfl) rfl #[.pointer (some ⟨g,0,none⟩),.int .i64 1] rfl (by (try simp only [List.map_toArray,List.map_cons,List.map_nil]);first|done|rfl|(simp only [List.length_drop,List.length_take];rfl)|(simp only [gt_iff_lt,ge_iff_le,Int.ofNat_lt,Int.ofNat_le];rfl)) ?_;(with_reducible refine (impl_byteReader_num.calls k  g s0_0 s0_1 1 t184 t185 t186 w0 _ ?side1 ?side2 A2.out).mono ?_);(case side1 => repeat (first|(with_reducible first|exact HI0.out|apply IsS74.alloc|apply IsS74.drewN|apply IsS74.drew|apply IsS74.set_0|apply IsS74.set_1|refine IsS74.far ?_ NB0_183.out _)|exact HI0.out));(case side2 => repeat (first|(with_reducible first|exact HB.out|apply below_alloc|apply pw_below_drewN|apply below_drew1|refine below_set ?_ (IsS74.ge HI0.out)|refine below_set ?_ GE183.out)|exact HB.out));rintro e w6 ⟨rfl,hi,hb,hk⟩;refine ⟨_,rfl,?_⟩;have n0_:=Aside0.mk (KeepBut.blk hk (g':=gb183) (o:=.cells #[.int .i64 0,.int .i64 0,.string (⟨#[]⟩ : ByteArray)] 26 (0,0)) (by (with_reducible repeat (first|refine blk_drewN ?_ _|refine blk_drew ?_|refine blk_alloc ?_ _));exact BK183.out) NB183_0.out (by simp));have n1_:=Aside0.mk (KeepBut.trans (by repeat (first|(with_reducible first|exact HK.out|apply KeepBut.set_|apply keep_drewN|apply keep_drew|apply keep_alloc|refine keep_far ?_ GW183.out _)|exact HK.out)) hk (.inl rfl));have n2_:=Aside0.mk (hb);have n3_:=Aside0.mk (hi);clear BK183;clear HK;clear HB;clear HI0;have BK183:=n0_;have HK:=n1_;have HB:=n2_;have HI0:=n3_;clear n0_ n1_ n2_ n3_;(try clear hb);(try clear hb2);(try clear hk);(try clear hi))|((with_reducible refine gate_dst (N:=3) rfl ?_);refine box_event ?hg (N:=3) ?hd (cs:=#[.int .i64 0,.int .i64 0,.string (⟨#[]⟩ : ByteArray)]) (t:=26) ?hr ?_;(case hd => rfl);(case hg => rfl);(case hr => first|(go_simp;done)|(go_simp;rfl));intro gb187 hg w7 hbox hb;have n0_:=Aside0.mk (IsS74.below (by repeat (first|(with_reducible first|exact HI0.out|apply IsS74.alloc|apply IsS74.drewN|apply IsS74.drew|apply IsS74.set_0|apply IsS74.set_1|refine IsS74.far ?_ NB0_183.out _)|exact HI0.out)) hb);have n1_:=Aside0.mk (blk_below (g:=gb183) (o:=.cells #[.int .i64 0,.int .i64 0,.string (⟨#[]⟩ : ByteArray)] 26 (0,0)) (by (with_reducible repeat (first|refine blk_drewN ?_ _|refine blk_drew ?_|refine blk_alloc ?_ _));exact BK183.out) hb);have n2_:=Aside0.mk (KeepBut.trans (by repeat (first|(with_reducible first|exact HK.out|apply KeepBut.set_|apply keep_drewN|apply keep_drew|apply keep_alloc|refine keep_far ?_ GW183.out _)|exact HK.out)) (KeepBut.of_below hb g none) (.inl rfl));have n3_:=Aside0.mk (below_step (by repeat (first|(with_reducible first|exact HB.out|apply below_alloc|apply pw_below_drewN|apply below_drew1|refine below_set ?_ (IsS74.ge HI0.out)|refine below_set ?_ GE183.out)|exact HB.out)) hb);have n4_:=Aside0.mk (hbox);have n5_:=Aside0.mk ((by rw [hg];exact (keep_size (w:=w) (g:=g) (row:=none) (by repeat (first|(with_reducible first|exact HK.out|apply KeepBut.set_|apply keep_drewN|apply keep_drew|apply keep_alloc|refine keep_far ?_ GW183.out _)|exact HK.out))) : w.heap.size≤gb187));have n6_:=Aside0.mk ((Nat.le_trans HW0.out (by rw [hg];exact (keep_size (w:=w) (g:=g) (row:=none) (by repeat (first|(with_reducible first|exact HK.out|apply KeepBut.set_|apply keep_drewN|apply keep_drew|apply keep_alloc|refine keep_far ?_ GW183.out _)|exact HK.out))) : w.heap.size≤gb187) : w0.heap.size≤gb187));have n7_:=Aside0.mk ((by rw [hg];exact Nat.ne_of_lt (blk_lt (g:=gb183) (o:=.cells #[.int .i64 0,.int .i64 0,.string (⟨#[]⟩ : ByteArray)] 26 (0,0)) (by (with_reducible repeat (first|refine blk_drewN ?_ _|refine blk_drew ?_|refine blk_alloc ?_ _));exact BK183.out)) : gb183≠gb187));have n8_:=Aside0.mk ((by rw [hg];exact Nat.ne_of_gt (blk_lt (g:=gb183) (o:=.cells #[.int .i64 0,.int .i64 0,.string (⟨#[]⟩ : ByteArray)] 26 (0,0)) (by (with_reducible repeat (first|refine blk_drewN ?_ _|refine blk_drew ?_|refine blk_alloc ?_ _));exact BK183.out)) : gb187≠gb183));have n9_:=Aside0.mk ((by rw [hg];exact Nat.ne_of_lt (IsS74.lt (show IsS74 w0 _ g t185 t186 from by repeat (first|(with_reducible first|exact HI0.out|apply IsS74.alloc|apply IsS74.drewN|apply IsS74.drew|apply IsS74.set_0|apply IsS74.set_1|refine IsS74.far ?_ NB0_183.out _)|exact HI0.out))) : g≠gb187));have n10_:=Aside0.mk ((by rw [hg];exact Nat.ne_of_gt (IsS74.lt (show IsS74 w0 _ g t185 t186 from by repeat (first|(with_reducible first|exact HI0.out|apply IsS74.alloc|apply IsS74.drewN|apply IsS74.drew|apply IsS74.set_0|apply IsS74.set_1|refine IsS74.far ?_ NB0_183.out _)|exact HI0.out))) : gb187≠g));clear HI0;clear BK183;clear HK;clear HB;have HI0:=n0_;have BK183:=n1_;have HK:=n2_;have HB:=n3_;have BK187:=n4_;have GW187:=n5_;have GE187:=n6_;have NB183_187:=n7_;have NB187_183:=n8_;have NB0_187:=n9_;have NB187_0:=n10_;clear n0_ n1_ n2_ n3_ n4_ n5_ n6_ n7_ n8_ n9_ n10_;clear hb hbox hg;have hnb8:=NB187_183.out;have hnc8:=NB183_187.out;have hnb9:=NB187_0.out;have hnc9:=NB0_187.out;have hcz10_0 : w7.cell? ⟨gb187,0,none⟩=some (.int .i64 0):=(blk_cell BK187.out 0).trans rfl;have hcz10_1 : w7.cell? ⟨gb187,1,none⟩=some (.int .i64 0):=(blk_cell BK187.out 1).trans rfl;have hcz10_2 : w7.cell? ⟨gb187,2,none⟩=some (.string (⟨#[]⟩ : ByteArray)):=(blk_cell BK187.out 2).trans rfl;have hfz10_0:=blk_frozen BK187.out 0;have hfz10_1:=blk_frozen BK187.out 1;have hfz10_2:=blk_frozen BK187.out 2)|((with_reducible refine gate_callee (f:=91) rfl ?_);refine goesL_ (some 12) rfl rfl Try.func91 (by kernel_rfl) rfl #[.pointer (some ⟨g,0,none⟩),.int .i64 1] rfl (by (try simp only [List.map_toArray,List.map_cons,List.map_nil]);first|done|rfl|(simp only [List.length_drop,List.length_take];rfl)|(simp only [gt_iff_lt,ge_iff_le,Int.ofNat_lt,Int.ofNat_le];rfl)) ?_;(with_reducible refine (impl_byteReader_num.calls k  g t185 t186 1 t188 t189 t190 w0 _ ?side1 ?side2 A4.out).mono ?_);(case side1 => repeat (first|(with_reducible first|exact HI0.out|apply IsS74.alloc|apply IsS74.drewN|apply IsS74.drew|apply IsS74.set_0|apply IsS74.set_1|refine IsS74.far ?_ NB0_183.out _|refine IsS74.far ?_ NB0_187.out _)|exact HI0.out));(case side2 => repeat (first|(with_reducible first|exact HB.out|apply below_alloc|apply pw_below_drewN|apply below_drew1|refine below_set ?_ (IsS74.ge HI0.out)|refine below_set ?_ GE183.out|refine below_set ?_ GE187.out)|exact HB.out));rintro e w11 ⟨rfl,hi,hb,hk⟩;refine ⟨_,rfl,?_⟩;have n0_:=Aside0.mk (KeepBut.blk hk (g':=gb183) (o:=.cells #[.int .i64 0,.int .i64 0,.string (⟨#[]⟩ : ByteArray)] 26 (0,0)) (by (with_reducible repeat (first|refine blk_drewN ?_ _|refine blk_drew ?_|refine blk_alloc ?_ _));refine blk_far ?_ NB183_187.out _;(with_reducible repeat (first|refine blk_drewN ?_ _|refine blk_drew ?_|refine blk_alloc ?_ _));refine blk_far ?_ NB183_187.out _;(with_reducible repeat (first|refine blk_drewN ?_ _|refine blk_drew ?_|refine blk_alloc ?_ _));refine blk_far ?_ NB183_187.out _;(with_reducible repeat (first|refine blk_drewN ?_ _|refine blk_drew ?_|refine blk_alloc ?_ _));exact BK183.out) NB183_0.out (by simp));have n1_:=Aside0.mk (KeepBut.blk hk (g':=gb187) (o:=.cells #[.int .i64 t184,.int .i64 0,.string (⟨#[]⟩ : ByteArray)] 26 (0,0)) (by (with_reducible repeat (first|refine blk_drewN ?_ _|refine blk_drew ?_|refine blk_alloc ?_ _));refine blk_put (cs:=#[.int .i64 t184,.int .i64 0,.string (⟨#[]⟩ : ByteArray)]) ?_ 2 _ rfl;(with_reducible repeat (first|refine blk_drewN ?_ _|refine blk_drew ?_|refine blk_alloc ?_ _));refine blk_put (cs:=#[.int .i64 t184,.int .i64 0,.string (⟨#[]⟩ : ByteArray)]) ?_ 1 _ rfl;(with_reducible repeat (first|refine blk_drewN ?_ _|refine blk_drew ?_|refine blk_alloc ?_ _));refine blk_put (cs:=#[.int .i64 0,.int .i64 0,.string (⟨#[]⟩ : ByteArray)]) ?_ 0 _ rfl;(with_reducible repeat (first|refine blk_drewN ?_ _|refine blk_drew ?_|refine blk_alloc ?_ _));exact BK187.out) NB187_0.out (by simp));have n2_:=Aside0.mk (KeepBut.trans (by repeat (first|(with_reducible first|exact HK.out|apply KeepBut.set_|apply keep_drewN|apply keep_drew|apply keep_alloc|refine keep_far ?_ GW183.out _|refine keep_far ?_ GW187.out _)|exact HK.out)) hk (.inl rfl));have n3_:=Aside0.mk (hb);have n4_:=Aside0.mk (hi);clear BK183;clear BK187;clear HK;clear HB;clear HI0;have BK183:=n0_;have BK187:=n1_;have HK:=n2_;have HB:=n3_;have HI0:=n4_;clear n0_ n1_ n2_ n3_ n4_;(try clear hb);(try clear hb2);(try clear hk);(try clear hi);have hcz12_0 : w11.cell? ⟨gb187,0,none⟩=some (.int .i64 t184):=(blk_cell BK187.out 0).trans rfl;have hcz12_1 : w11.cell? ⟨gb187,1,none⟩=some (.int .i64 0):=(blk_cell BK187.out 1).trans rfl;have hcz12_2 : w11.cell? ⟨gb187,2,none⟩=some (.string (⟨#[]⟩ : ByteArray)):=(blk_cell BK187.out 2).trans rfl;have hfz12_0:=blk_frozen BK187.out 0;have hfz12_1:=blk_frozen BK187.out 1;have hfz12_2:=blk_frozen BK187.out 2;have hnb13:=NB183_0.out;have hnc13:=NB0_183.out;have hcz14_0 : w11.cell? ⟨gb183,0,none⟩=some (.int .i64 0):=(blk_cell BK183.out 0).trans rfl;have hcz14_1 : w11.cell? ⟨gb183,1,none⟩=some (.int .i64 0):=(blk_cell BK183.out 1).trans rfl;have hcz14_2 : w11.cell? ⟨gb183,2,none⟩=some (.string (⟨#[]⟩ : ByteArray)):=(blk_cell BK183.out 2).trans rfl;have hfz14_0:=blk_frozen BK183.out 0;have hfz14_1:=blk_frozen BK183.out 1;have hfz14_2:=blk_frozen BK183.out 2))
  refine bodyPost_ret (results_cell_row rfl _ _ gb183 26 #[.int .i64 t184,.int .i64 t188,.string (⟨#[]⟩ : ByteArray)] (0,0) _ rfl (by (with_reducible repeat (first|refine blk_drewN ?_ _|refine blk_drew ?_|refine blk_alloc ?_ _));refine blk_put (cs:=#[.int .i64 t184,.int .i64 t188,.string (⟨#[]⟩ : ByteArray)]) ?_ 2 _ rfl;(with_reducible repeat (first|refine blk_drewN ?_ _|refine blk_drew ?_|refine blk_alloc ?_ _));refine blk_put (cs:=#[.int .i64 t184,.int .i64 0,.string (⟨#[]⟩ : ByteArray)]) ?_ 1 _ rfl;(with_reducible repeat (first|refine blk_drewN ?_ _|refine blk_drew ?_|refine blk_alloc ?_ _));refine blk_put (cs:=#[.int .i64 0,.int .i64 0,.string (⟨#[]⟩ : ByteArray)]) ?_ 0 _ rfl;(with_reducible repeat (first|refine blk_drewN ?_ _|refine blk_drew ?_|refine blk_alloc ?_ _));refine blk_far ?_ NB183_187.out _;(with_reducible repeat (first|refine blk_drewN ?_ _|refine blk_drew ?_|refine blk_alloc ?_ _));exact BK183.out) Try.underlying26 rfl (by kernel_rfl)) rfl ?_
  exact ⟨by first|rfl|(simp [errW_none,errW_some] <;> rfl)|(simp [*,errW_none,errW_some] <;> rfl),by repeat (first|(with_reducible first|exact HI0.out|apply IsS74.alloc|apply IsS74.drewN|apply IsS74.drew|apply IsS74.set_0|apply IsS74.set_1|refine IsS74.far ?_ NB0_183.out _|refine IsS74.far ?_ NB0_187.out _)|exact HI0.out),by repeat (first|(with_reducible first|exact HB.out|apply below_alloc|apply pw_below_drewN|apply below_drew1|refine below_set ?_ (IsS74.ge HI0.out)|refine below_set ?_ GE183.out|refine below_set ?_ GE187.out)|exact HB.out),by repeat (first|(with_reducible first|exact HK.out|apply KeepBut.set_|apply keep_drewN|apply keep_drew|apply keep_alloc|refine keep_far ?_ GW183.out _|refine keep_far ?_ GW187.out _)|exact HK.out)⟩
 ·
  rw [if_neg c3] at H
  have c3b0 : (t184 == 1)=false:=beq_eq_false_iff_ne.mpr c3
  have c3b1 : (t184 != 1)=true:=bne_iff_ne.mpr c3
  by_cases c15 : t184=2
  ·
   rw [if_pos c15] at H
   have c15b0 : (t184 == 2)=true:=beq_iff_eq.mpr c15
   have c15b1 : (t184 != 2)=false:=bne_eq_false_iff_eq.mpr c15
   clear c15
   replace H:=Option.bind_eq_some_iff.mp H
   obtain ⟨⟨t191,t192,t193⟩,A160,H⟩:=H
   replace H : (some (t184,wrap64 (t191 - 4611686018427387904),(⟨#[]⟩ : ByteArray),t192,t193))=some (r1,r2,r3,r4,r5):=H
   have A16:=Aside0.mk A160
   clear A160
   simp only [Option.some.injEq,Prod.mk.injEq] at H
   obtain ⟨rfl,rfl,rfl,rfl,rfl⟩:=H
   go_enter Try.func56,Try.ntmps56
   go_wp2_with (first|((with_reducible refine gate_dst (N:=2) rfl ?_);refine box_event ?hg (N:=2) ?hd (cs:=#[.int .i64 0,.int .i64 0,.string (⟨#[]⟩ : ByteArray)]) (t:=26) ?hr ?_;(case hd => rfl);(case hg => rfl);(case hr => first|(go_simp;done)|(go_simp;rfl));intro gb183 hg w17 hbox hb;have n0_:=Aside0.mk (IsS74.below (by repeat (first|(with_reducible first|exact HI0.out|apply IsS74.alloc|apply IsS74.drewN|apply IsS74.drew|apply IsS74.set_0|apply IsS74.set_1)|exact HI0.out)) hb);have n1_:=Aside0.mk (KeepBut.trans (by repeat (first|(with_reducible first|exact HK.out|apply KeepBut.set_|apply keep_drewN|apply keep_drew|apply keep_alloc)|exact HK.out)) (KeepBut.of_below hb g none) (.inl rfl));have n2_:=Aside0.mk (below_step (by repeat (first|(with_reducible first|exact HB.out|apply below_alloc|apply pw_below_drewN|apply below_drew1|refine below_set ?_ (IsS74.ge HI0.out))|exact HB.out)) hb);have n3_:=Aside0.mk (hbox);have n4_:=Aside0.mk ((by rw [hg];exact (keep_size (w:=w) (g:=g) (row:=none) (by repeat (first|(with_reducible first|exact HK.out|apply KeepBut.set_|apply keep_drewN|apply keep_drew|apply keep_alloc)|exact HK.out))) : w.heap.size≤gb183));have n5_:=Aside0.mk ((Nat.le_trans HW0.out (by rw [hg];exact (keep_size (w:=w) (g:=g) (row:=none) (by repeat (first|(with_reducible first|exact HK.out|apply KeepBut.set_|apply keep_drewN|apply keep_drew|apply keep_alloc)|exact HK.out))) : w.heap.size≤gb183) : w0.heap.size≤gb183));have n6_:=Aside0.mk ((by rw [hg];exact Nat.ne_of_lt (IsS74.lt (show IsS74 w0 _ g s0_0 s0_1 from by repeat (first|(with_reducible first|exact HI0.out|apply IsS74.alloc|apply IsS74.drewN|apply IsS74.drew|apply IsS74.set_0|apply IsS74.set_1)|exact HI0.out))) : g≠gb183));have n7_:=Aside0.mk ((by rw [hg];exact Nat.ne_of_gt (IsS74.lt (show IsS74 w0 _ g s0_0 s0_1 from by repeat (first|(with_reducible first|exact HI0.out|apply IsS74.alloc|apply IsS74.drewN|apply IsS74.drew|apply IsS74.set_0|apply IsS74.set_1)|exact HI0.out))) : gb183≠g));clear HI0;clear HK;clear HB;have HI0:=n0_;have HK:=n1_;have HB:=n2_;have BK183:=n3_;have GW183:=n4_;have GE183:=n5_;have NB0_183:=n6_;have NB183_0:=n7_;clear n0_ n1_ n2_ n3_ n4_ n5_ n6_ n7_;clear hb hbox hg)|((with_reducible refine gate_callee (f:=91) rfl ?_);refine goesL_ (some 5) rfl rfl Try.func91 (by kernel_rfl) rfl #[.pointer (some ⟨g,0,none⟩),.int .i64 1] rfl (by (try simp only [List.map_toArray,List.map_cons,List.map_nil]);first|done|rfl|(simp only [List.length_drop,List.length_take];rfl)|(simp only [gt_iff_lt,ge_iff_le,Int.ofNat_lt,Int.ofNat_le];rfl)) ?_;(with_reducible refine (impl_byteReader_num.calls k  g s0_0 s0_1 1 t184 t185 t186 w0 _ ?side1 ?side2 A2.out).mono ?_);(case side1 => repeat (first|(with_reducible first|exact HI0.out|apply IsS74.alloc|apply IsS74.drewN|apply IsS74.drew|apply IsS74.set_0|apply IsS74.set_1|refine IsS74.far ?_ NB0_183.out _)|exact HI0.out));(case side2 => repeat (first|(with_reducible first|exact HB.out|apply below_alloc|apply pw_below_drewN|apply below_drew1|refine below_set ?_ (IsS74.ge HI0.out)|refine below_set ?_ GE183.out)|exact HB.out));rintro e w18 ⟨rfl,hi,hb,hk⟩;refine ⟨_,rfl,?_⟩;have n0_:=Aside0.mk (KeepBut.blk hk (g':=gb183) (o:=.cells #[.int .i64 0,.int .i64 0,.string (⟨#[]⟩ : ByteArray)] 26 (0,0)) (by (with_reducible repeat (first|refine blk_drewN ?_ _|refine blk_drew ?_|refine blk_alloc ?_ _));exact BK183.out) NB183_0.out (by simp));have n1_:=Aside0.mk (KeepBut.trans (by repeat (first|(with_reducible first|exact HK.out|apply KeepBut.set_|apply keep_drewN|apply keep_drew|apply keep_alloc|refine keep_far ?_ GW183.out _)|exact HK.out)) hk (.inl rfl));have n2_:=Aside0.mk (hb);have n3_:=Aside0.mk (hi);clear BK183;clear HK;clear HB;clear HI0;have BK183:=n0_;have HK:=n1_;have HB:=n2_;have HI0:=n3_;clear n0_ n1_ n2_ n3_;(try clear hb);(try clear hb2);(try clear hk);(try clear hi))|((with_reducible refine gate_dst (N:=3) rfl ?_);refine box_event ?hg (N:=3) ?hd (cs:=#[.int .i64 0,.int .i64 0,.string (⟨#[]⟩ : ByteArray)]) (t:=26) ?hr ?_;(case hd => rfl);(case hg => rfl);(case hr => first|(go_simp;done)|(go_simp;rfl));intro gb187 hg w19 hbox hb;have n0_:=Aside0.mk (IsS74.below (by repeat (first|(with_reducible first|exact HI0.out|apply IsS74.alloc|apply IsS74.drewN|apply IsS74.drew|apply IsS74.set_0|apply IsS74.set_1|refine IsS74.far ?_ NB0_183.out _)|exact HI0.out)) hb);have n1_:=Aside0.mk (blk_below (g:=gb183) (o:=.cells #[.int .i64 0,.int .i64 0,.string (⟨#[]⟩ : ByteArray)] 26 (0,0)) (by (with_reducible repeat (first|refine blk_drewN ?_ _|refine blk_drew ?_|refine blk_alloc ?_ _));exact BK183.out) hb);have n2_:=Aside0.mk (KeepBut.trans (by repeat (first|(with_reducible first|exact HK.out|apply KeepBut.set_|apply keep_drewN|apply keep_drew|apply keep_alloc|refine keep_far ?_ GW183.out _)|exact HK.out)) (KeepBut.of_below hb g none) (.inl rfl));have n3_:=Aside0.mk (below_step (by repeat (first|(with_reducible first|exact HB.out|apply below_alloc|apply pw_below_drewN|apply below_drew1|refine below_set ?_ (IsS74.ge HI0.out)|refine below_set ?_ GE183.out)|exact HB.out)) hb);have n4_:=Aside0.mk (hbox);have n5_:=Aside0.mk ((by rw [hg];exact (keep_size (w:=w) (g:=g) (row:=none) (by repeat (first|(with_reducible first|exact HK.out|apply KeepBut.set_|apply keep_drewN|apply keep_drew|apply keep_alloc|refine keep_far ?_ GW183.out _)|exact HK.out))) : w.heap.size≤gb187));have n6_:=Aside0.mk ((Nat.le_trans HW0.out (by rw [hg];exact (keep_size (w:=w) (g:=g) (row:=none) (by repeat (first|(with_reducible first|exact HK.out|apply KeepBut.set_|apply keep_drewN|apply keep_drew|apply keep_alloc|refine keep_far ?_ GW183.out _)|exact HK.out))) : w.heap.size≤gb187) : w0.heap.size≤gb187));have n7_:=Aside0.mk ((by rw [hg];exact Nat.ne_of_lt (blk_lt (g:=gb183) (o:=.cells #[.int .i64 0,.int .i64 0,.string (⟨#[]⟩ : ByteArray)] 26 (0,0)) (by (with_reducible repeat (first|refine blk_drewN ?_ _|refine blk_drew ?_|refine blk_alloc ?_ _));exact BK183.out)) : gb183≠gb187));have n8_:=Aside0.mk ((by rw [hg];exact Nat.ne_of_gt (blk_lt (g:=gb183) (o:=.cells #[.int .i64 0,.int .i64 0,.string (⟨#[]⟩ : ByteArray)] 26 (0,0)) (by (with_reducible repeat (first|refine blk_drewN ?_ _|refine blk_drew ?_|refine blk_alloc ?_ _));exact BK183.out)) : gb187≠gb183));have n9_:=Aside0.mk ((by rw [hg];exact Nat.ne_of_lt (IsS74.lt (show IsS74 w0 _ g t185 t186 from by repeat (first|(with_reducible first|exact HI0.out|apply IsS74.alloc|apply IsS74.drewN|apply IsS74.drew|apply IsS74.set_0|apply IsS74.set_1|refine IsS74.far ?_ NB0_183.out _)|exact HI0.out))) : g≠gb187));have n10_:=Aside0.mk ((by rw [hg];exact Nat.ne_of_gt (IsS74.lt (show IsS74 w0 _ g t185 t186 from by repeat (first|(with_reducible first|exact HI0.out|apply IsS74.alloc|apply IsS74.drewN|apply IsS74.drew|apply IsS74.set_0|apply IsS74.set_1|refine IsS74.far ?_ NB0_183.out _)|exact HI0.out))) : gb187≠g));clear HI0;clear BK183;clear HK;clear HB;have HI0:=n0_;have BK183:=n1_;have HK:=n2_;have HB:=n3_;have BK187:=n4_;have GW187:=n5_;have GE187:=n6_;have NB183_187:=n7_;have NB187_183:=n8_;have NB0_187:=n9_;have NB187_0:=n10_;clear n0_ n1_ n2_ n3_ n4_ n5_ n6_ n7_ n8_ n9_ n10_;clear hb hbox hg;have hnb20:=NB187_183.out;have hnc20:=NB183_187.out;have hnb21:=NB187_0.out;have hnc21:=NB0_187.out;have hcz22_0 : w19.cell? ⟨gb187,0,none⟩=some (.int .i64 0):=(blk_cell BK187.out 0).trans rfl;have hcz22_1 : w19.cell? ⟨gb187,1,none⟩=some (.int .i64 0):=(blk_cell BK187.out 1).trans rfl;have hcz22_2 : w19.cell? ⟨gb187,2,none⟩=some (.string (⟨#[]⟩ : ByteArray)):=(blk_cell BK187.out 2).trans rfl;have hfz22_0:=blk_frozen BK187.out 0;have hfz22_1:=blk_frozen BK187.out 1;have hfz22_2:=blk_frozen BK187.out 2)|((with_reducible refine gate_callee (f:=91) rfl ?_);refine goesL_ (some 17) rfl rfl Try.func91 (by kernel_rfl) rfl #[.pointer (some ⟨g,0,none⟩),.int .i64 8] rfl (by (try simp only [List.map_toArray,List.map_cons,List.map_nil]);first|done|rfl|(simp only [List.length_drop,List.length_take];rfl)|(simp only [gt_iff_lt,ge_iff_le,Int.ofNat_lt,Int.ofNat_le];rfl)) ?_;(with_reducible refine (impl_byteReader_num.calls k  g t185 t186 8 t191 t192 t193 w0 _ ?side1 ?side2 A16.out).mono ?_);(case side1 => repeat (first|(with_reducible first|exact HI0.out|apply IsS74.alloc|apply IsS74.drewN|apply IsS74.drew|apply IsS74.set_0|apply IsS74.set_1|refine IsS74.far ?_ NB0_183.out _|refine IsS74.far ?_ NB0_187.out _)|exact HI0.out));(case side2 => repeat (first|(with_reducible first|exact HB.out|apply below_alloc|apply pw_below_drewN|apply below_drew1|refine below_set ?_ (IsS74.ge HI0.out)|refine below_set ?_ GE183.out|refine below_set ?_ GE187.out)|exact HB.out));rintro e w23 ⟨rfl,hi,hb,hk⟩;refine ⟨_,rfl,?_⟩;have n0_:=Aside0.mk (KeepBut.blk hk (g':=gb183) (o:=.cells #[.int .i64 0,.int .i64 0,.string (⟨#[]⟩ : ByteArray)] 26 (0,0)) (by (with_reducible repeat (first|refine blk_drewN ?_ _|refine blk_drew ?_|refine blk_alloc ?_ _));refine blk_far ?_ NB183_187.out _;(with_reducible repeat (first|refine blk_drewN ?_ _|refine blk_drew ?_|refine blk_alloc ?_ _));refine blk_far ?_ NB183_187.out _;(with_reducible repeat (first|refine blk_drewN ?_ _|refine blk_drew ?_|refine blk_alloc ?_ _));refine blk_far ?_ NB183_187.out _;(with_reducible repeat (first|refine blk_drewN ?_ _|refine blk_drew ?_|refine blk_alloc ?_ _));exact BK183.out) NB183_0.out (by simp));have n1_:=Aside0.mk (KeepBut.blk hk (g':=gb187) (o:=.cells #[.int .i64 t184,.int .i64 0,.string (⟨#[]⟩ : ByteArray)] 26 (0,0)) (by (with_reducible repeat (first|refine blk_drewN ?_ _|refine blk_drew ?_|refine blk_alloc ?_ _));refine blk_put (cs:=#[.int .i64 t184,.int .i64 0,.string (⟨#[]⟩ : ByteArray)]) ?_ 2 _ rfl;(with_reducible repeat (first|refine blk_drewN ?_ _|refine blk_drew ?_|refine blk_alloc ?_ _));refine blk_put (cs:=#[.int .i64 t184,.int .i64 0,.string (⟨#[]⟩ : ByteArray)]) ?_ 1 _ rfl;(with_reducible repeat (first|refine blk_drewN ?_ _|refine blk_drew ?_|refine blk_alloc ?_ _));refine blk_put (cs:=#[.int .i64 0,.int .i64 0,.string (⟨#[]⟩ : ByteArray)]) ?_ 0 _ rfl;(with_reducible repeat (first|refine blk_drewN ?_ _|refine blk_drew ?_|refine blk_alloc ?_ _));exact BK187.out) NB187_0.out (by simp));have n2_:=Aside0.mk (KeepBut.trans (by repeat (first|(with_reducible first|exact HK.out|apply KeepBut.set_|apply keep_drewN|apply keep_drew|apply keep_alloc|refine keep_far ?_ GW183.out _|refine keep_far ?_ GW187.out _)|exact HK.out)) hk (.inl rfl));have n3_:=Aside0.mk (hb);have n4_:=Aside0.mk (hi);clear BK183;clear BK187;clear HK;clear HB;clear HI0;have BK183:=n0_;have BK187:=n1_;have HK:=n2_;have HB:=n3_;have HI0:=n4_;clear n0_ n1_ n2_ n3_ n4_;(try clear hb);(try clear hb2);(try clear hk);(try clear hi);have hcz24_0 : w23.cell? ⟨gb187,0,none⟩=some (.int .i64 t184):=(blk_cell BK187.out 0).trans rfl;have hcz24_1 : w23.cell? ⟨gb187,1,none⟩=some (.int .i64 0):=(blk_cell BK187.out 1).trans rfl;have hcz24_2 : w23.cell? ⟨gb187,2,none⟩=some (.string (⟨#[]⟩ : ByteArray)):=(blk_cell BK187.out 2).trans rfl;have hfz24_0:=blk_frozen BK187.out 0;have hfz24_1:=blk_frozen BK187.out 1;have hfz24_2:=blk_frozen BK187.out 2;have hnb25:=NB183_0.out;have hnc25:=NB0_183.out;have hcz26_0 : w23.cell? ⟨gb183,0,none⟩=some (.int .i64 0):=(blk_cell BK183.out 0).trans rfl;have hcz26_1 : w23.cell? ⟨gb183,1,none⟩=some (.int .i64 0):=(blk_cell BK183.out 1).trans rfl;have hcz26_2 : w23.cell? ⟨gb183,2,none⟩=some (.string (⟨#[]⟩ : ByteArray)):=(blk_cell BK183.out 2).trans rfl;have hfz26_0:=blk_frozen BK183.out 0;have hfz26_1:=blk_frozen BK183.out 1;have hfz26_2:=blk_frozen BK183.out 2))
   refine bodyPost_ret (results_cell_row rfl _ _ gb183 26 #[.int .i64 t184,.int .i64 (wrap64 (t191 - 4611686018427387904)),.string (⟨#[]⟩ : ByteArray)] (0,0) _ rfl (by (with_reducible repeat (first|refine blk_drewN ?_ _|refine blk_drew ?_|refine blk_alloc ?_ _));refine blk_put (cs:=#[.int .i64 t184,.int .i64 (wrap64 (t191 - 4611686018427387904)),.string (⟨#[]⟩ : ByteArray)]) ?_ 2 _ rfl;(with_reducible repeat (first|refine blk_drewN ?_ _|refine blk_drew ?_|refine blk_alloc ?_ _));refine blk_put (cs:=#[.int .i64 t184,.int .i64 0,.string (⟨#[]⟩ : ByteArray)]) ?_ 1 _ rfl;(with_reducible repeat (first|refine blk_drewN ?_ _|refine blk_drew ?_|refine blk_alloc ?_ _));refine blk_put (cs:=#[.int .i64 0,.int .i64 0,.string (⟨#[]⟩ : ByteArray)]) ?_ 0 _ rfl;(with_reducible repeat (first|refine blk_drewN ?_ _|refine blk_drew ?_|refine blk_alloc ?_ _));refine blk_far ?_ NB183_187.out _;(with_reducible repeat (first|refine blk_drewN ?_ _|refine blk_drew ?_|refine blk_alloc ?_ _));exact BK183.out) Try.underlying26 rfl (by kernel_rfl)) rfl ?_
   exact ⟨by first|rfl|(simp [errW_none,errW_some] <;> rfl)|(simp [*,errW_none,errW_some] <;> rfl),by repeat (first|(with_reducible first|exact HI0.out|apply IsS74.alloc|apply IsS74.drewN|apply IsS74.drew|apply IsS74.set_0|apply IsS74.set_1|refine IsS74.far ?_ NB0_183.out _|refine IsS74.far ?_ NB0_187.out _)|exact HI0.out),by repeat (first|(with_reducible first|exact HB.out|apply below_alloc|apply pw_below_drewN|apply below_drew1|refine below_set ?_ (IsS74.ge HI0.out)|refine below_set ?_ GE183.out|refine below_set ?_ GE187.out)|exact HB.out),by repeat (first|(with_reducible first|exact HK.out|apply KeepBut.set_|apply keep_drewN|apply keep_drew|apply keep_alloc|refine keep_far ?_ GW183.out _|refine keep_far ?_ GW187.out _)|exact HK.out)⟩
  ·
   rw [if_neg c15] at H
   have c15b0 : (t184 == 2)=false:=beq_eq_false_iff_ne.mpr c15
   have c15b1 : (t184 != 2)=true:=bne_iff_ne.mpr c15
   have HC27:=Aside0.mk H
   clear H
   go_enter Try.func56,Try.ntmps56
   go_upto_if 20 with (first|((with_reducible refine gate_dst (N:=2) rfl ?_);refine box_event ?hg (N:=2) ?hd (cs:=#[.int .i64 0,.int .i64 0,.string (⟨#[]⟩ : ByteArray)]) (t:=26) ?hr ?_;(case hd => rfl);(case hg => rfl);(case hr => first|(go_simp;done)|(go_simp;rfl));intro gb183 hg w28 hbox hb;have n0_:=Aside0.mk (IsS74.below (by repeat (first|(with_reducible first|exact HI0.out|apply IsS74.alloc|apply IsS74.drewN|apply IsS74.drew|apply IsS74.set_0|apply IsS74.set_1)|exact HI0.out)) hb);have n1_:=Aside0.mk (KeepBut.trans (by repeat (first|(with_reducible first|exact HK.out|apply KeepBut.set_|apply keep_drewN|apply keep_drew|apply keep_alloc)|exact HK.out)) (KeepBut.of_below hb g none) (.inl rfl));have n2_:=Aside0.mk (below_step (by repeat (first|(with_reducible first|exact HB.out|apply below_alloc|apply pw_below_drewN|apply below_drew1|refine below_set ?_ (IsS74.ge HI0.out))|exact HB.out)) hb);have n3_:=Aside0.mk (hbox);have n4_:=Aside0.mk ((by rw [hg];exact (keep_size (w:=w) (g:=g) (row:=none) (by repeat (first|(with_reducible first|exact HK.out|apply KeepBut.set_|apply keep_drewN|apply keep_drew|apply keep_alloc)|exact HK.out))) : w.heap.size≤gb183));have n5_:=Aside0.mk ((Nat.le_trans HW0.out (by rw [hg];exact (keep_size (w:=w) (g:=g) (row:=none) (by repeat (first|(with_reducible first|exact HK.out|apply KeepBut.set_|apply keep_drewN|apply keep_drew|apply keep_alloc)|exact HK.out))) : w.heap.size≤gb183) : w0.heap.size≤gb183));have n6_:=Aside0.mk ((by rw [hg];exact Nat.ne_of_lt (IsS74.lt (show IsS74 w0 _ g s0_0 s0_1 from by repeat (first|(with_reducible first|exact HI0.out|apply IsS74.alloc|apply IsS74.drewN|apply IsS74.drew|apply IsS74.set_0|apply IsS74.set_1)|exact HI0.out))) : g≠gb183));have n7_:=Aside0.mk ((by rw [hg];exact Nat.ne_of_gt (IsS74.lt (show IsS74 w0 _ g s0_0 s0_1 from by repeat (first|(with_reducible first|exact HI0.out|apply IsS74.alloc|apply IsS74.drewN|apply IsS74.drew|apply IsS74.set_0|apply IsS74.set_1)|exact HI0.out))) : gb183≠g));clear HI0;clear HK;clear HB;have HI0:=n0_;have HK:=n1_;have HB:=n2_;have BK183:=n3_;have GW183:=n4_;have GE183:=n5_;have NB0_183:=n6_;have NB183_0:=n7_;clear n0_ n1_ n2_ n3_ n4_ n5_ n6_ n7_;clear hb hbox hg)|((with_reducible refine gate_callee (f:=91) rfl ?_);refine goesL_ (some 5) rfl rfl Try.func91 (by kernel_rfl) rfl #[.pointer (some ⟨g,0,none⟩),.int .i64 1] rfl (by (try simp only [List.map_toArray,List.map_cons,List.map_nil]);first|done|rfl|(simp only [List.length_drop,List.length_take];rfl)|(simp only [gt_iff_lt,ge_iff_le,Int.ofNat_lt,Int.ofNat_le];rfl)) ?_;(with_reducible refine (impl_byteReader_num.calls k  g s0_0 s0_1 1 t184 t185 t186 w0 _ ?side1 ?side2 A2.out).mono ?_);(case side1 => repeat (first|(with_reducible first|exact HI0.out|apply IsS74.alloc|apply IsS74.drewN|apply IsS74.drew|apply IsS74.set_0|apply IsS74.set_1|refine IsS74.far ?_ NB0_183.out _)|exact HI0.out));(case side2 => repeat (first|(with_reducible first|exact HB.out|apply below_alloc|apply pw_below_drewN|apply below_drew1|refine below_set ?_ (IsS74.ge HI0.out)|refine below_set ?_ GE183.out)|exact HB.out));rintro e w29 ⟨rfl,hi,hb,hk⟩;refine ⟨_,rfl,?_⟩;have n0_:=Aside0.mk (KeepBut.blk hk (g':=gb183) (o:=.cells #[.int .i64 0,.int .i64 0,.string (⟨#[]⟩ : ByteArray)] 26 (0,0)) (by (with_reducible repeat (first|refine blk_drewN ?_ _|refine blk_drew ?_|refine blk_alloc ?_ _));exact BK183.out) NB183_0.out (by simp));have n1_:=Aside0.mk (KeepBut.trans (by repeat (first|(with_reducible first|exact HK.out|apply KeepBut.set_|apply keep_drewN|apply keep_drew|apply keep_alloc|refine keep_far ?_ GW183.out _)|exact HK.out)) hk (.inl rfl));have n2_:=Aside0.mk (hb);have n3_:=Aside0.mk (hi);clear BK183;clear HK;clear HB;clear HI0;have BK183:=n0_;have HK:=n1_;have HB:=n2_;have HI0:=n3_;clear n0_ n1_ n2_ n3_;(try clear hb);(try clear hb2);(try clear hk);(try clear hi))|((with_reducible refine gate_dst (N:=3) rfl ?_);refine box_event ?hg (N:=3) ?hd (cs:=#[.int .i64 0,.int .i64 0,.string (⟨#[]⟩ : ByteArray)]) (t:=26) ?hr ?_;(case hd => rfl);(case hg => rfl);(case hr => first|(go_simp;done)|(go_simp;rfl));intro gb187 hg w30 hbox hb;have n0_:=Aside0.mk (IsS74.below (by repeat (first|(with_reducible first|exact HI0.out|apply IsS74.alloc|apply IsS74.drewN|apply IsS74.drew|apply IsS74.set_0|apply IsS74.set_1|refine IsS74.far ?_ NB0_183.out _)|exact HI0.out)) hb);have n1_:=Aside0.mk (blk_below (g:=gb183) (o:=.cells #[.int .i64 0,.int .i64 0,.string (⟨#[]⟩ : ByteArray)] 26 (0,0)) (by (with_reducible repeat (first|refine blk_drewN ?_ _|refine blk_drew ?_|refine blk_alloc ?_ _));exact BK183.out) hb);have n2_:=Aside0.mk (KeepBut.trans (by repeat (first|(with_reducible first|exact HK.out|apply KeepBut.set_|apply keep_drewN|apply keep_drew|apply keep_alloc|refine keep_far ?_ GW183.out _)|exact HK.out)) (KeepBut.of_below hb g none) (.inl rfl));have n3_:=Aside0.mk (below_step (by repeat (first|(with_reducible first|exact HB.out|apply below_alloc|apply pw_below_drewN|apply below_drew1|refine below_set ?_ (IsS74.ge HI0.out)|refine below_set ?_ GE183.out)|exact HB.out)) hb);have n4_:=Aside0.mk (hbox);have n5_:=Aside0.mk ((by rw [hg];exact (keep_size (w:=w) (g:=g) (row:=none) (by repeat (first|(with_reducible first|exact HK.out|apply KeepBut.set_|apply keep_drewN|apply keep_drew|apply keep_alloc|refine keep_far ?_ GW183.out _)|exact HK.out))) : w.heap.size≤gb187));have n6_:=Aside0.mk ((Nat.le_trans HW0.out (by rw [hg];exact (keep_size (w:=w) (g:=g) (row:=none) (by repeat (first|(with_reducible first|exact HK.out|apply KeepBut.set_|apply keep_drewN|apply keep_drew|apply keep_alloc|refine keep_far ?_ GW183.out _)|exact HK.out))) : w.heap.size≤gb187) : w0.heap.size≤gb187));have n7_:=Aside0.mk ((by rw [hg];exact Nat.ne_of_lt (blk_lt (g:=gb183) (o:=.cells #[.int .i64 0,.int .i64 0,.string (⟨#[]⟩ : ByteArray)] 26 (0,0)) (by (with_reducible repeat (first|refine blk_drewN ?_ _|refine blk_drew ?_|refine blk_alloc ?_ _));exact BK183.out)) : gb183≠gb187));have n8_:=Aside0.mk ((by rw [hg];exact Nat.ne_of_gt (blk_lt (g:=gb183) (o:=.cells #[.int .i64 0,.int .i64 0,.string (⟨#[]⟩ : ByteArray)] 26 (0,0)) (by (with_reducible repeat (first|refine blk_drewN ?_ _|refine blk_drew ?_|refine blk_alloc ?_ _));exact BK183.out)) : gb187≠gb183));have n9_:=Aside0.mk ((by rw [hg];exact Nat.ne_of_lt (IsS74.lt (show IsS74 w0 _ g t185 t186 from by repeat (first|(with_reducible first|exact HI0.out|apply IsS74.alloc|apply IsS74.drewN|apply IsS74.drew|apply IsS74.set_0|apply IsS74.set_1|refine IsS74.far ?_ NB0_183.out _)|exact HI0.out))) : g≠gb187));have n10_:=Aside0.mk ((by rw [hg];exact Nat.ne_of_gt (IsS74.lt (show IsS74 w0 _ g t185 t186 from by repeat (first|(with_reducible first|exact HI0.out|apply IsS74.alloc|apply IsS74.drewN|apply IsS74.drew|apply IsS74.set_0|apply IsS74.set_1|refine IsS74.far ?_ NB0_183.out _)|exact HI0.out))) : gb187≠g));clear HI0;clear BK183;clear HK;clear HB;have HI0:=n0_;have BK183:=n1_;have HK:=n2_;have HB:=n3_;have BK187:=n4_;have GW187:=n5_;have GE187:=n6_;have NB183_187:=n7_;have NB187_183:=n8_;have NB0_187:=n9_;have NB187_0:=n10_;clear n0_ n1_ n2_ n3_ n4_ n5_ n6_ n7_ n8_ n9_ n10_;clear hb hbox hg;have hnb31:=NB187_183.out;have hnc31:=NB183_187.out;have hnb32:=NB187_0.out;have hnc32:=NB0_187.out;have hcz33_0 : w30.cell? ⟨gb187,0,none⟩=some (.int .i64 0):=(blk_cell BK187.out 0).trans rfl;have hcz33_1 : w30.cell? ⟨gb187,1,none⟩=some (.int .i64 0):=(blk_cell BK187.out 1).trans rfl;have hcz33_2 : w30.cell? ⟨gb187,2,none⟩=some (.string (⟨#[]⟩ : ByteArray)):=(blk_cell BK187.out 2).trans rfl;have hfz33_0:=blk_frozen BK187.out 0;have hfz33_1:=blk_frozen BK187.out 1;have hfz33_2:=blk_frozen BK187.out 2))
   (try simp only [Act.put,List.setIfInBounds_toArray,List.set_cons_zero,List.set_cons_succ])
   go_cut [20] (fun v20 wc => ∃ (kq : Nat) (x20_26 : Bool),v20 = .bool x20_26∧Aside0 (impl_byteReader_value.j0 kq x20_26 t185 t186 t184 0 (⟨#[]⟩ : ByteArray)=some (r1,r2,r3,r4,r5))∧Aside0 (kq≤k)∧Aside0 (wc.heap[gb183]? = some (.cells #[.int .i64 0,.int .i64 0,.string (⟨#[]⟩ : ByteArray)] 26 (0,0)))∧Aside0 (wc.heap[gb187]? = some (.cells #[.int .i64 t184,.int .i64 0,.string (⟨#[]⟩ : ByteArray)] 26 (0,0)))∧Aside0 (IsS74 w0 wc g t185 t186)∧Aside0 (KeepBut w wc g none)∧Aside0 (Below w0.heap.size w0 wc))
   case first =>
    have H:=HC27.out
    clear HC27
    by_cases c34 : t184=3
    ·
     rw [if_pos c34] at H
     have c34b0 : (t184 == 3)=true:=beq_iff_eq.mpr c34
     have c34b1 : (t184 != 3)=false:=bne_eq_false_iff_eq.mpr c34
     clear c34
     (first|rw [c34b0]|(simp only [i64_w,i32_w];rw [c34b0])|skip)
     have H':=Aside0.mk H
     clear H
     go_wp2
     go_meet
     case rel => exact ⟨_,((t184 == 3)),(by first|rfl|(simp;done)|(simp [*];done)),H',⟨by first|omega|exact Nat.le_refl _⟩,⟨by (with_reducible repeat (first|refine blk_drewN ?_ _|refine blk_drew ?_|refine blk_alloc ?_ _));refine blk_far ?_ NB183_187.out _;(with_reducible repeat (first|refine blk_drewN ?_ _|refine blk_drew ?_|refine blk_alloc ?_ _));refine blk_far ?_ NB183_187.out _;(with_reducible repeat (first|refine blk_drewN ?_ _|refine blk_drew ?_|refine blk_alloc ?_ _));refine blk_far ?_ NB183_187.out _;(with_reducible repeat (first|refine blk_drewN ?_ _|refine blk_drew ?_|refine blk_alloc ?_ _));exact BK183.out⟩,⟨by (with_reducible repeat (first|refine blk_drewN ?_ _|refine blk_drew ?_|refine blk_alloc ?_ _));refine blk_put (cs:=#[.int .i64 t184,.int .i64 0,.string (⟨#[]⟩ : ByteArray)]) ?_ 2 _ rfl;(with_reducible repeat (first|refine blk_drewN ?_ _|refine blk_drew ?_|refine blk_alloc ?_ _));refine blk_put (cs:=#[.int .i64 t184,.int .i64 0,.string (⟨#[]⟩ : ByteArray)]) ?_ 1 _ rfl;(with_reducible repeat (first|refine blk_drewN ?_ _|refine blk_drew ?_|refine blk_alloc ?_ _));refine blk_put (cs:=#[.int .i64 0,.int .i64 0,.string (⟨#[]⟩ : ByteArray)]) ?_ 0 _ rfl;(with_reducible repeat (first|refine blk_drewN ?_ _|refine blk_drew ?_|refine blk_alloc ?_ _));exact BK187.out⟩,⟨by repeat (first|(with_reducible first|exact HI0.out|apply IsS74.alloc|apply IsS74.drewN|apply IsS74.drew|apply IsS74.set_0|apply IsS74.set_1|refine IsS74.far ?_ NB0_183.out _|refine IsS74.far ?_ NB0_187.out _)|exact HI0.out)⟩,⟨by repeat (first|(with_reducible first|exact HK.out|apply KeepBut.set_|apply keep_drewN|apply keep_drew|apply keep_alloc|refine keep_far ?_ GW183.out _|refine keep_far ?_ GW187.out _)|exact HK.out)⟩,⟨by repeat (first|(with_reducible first|exact HB.out|apply below_alloc|apply pw_below_drewN|apply below_drew1|refine below_set ?_ (IsS74.ge HI0.out)|refine below_set ?_ GE183.out|refine below_set ?_ GE187.out)|exact HB.out)⟩⟩
    ·
     rw [if_neg c34] at H
     have c34b0 : (t184 == 3)=false:=beq_eq_false_iff_ne.mpr c34
     have c34b1 : (t184 != 3)=true:=bne_iff_ne.mpr c34
     (first|rw [c34b0]|(simp only [i64_w,i32_w];rw [c34b0])|skip)
     by_cases c35 : t184=4
     ·
      rw [if_pos c35] at H
      have c35b0 : (t184 == 4)=true:=beq_iff_eq.mpr c35
      have c35b1 : (t184 != 4)=false:=bne_eq_false_iff_eq.mpr c35
      clear c35
      have H':=Aside0.mk H
      clear H
      go_wp2
      go_meet
      case rel => exact ⟨_,((t184 == 4)),(by first|rfl|(simp;done)|(simp [*];done)),H',⟨by first|omega|exact Nat.le_refl _⟩,⟨by (with_reducible repeat (first|refine blk_drewN ?_ _|refine blk_drew ?_|refine blk_alloc ?_ _));refine blk_far ?_ NB183_187.out _;(with_reducible repeat (first|refine blk_drewN ?_ _|refine blk_drew ?_|refine blk_alloc ?_ _));refine blk_far ?_ NB183_187.out _;(with_reducible repeat (first|refine blk_drewN ?_ _|refine blk_drew ?_|refine blk_alloc ?_ _));refine blk_far ?_ NB183_187.out _;(with_reducible repeat (first|refine blk_drewN ?_ _|refine blk_drew ?_|refine blk_alloc ?_ _));exact BK183.out⟩,⟨by (with_reducible repeat (first|refine blk_drewN ?_ _|refine blk_drew ?_|refine blk_alloc ?_ _));refine blk_put (cs:=#[.int .i64 t184,.int .i64 0,.string (⟨#[]⟩ : ByteArray)]) ?_ 2 _ rfl;(with_reducible repeat (first|refine blk_drewN ?_ _|refine blk_drew ?_|refine blk_alloc ?_ _));refine blk_put (cs:=#[.int .i64 t184,.int .i64 0,.string (⟨#[]⟩ : ByteArray)]) ?_ 1 _ rfl;(with_reducible repeat (first|refine blk_drewN ?_ _|refine blk_drew ?_|refine blk_alloc ?_ _));refine blk_put (cs:=#[.int .i64 0,.int .i64 0,.string (⟨#[]⟩ : ByteArray)]) ?_ 0 _ rfl;(with_reducible repeat (first|refine blk_drewN ?_ _|refine blk_drew ?_|refine blk_alloc ?_ _));exact BK187.out⟩,⟨by repeat (first|(with_reducible first|exact HI0.out|apply IsS74.alloc|apply IsS74.drewN|apply IsS74.drew|apply IsS74.set_0|apply IsS74.set_1|refine IsS74.far ?_ NB0_183.out _|refine IsS74.far ?_ NB0_187.out _)|exact HI0.out)⟩,⟨by repeat (first|(with_reducible first|exact HK.out|apply KeepBut.set_|apply keep_drewN|apply keep_drew|apply keep_alloc|refine keep_far ?_ GW183.out _|refine keep_far ?_ GW187.out _)|exact HK.out)⟩,⟨by repeat (first|(with_reducible first|exact HB.out|apply below_alloc|apply pw_below_drewN|apply below_drew1|refine below_set ?_ (IsS74.ge HI0.out)|refine below_set ?_ GE183.out|refine below_set ?_ GE187.out)|exact HB.out)⟩⟩
     ·
      rw [if_neg c35] at H
      have c35b0 : (t184 == 4)=false:=beq_eq_false_iff_ne.mpr c35
      have c35b1 : (t184 != 4)=true:=bne_iff_ne.mpr c35
      have H':=Aside0.mk H
      clear H
      go_wp2
      go_meet
      case rel => exact ⟨_,((t184 == 5)),(by first|rfl|(simp;done)|(simp [*];done)),H',⟨by first|omega|exact Nat.le_refl _⟩,⟨by (with_reducible repeat (first|refine blk_drewN ?_ _|refine blk_drew ?_|refine blk_alloc ?_ _));refine blk_far ?_ NB183_187.out _;(with_reducible repeat (first|refine blk_drewN ?_ _|refine blk_drew ?_|refine blk_alloc ?_ _));refine blk_far ?_ NB183_187.out _;(with_reducible repeat (first|refine blk_drewN ?_ _|refine blk_drew ?_|refine blk_alloc ?_ _));refine blk_far ?_ NB183_187.out _;(with_reducible repeat (first|refine blk_drewN ?_ _|refine blk_drew ?_|refine blk_alloc ?_ _));exact BK183.out⟩,⟨by (with_reducible repeat (first|refine blk_drewN ?_ _|refine blk_drew ?_|refine blk_alloc ?_ _));refine blk_put (cs:=#[.int .i64 t184,.int .i64 0,.string (⟨#[]⟩ : ByteArray)]) ?_ 2 _ rfl;(with_reducible repeat (first|refine blk_drewN ?_ _|refine blk_drew ?_|refine blk_alloc ?_ _));refine blk_put (cs:=#[.int .i64 t184,.int .i64 0,.string (⟨#[]⟩ : ByteArray)]) ?_ 1 _ rfl;(with_reducible repeat (first|refine blk_drewN ?_ _|refine blk_drew ?_|refine blk_alloc ?_ _));refine blk_put (cs:=#[.int .i64 0,.int .i64 0,.string (⟨#[]⟩ : ByteArray)]) ?_ 0 _ rfl;(with_reducible repeat (first|refine blk_drewN ?_ _|refine blk_drew ?_|refine blk_alloc ?_ _));exact BK187.out⟩,⟨by repeat (first|(with_reducible first|exact HI0.out|apply IsS74.alloc|apply IsS74.drewN|apply IsS74.drew|apply IsS74.set_0|apply IsS74.set_1|refine IsS74.far ?_ NB0_183.out _|refine IsS74.far ?_ NB0_187.out _)|exact HI0.out)⟩,⟨by repeat (first|(with_reducible first|exact HK.out|apply KeepBut.set_|apply keep_drewN|apply keep_drew|apply keep_alloc|refine keep_far ?_ GW183.out _|refine keep_far ?_ GW187.out _)|exact HK.out)⟩,⟨by repeat (first|(with_reducible first|exact HB.out|apply below_alloc|apply pw_below_drewN|apply below_drew1|refine below_set ?_ (IsS74.ge HI0.out)|refine below_set ?_ GE183.out|refine below_set ?_ GE187.out)|exact HB.out)⟩⟩
   case rest =>
    clear HC27
    try clear c1
    try clear c2
    try clear p2
    try clear c3
    try clear c3b0
    try clear c3b1
    try clear c5
    try clear p6
    try clear c8
    try clear c9
    try clear c13
    try clear c15
    try clear c15b0
    try clear c15b1
    try clear c20
    try clear c21
    try clear c25
    try clear c31
    try clear c32
    try clear c34
    try clear c34b0
    try clear c34b1
    try clear c35
    try clear c35b0
    try clear c35b1
    try clear hcz10_0
    try clear hcz10_1
    try clear hcz10_2
    try clear hcz12_0
    try clear hcz12_1
    try clear hcz12_2
    try clear hcz14_0
    try clear hcz14_1
    try clear hcz14_2
    try clear hcz22_0
    try clear hcz22_1
    try clear hcz22_2
    try clear hcz24_0
    try clear hcz24_1
    try clear hcz24_2
    try clear hcz26_0
    try clear hcz26_1
    try clear hcz26_2
    try clear hcz33_0
    try clear hcz33_1
    try clear hcz33_2
    try clear hfz10_0
    try clear hfz10_1
    try clear hfz10_2
    try clear hfz12_0
    try clear hfz12_1
    try clear hfz12_2
    try clear hfz14_0
    try clear hfz14_1
    try clear hfz14_2
    try clear hfz22_0
    try clear hfz22_1
    try clear hfz22_2
    try clear hfz24_0
    try clear hfz24_1
    try clear hfz24_2
    try clear hfz26_0
    try clear hfz26_1
    try clear hfz26_2
    try clear hfz33_0
    try clear hfz33_1
    try clear hfz33_2
    obtain ⟨kq,x20_26,rfl,HA,HJ26,BK183,BK187,HI0,HK,HB⟩:=hcut
    cases kq with
    | zero => exact absurd HA.out (by simp [impl_byteReader_value.j0])
    | succ kj26 =>
     have H:=HA.out
     clear HA
     simp only [impl_byteReader_value.j0] at H
     by_cases c36 : x20_26=true
     ·
      subst c36
      have H1 : ((impl_byteReader_num.f kj26 t185 t186 2).bind fun bt194 => ((impl_byteReader_take.f bt194.2.1 bt194.2.2 bt194.1).bind fun bt197 => (some (t184,0,bt197.1,bt197.2.1,bt197.2.2))))=some (r1,r2,r3,r4,r5):=by rw [if_pos rfl] at H;exact H
      clear H
      have H:=H1
      clear H1
      replace H:=Option.bind_eq_some_iff.mp H
      obtain ⟨⟨t194,t195,t196⟩,A370,H⟩:=H
      replace H : ((impl_byteReader_take.f t195 t196 t194).bind fun bt197 => (some (t184,0,bt197.1,bt197.2.1,bt197.2.2)))=some (r1,r2,r3,r4,r5):=H
      have A37:=Aside0.mk A370
      clear A370
      replace H:=Option.bind_eq_some_iff.mp H
      obtain ⟨⟨t197,t198,t199⟩,A380,H⟩:=H
      replace H : (some (t184,0,t197,t198,t199))=some (r1,r2,r3,r4,r5):=H
      have A38:=Aside0.mk A380
      clear A380
      simp only [Option.some.injEq,Prod.mk.injEq] at H
      obtain ⟨rfl,rfl,rfl,rfl,rfl⟩:=H
      go_wp2_with (first|((with_reducible refine gate_callee (f:=91) rfl ?_);refine goesL_ (some 26) rfl rfl Try.func91 (by kernel_rfl) rfl #[.pointer (some ⟨g,0,none⟩),.int .i64 2] rfl (by (try simp only [List.map_toArray,List.map_cons,List.map_nil]);first|done|rfl|(simp only [List.length_drop,List.length_take];rfl)|(simp only [gt_iff_lt,ge_iff_le,Int.ofNat_lt,Int.ofNat_le];rfl)) ?_;(with_reducible refine (impl_byteReader_num.calls kj26  g t185 t186 2 t194 t195 t196 w0 _ ?side1 ?side2 A37.out).mono ?_);(case side1 => repeat (first|(with_reducible first|exact HI0.out|apply IsS74.alloc|apply IsS74.drewN|apply IsS74.drew|apply IsS74.set_0|apply IsS74.set_1|refine IsS74.far ?_ NB0_183.out _|refine IsS74.far ?_ NB0_187.out _)|exact HI0.out));(case side2 => repeat (first|(with_reducible first|exact HB.out|apply below_alloc|apply pw_below_drewN|apply below_drew1|refine below_set ?_ (IsS74.ge HI0.out)|refine below_set ?_ GE183.out|refine below_set ?_ GE187.out)|exact HB.out));rintro e w39 ⟨rfl,hi,hb,hk⟩;refine ⟨_,rfl,?_⟩;have n0_:=Aside0.mk (KeepBut.blk hk (g':=gb183) (o:=.cells #[.int .i64 0,.int .i64 0,.string (⟨#[]⟩ : ByteArray)] 26 (0,0)) (by (with_reducible repeat (first|refine blk_drewN ?_ _|refine blk_drew ?_|refine blk_alloc ?_ _));exact BK183.out) NB183_0.out (by simp));have n1_:=Aside0.mk (KeepBut.blk hk (g':=gb187) (o:=.cells #[.int .i64 t184,.int .i64 0,.string (⟨#[]⟩ : ByteArray)] 26 (0,0)) (by (with_reducible repeat (first|refine blk_drewN ?_ _|refine blk_drew ?_|refine blk_alloc ?_ _));exact BK187.out) NB187_0.out (by simp));have n2_:=Aside0.mk (KeepBut.trans (by repeat (first|(with_reducible first|exact HK.out|apply KeepBut.set_|apply keep_drewN|apply keep_drew|apply keep_alloc|refine keep_far ?_ GW183.out _|refine keep_far ?_ GW187.out _)|exact HK.out)) hk (.inl rfl));have n3_:=Aside0.mk (hb);have n4_:=Aside0.mk (hi);clear BK183;clear BK187;clear HK;clear HB;clear HI0;have BK183:=n0_;have BK187:=n1_;have HK:=n2_;have HB:=n3_;have HI0:=n4_;clear n0_ n1_ n2_ n3_ n4_;(try clear hb);(try clear hb2);(try clear hk);(try clear hi))|((with_reducible refine gate_callee (f:=92) rfl ?_);refine goesL_ (some 27) rfl rfl Try.func92 (by kernel_rfl) rfl #[.pointer (some ⟨g,0,none⟩),.int .i64 t194] rfl (by (try simp only [List.map_toArray,List.map_cons,List.map_nil]);first|done|rfl|(simp only [List.length_drop,List.length_take];rfl)|(simp only [gt_iff_lt,ge_iff_le,Int.ofNat_lt,Int.ofNat_le];rfl)) ?_;(with_reducible refine (impl_byteReader_take.calls  g t195 t196 t194 t197 t198 t199 w0 _ ?side1 ?side2 A38.out).mono ?_);(case side1 => repeat (first|(with_reducible first|exact HI0.out|apply IsS74.alloc|apply IsS74.drewN|apply IsS74.drew|apply IsS74.set_0|apply IsS74.set_1|refine IsS74.far ?_ NB0_183.out _|refine IsS74.far ?_ NB0_187.out _)|exact HI0.out));(case side2 => repeat (first|(with_reducible first|exact HB.out|apply below_alloc|apply pw_below_drewN|apply below_drew1|refine below_set ?_ (IsS74.ge HI0.out)|refine below_set ?_ GE183.out|refine below_set ?_ GE187.out)|exact HB.out));rintro e w40 ⟨rfl,hi,hb,hk⟩;refine ⟨_,rfl,?_⟩;have n0_:=Aside0.mk (KeepBut.blk hk (g':=gb183) (o:=.cells #[.int .i64 0,.int .i64 0,.string (⟨#[]⟩ : ByteArray)] 26 (0,0)) (by (with_reducible repeat (first|refine blk_drewN ?_ _|refine blk_drew ?_|refine blk_alloc ?_ _));exact BK183.out) NB183_0.out (by simp));have n1_:=Aside0.mk (KeepBut.blk hk (g':=gb187) (o:=.cells #[.int .i64 t184,.int .i64 0,.string (⟨#[]⟩ : ByteArray)] 26 (0,0)) (by (with_reducible repeat (first|refine blk_drewN ?_ _|refine blk_drew ?_|refine blk_alloc ?_ _));exact BK187.out) NB187_0.out (by simp));have n2_:=Aside0.mk (KeepBut.trans (by repeat (first|(with_reducible first|exact HK.out|apply KeepBut.set_|apply keep_drewN|apply keep_drew|apply keep_alloc|refine keep_far ?_ GW183.out _|refine keep_far ?_ GW187.out _)|exact HK.out)) hk (.inl rfl));have n3_:=Aside0.mk (hb);have n4_:=Aside0.mk (hi);clear BK183;clear BK187;clear HK;clear HB;clear HI0;have BK183:=n0_;have BK187:=n1_;have HK:=n2_;have HB:=n3_;have HI0:=n4_;clear n0_ n1_ n2_ n3_ n4_;(try clear hb);(try clear hb2);(try clear hk);(try clear hi);have hnb41:=NB187_183.out;have hnc41:=NB183_187.out;have hnb42:=NB187_0.out;have hnc42:=NB0_187.out;have hcz43_0 : w40.cell? ⟨gb187,0,none⟩=some (.int .i64 t184):=(blk_cell BK187.out 0).trans rfl;have hcz43_1 : w40.cell? ⟨gb187,1,none⟩=some (.int .i64 0):=(blk_cell BK187.out 1).trans rfl;have hcz43_2 : w40.cell? ⟨gb187,2,none⟩=some (.string (⟨#[]⟩ : ByteArray)):=(blk_cell BK187.out 2).trans rfl;have hfz43_0:=blk_frozen BK187.out 0;have hfz43_1:=blk_frozen BK187.out 1;have hfz43_2:=blk_frozen BK187.out 2;have hnb44:=NB183_0.out;have hnc44:=NB0_183.out;have hcz45_0 : w40.cell? ⟨gb183,0,none⟩=some (.int .i64 0):=(blk_cell BK183.out 0).trans rfl;have hcz45_1 : w40.cell? ⟨gb183,1,none⟩=some (.int .i64 0):=(blk_cell BK183.out 1).trans rfl;have hcz45_2 : w40.cell? ⟨gb183,2,none⟩=some (.string (⟨#[]⟩ : ByteArray)):=(blk_cell BK183.out 2).trans rfl;have hfz45_0:=blk_frozen BK183.out 0;have hfz45_1:=blk_frozen BK183.out 1;have hfz45_2:=blk_frozen BK183.out 2))
      refine bodyPost_ret (results_cell_row rfl _ _ gb183 26 #[.int .i64 t184,.int .i64 0,.string t197] (0,0) _ rfl (by (with_reducible repeat (first|refine blk_drewN ?_ _|refine blk_drew ?_|refine blk_alloc ?_ _));refine blk_put (cs:=#[.int .i64 t184,.int .i64 0,.string (⟨#[]⟩ : ByteArray)]) ?_ 2 _ rfl;(with_reducible repeat (first|refine blk_drewN ?_ _|refine blk_drew ?_|refine blk_alloc ?_ _));refine blk_put (cs:=#[.int .i64 t184,.int .i64 0,.string (⟨#[]⟩ : ByteArray)]) ?_ 1 _ rfl;(with_reducible repeat (first|refine blk_drewN ?_ _|refine blk_drew ?_|refine blk_alloc ?_ _));refine blk_put (cs:=#[.int .i64 0,.int .i64 0,.string (⟨#[]⟩ : ByteArray)]) ?_ 0 _ rfl;(with_reducible repeat (first|refine blk_drewN ?_ _|refine blk_drew ?_|refine blk_alloc ?_ _));refine blk_far ?_ NB183_187.out _;(with_reducible repeat (first|refine blk_drewN ?_ _|refine blk_drew ?_|refine blk_alloc ?_ _));exact BK183.out) Try.underlying26 rfl (by kernel_rfl)) rfl ?_
      exact ⟨by first|rfl|(simp [errW_none,errW_some] <;> rfl)|(simp [*,errW_none,errW_some] <;> rfl),by repeat (first|(with_reducible first|exact HI0.out|apply IsS74.alloc|apply IsS74.drewN|apply IsS74.drew|apply IsS74.set_0|apply IsS74.set_1|refine IsS74.far ?_ NB0_183.out _|refine IsS74.far ?_ NB0_187.out _)|exact HI0.out),by repeat (first|(with_reducible first|exact HB.out|apply below_alloc|apply pw_below_drewN|apply below_drew1|refine below_set ?_ (IsS74.ge HI0.out)|refine below_set ?_ GE183.out|refine below_set ?_ GE187.out)|exact HB.out),by repeat (first|(with_reducible first|exact HK.out|apply KeepBut.set_|apply keep_drewN|apply keep_drew|apply keep_alloc|refine keep_far ?_ GW183.out _|refine keep_far ?_ GW187.out _)|exact HK.out)⟩
     ·
      replace c36:=Bool.eq_false_iff.mpr c36
      subst c36
      have H1 : (some (t184,0,(⟨#[]⟩ : ByteArray),t185,t186))=some (r1,r2,r3,r4,r5):=by rw [if_neg (show ¬ (false=true) by decide)] at H;exact H
      clear H
      have H:=H1
      clear H1
      simp only [Option.some.injEq,Prod.mk.injEq] at H
      obtain ⟨rfl,rfl,rfl,rfl,rfl⟩:=H
      have hnb46:=NB187_183.out
      have hnc46:=NB183_187.out
      have hnb47:=NB187_0.out
      have hnc47:=NB0_187.out
      have hcz48_0 : wc.cell? ⟨gb187,0,none⟩=some (.int .i64 t184):=(blk_cell BK187.out 0).trans rfl
      have hcz48_1 : wc.cell? ⟨gb187,1,none⟩=some (.int .i64 0):=(blk_cell BK187.out 1).trans rfl
      have hcz48_2 : wc.cell? ⟨gb187,2,none⟩=some (.string (⟨#[]⟩ : ByteArray)):=(blk_cell BK187.out 2).trans rfl
      have hfz48_0:=blk_frozen BK187.out 0
      have hfz48_1:=blk_frozen BK187.out 1
      have hfz48_2:=blk_frozen BK187.out 2
      have hnb49:=NB183_0.out
      have hnc49:=NB0_183.out
      have hcz50_0 : wc.cell? ⟨gb183,0,none⟩=some (.int .i64 0):=(blk_cell BK183.out 0).trans rfl
      have hcz50_1 : wc.cell? ⟨gb183,1,none⟩=some (.int .i64 0):=(blk_cell BK183.out 1).trans rfl
      have hcz50_2 : wc.cell? ⟨gb183,2,none⟩=some (.string (⟨#[]⟩ : ByteArray)):=(blk_cell BK183.out 2).trans rfl
      have hfz50_0:=blk_frozen BK183.out 0
      have hfz50_1:=blk_frozen BK183.out 1
      have hfz50_2:=blk_frozen BK183.out 2
      go_wp2
      refine bodyPost_ret (results_cell_row rfl _ _ gb183 26 #[.int .i64 t184,.int .i64 0,.string (⟨#[]⟩ : ByteArray)] (0,0) _ rfl (by (with_reducible repeat (first|refine blk_drewN ?_ _|refine blk_drew ?_|refine blk_alloc ?_ _));refine blk_put (cs:=#[.int .i64 t184,.int .i64 0,.string (⟨#[]⟩ : ByteArray)]) ?_ 2 _ rfl;(with_reducible repeat (first|refine blk_drewN ?_ _|refine blk_drew ?_|refine blk_alloc ?_ _));refine blk_put (cs:=#[.int .i64 t184,.int .i64 0,.string (⟨#[]⟩ : ByteArray)]) ?_ 1 _ rfl;(with_reducible repeat (first|refine blk_drewN ?_ _|refine blk_drew ?_|refine blk_alloc ?_ _));refine blk_put (cs:=#[.int .i64 0,.int .i64 0,.string (⟨#[]⟩ : ByteArray)]) ?_ 0 _ rfl;(with_reducible repeat (first|refine blk_drewN ?_ _|refine blk_drew ?_|refine blk_alloc ?_ _));exact BK183.out) Try.underlying26 rfl (by kernel_rfl)) rfl ?_
      exact ⟨by first|rfl|(simp [errW_none,errW_some] <;> rfl)|(simp [*,errW_none,errW_some] <;> rfl),by repeat (first|(with_reducible first|exact HI0.out|apply IsS74.alloc|apply IsS74.drewN|apply IsS74.drew|apply IsS74.set_0|apply IsS74.set_1|refine IsS74.far ?_ NB0_183.out _|refine IsS74.far ?_ NB0_187.out _)|exact HI0.out),by repeat (first|(with_reducible first|exact HB.out|apply below_alloc|apply pw_below_drewN|apply below_drew1|refine below_set ?_ (IsS74.ge HI0.out)|refine below_set ?_ GE183.out|refine below_set ?_ GE187.out)|exact HB.out),by repeat (first|(with_reducible first|exact HK.out|apply KeepBut.set_|apply keep_drewN|apply keep_drew|apply keep_alloc|refine keep_far ?_ GW183.out _|refine keep_far ?_ GW187.out _)|exact HK.out)⟩

end Go.Proofs.Ytpmeglcmhiihoaa.Q
end
section
namespace Go.Proofs.Ytpmeglcmhiihoaa.Q
open Go.RowKit Go.Proofs.YtpmeglcmhiihoaaW.PrintWords Go.Proofs.YtpmeglcmhiihoaaW.PrintLast Go.Proofs.YtpmeglcmhiihoaaW.PrintMore
attribute [local go_sem] max2_int min2_int max_two min_two max_three min_three max_four min_four max2_str min2_str str_geq str_gtr str_leq   -- for this text's walks alone
set_option linter.unusedVariables false
set_option linter.unusedSimpArgs false

def impl_items.l0 : Nat→List (S26)→ByteArray→Bool→Option ((List (S26))×Bool)
 | 0,_,_,_ => none
 | k + 1,x5,x202000,x202001 => if x202000.toList=([] : List UInt8) then (some (x5,!x202001)) else (if x202001=true then (some (x5,!x202001)) else ((impl_byteReader_value.f k x202000 x202001).bind fun bt205 => (if x5.length<4398046511104 then (impl_items.l0 k (x5 ++ [(⟨bt205.1,bt205.2.1,bt205.2.2.1⟩ : S26)]) bt205.2.2.2.1 bt205.2.2.2.2) else (none))))
def impl_items.f (k : Nat) (a0_0 : Int) (a0_1 : Int) (a0_2 : ByteArray) : Option ((List (S26))×Bool):=impl_items.l0 k (([] : List (S26))) a0_2 false
theorem impl_items.mono_l : ∀ k,(∀ y0 y1 y2,LeO (impl_items.l0 k y0 y1 y2) (impl_items.l0 (k + 1) y0 y1 y2))
 | 0 => fun _ _ _ r h => by simp [impl_items.l0] at h
 | k + 1 => by
  have ih0:=impl_items.mono_l k
  ·
   intro y0 y1 y2
   unfold impl_items.l0
   repeat' first
   | (with_reducible exact ih0 _ _ _)
   | (with_reducible exact impl_byteReader_value.mono _ _ _)
   | (with_reducible exact LeO.refl _)
   | (with_reducible exact LeO.none _)
   | (with_reducible refine LeO.ite ?_ ?_)
   | (with_reducible refine LeO.bind ?_ (fun _ => ?_))
   | exact ih0 _ _ _
   | exact impl_byteReader_value.mono _ _ _
   | exact LeO.none _
   | refine LeO.ite ?_ ?_
   | refine LeO.bind ?_ (fun _ => ?_)
theorem impl_items.mono : ∀ a0 a1 a2 k,LeO (impl_items.f k a0 a1 a2) (impl_items.f (k + 1) a0 a1 a2):=by
 intro a0 a1 a2 k
 have ih0:=impl_items.mono_l k
 unfold impl_items.f
 repeat' first
   | (with_reducible exact ih0 _ _ _)
   | (with_reducible exact impl_byteReader_value.mono _ _ _)
   | (with_reducible exact LeO.refl _)
   | (with_reducible exact LeO.none _)
   | (with_reducible refine LeO.ite ?_ ?_)
   | (with_reducible refine LeO.bind ?_ (fun _ => ?_))
   | exact ih0 _ _ _
   | exact impl_byteReader_value.mono _ _ _
   | exact LeO.none _
   | refine LeO.ite ?_ ?_
   | refine LeO.bind ?_ (fun _ => ?_)
set_option maxHeartbeats 8000000 in
set_option maxRecDepth 100000 in
theorem impl_items.calls (k : Nat) (a0_0 : Int) (a0_1 : Int) (a0_2 : ByteArray) (r1 : List (S26)) (r2 : Bool) (w : World) (h : impl_items.f k a0_0 a0_1 a0_2=some (r1,r2)) :
  Calls Try.prog 62 #[.agg #[.int .i64 a0_0,.int .i64 a0_1,.string a0_2]] w fun e w' => ∃ v0_ : Value,e = .returned (.tuple #[v0_,.bool r2])∧Kd.R k26 26 w' w.heap.size (fun _ => True) v0_ r1∧Below w.heap.size w w':=by
 have hu26:=Try.underlying26
 have hu74:=Try.underlying74
 have HB:=Aside0.mk (Below.refl w.heap.size w)
 have H : (impl_items.l0 k (([] : List (S26))) a0_2 false)=some (r1,r2):=h
 clear h
 obtain ⟨y202,hy202⟩ : ∃ y_ : List (S26),y_=(([] : List (S26))):=⟨_,rfl⟩
 replace H : (impl_items.l0 k y202 a0_2 false)=some (r1,r2):=by first|(rw [hy202];with_reducible exact H)|(have H2_:=(Option.bind_some _ _).symm.trans H;rw [hy202];with_reducible exact H2_)|(have H2_:=(Option.bind_some _ _).symm.trans H;with_reducible exact H2_)|with_reducible exact H|(rw [hy202];exact H)|exact H
 have Ny202:=Aside0.mk hy202
 clear hy202
 have H':=Aside0.mk H
 clear H
 go_enter Try.func62,Try.ntmps62
 go_wp2_with (first|((with_reducible refine gate_dst (N:=1) rfl ?_);refine box_event ?hg (N:=1) ?hd (cs:=#[.int .i64 a0_0,.int .i64 a0_1,.string a0_2]) (t:=26) ?hr ?_;(case hd => rfl);(case hg => rfl);(case hr => first|(go_simp;done)|(go_simp;rfl));intro gb200 hg w2 hbox hb;have n0_:=Aside0.mk (below_step (by repeat (first|(with_reducible first|exact HB.out|apply below_alloc|apply pw_below_drewN|apply below_drew1)|exact HB.out)) hb);have n1_:=Aside0.mk (hbox);have n2_:=Aside0.mk ((by rw [hg];exact (below_size (by repeat (first|(with_reducible first|exact HB.out|apply below_alloc|apply pw_below_drewN|apply below_drew1)|exact HB.out))) : w.heap.size≤gb200));have n3_:=Aside0.mk ((by rw [hg];exact (below_size (by repeat (first|(with_reducible first|exact HB.out|apply below_alloc|apply pw_below_drewN|apply below_drew1)|exact HB.out))) : w.heap.size≤gb200));clear HB;have HB:=n0_;have BK200:=n1_;have GW200:=n2_;have GE200:=n3_;clear n0_ n1_ n2_ n3_;clear hb hbox hg;have hcz3_0 : w2.cell? ⟨gb200,0,none⟩=some (.int .i64 a0_0):=(blk_cell BK200.out 0).trans rfl;have hcz3_1 : w2.cell? ⟨gb200,1,none⟩=some (.int .i64 a0_1):=(blk_cell BK200.out 1).trans rfl;have hcz3_2 : w2.cell? ⟨gb200,2,none⟩=some (.string a0_2):=(blk_cell BK200.out 2).trans rfl;have hfz3_0:=blk_frozen BK200.out 0;have hfz3_1:=blk_frozen BK200.out 1;have hfz3_2:=blk_frozen BK200.out 2)|((with_reducible refine gate_dst (N:=9) rfl ?_);refine box_event ?hg (N:=9) ?hd (cs:=#[.string a0_2,.bool false]) (t:=74) ?hr ?_;(case hd => rfl);(case hg => rfl);(case hr => first|(go_simp;done)|(go_simp;rfl));intro gb201 hg w4 hbox hb;have n0_:=Aside0.mk (blk_below (g:=gb200) (o:=.cells #[.int .i64 a0_0,.int .i64 a0_1,.string a0_2] 26 (0,0)) (by (with_reducible repeat (first|refine blk_drewN ?_ _|refine blk_drew ?_|refine blk_alloc ?_ _));exact BK200.out) hb);have n1_:=Aside0.mk (below_step (by repeat (first|(with_reducible first|exact HB.out|apply below_alloc|apply pw_below_drewN|apply below_drew1|refine below_set ?_ GE200.out)|exact HB.out)) hb);have n2_:=Aside0.mk (hbox);have n3_:=Aside0.mk ((by rw [hg];exact (below_size (by repeat (first|(with_reducible first|exact HB.out|apply below_alloc|apply pw_below_drewN|apply below_drew1|refine below_set ?_ GE200.out)|exact HB.out))) : w.heap.size≤gb201));have n4_:=Aside0.mk ((by rw [hg];exact (below_size (by repeat (first|(with_reducible first|exact HB.out|apply below_alloc|apply pw_below_drewN|apply below_drew1|refine below_set ?_ GE200.out)|exact HB.out))) : w.heap.size≤gb201));have n5_:=Aside0.mk ((by rw [hg];exact Nat.ne_of_lt (blk_lt (g:=gb200) (o:=.cells #[.int .i64 a0_0,.int .i64 a0_1,.string a0_2] 26 (0,0)) (by (with_reducible repeat (first|refine blk_drewN ?_ _|refine blk_drew ?_|refine blk_alloc ?_ _));exact BK200.out)) : gb200≠gb201));have n6_:=Aside0.mk ((by rw [hg];exact Nat.ne_of_gt (blk_lt (g:=gb200) (o:=.cells #[.int .i64 a0_0,.int .i64 a0_1,.string a0_2] 26 (0,0)) (by (with_reducible repeat (first|refine blk_drewN ?_ _|refine blk_drew ?_|refine blk_alloc ?_ _));exact BK200.out)) : gb201≠gb200));clear BK200;clear HB;have BK200:=n0_;have HB:=n1_;have BK201:=n2_;have GW201:=n3_;have GE201:=n4_;have NB200_201:=n5_;have NB201_200:=n6_;clear n0_ n1_ n2_ n3_ n4_ n5_ n6_;clear hb hbox hg)|((with_reducible refine gate_dst (N:=10) rfl ?_);refine Kd.R_lit k26 _ 26 ?hg (N:=10) ?hd (xs:=([] : List (S26))) (inner:=[]) (ok:=fun _ => True) (okp:=fun _ => True) ?hr ?hp (fun _ hk => hk) trivial (Below.refl _ _) (Nat.le_refl _) (by simp) ?_;(case hd => rfl);(case hg => rfl);(case hr => first|(go_simp;done)|(go_simp;rfl));(case hp => exact (Reps.none _ _));intro v203 w5 ho6 hb hg_ hnew_;clear hg_ hnew_;(first|rw [← Ny202.out] at ho6|(simp only [Int.reduceToNat] at ho6;rw [← Ny202.out] at ho6));have n0_:=Aside0.mk (Kd.R_lower (Kd.R_newB ho6 (g:=gb200) (o:=.cells #[.int .i64 a0_0,.int .i64 a0_1,.string a0_2] 26 (0,0)) (by (with_reducible repeat (first|refine blk_drewN ?_ _|refine blk_drew ?_|refine blk_alloc ?_ _));exact BK200.out)) (below_size (by repeat (first|(with_reducible first|exact HB.out|apply below_alloc|apply pw_below_drewN|apply below_drew1|refine below_set ?_ GE200.out|refine below_set ?_ GE201.out)|exact HB.out))));have n1_:=Aside0.mk (blk_below (g:=gb200) (o:=.cells #[.int .i64 a0_0,.int .i64 a0_1,.string a0_2] 26 (0,0)) (by (with_reducible repeat (first|refine blk_drewN ?_ _|refine blk_drew ?_|refine blk_alloc ?_ _));exact BK200.out) hb);have n2_:=Aside0.mk (blk_below (g:=gb201) (o:=.cells #[.string a0_2,.bool false] 74 (0,0)) (by (with_reducible repeat (first|refine blk_drewN ?_ _|refine blk_drew ?_|refine blk_alloc ?_ _));exact BK201.out) hb);have n3_:=Aside0.mk (below_step (by repeat (first|(with_reducible first|exact HB.out|apply below_alloc|apply pw_below_drewN|apply below_drew1|refine below_set ?_ GE200.out|refine below_set ?_ GE201.out)|exact HB.out)) hb);clear BK200;clear BK201;clear HB;have HO204:=n0_;have BK200:=n1_;have BK201:=n2_;have HB:=n3_;clear n0_ n1_ n2_ n3_;clear hb ho6))
 repeat (go_quiet (first|((with_reducible refine gate_dst (N:=1) rfl ?_);refine box_event ?hg (N:=1) ?hd (cs:=#[.int .i64 a0_0,.int .i64 a0_1,.string a0_2]) (t:=26) ?hr ?_;(case hd => rfl);(case hg => rfl);(case hr => first|(go_simp;done)|(go_simp;rfl));intro gb200 hg w2 hbox hb;have n0_:=Aside0.mk (below_step (by repeat (first|(with_reducible first|exact HB.out|apply below_alloc|apply pw_below_drewN|apply below_drew1)|exact HB.out)) hb);have n1_:=Aside0.mk (hbox);have n2_:=Aside0.mk ((by rw [hg];exact (below_size (by repeat (first|(with_reducible first|exact HB.out|apply below_alloc|apply pw_below_drewN|apply below_drew1)|exact HB.out))) : w.heap.size≤gb200));have n3_:=Aside0.mk ((by rw [hg];exact (below_size (by repeat (first|(with_reducible first|exact HB.out|apply below_alloc|apply pw_below_drewN|apply below_drew1)|exact HB.out))) : w.heap.size≤gb200));clear HB;have HB:=n0_;have BK200:=n1_;have GW200:=n2_;have GE200:=n3_;clear n0_ n1_ n2_ n3_;clear hb hbox hg;have hcz3_0 : w2.cell? ⟨gb200,0,none⟩=some (.int .i64 a0_0):=(blk_cell BK200.out 0).trans rfl;have hcz3_1 : w2.cell? ⟨gb200,1,none⟩=some (.int .i64 a0_1):=(blk_cell BK200.out 1).trans rfl;have hcz3_2 : w2.cell? ⟨gb200,2,none⟩=some (.string a0_2):=(blk_cell BK200.out 2).trans rfl;have hfz3_0:=blk_frozen BK200.out 0;have hfz3_1:=blk_frozen BK200.out 1;have hfz3_2:=blk_frozen BK200.out 2)|((with_reducible refine gate_dst (N:=9) rfl ?_);refine box_event ?hg (N:=9) ?hd (cs:=#[.string a0_2,.bool false]) (t:=74) ?hr ?_;(case hd => rfl);(case hg => rfl);(case hr => first|(go_simp;done)|(go_simp;rfl));intro gb201 hg w4 hbox hb;have n0_:=Aside0.mk (blk_below (g:=gb200) (o:=.cells #[.int .i64 a0_0,.int .i64 a0_1,.string a0_2] 26 (0,0)) (by (with_reducible repeat (first|refine blk_drewN ?_ _|refine blk_drew ?_|refine blk_alloc ?_ _));exact BK200.out) hb);have n1_:=Aside0.mk (below_step (by repeat (first|(with_reducible first|exact HB.out|apply below_alloc|apply pw_below_drewN|apply below_drew1|refine below_set ?_ GE200.out)|exact HB.out)) hb);have n2_:=Aside0.mk (hbox);have n3_:=Aside0.mk ((by rw [hg];exact (below_size (by repeat (first|(with_reducible first|exact HB.out|apply below_alloc|apply pw_below_drewN|apply below_drew1|refine below_set ?_ GE200.out)|exact HB.out))) : w.heap.size≤gb201));have n4_:=Aside0.mk ((by rw [hg];exact (below_size (by repeat (first|(with_reducible first|exact HB.out|apply below_alloc|apply pw_below_drewN|apply below_drew1|refine below_set ?_ GE200.out)|exact HB.out))) : w.heap.size≤gb201));have n5_:=Aside0.mk ((by rw [hg];exact Nat.ne_of_lt (blk_lt (g:=gb200) (o:=.cells #[.int .i64 a0_0,.int .i64 a0_1,.string a0_2] 26 (0,0)) (by (with_reducible repeat (first|refine blk_drewN ?_ _|refine blk_drew ?_|refine blk_alloc ?_ _));exact BK200.out)) : gb200≠gb201));have n6_:=Aside0.mk ((by rw [hg];exact Nat.ne_of_gt (blk_lt (g:=gb200) (o:=.cells #[.int .i64 a0_0,.int .i64 a0_1,.string a0_2] 26 (0,0)) (by (with_reducible repeat (first|refine blk_drewN ?_ _|refine blk_drew ?_|refine blk_alloc ?_ _));exact BK200.out)) : gb201≠gb200));clear BK200;clear HB;have BK200:=n0_;have HB:=n1_;have BK201:=n2_;have GW201:=n3_;have GE201:=n4_;have NB200_201:=n5_;have NB201_200:=n6_;clear n0_ n1_ n2_ n3_ n4_ n5_ n6_;clear hb hbox hg)|((with_reducible refine gate_dst (N:=10) rfl ?_);refine Kd.R_lit k26 _ 26 ?hg (N:=10) ?hd (xs:=([] : List (S26))) (inner:=[]) (ok:=fun _ => True) (okp:=fun _ => True) ?hr ?hp (fun _ hk => hk) trivial (Below.refl _ _) (Nat.le_refl _) (by simp) ?_;(case hd => rfl);(case hg => rfl);(case hr => first|(go_simp;done)|(go_simp;rfl));(case hp => exact (Reps.none _ _));intro v203 w5 ho6 hb hg_ hnew_;clear hg_ hnew_;(first|rw [← Ny202.out] at ho6|(simp only [Int.reduceToNat] at ho6;rw [← Ny202.out] at ho6));have n0_:=Aside0.mk (Kd.R_lower (Kd.R_newB ho6 (g:=gb200) (o:=.cells #[.int .i64 a0_0,.int .i64 a0_1,.string a0_2] 26 (0,0)) (by (with_reducible repeat (first|refine blk_drewN ?_ _|refine blk_drew ?_|refine blk_alloc ?_ _));exact BK200.out)) (below_size (by repeat (first|(with_reducible first|exact HB.out|apply below_alloc|apply pw_below_drewN|apply below_drew1|refine below_set ?_ GE200.out|refine below_set ?_ GE201.out)|exact HB.out))));have n1_:=Aside0.mk (blk_below (g:=gb200) (o:=.cells #[.int .i64 a0_0,.int .i64 a0_1,.string a0_2] 26 (0,0)) (by (with_reducible repeat (first|refine blk_drewN ?_ _|refine blk_drew ?_|refine blk_alloc ?_ _));exact BK200.out) hb);have n2_:=Aside0.mk (blk_below (g:=gb201) (o:=.cells #[.string a0_2,.bool false] 74 (0,0)) (by (with_reducible repeat (first|refine blk_drewN ?_ _|refine blk_drew ?_|refine blk_alloc ?_ _));exact BK201.out) hb);have n3_:=Aside0.mk (below_step (by repeat (first|(with_reducible first|exact HB.out|apply below_alloc|apply pw_below_drewN|apply below_drew1|refine below_set ?_ GE200.out|refine below_set ?_ GE201.out)|exact HB.out)) hb);clear BK200;clear BK201;clear HB;have HO204:=n0_;have BK200:=n1_;have BK201:=n2_;have HB:=n3_;clear n0_ n1_ n2_ n3_;clear hb ho6));try go_wp2_with (first|((with_reducible refine gate_dst (N:=1) rfl ?_);refine box_event ?hg (N:=1) ?hd (cs:=#[.int .i64 a0_0,.int .i64 a0_1,.string a0_2]) (t:=26) ?hr ?_;(case hd => rfl);(case hg => rfl);(case hr => first|(go_simp;done)|(go_simp;rfl));intro gb200 hg w2 hbox hb;have n0_:=Aside0.mk (below_step (by repeat (first|(with_reducible first|exact HB.out|apply below_alloc|apply pw_below_drewN|apply below_drew1)|exact HB.out)) hb);have n1_:=Aside0.mk (hbox);have n2_:=Aside0.mk ((by rw [hg];exact (below_size (by repeat (first|(with_reducible first|exact HB.out|apply below_alloc|apply pw_below_drewN|apply below_drew1)|exact HB.out))) : w.heap.size≤gb200));have n3_:=Aside0.mk ((by rw [hg];exact (below_size (by repeat (first|(with_reducible first|exact HB.out|apply below_alloc|apply pw_below_drewN|apply below_drew1)|exact HB.out))) : w.heap.size≤gb200));clear HB;have HB:=n0_;have BK200:=n1_;have GW200:=n2_;have GE200:=n3_;clear n0_ n1_ n2_ n3_;clear hb hbox hg;have hcz3_0 : w2.cell? ⟨gb200,0,none⟩=some (.int .i64 a0_0):=(blk_cell BK200.out 0).trans rfl;have hcz3_1 : w2.cell? ⟨gb200,1,none⟩=some (.int .i64 a0_1):=(blk_cell BK200.out 1).trans rfl;have hcz3_2 : w2.cell? ⟨gb200,2,none⟩=some (.string a0_2):=(blk_cell BK200.out 2).trans rfl;have hfz3_0:=blk_frozen BK200.out 0;have hfz3_1:=blk_frozen BK200.out 1;have hfz3_2:=blk_frozen BK200.out 2)|((with_reducible refine gate_dst (N:=9) rfl ?_);refine box_event ?hg (N:=9) ?hd (cs:=#[.string a0_2,.bool false]) (t:=74) ?hr ?_;(case hd => rfl);(case hg => rfl);(case hr => first|(go_simp;done)|(go_simp;rfl));intro gb201 hg w4 hbox hb;have n0_:=Aside0.mk (blk_below (g:=gb200) (o:=.cells #[.int .i64 a0_0,.int .i64 a0_1,.string a0_2] 26 (0,0)) (by (with_reducible repeat (first|refine blk_drewN ?_ _|refine blk_drew ?_|refine blk_alloc ?_ _));exact BK200.out) hb);have n1_:=Aside0.mk (below_step (by repeat (first|(with_reducible first|exact HB.out|apply below_alloc|apply pw_below_drewN|apply below_drew1|refine below_set ?_ GE200.out)|exact HB.out)) hb);have n2_:=Aside0.mk (hbox);have n3_:=Aside0.mk ((by rw [hg];exact (below_size (by repeat (first|(with_reducible first|exact HB.out|apply below_alloc|apply pw_below_drewN|apply below_drew1|refine below_set ?_ GE200.out)|exact HB.out))) : w.heap.size≤gb201));have n4_:=Aside0.mk ((by rw [hg];exact (below_size (by repeat (first|(with_reducible first|exact HB.out|apply below_alloc|apply pw_below_drewN|apply below_drew1|refine below_set ?_ GE200.out)|exact HB.out))) : w.heap.size≤gb201));have n5_:=Aside0.mk ((by rw [hg];exact Nat.ne_of_lt (blk_lt (g:=gb200) (o:=.cells #[.int .i64 a0_0,.int .i64 a0_1,.string a0_2] 26 (0,0)) (by (with_reducible repeat (first|refine blk_drewN ?_ _|refine blk_drew ?_|refine blk_alloc ?_ _));exact BK200.out)) : gb200≠gb201));have n6_:=Aside0.mk ((by rw [hg];exact Nat.ne_of_gt (blk_lt (g:=gb200) (o:=.cells #[.int .i64 a0_0,.int .i64 a0_1,.string a0_2] 26 (0,0)) (by (with_reducible repeat (first|refine blk_drewN ?_ _|refine blk_drew ?_|refine blk_alloc ?_ _));exact BK200.out)) : gb201≠gb200));clear BK200;clear HB;have BK200:=n0_;have HB:=n1_;have BK201:=n2_;have GW201:=n3_;have GE201:=n4_;have NB200_201:=n5_;have NB201_200:=n6_;clear n0_ n1_ n2_ n3_ n4_ n5_ n6_;clear hb hbox hg)|((with_reducible refine gate_dst (N:=10) rfl ?_);refine Kd.R_lit k26 _ 26 ?hg (N:=10) ?hd (xs:=([] : List (S26))) (inner:=[]) (ok:=fun _ => True) (okp:=fun _ => True) ?hr ?hp (fun _ hk => hk) trivial (Below.refl _ _) (Nat.le_refl _) (by simp) ?_;(case hd => rfl);(case hg => rfl);(case hr => first|(go_simp;done)|(go_simp;rfl));(case hp => exact (Reps.none _ _));intro v203 w5 ho6 hb hg_ hnew_;clear hg_ hnew_;(first|rw [← Ny202.out] at ho6|(simp only [Int.reduceToNat] at ho6;rw [← Ny202.out] at ho6));have n0_:=Aside0.mk (Kd.R_lower (Kd.R_newB ho6 (g:=gb200) (o:=.cells #[.int .i64 a0_0,.int .i64 a0_1,.string a0_2] 26 (0,0)) (by (with_reducible repeat (first|refine blk_drewN ?_ _|refine blk_drew ?_|refine blk_alloc ?_ _));exact BK200.out)) (below_size (by repeat (first|(with_reducible first|exact HB.out|apply below_alloc|apply pw_below_drewN|apply below_drew1|refine below_set ?_ GE200.out|refine below_set ?_ GE201.out)|exact HB.out))));have n1_:=Aside0.mk (blk_below (g:=gb200) (o:=.cells #[.int .i64 a0_0,.int .i64 a0_1,.string a0_2] 26 (0,0)) (by (with_reducible repeat (first|refine blk_drewN ?_ _|refine blk_drew ?_|refine blk_alloc ?_ _));exact BK200.out) hb);have n2_:=Aside0.mk (blk_below (g:=gb201) (o:=.cells #[.string a0_2,.bool false] 74 (0,0)) (by (with_reducible repeat (first|refine blk_drewN ?_ _|refine blk_drew ?_|refine blk_alloc ?_ _));exact BK201.out) hb);have n3_:=Aside0.mk (below_step (by repeat (first|(with_reducible first|exact HB.out|apply below_alloc|apply pw_below_drewN|apply below_drew1|refine below_set ?_ GE200.out|refine below_set ?_ GE201.out)|exact HB.out)) hb);clear BK200;clear BK201;clear HB;have HO204:=n0_;have BK200:=n1_;have BK201:=n2_;have HB:=n3_;clear n0_ n1_ n2_ n3_;clear hb ho6)))
 go_loopg [5] k (fun kq v5 w' => ∃ (x5_1 : List (S26)) (x202000_1 : ByteArray) (x202001_1 : Bool),Aside0 (impl_items.l0 kq x5_1 x202000_1 x202001_1=some (r1,r2))∧Aside0 (kq≤k)∧Aside0 (Kd.R k26 26 w' w.heap.size (fun k_ => k_≠gb200) v5 x5_1)∧Aside0 (w'.heap[gb200]? = some (.cells #[.int .i64 a0_0,.int .i64 a0_1,.string a0_2] 26 (0,0)))∧Aside0 (w'.heap[gb201]? = some (.cells #[.string x202000_1,.bool x202001_1] 74 (0,0)))∧Aside0 (Below w.heap.size w w'))
 case atStart => exact ⟨(y202),(a0_2),(false),H',⟨Nat.le_refl _⟩,⟨by (with_reducible repeat (first|apply Kd.R_alloc|apply Kd.R_drewN|apply Kd.R_drew));exact Kd.R_mono HO204.out (fun _ hk => hk.2)⟩,⟨by (with_reducible repeat (first|refine blk_drewN ?_ _|refine blk_drew ?_|refine blk_alloc ?_ _));exact BK200.out⟩,⟨by (with_reducible repeat (first|refine blk_drewN ?_ _|refine blk_drew ?_|refine blk_alloc ?_ _));exact BK201.out⟩,⟨by repeat (first|(with_reducible first|exact HB.out|apply below_alloc|apply pw_below_drewN|apply below_drew1|refine below_set ?_ GE200.out|refine below_set ?_ GE201.out)|exact HB.out)⟩⟩
 case round =>
  clear H'
  try clear p2
  try clear c6
  try clear hcz3_0
  try clear hcz3_1
  try clear hcz3_2
  try clear hfz3_0
  try clear hfz3_1
  try clear hfz3_2
  obtain ⟨x5_1,x202000_1,x202001_1,HA,HK1,HO_5,BK200,BK201,HB⟩:=hrel
  cases gk with
  | zero => exact absurd HA.out (by simp [impl_items.l0])
  | succ k1 =>
   have H:=HA.out
   clear HA
   simp only [impl_items.l0] at H
   by_cases c7 : x202000_1.toList=([] : List UInt8)
   ·
    rw [if_pos c7] at H
    have c7b0 : (x202000_1.toList == ([] : List UInt8))=true:=beq_iff_eq.mpr c7
    have c7b1 : (x202000_1.toList != ([] : List UInt8))=false:=bne_eq_false_iff_eq.mpr c7
    clear c7
    simp only [Option.some.injEq,Prod.mk.injEq] at H
    obtain ⟨rfl,rfl⟩:=H
    have hnb8:=NB201_200.out
    have hnc8:=NB200_201.out
    have hcz9_0 : wr.cell? ⟨gb201,0,none⟩=some (.string x202000_1):=(blk_cell BK201.out 0).trans rfl
    have hcz9_1 : wr.cell? ⟨gb201,1,none⟩=some (.bool x202001_1):=(blk_cell BK201.out 1).trans rfl
    have hfz9_0:=blk_frozen BK201.out 0
    have hfz9_1:=blk_frozen BK201.out 1
    go_wp2
    repeat (go_quiet (fail);try go_wp2)
    go_ret2
    exact ⟨_,by first|rfl|(simp [errW_none,errW_some] <;> rfl)|(simp [*,errW_none,errW_some] <;> rfl),by (with_reducible repeat (first|apply Kd.R_alloc|apply Kd.R_drewN|apply Kd.R_drew));exact Kd.R_mono HO_5.out (fun _ hk => trivial),by repeat (first|(with_reducible first|exact HB.out|apply below_alloc|apply pw_below_drewN|apply below_drew1|refine below_set ?_ GE200.out|refine below_set ?_ GE201.out)|exact HB.out)⟩
   ·
    rw [if_neg c7] at H
    have c7b0 : (x202000_1.toList == ([] : List UInt8))=false:=beq_eq_false_iff_ne.mpr c7
    have c7b1 : (x202000_1.toList != ([] : List UInt8))=true:=bne_iff_ne.mpr c7
    by_cases c10 : x202001_1=true
    ·
     subst c10
     have H1 : (some (x5_1,!true))=some (r1,r2):=by rw [if_pos rfl] at H;exact H
     clear H
     have H:=H1
     clear H1
     simp only [Option.some.injEq,Prod.mk.injEq] at H
     obtain ⟨rfl,rfl⟩:=H
     have hnb11:=NB201_200.out
     have hnc11:=NB200_201.out
     have hcz12_0 : wr.cell? ⟨gb201,0,none⟩=some (.string x202000_1):=(blk_cell BK201.out 0).trans rfl
     have hcz12_1 : wr.cell? ⟨gb201,1,none⟩=some (.bool true):=(blk_cell BK201.out 1).trans rfl
     have hfz12_0:=blk_frozen BK201.out 0
     have hfz12_1:=blk_frozen BK201.out 1
     go_wp2
     repeat (go_quiet (fail);try go_wp2)
     go_ret2
     exact ⟨_,by first|rfl|(simp [errW_none,errW_some] <;> rfl)|(simp [*,errW_none,errW_some] <;> rfl),by (with_reducible repeat (first|apply Kd.R_alloc|apply Kd.R_drewN|apply Kd.R_drew));exact Kd.R_mono HO_5.out (fun _ hk => trivial),by repeat (first|(with_reducible first|exact HB.out|apply below_alloc|apply pw_below_drewN|apply below_drew1|refine below_set ?_ GE200.out|refine below_set ?_ GE201.out)|exact HB.out)⟩
    ·
     replace c10:=Bool.eq_false_iff.mpr c10
     subst c10
     have H1 : ((impl_byteReader_value.f k1 x202000_1 false).bind fun bt205 => (if x5_1.length<4398046511104 then (impl_items.l0 k1 (x5_1 ++ [(⟨bt205.1,bt205.2.1,bt205.2.2.1⟩ : S26)]) bt205.2.2.2.1 bt205.2.2.2.2) else (none)))=some (r1,r2):=by rw [if_neg (show ¬ (false=true) by decide)] at H;exact H
     clear H
     have H:=H1
     clear H1
     replace H:=Option.bind_eq_some_iff.mp H
     obtain ⟨⟨t205,t206,t207,t208,t209⟩,A130,H⟩:=H
     replace H : (if x5_1.length<4398046511104 then (impl_items.l0 k1 (x5_1 ++ [(⟨t205,t206,t207⟩ : S26)]) t208 t209) else (none))=some (r1,r2):=H
     have A13:=Aside0.mk A130
     clear A130
     by_cases c14 : x5_1.length<4398046511104
     ·
      rw [if_pos c14] at H
      have LMc14:=Aside0.mk c14
      clear c14
      obtain ⟨y210,hy210⟩ : ∃ y_ : List (S26),y_=(x5_1 ++ [(⟨t205,t206,t207⟩ : S26)]):=⟨_,rfl⟩
      replace H : (impl_items.l0 k1 y210 t208 t209)=some (r1,r2):=by first|(rw [hy210];with_reducible exact H)|(have H2_:=(Option.bind_some _ _).symm.trans H;rw [hy210];with_reducible exact H2_)|(have H2_:=(Option.bind_some _ _).symm.trans H;with_reducible exact H2_)|with_reducible exact H|(rw [hy210];exact H)|exact H
      have Ny210:=Aside0.mk hy210
      clear hy210
      have H':=Aside0.mk H
      clear H
      have hnb15:=NB201_200.out
      have hnc15:=NB200_201.out
      have hcz16_0 : wr.cell? ⟨gb201,0,none⟩=some (.string x202000_1):=(blk_cell BK201.out 0).trans rfl
      have hcz16_1 : wr.cell? ⟨gb201,1,none⟩=some (.bool false):=(blk_cell BK201.out 1).trans rfl
      have hfz16_0:=blk_frozen BK201.out 0
      have hfz16_1:=blk_frozen BK201.out 1
      have HI201:=Aside0.mk (show IsS74 w wr gb201 x202000_1 false from ⟨BK201.out,GE201.out⟩)
      go_wp2_with (first|(go_at_call 56;(with_reducible refine (impl_byteReader_value.calls k1  gb201 x202000_1 false t205 t206 t207 t208 t209 w _ ?side1 ?side2 A13.out).mono ?_);(case side1 => repeat (first|(with_reducible first|exact HI201.out|apply IsS74.alloc|apply IsS74.drewN|apply IsS74.drew|apply IsS74.set_0|apply IsS74.set_1|refine IsS74.far ?_ NB201_200.out _)|exact HI201.out));(case side2 => repeat (first|(with_reducible first|exact HB.out|apply below_alloc|apply pw_below_drewN|apply below_drew1|refine below_set ?_ (IsS74.ge HI201.out)|refine below_set ?_ GE200.out)|exact HB.out));rintro e w17 ⟨rfl,hi,hb,hk⟩;have n0_:=Aside0.mk (Kd.R_mono (Kd.R_keep (IsS74.apart (show IsS74 w _ gb201 x202000_1 false from by repeat (first|(with_reducible first|exact HI201.out|apply IsS74.alloc|apply IsS74.drewN|apply IsS74.drew|apply IsS74.set_0|apply IsS74.set_1|refine IsS74.far ?_ NB201_200.out _)|exact HI201.out)) (by (with_reducible repeat (first|apply Kd.R_alloc|apply Kd.R_drewN|apply Kd.R_drew));exact HO_5.out) (by decide)) hk (fun _ h => h.2)) (fun _ h => h.1));have n1_:=Aside0.mk (KeepBut.blk hk (g':=gb200) (o:=.cells #[.int .i64 a0_0,.int .i64 a0_1,.string a0_2] 26 (0,0)) (by (with_reducible repeat (first|refine blk_drewN ?_ _|refine blk_drew ?_|refine blk_alloc ?_ _));exact BK200.out) NB200_201.out (by simp));have n2_:=Aside0.mk (hb);have n3_:=Aside0.mk ((show _∧_ from hi).1);clear HO_5;clear BK200;clear HB;clear BK201;clear HI201;have HO_5:=n0_;have BK200:=n1_;have HB:=n2_;have BK201:=n3_;clear n0_ n1_ n2_ n3_;(try clear hb);(try clear hb2);(try clear hk);(try clear hi))|((with_reducible refine gate_builtin (b:=.append) (xs:=#[.tmp 23,.tmp 26]) rfl ?_);at_builtin;refine Kd.R_append k26 (w0:=w) w.heap.size rfl (.tmp 23) (.tmp 26) 41 26 (.agg #[(.int .i64 0),(.int .i64 0),(.string ⟨#[]⟩)]) 32 rfl Try.underlying41 info26 rfl (by decide) (by omega) u5 x5_1 (⟨t205,t206,t207⟩ : S26) [.int .i64 t205,.int .i64 t206,.string t207] (fun k_ => k_≠gb200) (fun _ => False) rfl rfl ?aP (fun _ hk => hk.elim) ?aF ?aO ?aB ?aS ?aL ?_;(case aP => exact k26_mkM _ _ _ (⟨t205,t206,t207⟩ : S26));(case aB => exact (by repeat (first|(with_reducible first|exact HB.out|apply below_alloc|apply pw_below_drewN|apply below_drew1|refine below_set ?_ GE200.out|refine below_set ?_ GE201.out)|exact HB.out)));(case aF => exact (fun k_ hk => Kd.freshB (g:=gb200) (o:=.cells #[.int .i64 a0_0,.int .i64 a0_1,.string a0_2] 26 (0,0)) (by (with_reducible repeat (first|refine blk_drewN ?_ _|refine blk_drew ?_|refine blk_alloc ?_ _));exact BK200.out) k_ hk));(case aO => exact (by (with_reducible repeat (first|apply Kd.R_alloc|apply Kd.R_drewN|apply Kd.R_drew));exact HO_5.out));(case aS => exact (below_size (by repeat (first|(with_reducible first|exact HB.out|apply below_alloc|apply pw_below_drewN|apply below_drew1|refine below_set ?_ GE200.out|refine below_set ?_ GE201.out)|exact HB.out))));(case aL => have:=LMc14.out;omega);intro v211 w18 ho hb hg hat;rw [← Ny210.out] at ho;have n0_:=Aside0.mk (blk_grown (g:=gb200) (o:=.cells #[.int .i64 a0_0,.int .i64 a0_1,.string a0_2] 26 (0,0)) (by (with_reducible repeat (first|refine blk_drewN ?_ _|refine blk_drew ?_|refine blk_alloc ?_ _));exact BK200.out) hg (Kd.R_away HO_5.out (fun _ hk => hk)));have n1_:=Aside0.mk (blk_grown (g:=gb201) (o:=.cells #[.string t208,.bool t209] 74 (0,0)) (by (with_reducible repeat (first|refine blk_drewN ?_ _|refine blk_drew ?_|refine blk_alloc ?_ _));exact BK201.out) hg (Kd.R_ne HO_5.out BK201.out (by decide)));have n2_:=Aside0.mk (hb);have n3_:=Aside0.mk (ho);clear BK200;clear BK201;clear HB;clear HO_5;have BK200:=n0_;have BK201:=n1_;have HB:=n2_;have HO212:=n3_;clear n0_ n1_ n2_ n3_;clear ho hb hg hat))
      repeat (go_quiet (first|(go_at_call 56;(with_reducible refine (impl_byteReader_value.calls k1  gb201 x202000_1 false t205 t206 t207 t208 t209 w _ ?side1 ?side2 A13.out).mono ?_);(case side1 => repeat (first|(with_reducible first|exact HI201.out|apply IsS74.alloc|apply IsS74.drewN|apply IsS74.drew|apply IsS74.set_0|apply IsS74.set_1|refine IsS74.far ?_ NB201_200.out _)|exact HI201.out));(case side2 => repeat (first|(with_reducible first|exact HB.out|apply below_alloc|apply pw_below_drewN|apply below_drew1|refine below_set ?_ (IsS74.ge HI201.out)|refine below_set ?_ GE200.out)|exact HB.out));rintro e w17 ⟨rfl,hi,hb,hk⟩;have n0_:=Aside0.mk (Kd.R_mono (Kd.R_keep (IsS74.apart (show IsS74 w _ gb201 x202000_1 false from by repeat (first|(with_reducible first|exact HI201.out|apply IsS74.alloc|apply IsS74.drewN|apply IsS74.drew|apply IsS74.set_0|apply IsS74.set_1|refine IsS74.far ?_ NB201_200.out _)|exact HI201.out)) (by (with_reducible repeat (first|apply Kd.R_alloc|apply Kd.R_drewN|apply Kd.R_drew));exact HO_5.out) (by decide)) hk (fun _ h => h.2)) (fun _ h => h.1));have n1_:=Aside0.mk (KeepBut.blk hk (g':=gb200) (o:=.cells #[.int .i64 a0_0,.int .i64 a0_1,.string a0_2] 26 (0,0)) (by (with_reducible repeat (first|refine blk_drewN ?_ _|refine blk_drew ?_|refine blk_alloc ?_ _));exact BK200.out) NB200_201.out (by simp));have n2_:=Aside0.mk (hb);have n3_:=Aside0.mk ((show _∧_ from hi).1);clear HO_5;clear BK200;clear HB;clear BK201;clear HI201;have HO_5:=n0_;have BK200:=n1_;have HB:=n2_;have BK201:=n3_;clear n0_ n1_ n2_ n3_;(try clear hb);(try clear hb2);(try clear hk);(try clear hi))|((with_reducible refine gate_builtin (b:=.append) (xs:=#[.tmp 23,.tmp 26]) rfl ?_);at_builtin;refine Kd.R_append k26 (w0:=w) w.heap.size rfl (.tmp 23) (.tmp 26) 41 26 (.agg #[(.int .i64 0),(.int .i64 0),(.string ⟨#[]⟩)]) 32 rfl Try.underlying41 info26 rfl (by decide) (by omega) u5 x5_1 (⟨t205,t206,t207⟩ : S26) [.int .i64 t205,.int .i64 t206,.string t207] (fun k_ => k_≠gb200) (fun _ => False) rfl rfl ?aP (fun _ hk => hk.elim) ?aF ?aO ?aB ?aS ?aL ?_;(case aP => exact k26_mkM _ _ _ (⟨t205,t206,t207⟩ : S26));(case aB => exact (by repeat (first|(with_reducible first|exact HB.out|apply below_alloc|apply pw_below_drewN|apply below_drew1|refine below_set ?_ GE200.out|refine below_set ?_ GE201.out)|exact HB.out)));(case aF => exact (fun k_ hk => Kd.freshB (g:=gb200) (o:=.cells #[.int .i64 a0_0,.int .i64 a0_1,.string a0_2] 26 (0,0)) (by (with_reducible repeat (first|refine blk_drewN ?_ _|refine blk_drew ?_|refine blk_alloc ?_ _));exact BK200.out) k_ hk));(case aO => exact (by (with_reducible repeat (first|apply Kd.R_alloc|apply Kd.R_drewN|apply Kd.R_drew));exact HO_5.out));(case aS => exact (below_size (by repeat (first|(with_reducible first|exact HB.out|apply below_alloc|apply pw_below_drewN|apply below_drew1|refine below_set ?_ GE200.out|refine below_set ?_ GE201.out)|exact HB.out))));(case aL => have:=LMc14.out;omega);intro v211 w18 ho hb hg hat;rw [← Ny210.out] at ho;have n0_:=Aside0.mk (blk_grown (g:=gb200) (o:=.cells #[.int .i64 a0_0,.int .i64 a0_1,.string a0_2] 26 (0,0)) (by (with_reducible repeat (first|refine blk_drewN ?_ _|refine blk_drew ?_|refine blk_alloc ?_ _));exact BK200.out) hg (Kd.R_away HO_5.out (fun _ hk => hk)));have n1_:=Aside0.mk (blk_grown (g:=gb201) (o:=.cells #[.string t208,.bool t209] 74 (0,0)) (by (with_reducible repeat (first|refine blk_drewN ?_ _|refine blk_drew ?_|refine blk_alloc ?_ _));exact BK201.out) hg (Kd.R_ne HO_5.out BK201.out (by decide)));have n2_:=Aside0.mk (hb);have n3_:=Aside0.mk (ho);clear BK200;clear BK201;clear HB;clear HO_5;have BK200:=n0_;have BK201:=n1_;have HB:=n2_;have HO212:=n3_;clear n0_ n1_ n2_ n3_;clear ho hb hg hat));try go_wp2_with (first|(go_at_call 56;(with_reducible refine (impl_byteReader_value.calls k1  gb201 x202000_1 false t205 t206 t207 t208 t209 w _ ?side1 ?side2 A13.out).mono ?_);(case side1 => repeat (first|(with_reducible first|exact HI201.out|apply IsS74.alloc|apply IsS74.drewN|apply IsS74.drew|apply IsS74.set_0|apply IsS74.set_1|refine IsS74.far ?_ NB201_200.out _)|exact HI201.out));(case side2 => repeat (first|(with_reducible first|exact HB.out|apply below_alloc|apply pw_below_drewN|apply below_drew1|refine below_set ?_ (IsS74.ge HI201.out)|refine below_set ?_ GE200.out)|exact HB.out));rintro e w17 ⟨rfl,hi,hb,hk⟩;have n0_:=Aside0.mk (Kd.R_mono (Kd.R_keep (IsS74.apart (show IsS74 w _ gb201 x202000_1 false from by repeat (first|(with_reducible first|exact HI201.out|apply IsS74.alloc|apply IsS74.drewN|apply IsS74.drew|apply IsS74.set_0|apply IsS74.set_1|refine IsS74.far ?_ NB201_200.out _)|exact HI201.out)) (by (with_reducible repeat (first|apply Kd.R_alloc|apply Kd.R_drewN|apply Kd.R_drew));exact HO_5.out) (by decide)) hk (fun _ h => h.2)) (fun _ h => h.1));have n1_:=Aside0.mk (KeepBut.blk hk (g':=gb200) (o:=.cells #[.int .i64 a0_0,.int .i64 a0_1,.string a0_2] 26 (0,0)) (by (with_reducible repeat (first|refine blk_drewN ?_ _|refine blk_drew ?_|refine blk_alloc ?_ _));exact BK200.out) NB200_201.out (by simp));have n2_:=Aside0.mk (hb);have n3_:=Aside0.mk ((show _∧_ from hi).1);clear HO_5;clear BK200;clear HB;clear BK201;clear HI201;have HO_5:=n0_;have BK200:=n1_;have HB:=n2_;have BK201:=n3_;clear n0_ n1_ n2_ n3_;(try clear hb);(try clear hb2);(try clear hk);(try clear hi))|((with_reducible refine gate_builtin (b:=.append) (xs:=#[.tmp 23,.tmp 26]) rfl ?_);at_builtin;refine Kd.R_append k26 (w0:=w) w.heap.size rfl (.tmp 23) (.tmp 26) 41 26 (.agg #[(.int .i64 0),(.int .i64 0),(.string ⟨#[]⟩)]) 32 rfl Try.underlying41 info26 rfl (by decide) (by omega) u5 x5_1 (⟨t205,t206,t207⟩ : S26) [.int .i64 t205,.int .i64 t206,.string t207] (fun k_ => k_≠gb200) (fun _ => False) rfl rfl ?aP (fun _ hk => hk.elim) ?aF ?aO ?aB ?aS ?aL ?_;(case aP => exact k26_mkM _ _ _ (⟨t205,t206,t207⟩ : S26));(case aB => exact (by repeat (first|(with_reducible first|exact HB.out|apply below_alloc|apply pw_below_drewN|apply below_drew1|refine below_set ?_ GE200.out|refine below_set ?_ GE201.out)|exact HB.out)));(case aF => exact (fun k_ hk => Kd.freshB (g:=gb200) (o:=.cells #[.int .i64 a0_0,.int .i64 a0_1,.string a0_2] 26 (0,0)) (by (with_reducible repeat (first|refine blk_drewN ?_ _|refine blk_drew ?_|refine blk_alloc ?_ _));exact BK200.out) k_ hk));(case aO => exact (by (with_reducible repeat (first|apply Kd.R_alloc|apply Kd.R_drewN|apply Kd.R_drew));exact HO_5.out));(case aS => exact (below_size (by repeat (first|(with_reducible first|exact HB.out|apply below_alloc|apply pw_below_drewN|apply below_drew1|refine below_set ?_ GE200.out|refine below_set ?_ GE201.out)|exact HB.out))));(case aL => have:=LMc14.out;omega);intro v211 w18 ho hb hg hat;rw [← Ny210.out] at ho;have n0_:=Aside0.mk (blk_grown (g:=gb200) (o:=.cells #[.int .i64 a0_0,.int .i64 a0_1,.string a0_2] 26 (0,0)) (by (with_reducible repeat (first|refine blk_drewN ?_ _|refine blk_drew ?_|refine blk_alloc ?_ _));exact BK200.out) hg (Kd.R_away HO_5.out (fun _ hk => hk)));have n1_:=Aside0.mk (blk_grown (g:=gb201) (o:=.cells #[.string t208,.bool t209] 74 (0,0)) (by (with_reducible repeat (first|refine blk_drewN ?_ _|refine blk_drew ?_|refine blk_alloc ?_ _));exact BK201.out) hg (Kd.R_ne HO_5.out BK201.out (by decide)));have n2_:=Aside0.mk (hb);have n3_:=Aside0.mk (ho);clear BK200;clear BK201;clear HB;clear HO_5;have BK200:=n0_;have BK201:=n1_;have HB:=n2_;have HO212:=n3_;clear n0_ n1_ n2_ n3_;clear ho hb hg hat)))
      go_roundg k1
      case measure => have:=HK1.out;omega
      case rel => exact ⟨(y210),(t208),(t209),H',⟨by have:=HK1.out;omega⟩,⟨by (with_reducible repeat (first|apply Kd.R_alloc|apply Kd.R_drewN|apply Kd.R_drew));exact HO212.out⟩,⟨by (with_reducible repeat (first|refine blk_drewN ?_ _|refine blk_drew ?_|refine blk_alloc ?_ _));exact BK200.out⟩,⟨by (with_reducible repeat (first|refine blk_drewN ?_ _|refine blk_drew ?_|refine blk_alloc ?_ _));exact BK201.out⟩,⟨by repeat (first|(with_reducible first|exact HB.out|apply below_alloc|apply pw_below_drewN|apply below_drew1|refine below_set ?_ GE200.out|refine below_set ?_ GE201.out)|exact HB.out)⟩⟩
     ·
      rw [if_neg c14] at H
      exact absurd H (by simp)

end Go.Proofs.Ytpmeglcmhiihoaa.Q
end
section
namespace Go.Proofs.Ytpmeglcmhiihoaa.Q
open Go.RowKit Go.Proofs.YtpmeglcmhiihoaaW.PrintWords Go.Proofs.YtpmeglcmhiihoaaW.PrintLast Go.Proofs.YtpmeglcmhiihoaaW.PrintMore
attribute [local go_sem] max2_int min2_int max_two min_two max_three min_three max_four min_four max2_str min2_str str_geq str_gtr str_leq   -- for this text's walks alone
set_option linter.unusedVariables false
set_option linter.unusedSimpArgs false

mutual
def impl_fields.l0 : Nat→List (S68)→ByteArray→Bool→Option ((List (S68))×Bool)
 | 0,_,_,_ => none
 | k + 1,x5,x215000,x215001 => if x215000.toList=([] : List UInt8) then (impl_fields.j1 k x5 false x215000 x215001) else (impl_fields.j1 k x5 (!x215001) x215000 x215001)
def impl_fields.j1 : Nat→List (S68)→Bool→ByteArray→Bool→Option ((List (S68))×Bool)
 | 0,_,_,_,_ => none
 | k + 1,x5,x22,x215000,x215001 => if x22=true then ((impl_byteReader_num.f k x215000 x215001 1).bind fun bt218 => ((impl_byteReader_take.f bt218.2.1 bt218.2.2 bt218.1).bind fun bt221 => ((impl_byteReader_value.f k bt221.2.1 bt221.2.2).bind fun bt224 => (if x5.length<2932031007402 then (impl_fields.l0 k (x5 ++ [(⟨bt221.1,(⟨bt224.1,bt224.2.1,bt224.2.2.1⟩ : S26)⟩ : S68)]) bt224.2.2.2.1 bt224.2.2.2.2) else (none))))) else (some (x5,!x215001))
end
def impl_fields.f (k : Nat) (a0_0 : Int) (a0_1 : Int) (a0_2 : ByteArray) : Option ((List (S68))×Bool):=impl_fields.l0 k (([] : List (S68))) a0_2 false
theorem impl_fields.mono_l : ∀ k,(∀ y0 y1 y2,LeO (impl_fields.l0 k y0 y1 y2) (impl_fields.l0 (k + 1) y0 y1 y2))∧(∀ y0 y1 y2 y3,LeO (impl_fields.j1 k y0 y1 y2 y3) (impl_fields.j1 (k + 1) y0 y1 y2 y3))
 | 0 => ⟨fun _ _ _ r h => by simp [impl_fields.l0] at h,fun _ _ _ _ r h => by simp [impl_fields.j1] at h⟩
 | k + 1 => by
  obtain ⟨ih0,ih1⟩:=impl_fields.mono_l k
  refine ⟨?_,?_⟩
  ·
   intro y0 y1 y2
   unfold impl_fields.l0
   repeat' first
   | (with_reducible exact ih0 _ _ _)
   | (with_reducible exact ih1 _ _ _ _)
   | (with_reducible exact impl_byteReader_value.mono _ _ _)
   | (with_reducible exact impl_byteReader_num.mono _ _ _ _)
   | (with_reducible exact LeO.refl _)
   | (with_reducible exact LeO.none _)
   | (with_reducible refine LeO.ite ?_ ?_)
   | (with_reducible refine LeO.bind ?_ (fun _ => ?_))
   | exact ih0 _ _ _
   | exact ih1 _ _ _ _
   | exact impl_byteReader_value.mono _ _ _
   | exact impl_byteReader_num.mono _ _ _ _
   | exact LeO.none _
   | refine LeO.ite ?_ ?_
   | refine LeO.bind ?_ (fun _ => ?_)
  ·
   intro y0 y1 y2 y3
   unfold impl_fields.j1
   repeat' first
   | (with_reducible exact ih0 _ _ _)
   | (with_reducible exact ih1 _ _ _ _)
   | (with_reducible exact impl_byteReader_value.mono _ _ _)
   | (with_reducible exact impl_byteReader_num.mono _ _ _ _)
   | (with_reducible exact LeO.refl _)
   | (with_reducible exact LeO.none _)
   | (with_reducible refine LeO.ite ?_ ?_)
   | (with_reducible refine LeO.bind ?_ (fun _ => ?_))
   | exact ih0 _ _ _
   | exact ih1 _ _ _ _
   | exact impl_byteReader_value.mono _ _ _
   | exact impl_byteReader_num.mono _ _ _ _
   | exact LeO.none _
   | refine LeO.ite ?_ ?_
   | refine LeO.bind ?_ (fun _ => ?_)
theorem impl_fields.mono : ∀ a0 a1 a2 k,LeO (impl_fields.f k a0 a1 a2) (impl_fields.f (k + 1) a0 a1 a2):=by
 intro a0 a1 a2 k
 obtain ⟨ih0,ih1⟩:=impl_fields.mono_l k
 unfold impl_fields.f
 repeat' first
   | (with_reducible exact ih0 _ _ _)
   | (with_reducible exact ih1 _ _ _ _)
   | (with_reducible exact impl_byteReader_value.mono _ _ _)
   | (with_reducible exact impl_byteReader_num.mono _ _ _ _)
   | (with_reducible exact LeO.refl _)
   | (with_reducible exact LeO.none _)
   | (with_reducible refine LeO.ite ?_ ?_)
   | (with_reducible refine LeO.bind ?_ (fun _ => ?_))
   | exact ih0 _ _ _
   | exact ih1 _ _ _ _
   | exact impl_byteReader_value.mono _ _ _
   | exact impl_byteReader_num.mono _ _ _ _
   | exact LeO.none _
   | refine LeO.ite ?_ ?_
   | refine LeO.bind ?_ (fun _ => ?_)
set_option maxHeartbeats 8000000 in
set_option maxRecDepth 100000 in
theorem impl_fields.calls (k : Nat) (a0_0 : Int) (a0_1 : Int) (a0_2 : ByteArray) (r1 : List (S68)) (r2 : Bool) (w : World) (h : impl_fields.f k a0_0 a0_1 a0_2=some (r1,r2)) :
  Calls Try.prog 65 #[.agg #[.int .i64 a0_0,.int .i64 a0_1,.string a0_2]] w fun e w' => ∃ v0_ : Value,e = .returned (.tuple #[v0_,.bool r2])∧Kd.R k68 68 w' w.heap.size (fun _ => True) v0_ r1∧Below w.heap.size w w':=by
 have hu26:=Try.underlying26
 have hu74:=Try.underlying74
 have hu68:=Try.underlying68
 have HB:=Aside0.mk (Below.refl w.heap.size w)
 have H : (impl_fields.l0 k (([] : List (S68))) a0_2 false)=some (r1,r2):=h
 clear h
 obtain ⟨y215,hy215⟩ : ∃ y_ : List (S68),y_=(([] : List (S68))):=⟨_,rfl⟩
 replace H : (impl_fields.l0 k y215 a0_2 false)=some (r1,r2):=by first|(rw [hy215];with_reducible exact H)|(have H2_:=(Option.bind_some _ _).symm.trans H;rw [hy215];with_reducible exact H2_)|(have H2_:=(Option.bind_some _ _).symm.trans H;with_reducible exact H2_)|with_reducible exact H|(rw [hy215];exact H)|exact H
 have Ny215:=Aside0.mk hy215
 clear hy215
 have H':=Aside0.mk H
 clear H
 go_enter Try.func65,Try.ntmps65
 go_wp2_with (first|((with_reducible refine gate_dst (N:=1) rfl ?_);refine box_event ?hg (N:=1) ?hd (cs:=#[.int .i64 a0_0,.int .i64 a0_1,.string a0_2]) (t:=26) ?hr ?_;(case hd => rfl);(case hg => rfl);(case hr => first|(go_simp;done)|(go_simp;rfl));intro gb213 hg w2 hbox hb;have n0_:=Aside0.mk (below_step (by repeat (first|(with_reducible first|exact HB.out|apply below_alloc|apply pw_below_drewN|apply below_drew1)|exact HB.out)) hb);have n1_:=Aside0.mk (hbox);have n2_:=Aside0.mk ((by rw [hg];exact (below_size (by repeat (first|(with_reducible first|exact HB.out|apply below_alloc|apply pw_below_drewN|apply below_drew1)|exact HB.out))) : w.heap.size≤gb213));have n3_:=Aside0.mk ((by rw [hg];exact (below_size (by repeat (first|(with_reducible first|exact HB.out|apply below_alloc|apply pw_below_drewN|apply below_drew1)|exact HB.out))) : w.heap.size≤gb213));clear HB;have HB:=n0_;have BK213:=n1_;have GW213:=n2_;have GE213:=n3_;clear n0_ n1_ n2_ n3_;clear hb hbox hg;have hcz3_0 : w2.cell? ⟨gb213,0,none⟩=some (.int .i64 a0_0):=(blk_cell BK213.out 0).trans rfl;have hcz3_1 : w2.cell? ⟨gb213,1,none⟩=some (.int .i64 a0_1):=(blk_cell BK213.out 1).trans rfl;have hcz3_2 : w2.cell? ⟨gb213,2,none⟩=some (.string a0_2):=(blk_cell BK213.out 2).trans rfl;have hfz3_0:=blk_frozen BK213.out 0;have hfz3_1:=blk_frozen BK213.out 1;have hfz3_2:=blk_frozen BK213.out 2)|((with_reducible refine gate_dst (N:=9) rfl ?_);refine box_event ?hg (N:=9) ?hd (cs:=#[.string a0_2,.bool false]) (t:=74) ?hr ?_;(case hd => rfl);(case hg => rfl);(case hr => first|(go_simp;done)|(go_simp;rfl));intro gb214 hg w4 hbox hb;have n0_:=Aside0.mk (blk_below (g:=gb213) (o:=.cells #[.int .i64 a0_0,.int .i64 a0_1,.string a0_2] 26 (0,0)) (by (with_reducible repeat (first|refine blk_drewN ?_ _|refine blk_drew ?_|refine blk_alloc ?_ _));exact BK213.out) hb);have n1_:=Aside0.mk (below_step (by repeat (first|(with_reducible first|exact HB.out|apply below_alloc|apply pw_below_drewN|apply below_drew1|refine below_set ?_ GE213.out)|exact HB.out)) hb);have n2_:=Aside0.mk (hbox);have n3_:=Aside0.mk ((by rw [hg];exact (below_size (by repeat (first|(with_reducible first|exact HB.out|apply below_alloc|apply pw_below_drewN|apply below_drew1|refine below_set ?_ GE213.out)|exact HB.out))) : w.heap.size≤gb214));have n4_:=Aside0.mk ((by rw [hg];exact (below_size (by repeat (first|(with_reducible first|exact HB.out|apply below_alloc|apply pw_below_drewN|apply below_drew1|refine below_set ?_ GE213.out)|exact HB.out))) : w.heap.size≤gb214));have n5_:=Aside0.mk ((by rw [hg];exact Nat.ne_of_lt (blk_lt (g:=gb213) (o:=.cells #[.int .i64 a0_0,.int .i64 a0_1,.string a0_2] 26 (0,0)) (by (with_reducible repeat (first|refine blk_drewN ?_ _|refine blk_drew ?_|refine blk_alloc ?_ _));exact BK213.out)) : gb213≠gb214));have n6_:=Aside0.mk ((by rw [hg];exact Nat.ne_of_gt (blk_lt (g:=gb213) (o:=.cells #[.int .i64 a0_0,.int .i64 a0_1,.string a0_2] 26 (0,0)) (by (with_reducible repeat (first|refine blk_drewN ?_ _|refine blk_drew ?_|refine blk_alloc ?_ _));exact BK213.out)) : gb214≠gb213));clear BK213;clear HB;have BK213:=n0_;have HB:=n1_;have BK214:=n2_;have GW214:=n3_;have GE214:=n4_;have NB213_214:=n5_;have NB214_213:=n6_;clear n0_ n1_ n2_ n3_ n4_ n5_ n6_;clear hb hbox hg)|((with_reducible refine gate_dst (N:=10) rfl ?_);refine Kd.R_lit k68 _ 68 ?hg (N:=10) ?hd (xs:=([] : List (S68))) (inner:=[]) (ok:=fun _ => True) (okp:=fun _ => True) ?hr ?hp (fun _ hk => hk) trivial (Below.refl _ _) (Nat.le_refl _) (by simp) ?_;(case hd => rfl);(case hg => rfl);(case hr => first|(go_simp;done)|(go_simp;rfl));(case hp => exact (Reps.none _ _));intro v216 w5 ho6 hb hg_ hnew_;clear hg_ hnew_;(first|rw [← Ny215.out] at ho6|(simp only [Int.reduceToNat] at ho6;rw [← Ny215.out] at ho6));have n0_:=Aside0.mk (Kd.R_lower ho6 (below_size (by repeat (first|(with_reducible first|exact HB.out|apply below_alloc|apply pw_below_drewN|apply below_drew1|refine below_set ?_ GE213.out|refine below_set ?_ GE214.out)|exact HB.out))));have n1_:=Aside0.mk (blk_below (g:=gb213) (o:=.cells #[.int .i64 a0_0,.int .i64 a0_1,.string a0_2] 26 (0,0)) (by (with_reducible repeat (first|refine blk_drewN ?_ _|refine blk_drew ?_|refine blk_alloc ?_ _));exact BK213.out) hb);have n2_:=Aside0.mk (blk_below (g:=gb214) (o:=.cells #[.string a0_2,.bool false] 74 (0,0)) (by (with_reducible repeat (first|refine blk_drewN ?_ _|refine blk_drew ?_|refine blk_alloc ?_ _));exact BK214.out) hb);have n3_:=Aside0.mk (below_step (by repeat (first|(with_reducible first|exact HB.out|apply below_alloc|apply pw_below_drewN|apply below_drew1|refine below_set ?_ GE213.out|refine below_set ?_ GE214.out)|exact HB.out)) hb);clear BK213;clear BK214;clear HB;have HO217:=n0_;have BK213:=n1_;have BK214:=n2_;have HB:=n3_;clear n0_ n1_ n2_ n3_;clear hb ho6))
 repeat (go_quiet (first|((with_reducible refine gate_dst (N:=1) rfl ?_);refine box_event ?hg (N:=1) ?hd (cs:=#[.int .i64 a0_0,.int .i64 a0_1,.string a0_2]) (t:=26) ?hr ?_;(case hd => rfl);(case hg => rfl);(case hr => first|(go_simp;done)|(go_simp;rfl));intro gb213 hg w2 hbox hb;have n0_:=Aside0.mk (below_step (by repeat (first|(with_reducible first|exact HB.out|apply below_alloc|apply pw_below_drewN|apply below_drew1)|exact HB.out)) hb);have n1_:=Aside0.mk (hbox);have n2_:=Aside0.mk ((by rw [hg];exact (below_size (by repeat (first|(with_reducible first|exact HB.out|apply below_alloc|apply pw_below_drewN|apply below_drew1)|exact HB.out))) : w.heap.size≤gb213));have n3_:=Aside0.mk ((by rw [hg];exact (below_size (by repeat (first|(with_reducible first|exact HB.out|apply below_alloc|apply pw_below_drewN|apply below_drew1)|exact HB.out))) : w.heap.size≤gb213));clear HB;have HB:=n0_;have BK213:=n1_;have GW213:=n2_;have GE213:=n3_;clear n0_ n1_ n2_ n3_;clear hb hbox hg;have hcz3_0 : w2.cell? ⟨gb213,0,none⟩=some (.int .i64 a0_0):=(blk_cell BK213.out 0).trans rfl;have hcz3_1 : w2.cell? ⟨gb213,1,none⟩=some (.int .i64 a0_1):=(blk_cell BK213.out 1).trans rfl;have hcz3_2 : w2.cell? ⟨gb213,2,none⟩=some (.string a0_2):=(blk_cell BK213.out 2).trans rfl;have hfz3_0:=blk_frozen BK213.out 0;have hfz3_1:=blk_frozen BK213.out 1;have hfz3_2:=blk_frozen BK213.out 2)|((with_reducible refine gate_dst (N:=9) rfl ?_);refine box_event ?hg (N:=9) ?hd (cs:=#[.string a0_2,.bool false]) (t:=74) ?hr ?_;(case hd => rfl);(case hg => rfl);(case hr => first|(go_simp;done)|(go_simp;rfl));intro gb214 hg w4 hbox hb;have n0_:=Aside0.mk (blk_below (g:=gb213) (o:=.cells #[.int .i64 a0_0,.int .i64 a0_1,.string a0_2] 26 (0,0)) (by (with_reducible repeat (first|refine blk_drewN ?_ _|refine blk_drew ?_|refine blk_alloc ?_ _));exact BK213.out) hb);have n1_:=Aside0.mk (below_step (by repeat (first|(with_reducible first|exact HB.out|apply below_alloc|apply pw_below_drewN|apply below_drew1|refine below_set ?_ GE213.out)|exact HB.out)) hb);have n2_:=Aside0.mk (hbox);have n3_:=Aside0.mk ((by rw [hg];exact (below_size (by repeat (first|(with_reducible first|exact HB.out|apply below_alloc|apply pw_below_drewN|apply below_drew1|refine below_set ?_ GE213.out)|exact HB.out))) : w.heap.size≤gb214));have n4_:=Aside0.mk ((by rw [hg];exact (below_size (by repeat (first|(with_reducible first|exact HB.out|apply below_alloc|apply pw_below_drewN|apply below_drew1|refine below_set ?_ GE213.out)|exact HB.out))) : w.heap.size≤gb214));have n5_:=Aside0.mk ((by rw [hg];exact Nat.ne_of_lt (blk_lt (g:=gb213) (o:=.cells #[.int .i64 a0_0,.int .i64 a0_1,.string a0_2] 26 (0,0)) (by (with_reducible repeat (first|refine blk_drewN ?_ _|refine blk_drew ?_|refine blk_alloc ?_ _));exact BK213.out)) : gb213≠gb214));have n6_:=Aside0.mk ((by rw [hg];exact Nat.ne_of_gt (blk_lt (g:=gb213) (o:=.cells #[.int .i64 a0_0,.int .i64 a0_1,.string a0_2] 26 (0,0)) (by (with_reducible repeat (first|refine blk_drewN ?_ _|refine blk_drew ?_|refine blk_alloc ?_ _));exact BK213.out)) : gb214≠gb213));clear BK213;clear HB;have BK213:=n0_;have HB:=n1_;have BK214:=n2_;have GW214:=n3_;have GE214:=n4_;have NB213_214:=n5_;have NB214_213:=n6_;clear n0_ n1_ n2_ n3_ n4_ n5_ n6_;clear hb hbox hg)|((with_reducible refine gate_dst (N:=10) rfl ?_);refine Kd.R_lit k68 _ 68 ?hg (N:=10) ?hd (xs:=([] : List (S68))) (inner:=[]) (ok:=fun _ => True) (okp:=fun _ => True) ?hr ?hp (fun _ hk => hk) trivial (Below.refl _ _) (Nat.le_refl _) (by simp) ?_;(case hd => rfl);(case hg => rfl);(case hr => first|(go_simp;done)|(go_simp;rfl));(case hp => exact (Reps.none _ _));intro v216 w5 ho6 hb hg_ hnew_;clear hg_ hnew_;(first|rw [← Ny215.out] at ho6|(simp only [Int.reduceToNat] at ho6;rw [← Ny215.out] at ho6));have n0_:=Aside0.mk (Kd.R_lower ho6 (below_size (by repeat (first|(with_reducible first|exact HB.out|apply below_alloc|apply pw_below_drewN|apply below_drew1|refine below_set ?_ GE213.out|refine below_set ?_ GE214.out)|exact HB.out))));have n1_:=Aside0.mk (blk_below (g:=gb213) (o:=.cells #[.int .i64 a0_0,.int .i64 a0_1,.string a0_2] 26 (0,0)) (by (with_reducible repeat (first|refine blk_drewN ?_ _|refine blk_drew ?_|refine blk_alloc ?_ _));exact BK213.out) hb);have n2_:=Aside0.mk (blk_below (g:=gb214) (o:=.cells #[.string a0_2,.bool false] 74 (0,0)) (by (with_reducible repeat (first|refine blk_drewN ?_ _|refine blk_drew ?_|refine blk_alloc ?_ _));exact BK214.out) hb);have n3_:=Aside0.mk (below_step (by repeat (first|(with_reducible first|exact HB.out|apply below_alloc|apply pw_below_drewN|apply below_drew1|refine below_set ?_ GE213.out|refine below_set ?_ GE214.out)|exact HB.out)) hb);clear BK213;clear BK214;clear HB;have HO217:=n0_;have BK213:=n1_;have BK214:=n2_;have HB:=n3_;clear n0_ n1_ n2_ n3_;clear hb ho6));try go_wp2_with (first|((with_reducible refine gate_dst (N:=1) rfl ?_);refine box_event ?hg (N:=1) ?hd (cs:=#[.int .i64 a0_0,.int .i64 a0_1,.string a0_2]) (t:=26) ?hr ?_;(case hd => rfl);(case hg => rfl);(case hr => first|(go_simp;done)|(go_simp;rfl));intro gb213 hg w2 hbox hb;have n0_:=Aside0.mk (below_step (by repeat (first|(with_reducible first|exact HB.out|apply below_alloc|apply pw_below_drewN|apply below_drew1)|exact HB.out)) hb);have n1_:=Aside0.mk (hbox);have n2_:=Aside0.mk ((by rw [hg];exact (below_size (by repeat (first|(with_reducible first|exact HB.out|apply below_alloc|apply pw_below_drewN|apply below_drew1)|exact HB.out))) : w.heap.size≤gb213));have n3_:=Aside0.mk ((by rw [hg];exact (below_size (by repeat (first|(with_reducible first|exact HB.out|apply below_alloc|apply pw_below_drewN|apply below_drew1)|exact HB.out))) : w.heap.size≤gb213));clear HB;have HB:=n0_;have BK213:=n1_;have GW213:=n2_;have GE213:=n3_;clear n0_ n1_ n2_ n3_;clear hb hbox hg;have hcz3_0 : w2.cell? ⟨gb213,0,none⟩=some (.int .i64 a0_0):=(blk_cell BK213.out 0).trans rfl;have hcz3_1 : w2.cell? ⟨gb213,1,none⟩=some (.int .i64 a0_1):=(blk_cell BK213.out 1).trans rfl;have hcz3_2 : w2.cell? ⟨gb213,2,none⟩=some (.string a0_2):=(blk_cell BK213.out 2).trans rfl;have hfz3_0:=blk_frozen BK213.out 0;have hfz3_1:=blk_frozen BK213.out 1;have hfz3_2:=blk_frozen BK213.out 2)|((with_reducible refine gate_dst (N:=9) rfl ?_);refine box_event ?hg (N:=9) ?hd (cs:=#[.string a0_2,.bool false]) (t:=74) ?hr ?_;(case hd => rfl);(case hg => rfl);(case hr => first|(go_simp;done)|(go_simp;rfl));intro gb214 hg w4 hbox hb;have n0_:=Aside0.mk (blk_below (g:=gb213) (o:=.cells #[.int .i64 a0_0,.int .i64 a0_1,.string a0_2] 26 (0,0)) (by (with_reducible repeat (first|refine blk_drewN ?_ _|refine blk_drew ?_|refine blk_alloc ?_ _));exact BK213.out) hb);have n1_:=Aside0.mk (below_step (by repeat (first|(with_reducible first|exact HB.out|apply below_alloc|apply pw_below_drewN|apply below_drew1|refine below_set ?_ GE213.out)|exact HB.out)) hb);have n2_:=Aside0.mk (hbox);have n3_:=Aside0.mk ((by rw [hg];exact (below_size (by repeat (first|(with_reducible first|exact HB.out|apply below_alloc|apply pw_below_drewN|apply below_drew1|refine below_set ?_ GE213.out)|exact HB.out))) : w.heap.size≤gb214));have n4_:=Aside0.mk ((by rw [hg];exact (below_size (by repeat (first|(with_reducible first|exact HB.out|apply below_alloc|apply pw_below_drewN|apply below_drew1|refine below_set ?_ GE213.out)|exact HB.out))) : w.heap.size≤gb214));have n5_:=Aside0.mk ((by rw [hg];exact Nat.ne_of_lt (blk_lt (g:=gb213) (o:=.cells #[.int .i64 a0_0,.int .i64 a0_1,.string a0_2] 26 (0,0)) (by (with_reducible repeat (first|refine blk_drewN ?_ _|refine blk_drew ?_|refine blk_alloc ?_ _));exact BK213.out)) : gb213≠gb214));have n6_:=Aside0.mk ((by rw [hg];exact Nat.ne_of_gt (blk_lt (g:=gb213) (o:=.cells #[.int .i64 a0_0,.int .i64 a0_1,.string a0_2] 26 (0,0)) (by (with_reducible repeat (first|refine blk_drewN ?_ _|refine blk_drew ?_|refine blk_alloc ?_ _));exact BK213.out)) : gb214≠gb213));clear BK213;clear HB;have BK213:=n0_;have HB:=n1_;have BK214:=n2_;have GW214:=n3_;have GE214:=n4_;have NB213_214:=n5_;have NB214_213:=n6_;clear n0_ n1_ n2_ n3_ n4_ n5_ n6_;clear hb hbox hg)|((with_reducible refine gate_dst (N:=10) rfl ?_);refine Kd.R_lit k68 _ 68 ?hg (N:=10) ?hd (xs:=([] : List (S68))) (inner:=[]) (ok:=fun _ => True) (okp:=fun _ => True) ?hr ?hp (fun _ hk => hk) trivial (Below.refl _ _) (Nat.le_refl _) (by simp) ?_;(case hd => rfl);(case hg => rfl);(case hr => first|(go_simp;done)|(go_simp;rfl));(case hp => exact (Reps.none _ _));intro v216 w5 ho6 hb hg_ hnew_;clear hg_ hnew_;(first|rw [← Ny215.out] at ho6|(simp only [Int.reduceToNat] at ho6;rw [← Ny215.out] at ho6));have n0_:=Aside0.mk (Kd.R_lower ho6 (below_size (by repeat (first|(with_reducible first|exact HB.out|apply below_alloc|apply pw_below_drewN|apply below_drew1|refine below_set ?_ GE213.out|refine below_set ?_ GE214.out)|exact HB.out))));have n1_:=Aside0.mk (blk_below (g:=gb213) (o:=.cells #[.int .i64 a0_0,.int .i64 a0_1,.string a0_2] 26 (0,0)) (by (with_reducible repeat (first|refine blk_drewN ?_ _|refine blk_drew ?_|refine blk_alloc ?_ _));exact BK213.out) hb);have n2_:=Aside0.mk (blk_below (g:=gb214) (o:=.cells #[.string a0_2,.bool false] 74 (0,0)) (by (with_reducible repeat (first|refine blk_drewN ?_ _|refine blk_drew ?_|refine blk_alloc ?_ _));exact BK214.out) hb);have n3_:=Aside0.mk (below_step (by repeat (first|(with_reducible first|exact HB.out|apply below_alloc|apply pw_below_drewN|apply below_drew1|refine below_set ?_ GE213.out|refine below_set ?_ GE214.out)|exact HB.out)) hb);clear BK213;clear BK214;clear HB;have HO217:=n0_;have BK213:=n1_;have BK214:=n2_;have HB:=n3_;clear n0_ n1_ n2_ n3_;clear hb ho6)))
 go_loopg [5] k (fun kq v5 w' => ∃ (x5_1 : List (S68)) (x215000_1 : ByteArray) (x215001_1 : Bool),Aside0 (impl_fields.l0 kq x5_1 x215000_1 x215001_1=some (r1,r2))∧Aside0 (kq≤k)∧Aside0 (Kd.R k68 68 w' w.heap.size (fun _ => True) v5 x5_1)∧Aside0 (w'.heap[gb213]? = some (.cells #[.int .i64 a0_0,.int .i64 a0_1,.string a0_2] 26 (0,0)))∧Aside0 (w'.heap[gb214]? = some (.cells #[.string x215000_1,.bool x215001_1] 74 (0,0)))∧Aside0 (Below w.heap.size w w'))
 case atStart => exact ⟨(y215),(a0_2),(false),H',⟨Nat.le_refl _⟩,⟨by (with_reducible repeat (first|apply Kd.R_alloc|apply Kd.R_drewN|apply Kd.R_drew));exact HO217.out⟩,⟨by (with_reducible repeat (first|refine blk_drewN ?_ _|refine blk_drew ?_|refine blk_alloc ?_ _));exact BK213.out⟩,⟨by (with_reducible repeat (first|refine blk_drewN ?_ _|refine blk_drew ?_|refine blk_alloc ?_ _));exact BK214.out⟩,⟨by repeat (first|(with_reducible first|exact HB.out|apply below_alloc|apply pw_below_drewN|apply below_drew1|refine below_set ?_ GE213.out|refine below_set ?_ GE214.out)|exact HB.out)⟩⟩
 case round =>
  clear H'
  try clear p2
  try clear c6
  try clear hcz3_0
  try clear hcz3_1
  try clear hcz3_2
  try clear hfz3_0
  try clear hfz3_1
  try clear hfz3_2
  obtain ⟨x5_1,x215000_1,x215001_1,HA,HK1,HO_5,BK213,BK214,HB⟩:=hrel
  cases gk with
  | zero => exact absurd HA.out (by simp [impl_fields.l0])
  | succ k1 =>
   have H:=HA.out
   clear HA
   simp only [impl_fields.l0] at H
   have HC7:=Aside0.mk H
   clear H
   go_upto_region 2 with (fail)
   repeat (go_quiet (fail);go_upto_region 2 with (fail))
   go_cut [22] (fun v22 wc => ∃ (kq : Nat) (x22_6 : Bool),v22 = .bool x22_6∧Aside0 (impl_fields.j1 kq x5_1 x22_6 x215000_1 x215001_1=some (r1,r2))∧Aside0 (kq≤k1)∧Aside0 (Kd.R k68 68 wc w.heap.size (fun _ => True) u5 x5_1)∧Aside0 (wc.heap[gb213]? = some (.cells #[.int .i64 a0_0,.int .i64 a0_1,.string a0_2] 26 (0,0)))∧Aside0 (wc.heap[gb214]? = some (.cells #[.string x215000_1,.bool x215001_1] 74 (0,0)))∧Aside0 (Below w.heap.size w wc))
   case first =>
    have H:=HC7.out
    clear HC7
    by_cases c8 : x215000_1.toList=([] : List UInt8)
    ·
     rw [if_pos c8] at H
     have c8b0 : (x215000_1.toList == ([] : List UInt8))=true:=beq_iff_eq.mpr c8
     have c8b1 : (x215000_1.toList != ([] : List UInt8))=false:=bne_eq_false_iff_eq.mpr c8
     clear c8
     (first|rw [c8b0]|(simp only [i64_w,i32_w];rw [c8b0])|skip)
     have H':=Aside0.mk H
     clear H
     have hnb9:=NB214_213.out
     have hnc9:=NB213_214.out
     have hcz10_0 : wr.cell? ⟨gb214,0,none⟩=some (.string x215000_1):=(blk_cell BK214.out 0).trans rfl
     have hcz10_1 : wr.cell? ⟨gb214,1,none⟩=some (.bool x215001_1):=(blk_cell BK214.out 1).trans rfl
     have hfz10_0:=blk_frozen BK214.out 0
     have hfz10_1:=blk_frozen BK214.out 1
     go_wp2
     repeat (go_quiet (fail);try go_wp2)
     go_meet
     case rel => exact ⟨_,(false),(by first|rfl|(simp;done)|(simp [*];done)),H',⟨by have:=HK1.out;first|omega|exact Nat.le_refl _⟩,⟨by (with_reducible repeat (first|apply Kd.R_alloc|apply Kd.R_drewN|apply Kd.R_drew));exact HO_5.out⟩,⟨by (with_reducible repeat (first|refine blk_drewN ?_ _|refine blk_drew ?_|refine blk_alloc ?_ _));exact BK213.out⟩,⟨by (with_reducible repeat (first|refine blk_drewN ?_ _|refine blk_drew ?_|refine blk_alloc ?_ _));exact BK214.out⟩,⟨by repeat (first|(with_reducible first|exact HB.out|apply below_alloc|apply pw_below_drewN|apply below_drew1|refine below_set ?_ GE213.out|refine below_set ?_ GE214.out)|exact HB.out)⟩⟩
    ·
     rw [if_neg c8] at H
     have c8b0 : (x215000_1.toList == ([] : List UInt8))=false:=beq_eq_false_iff_ne.mpr c8
     have c8b1 : (x215000_1.toList != ([] : List UInt8))=true:=bne_iff_ne.mpr c8
     (first|rw [c8b0]|(simp only [i64_w,i32_w];rw [c8b0])|skip)
     have H':=Aside0.mk H
     clear H
     have hnb11:=NB214_213.out
     have hnc11:=NB213_214.out
     have hcz12_0 : wr.cell? ⟨gb214,0,none⟩=some (.string x215000_1):=(blk_cell BK214.out 0).trans rfl
     have hcz12_1 : wr.cell? ⟨gb214,1,none⟩=some (.bool x215001_1):=(blk_cell BK214.out 1).trans rfl
     have hfz12_0:=blk_frozen BK214.out 0
     have hfz12_1:=blk_frozen BK214.out 1
     go_wp2
     repeat (go_quiet (fail);try go_wp2)
     go_meet
     case rel => exact ⟨_,(!x215001_1),(by first|rfl|(simp;done)|(simp [*];done)),H',⟨by have:=HK1.out;first|omega|exact Nat.le_refl _⟩,⟨by (with_reducible repeat (first|apply Kd.R_alloc|apply Kd.R_drewN|apply Kd.R_drew));exact HO_5.out⟩,⟨by (with_reducible repeat (first|refine blk_drewN ?_ _|refine blk_drew ?_|refine blk_alloc ?_ _));exact BK213.out⟩,⟨by (with_reducible repeat (first|refine blk_drewN ?_ _|refine blk_drew ?_|refine blk_alloc ?_ _));exact BK214.out⟩,⟨by repeat (first|(with_reducible first|exact HB.out|apply below_alloc|apply pw_below_drewN|apply below_drew1|refine below_set ?_ GE213.out|refine below_set ?_ GE214.out)|exact HB.out)⟩⟩
   case rest =>
    clear HC7
    try clear c1
    try clear p2
    try clear c6
    try clear c8
    try clear c8b0
    try clear c8b1
    try clear c9
    try clear c11
    try clear hcz10_0
    try clear hcz10_1
    try clear hcz12_0
    try clear hcz12_1
    try clear hcz3_0
    try clear hcz3_1
    try clear hcz3_2
    try clear hfz10_0
    try clear hfz10_1
    try clear hfz12_0
    try clear hfz12_1
    try clear hfz3_0
    try clear hfz3_1
    try clear hfz3_2
    try clear p2
    obtain ⟨kq,x22_6,rfl,HA,HJ6,HO_5,BK213,BK214,HB⟩:=hcut
    cases kq with
    | zero => exact absurd HA.out (by simp [impl_fields.j1])
    | succ kj6 =>
     have H:=HA.out
     clear HA
     simp only [impl_fields.j1] at H
     by_cases c13 : x22_6=true
     ·
      subst c13
      have H1 : ((impl_byteReader_num.f kj6 x215000_1 x215001_1 1).bind fun bt218 => ((impl_byteReader_take.f bt218.2.1 bt218.2.2 bt218.1).bind fun bt221 => ((impl_byteReader_value.f kj6 bt221.2.1 bt221.2.2).bind fun bt224 => (if x5_1.length<2932031007402 then (impl_fields.l0 kj6 (x5_1 ++ [(⟨bt221.1,(⟨bt224.1,bt224.2.1,bt224.2.2.1⟩ : S26)⟩ : S68)]) bt224.2.2.2.1 bt224.2.2.2.2) else (none)))))=some (r1,r2):=by rw [if_pos rfl] at H;exact H
      clear H
      have H:=H1
      clear H1
      replace H:=Option.bind_eq_some_iff.mp H
      obtain ⟨⟨t218,t219,t220⟩,A140,H⟩:=H
      replace H : ((impl_byteReader_take.f t219 t220 t218).bind fun bt221 => ((impl_byteReader_value.f kj6 bt221.2.1 bt221.2.2).bind fun bt224 => (if x5_1.length<2932031007402 then (impl_fields.l0 kj6 (x5_1 ++ [(⟨bt221.1,(⟨bt224.1,bt224.2.1,bt224.2.2.1⟩ : S26)⟩ : S68)]) bt224.2.2.2.1 bt224.2.2.2.2) else (none))))=some (r1,r2):=H
      have A14:=Aside0.mk A140
      clear A140
      replace H:=Option.bind_eq_some_iff.mp H
      obtain ⟨⟨t221,t222,t223⟩,A150,H⟩:=H
      replace H : ((impl_byteReader_value.f kj6 t222 t223).bind fun bt224 => (if x5_1.length<2932031007402 then (impl_fields.l0 kj6 (x5_1 ++ [(⟨t221,(⟨bt224.1,bt224.2.1,bt224.2.2.1⟩ : S26)⟩ : S68)]) bt224.2.2.2.1 bt224.2.2.2.2) else (none)))=some (r1,r2):=H
      have A15:=Aside0.mk A150
      clear A150
      replace H:=Option.bind_eq_some_iff.mp H
      obtain ⟨⟨t224,t225,t226,t227,t228⟩,A160,H⟩:=H
      replace H : (if x5_1.length<2932031007402 then (impl_fields.l0 kj6 (x5_1 ++ [(⟨t221,(⟨t224,t225,t226⟩ : S26)⟩ : S68)]) t227 t228) else (none))=some (r1,r2):=H
      have A16:=Aside0.mk A160
      clear A160
      by_cases c17 : x5_1.length<2932031007402
      ·
       rw [if_pos c17] at H
       have LMc17:=Aside0.mk c17
       clear c17
       obtain ⟨y229,hy229⟩ : ∃ y_ : List (S68),y_=(x5_1 ++ [(⟨t221,(⟨t224,t225,t226⟩ : S26)⟩ : S68)]):=⟨_,rfl⟩
       replace H : (impl_fields.l0 kj6 y229 t227 t228)=some (r1,r2):=by first|(rw [hy229];with_reducible exact H)|(have H2_:=(Option.bind_some _ _).symm.trans H;rw [hy229];with_reducible exact H2_)|(have H2_:=(Option.bind_some _ _).symm.trans H;with_reducible exact H2_)|with_reducible exact H|(rw [hy229];exact H)|exact H
       have Ny229:=Aside0.mk hy229
       clear hy229
       have H':=Aside0.mk H
       clear H
       have HI214:=Aside0.mk (show IsS74 w wc gb214 x215000_1 x215001_1 from ⟨BK214.out,GE214.out⟩)
       go_wp2_with (first|(go_at_call 91;(with_reducible refine (impl_byteReader_num.calls kj6  gb214 x215000_1 x215001_1 1 t218 t219 t220 w _ ?side1 ?side2 A14.out).mono ?_);(case side1 => repeat (first|(with_reducible first|exact HI214.out|apply IsS74.alloc|apply IsS74.drewN|apply IsS74.drew|apply IsS74.set_0|apply IsS74.set_1|refine IsS74.far ?_ NB214_213.out _)|exact HI214.out));(case side2 => repeat (first|(with_reducible first|exact HB.out|apply below_alloc|apply pw_below_drewN|apply below_drew1|refine below_set ?_ (IsS74.ge HI214.out)|refine below_set ?_ GE213.out)|exact HB.out));rintro e w18 ⟨rfl,hi,hb,hk⟩;have n0_:=Aside0.mk (Kd.R_mono (Kd.R_keep (IsS74.apart (show IsS74 w _ gb214 x215000_1 x215001_1 from by repeat (first|(with_reducible first|exact HI214.out|apply IsS74.alloc|apply IsS74.drewN|apply IsS74.drew|apply IsS74.set_0|apply IsS74.set_1|refine IsS74.far ?_ NB214_213.out _)|exact HI214.out)) (by (with_reducible repeat (first|apply Kd.R_alloc|apply Kd.R_drewN|apply Kd.R_drew));exact HO_5.out) (by decide)) hk (fun _ h => h.2)) (fun _ h => h.1));have n1_:=Aside0.mk (KeepBut.blk hk (g':=gb213) (o:=.cells #[.int .i64 a0_0,.int .i64 a0_1,.string a0_2] 26 (0,0)) (by (with_reducible repeat (first|refine blk_drewN ?_ _|refine blk_drew ?_|refine blk_alloc ?_ _));exact BK213.out) NB213_214.out (by simp));have n2_:=Aside0.mk (hb);have n3_:=Aside0.mk ((show _∧_ from hi).1);clear HO_5;clear BK213;clear HB;clear BK214;clear HI214;have HO_5:=n0_;have BK213:=n1_;have HB:=n2_;have BK214:=n3_;clear n0_ n1_ n2_ n3_;(try clear hb);(try clear hb2);(try clear hk);(try clear hi);have HI214:=Aside0.mk (show IsS74 w w18 gb214 t219 t220 from ⟨BK214.out,GE214.out⟩))|(go_at_call 92;(with_reducible refine (impl_byteReader_take.calls  gb214 t219 t220 t218 t221 t222 t223 w _ ?side1 ?side2 A15.out).mono ?_);(case side1 => repeat (first|(with_reducible first|exact HI214.out|apply IsS74.alloc|apply IsS74.drewN|apply IsS74.drew|apply IsS74.set_0|apply IsS74.set_1|refine IsS74.far ?_ NB214_213.out _)|exact HI214.out));(case side2 => repeat (first|(with_reducible first|exact HB.out|apply below_alloc|apply pw_below_drewN|apply below_drew1|refine below_set ?_ (IsS74.ge HI214.out)|refine below_set ?_ GE213.out)|exact HB.out));rintro e w19 ⟨rfl,hi,hb,hk⟩;have n0_:=Aside0.mk (Kd.R_mono (Kd.R_keep (IsS74.apart (show IsS74 w _ gb214 t219 t220 from by repeat (first|(with_reducible first|exact HI214.out|apply IsS74.alloc|apply IsS74.drewN|apply IsS74.drew|apply IsS74.set_0|apply IsS74.set_1|refine IsS74.far ?_ NB214_213.out _)|exact HI214.out)) (by (with_reducible repeat (first|apply Kd.R_alloc|apply Kd.R_drewN|apply Kd.R_drew));exact HO_5.out) (by decide)) hk (fun _ h => h.2)) (fun _ h => h.1));have n1_:=Aside0.mk (KeepBut.blk hk (g':=gb213) (o:=.cells #[.int .i64 a0_0,.int .i64 a0_1,.string a0_2] 26 (0,0)) (by (with_reducible repeat (first|refine blk_drewN ?_ _|refine blk_drew ?_|refine blk_alloc ?_ _));exact BK213.out) NB213_214.out (by simp));have n2_:=Aside0.mk (hb);have n3_:=Aside0.mk ((show _∧_ from hi).1);clear HO_5;clear BK213;clear HB;clear BK214;clear HI214;have HO_5:=n0_;have BK213:=n1_;have HB:=n2_;have BK214:=n3_;clear n0_ n1_ n2_ n3_;(try clear hb);(try clear hb2);(try clear hk);(try clear hi);have HI214:=Aside0.mk (show IsS74 w w19 gb214 t222 t223 from ⟨BK214.out,GE214.out⟩))|(go_at_call 56;(with_reducible refine (impl_byteReader_value.calls kj6  gb214 t222 t223 t224 t225 t226 t227 t228 w _ ?side1 ?side2 A16.out).mono ?_);(case side1 => repeat (first|(with_reducible first|exact HI214.out|apply IsS74.alloc|apply IsS74.drewN|apply IsS74.drew|apply IsS74.set_0|apply IsS74.set_1|refine IsS74.far ?_ NB214_213.out _)|exact HI214.out));(case side2 => repeat (first|(with_reducible first|exact HB.out|apply below_alloc|apply pw_below_drewN|apply below_drew1|refine below_set ?_ (IsS74.ge HI214.out)|refine below_set ?_ GE213.out)|exact HB.out));rintro e w20 ⟨rfl,hi,hb,hk⟩;have n0_:=Aside0.mk (Kd.R_mono (Kd.R_keep (IsS74.apart (show IsS74 w _ gb214 t222 t223 from by repeat (first|(with_reducible first|exact HI214.out|apply IsS74.alloc|apply IsS74.drewN|apply IsS74.drew|apply IsS74.set_0|apply IsS74.set_1|refine IsS74.far ?_ NB214_213.out _)|exact HI214.out)) (by (with_reducible repeat (first|apply Kd.R_alloc|apply Kd.R_drewN|apply Kd.R_drew));exact HO_5.out) (by decide)) hk (fun _ h => h.2)) (fun _ h => h.1));have n1_:=Aside0.mk (KeepBut.blk hk (g':=gb213) (o:=.cells #[.int .i64 a0_0,.int .i64 a0_1,.string a0_2] 26 (0,0)) (by (with_reducible repeat (first|refine blk_drewN ?_ _|refine blk_drew ?_|refine blk_alloc ?_ _));exact BK213.out) NB213_214.out (by simp));have n2_:=Aside0.mk (hb);have n3_:=Aside0.mk ((show _∧_ from hi).1);clear HO_5;clear BK213;clear HB;clear BK214;clear HI214;have HO_5:=n0_;have BK213:=n1_;have HB:=n2_;have BK214:=n3_;clear n0_ n1_ n2_ n3_;(try clear hb);(try clear hb2);(try clear hk);(try clear hi))|((with_reducible refine gate_builtin (b:=.append) (xs:=#[.tmp 23,.tmp 31]) rfl ?_);at_builtin;refine Kd.R_append k68 (w0:=w) w.heap.size rfl (.tmp 23) (.tmp 31) 46 68 (.agg #[(.string ⟨#[]⟩),(.int .i64 0),(.int .i64 0),(.string ⟨#[]⟩)]) 48 rfl Try.underlying46 info68 rfl (by decide) (by omega) u5 x5_1 (⟨t221,(⟨t224,t225,t226⟩ : S26)⟩ : S68) [.string t221,.int .i64 t224,.int .i64 t225,.string t226] (fun _ => True) (fun _ => False) rfl rfl ?aP (fun _ hk => hk.elim) ?aF ?aO ?aB ?aS ?aL ?_;(case aP => exact k68_mkM _ _ _ (⟨t221,(⟨t224,t225,t226⟩ : S26)⟩ : S68));(case aB => exact (by repeat (first|(with_reducible first|exact HB.out|apply below_alloc|apply pw_below_drewN|apply below_drew1|refine below_set ?_ GE213.out|refine below_set ?_ GE214.out)|exact HB.out)));(case aF => exact (fun _ _ => trivial));(case aO => exact (by (with_reducible repeat (first|apply Kd.R_alloc|apply Kd.R_drewN|apply Kd.R_drew));exact HO_5.out));(case aS => exact (below_size (by repeat (first|(with_reducible first|exact HB.out|apply below_alloc|apply pw_below_drewN|apply below_drew1|refine below_set ?_ GE213.out|refine below_set ?_ GE214.out)|exact HB.out))));(case aL => have:=LMc17.out;omega);intro v230 w21 ho hb hg hat;rw [← Ny229.out] at ho;have n0_:=Aside0.mk (blk_grown (g:=gb213) (o:=.cells #[.int .i64 a0_0,.int .i64 a0_1,.string a0_2] 26 (0,0)) (by (with_reducible repeat (first|refine blk_drewN ?_ _|refine blk_drew ?_|refine blk_alloc ?_ _));exact BK213.out) hg (Kd.R_ne HO_5.out BK213.out (by decide)));have n1_:=Aside0.mk (blk_grown (g:=gb214) (o:=.cells #[.string t227,.bool t228] 74 (0,0)) (by (with_reducible repeat (first|refine blk_drewN ?_ _|refine blk_drew ?_|refine blk_alloc ?_ _));exact BK214.out) hg (Kd.R_ne HO_5.out BK214.out (by decide)));have n2_:=Aside0.mk (hb);have n3_:=Aside0.mk (ho);clear BK213;clear BK214;clear HB;clear HO_5;have BK213:=n0_;have BK214:=n1_;have HB:=n2_;have HO231:=n3_;clear n0_ n1_ n2_ n3_;clear ho hb hg hat))
       repeat (go_quiet (first|(go_at_call 91;(with_reducible refine (impl_byteReader_num.calls kj6  gb214 x215000_1 x215001_1 1 t218 t219 t220 w _ ?side1 ?side2 A14.out).mono ?_);(case side1 => repeat (first|(with_reducible first|exact HI214.out|apply IsS74.alloc|apply IsS74.drewN|apply IsS74.drew|apply IsS74.set_0|apply IsS74.set_1|refine IsS74.far ?_ NB214_213.out _)|exact HI214.out));(case side2 => repeat (first|(with_reducible first|exact HB.out|apply below_alloc|apply pw_below_drewN|apply below_drew1|refine below_set ?_ (IsS74.ge HI214.out)|refine below_set ?_ GE213.out)|exact HB.out));rintro e w18 ⟨rfl,hi,hb,hk⟩;have n0_:=Aside0.mk (Kd.R_mono (Kd.R_keep (IsS74.apart (show IsS74 w _ gb214 x215000_1 x215001_1 from by repeat (first|(with_reducible first|exact HI214.out|apply IsS74.alloc|apply IsS74.drewN|apply IsS74.drew|apply IsS74.set_0|apply IsS74.set_1|refine IsS74.far ?_ NB214_213.out _)|exact HI214.out)) (by (with_reducible repeat (first|apply Kd.R_alloc|apply Kd.R_drewN|apply Kd.R_drew));exact HO_5.out) (by decide)) hk (fun _ h => h.2)) (fun _ h => h.1));have n1_:=Aside0.mk (KeepBut.blk hk (g':=gb213) (o:=.cells #[.int .i64 a0_0,.int .i64 a0_1,.string a0_2] 26 (0,0)) (by (with_reducible repeat (first|refine blk_drewN ?_ _|refine blk_drew ?_|refine blk_alloc ?_ _));exact BK213.out) NB213_214.out (by simp));have n2_:=Aside0.mk (hb);have n3_:=Aside0.mk ((show _∧_ from hi).1);clear HO_5;clear BK213;clear HB;clear BK214;clear HI214;have HO_5:=n0_;have BK213:=n1_;have HB:=n2_;have BK214:=n3_;clear n0_ n1_ n2_ n3_;(try clear hb);(try clear hb2);(try clear hk);(try clear hi);have HI214:=Aside0.mk (show IsS74 w w18 gb214 t219 t220 from ⟨BK214.out,GE214.out⟩))|(go_at_call 92;(with_reducible refine (impl_byteReader_take.calls  gb214 t219 t220 t218 t221 t222 t223 w _ ?side1 ?side2 A15.out).mono ?_);(case side1 => repeat (first|(with_reducible first|exact HI214.out|apply IsS74.alloc|apply IsS74.drewN|apply IsS74.drew|apply IsS74.set_0|apply IsS74.set_1|refine IsS74.far ?_ NB214_213.out _)|exact HI214.out));(case side2 => repeat (first|(with_reducible first|exact HB.out|apply below_alloc|apply pw_below_drewN|apply below_drew1|refine below_set ?_ (IsS74.ge HI214.out)|refine below_set ?_ GE213.out)|exact HB.out));rintro e w19 ⟨rfl,hi,hb,hk⟩;have n0_:=Aside0.mk (Kd.R_mono (Kd.R_keep (IsS74.apart (show IsS74 w _ gb214 t219 t220 from by repeat (first|(with_reducible first|exact HI214.out|apply IsS74.alloc|apply IsS74.drewN|apply IsS74.drew|apply IsS74.set_0|apply IsS74.set_1|refine IsS74.far ?_ NB214_213.out _)|exact HI214.out)) (by (with_reducible repeat (first|apply Kd.R_alloc|apply Kd.R_drewN|apply Kd.R_drew));exact HO_5.out) (by decide)) hk (fun _ h => h.2)) (fun _ h => h.1));have n1_:=Aside0.mk (KeepBut.blk hk (g':=gb213) (o:=.cells #[.int .i64 a0_0,.int .i64 a0_1,.string a0_2] 26 (0,0)) (by (with_reducible repeat (first|refine blk_drewN ?_ _|refine blk_drew ?_|refine blk_alloc ?_ _));exact BK213.out) NB213_214.out (by simp));have n2_:=Aside0.mk (hb);have n3_:=Aside0.mk ((show _∧_ from hi).1);clear HO_5;clear BK213;clear HB;clear BK214;clear HI214;have HO_5:=n0_;have BK213:=n1_;have HB:=n2_;have BK214:=n3_;clear n0_ n1_ n2_ n3_;(try clear hb);(try clear hb2);(try clear hk);(try clear hi);have HI214:=Aside0.mk (show IsS74 w w19 gb214 t222 t223 from ⟨BK214.out,GE214.out⟩))|(go_at_call 56;(with_reducible refine (impl_byteReader_value.calls kj6  gb214 t222 t223 t224 t225 t226 t227 t228 w _ ?side1 ?side2 A16.out).mono ?_);(case side1 => repeat (first|(with_reducible first|exact HI214.out|apply IsS74.alloc|apply IsS74.drewN|apply IsS74.drew|apply IsS74.set_0|apply IsS74.set_1|refine IsS74.far ?_ NB214_213.out _)|exact HI214.out));(case side2 => repeat (first|(with_reducible first|exact HB.out|apply below_alloc|apply pw_below_drewN|apply below_drew1|refine below_set ?_ (IsS74.ge HI214.out)|refine below_set ?_ GE213.out)|exact HB.out));rintro e w20 ⟨rfl,hi,hb,hk⟩;have n0_:=Aside0.mk (Kd.R_mono (Kd.R_keep (IsS74.apart (show IsS74 w _ gb214 t222 t223 from by repeat (first|(with_reducible first|exact HI214.out|apply IsS74.alloc|apply IsS74.drewN|apply IsS74.drew|apply IsS74.set_0|apply IsS74.set_1|refine IsS74.far ?_ NB214_213.out _)|exact HI214.out)) (by (with_reducible repeat (first|apply Kd.R_alloc|apply Kd.R_drewN|apply Kd.R_drew));exact HO_5.out) (by decide)) hk (fun _ h => h.2)) (fun _ h => h.1));have n1_:=Aside0.mk (KeepBut.blk hk (g':=gb213) (o:=.cells #[.int .i64 a0_0,.int .i64 a0_1,.string a0_2] 26 (0,0)) (by (with_reducible repeat (first|refine blk_drewN ?_ _|refine blk_drew ?_|refine blk_alloc ?_ _));exact BK213.out) NB213_214.out (by simp));have n2_:=Aside0.mk (hb);have n3_:=Aside0.mk ((show _∧_ from hi).1);clear HO_5;clear BK213;clear HB;clear BK214;clear HI214;have HO_5:=n0_;have BK213:=n1_;have HB:=n2_;have BK214:=n3_;clear n0_ n1_ n2_ n3_;(try clear hb);(try clear hb2);(try clear hk);(try clear hi))|((with_reducible refine gate_builtin (b:=.append) (xs:=#[.tmp 23,.tmp 31]) rfl ?_);at_builtin;refine Kd.R_append k68 (w0:=w) w.heap.size rfl (.tmp 23) (.tmp 31) 46 68 (.agg #[(.string ⟨#[]⟩),(.int .i64 0),(.int .i64 0),(.string ⟨#[]⟩)]) 48 rfl Try.underlying46 info68 rfl (by decide) (by omega) u5 x5_1 (⟨t221,(⟨t224,t225,t226⟩ : S26)⟩ : S68) [.string t221,.int .i64 t224,.int .i64 t225,.string t226] (fun _ => True) (fun _ => False) rfl rfl ?aP (fun _ hk => hk.elim) ?aF ?aO ?aB ?aS ?aL ?_;(case aP => exact k68_mkM _ _ _ (⟨t221,(⟨t224,t225,t226⟩ : S26)⟩ : S68));(case aB => exact (by repeat (first|(with_reducible first|exact HB.out|apply below_alloc|apply pw_below_drewN|apply below_drew1|refine below_set ?_ GE213.out|refine below_set ?_ GE214.out)|exact HB.out)));(case aF => exact (fun _ _ => trivial));(case aO => exact (by (with_reducible repeat (first|apply Kd.R_alloc|apply Kd.R_drewN|apply Kd.R_drew));exact HO_5.out));(case aS => exact (below_size (by repeat (first|(with_reducible first|exact HB.out|apply below_alloc|apply pw_below_drewN|apply below_drew1|refine below_set ?_ GE213.out|refine below_set ?_ GE214.out)|exact HB.out))));(case aL => have:=LMc17.out;omega);intro v230 w21 ho hb hg hat;rw [← Ny229.out] at ho;have n0_:=Aside0.mk (blk_grown (g:=gb213) (o:=.cells #[.int .i64 a0_0,.int .i64 a0_1,.string a0_2] 26 (0,0)) (by (with_reducible repeat (first|refine blk_drewN ?_ _|refine blk_drew ?_|refine blk_alloc ?_ _));exact BK213.out) hg (Kd.R_ne HO_5.out BK213.out (by decide)));have n1_:=Aside0.mk (blk_grown (g:=gb214) (o:=.cells #[.string t227,.bool t228] 74 (0,0)) (by (with_reducible repeat (first|refine blk_drewN ?_ _|refine blk_drew ?_|refine blk_alloc ?_ _));exact BK214.out) hg (Kd.R_ne HO_5.out BK214.out (by decide)));have n2_:=Aside0.mk (hb);have n3_:=Aside0.mk (ho);clear BK213;clear BK214;clear HB;clear HO_5;have BK213:=n0_;have BK214:=n1_;have HB:=n2_;have HO231:=n3_;clear n0_ n1_ n2_ n3_;clear ho hb hg hat));try go_wp2_with (first|(go_at_call 91;(with_reducible refine (impl_byteReader_num.calls kj6  gb214 x215000_1 x215001_1 1 t218 t219 t220 w _ ?side1 ?side2 A14.out).mono ?_);(case side1 => repeat (first|(with_reducible first|exact HI214.out|apply IsS74.alloc|apply IsS74.drewN|apply IsS74.drew|apply IsS74.set_0|apply IsS74.set_1|refine IsS74.far ?_ NB214_213.out _)|exact HI214.out));(case side2 => repeat (first|(with_reducible first|exact HB.out|apply below_alloc|apply pw_below_drewN|apply below_drew1|refine below_set ?_ (IsS74.ge HI214.out)|refine below_set ?_ GE213.out)|exact HB.out));rintro e w18 ⟨rfl,hi,hb,hk⟩;have n0_:=Aside0.mk (Kd.R_mono (Kd.R_keep (IsS74.apart (show IsS74 w _ gb214 x215000_1 x215001_1 from by repeat (first|(with_reducible first|exact HI214.out|apply IsS74.alloc|apply IsS74.drewN|apply IsS74.drew|apply IsS74.set_0|apply IsS74.set_1|refine IsS74.far ?_ NB214_213.out _)|exact HI214.out)) (by (with_reducible repeat (first|apply Kd.R_alloc|apply Kd.R_drewN|apply Kd.R_drew));exact HO_5.out) (by decide)) hk (fun _ h => h.2)) (fun _ h => h.1));have n1_:=Aside0.mk (KeepBut.blk hk (g':=gb213) (o:=.cells #[.int .i64 a0_0,.int .i64 a0_1,.string a0_2] 26 (0,0)) (by (with_reducible repeat (first|refine blk_drewN ?_ _|refine blk_drew ?_|refine blk_alloc ?_ _));exact BK213.out) NB213_214.out (by simp));have n2_:=Aside0.mk (hb);have n3_:=Aside0.mk ((show _∧_ from hi).1);clear HO_5;clear BK213;clear HB;clear BK214;clear HI214;have HO_5:=n0_;have BK213:=n1_;have HB:=n2_;have BK214:=n3_;clear n0_ n1_ n2_ n3_;(try clear hb);(try clear hb2);(try clear hk);(try clear hi);have HI214:=Aside0.mk (show IsS74 w w18 gb214 t219 t220 from ⟨BK214.out,GE214.out⟩))|(go_at_call 92;(with_reducible refine (impl_byteReader_take.calls  gb214 t219 t220 t218 t221 t222 t223 w _ ?side1 ?side2 A15.out).mono ?_);(case side1 => repeat (first|(with_reducible first|exact HI214.out|apply IsS74.alloc|apply IsS74.drewN|apply IsS74.drew|apply IsS74.set_0|apply IsS74.set_1|refine IsS74.far ?_ NB214_213.out _)|exact HI214.out));(case side2 => repeat (first|(with_reducible first|exact HB.out|apply below_alloc|apply pw_below_drewN|apply below_drew1|refine below_set ?_ (IsS74.ge HI214.out)|refine below_set ?_ GE213.out)|exact HB.out));rintro e w19 ⟨rfl,hi,hb,hk⟩;have n0_:=Aside0.mk (Kd.R_mono (Kd.R_keep (IsS74.apart (show IsS74 w _ gb214 t219 t220 from by repeat (first|(with_reducible first|exact HI214.out|apply IsS74.alloc|apply IsS74.drewN|apply IsS74.drew|apply IsS74.set_0|apply IsS74.set_1|refine IsS74.far ?_ NB214_213.out _)|exact HI214.out)) (by (with_reducible repeat (first|apply Kd.R_alloc|apply Kd.R_drewN|apply Kd.R_drew));exact HO_5.out) (by decide)) hk (fun _ h => h.2)) (fun _ h => h.1));have n1_:=Aside0.mk (KeepBut.blk hk (g':=gb213) (o:=.cells #[.int .i64 a0_0,.int .i64 a0_1,.string a0_2] 26 (0,0)) (by (with_reducible repeat (first|refine blk_drewN ?_ _|refine blk_drew ?_|refine blk_alloc ?_ _));exact BK213.out) NB213_214.out (by simp));have n2_:=Aside0.mk (hb);have n3_:=Aside0.mk ((show _∧_ from hi).1);clear HO_5;clear BK213;clear HB;clear BK214;clear HI214;have HO_5:=n0_;have BK213:=n1_;have HB:=n2_;have BK214:=n3_;clear n0_ n1_ n2_ n3_;(try clear hb);(try clear hb2);(try clear hk);(try clear hi);have HI214:=Aside0.mk (show IsS74 w w19 gb214 t222 t223 from ⟨BK214.out,GE214.out⟩))|(go_at_call 56;(with_reducible refine (impl_byteReader_value.calls kj6  gb214 t222 t223 t224 t225 t226 t227 t228 w _ ?side1 ?side2 A16.out).mono ?_);(case side1 => repeat (first|(with_reducible first|exact HI214.out|apply IsS74.alloc|apply IsS74.drewN|apply IsS74.drew|apply IsS74.set_0|apply IsS74.set_1|refine IsS74.far ?_ NB214_213.out _)|exact HI214.out));(case side2 => repeat (first|(with_reducible first|exact HB.out|apply below_alloc|apply pw_below_drewN|apply below_drew1|refine below_set ?_ (IsS74.ge HI214.out)|refine below_set ?_ GE213.out)|exact HB.out));rintro e w20 ⟨rfl,hi,hb,hk⟩;have n0_:=Aside0.mk (Kd.R_mono (Kd.R_keep (IsS74.apart (show IsS74 w _ gb214 t222 t223 from by repeat (first|(with_reducible first|exact HI214.out|apply IsS74.alloc|apply IsS74.drewN|apply IsS74.drew|apply IsS74.set_0|apply IsS74.set_1|refine IsS74.far ?_ NB214_213.out _)|exact HI214.out)) (by (with_reducible repeat (first|apply Kd.R_alloc|apply Kd.R_drewN|apply Kd.R_drew));exact HO_5.out) (by decide)) hk (fun _ h => h.2)) (fun _ h => h.1));have n1_:=Aside0.mk (KeepBut.blk hk (g':=gb213) (o:=.cells #[.int .i64 a0_0,.int .i64 a0_1,.string a0_2] 26 (0,0)) (by (with_reducible repeat (first|refine blk_drewN ?_ _|refine blk_drew ?_|refine blk_alloc ?_ _));exact BK213.out) NB213_214.out (by simp));have n2_:=Aside0.mk (hb);have n3_:=Aside0.mk ((show _∧_ from hi).1);clear HO_5;clear BK213;clear HB;clear BK214;clear HI214;have HO_5:=n0_;have BK213:=n1_;have HB:=n2_;have BK214:=n3_;clear n0_ n1_ n2_ n3_;(try clear hb);(try clear hb2);(try clear hk);(try clear hi))|((with_reducible refine gate_builtin (b:=.append) (xs:=#[.tmp 23,.tmp 31]) rfl ?_);at_builtin;refine Kd.R_append k68 (w0:=w) w.heap.size rfl (.tmp 23) (.tmp 31) 46 68 (.agg #[(.string ⟨#[]⟩),(.int .i64 0),(.int .i64 0),(.string ⟨#[]⟩)]) 48 rfl Try.underlying46 info68 rfl (by decide) (by omega) u5 x5_1 (⟨t221,(⟨t224,t225,t226⟩ : S26)⟩ : S68) [.string t221,.int .i64 t224,.int .i64 t225,.string t226] (fun _ => True) (fun _ => False) rfl rfl ?aP (fun _ hk => hk.elim) ?aF ?aO ?aB ?aS ?aL ?_;(case aP => exact k68_mkM _ _ _ (⟨t221,(⟨t224,t225,t226⟩ : S26)⟩ : S68));(case aB => exact (by repeat (first|(with_reducible first|exact HB.out|apply below_alloc|apply pw_below_drewN|apply below_drew1|refine below_set ?_ GE213.out|refine below_set ?_ GE214.out)|exact HB.out)));(case aF => exact (fun _ _ => trivial));(case aO => exact (by (with_reducible repeat (first|apply Kd.R_alloc|apply Kd.R_drewN|apply Kd.R_drew));exact HO_5.out));(case aS => exact (below_size (by repeat (first|(with_reducible first|exact HB.out|apply below_alloc|apply pw_below_drewN|apply below_drew1|refine below_set ?_ GE213.out|refine below_set ?_ GE214.out)|exact HB.out))));(case aL => have:=LMc17.out;omega);intro v230 w21 ho hb hg hat;rw [← Ny229.out] at ho;have n0_:=Aside0.mk (blk_grown (g:=gb213) (o:=.cells #[.int .i64 a0_0,.int .i64 a0_1,.string a0_2] 26 (0,0)) (by (with_reducible repeat (first|refine blk_drewN ?_ _|refine blk_drew ?_|refine blk_alloc ?_ _));exact BK213.out) hg (Kd.R_ne HO_5.out BK213.out (by decide)));have n1_:=Aside0.mk (blk_grown (g:=gb214) (o:=.cells #[.string t227,.bool t228] 74 (0,0)) (by (with_reducible repeat (first|refine blk_drewN ?_ _|refine blk_drew ?_|refine blk_alloc ?_ _));exact BK214.out) hg (Kd.R_ne HO_5.out BK214.out (by decide)));have n2_:=Aside0.mk (hb);have n3_:=Aside0.mk (ho);clear BK213;clear BK214;clear HB;clear HO_5;have BK213:=n0_;have BK214:=n1_;have HB:=n2_;have HO231:=n3_;clear n0_ n1_ n2_ n3_;clear ho hb hg hat)))
       go_roundg kj6
       case measure => have:=HK1.out;have:=HJ6.out;omega
       case rel => exact ⟨(y229),(t227),(t228),H',⟨by have:=HK1.out;have:=HJ6.out;omega⟩,⟨by (with_reducible repeat (first|apply Kd.R_alloc|apply Kd.R_drewN|apply Kd.R_drew));exact HO231.out⟩,⟨by (with_reducible repeat (first|refine blk_drewN ?_ _|refine blk_drew ?_|refine blk_alloc ?_ _));exact BK213.out⟩,⟨by (with_reducible repeat (first|refine blk_drewN ?_ _|refine blk_drew ?_|refine blk_alloc ?_ _));exact BK214.out⟩,⟨by repeat (first|(with_reducible first|exact HB.out|apply below_alloc|apply pw_below_drewN|apply below_drew1|refine below_set ?_ GE213.out|refine below_set ?_ GE214.out)|exact HB.out)⟩⟩
      ·
       rw [if_neg c17] at H
       exact absurd H (by simp)
     ·
      replace c13:=Bool.eq_false_iff.mpr c13
      subst c13
      have H1 : (some (x5_1,!x215001_1))=some (r1,r2):=by rw [if_neg (show ¬ (false=true) by decide)] at H;exact H
      clear H
      have H:=H1
      clear H1
      simp only [Option.some.injEq,Prod.mk.injEq] at H
      obtain ⟨rfl,rfl⟩:=H
      have hnb22:=NB214_213.out
      have hnc22:=NB213_214.out
      have hcz23_0 : wc.cell? ⟨gb214,0,none⟩=some (.string x215000_1):=(blk_cell BK214.out 0).trans rfl
      have hcz23_1 : wc.cell? ⟨gb214,1,none⟩=some (.bool x215001_1):=(blk_cell BK214.out 1).trans rfl
      have hfz23_0:=blk_frozen BK214.out 0
      have hfz23_1:=blk_frozen BK214.out 1
      go_wp2
      repeat (go_quiet (fail);try go_wp2)
      go_ret2
      exact ⟨_,by first|rfl|(simp [errW_none,errW_some] <;> rfl)|(simp [*,errW_none,errW_some] <;> rfl),by (with_reducible repeat (first|apply Kd.R_alloc|apply Kd.R_drewN|apply Kd.R_drew));exact HO_5.out,by repeat (first|(with_reducible first|exact HB.out|apply below_alloc|apply pw_below_drewN|apply below_drew1|refine below_set ?_ GE213.out|refine below_set ?_ GE214.out)|exact HB.out)⟩

end Go.Proofs.Ytpmeglcmhiihoaa.Q
end
section
namespace Go.Proofs.Ytpmeglcmhiihoaa.Q
open Go.RowKit Go.Proofs.YtpmeglcmhiihoaaW.PrintWords Go.Proofs.YtpmeglcmhiihoaaW.PrintLast Go.Proofs.YtpmeglcmhiihoaaW.PrintMore
attribute [local go_sem] max2_int min2_int max_two min_two max_three min_three max_four min_four max2_str min2_str str_geq str_gtr str_leq   -- for this text's walks alone
set_option linter.unusedVariables false
set_option linter.unusedSimpArgs false

def impl_isLetter.f (a0 : Int) : Option (Bool):=if a0 ≥ 97 then (if a0≤122 then (some true) else (if a0 ≥ 65 then (if a0≤90 then (some true) else (some (a0 == 95))) else (some (a0 == 95)))) else (if a0 ≥ 65 then (if a0≤90 then (some true) else (some (a0 == 95))) else (some (a0 == 95)))
set_option maxHeartbeats 8000000 in
set_option maxRecDepth 100000 in
theorem impl_isLetter.calls (a0 : Int) (r : Bool) (w : World) (h : impl_isLetter.f a0=some r) :
  Calls Try.prog 121 #[.int .u8 a0] w fun e w' => e = .returned (.bool r)∧Drawn0 w w':=by
 have H : (if a0 ≥ 97 then (if a0≤122 then (some true) else (if a0 ≥ 65 then (if a0≤90 then (some true) else (some (a0 == 95))) else (some (a0 == 95)))) else (if a0 ≥ 65 then (if a0≤90 then (some true) else (some (a0 == 95))) else (some (a0 == 95))))=some r:=h
 clear h
 by_cases c2 : a0 ≥ 97
 ·
  rw [if_pos c2] at H
  have c2b0 : decide (97≤a0)=true:=decide_eq_true c2
  clear c2
  by_cases c3 : a0≤122
  ·
   rw [if_pos c3] at H
   have c3b0 : decide (a0≤122)=true:=decide_eq_true c3
   clear c3
   obtain rfl:=Option.some.inj H
   go_enter Try.func121,Try.ntmps121
   go_wp2
   go_ret
   exact ⟨by first|rfl|(simp;done)|(simp [*];done),by repeat (first|exact Drawn0.refl _|apply Drawn0.step)⟩
  ·
   rw [if_neg c3] at H
   have c3b0 : decide (a0≤122)=false:=decide_eq_false c3
   clear c3
   by_cases c4 : a0 ≥ 65
   ·
    rw [if_pos c4] at H
    have c4b0 : decide (65≤a0)=true:=decide_eq_true c4
    clear c4
    by_cases c5 : a0≤90
    ·
     rw [if_pos c5] at H
     have c5b0 : decide (a0≤90)=true:=decide_eq_true c5
     clear c5
     obtain rfl:=Option.some.inj H
     go_enter Try.func121,Try.ntmps121
     go_wp2
     go_ret
     exact ⟨by first|rfl|(simp;done)|(simp [*];done),by repeat (first|exact Drawn0.refl _|apply Drawn0.step)⟩
    ·
     rw [if_neg c5] at H
     have c5b0 : decide (a0≤90)=false:=decide_eq_false c5
     clear c5
     obtain rfl:=Option.some.inj H
     go_enter Try.func121,Try.ntmps121
     go_wp2
     go_ret
     exact ⟨by first|rfl|(simp;done)|(simp [*];done),by repeat (first|exact Drawn0.refl _|apply Drawn0.step)⟩
   ·
    rw [if_neg c4] at H
    have c4b0 : decide (65≤a0)=false:=decide_eq_false c4
    clear c4
    obtain rfl:=Option.some.inj H
    go_enter Try.func121,Try.ntmps121
    go_wp2
    go_ret
    exact ⟨by first|rfl|(simp;done)|(simp [*];done),by repeat (first|exact Drawn0.refl _|apply Drawn0.step)⟩
 ·
  rw [if_neg c2] at H
  have c2b0 : decide (97≤a0)=false:=decide_eq_false c2
  clear c2
  by_cases c6 : a0 ≥ 65
  ·
   rw [if_pos c6] at H
   have c6b0 : decide (65≤a0)=true:=decide_eq_true c6
   clear c6
   by_cases c7 : a0≤90
   ·
    rw [if_pos c7] at H
    have c7b0 : decide (a0≤90)=true:=decide_eq_true c7
    clear c7
    obtain rfl:=Option.some.inj H
    go_enter Try.func121,Try.ntmps121
    go_wp2
    go_ret
    exact ⟨by first|rfl|(simp;done)|(simp [*];done),by repeat (first|exact Drawn0.refl _|apply Drawn0.step)⟩
   ·
    rw [if_neg c7] at H
    have c7b0 : decide (a0≤90)=false:=decide_eq_false c7
    clear c7
    obtain rfl:=Option.some.inj H
    go_enter Try.func121,Try.ntmps121
    go_wp2
    go_ret
    exact ⟨by first|rfl|(simp;done)|(simp [*];done),by repeat (first|exact Drawn0.refl _|apply Drawn0.step)⟩
  ·
   rw [if_neg c6] at H
   have c6b0 : decide (65≤a0)=false:=decide_eq_false c6
   clear c6
   obtain rfl:=Option.some.inj H
   go_enter Try.func121,Try.ntmps121
   go_wp2
   go_ret
   exact ⟨by first|rfl|(simp;done)|(simp [*];done),by repeat (first|exact Drawn0.refl _|apply Drawn0.step)⟩

end Go.Proofs.Ytpmeglcmhiihoaa.Q
end
section
namespace Go.Proofs.Ytpmeglcmhiihoaa.Q
open Go.RowKit Go.Proofs.YtpmeglcmhiihoaaW.PrintWords Go.Proofs.YtpmeglcmhiihoaaW.PrintLast Go.Proofs.YtpmeglcmhiihoaaW.PrintMore
attribute [local go_sem] max2_int min2_int max_two min_two max_three min_three max_four min_four max2_str min2_str str_geq str_gtr str_leq   -- for this text's walks alone
set_option linter.unusedVariables false
set_option linter.unusedSimpArgs false

def impl_isDigit.f (a0 : Int) : Option (Bool):=if a0 ≥ 48 then (some (decide (a0≤57))) else (some false)
set_option maxHeartbeats 8000000 in
set_option maxRecDepth 100000 in
theorem impl_isDigit.calls (a0 : Int) (r : Bool) (w : World) (h : impl_isDigit.f a0=some r) :
  Calls Try.prog 122 #[.int .u8 a0] w fun e w' => e = .returned (.bool r)∧Drawn0 w w':=by
 have H : (if a0 ≥ 48 then (some (decide (a0≤57))) else (some false))=some r:=h
 clear h
 by_cases c2 : a0 ≥ 48
 ·
  rw [if_pos c2] at H
  have c2b0 : decide (48≤a0)=true:=decide_eq_true c2
  clear c2
  obtain rfl:=Option.some.inj H
  go_enter Try.func122,Try.ntmps122
  go_wp2
  go_ret
  exact ⟨by first|rfl|(simp;done)|(simp [*];done),by repeat (first|exact Drawn0.refl _|apply Drawn0.step)⟩
 ·
  rw [if_neg c2] at H
  have c2b0 : decide (48≤a0)=false:=decide_eq_false c2
  clear c2
  obtain rfl:=Option.some.inj H
  go_enter Try.func122,Try.ntmps122
  go_wp2
  go_ret
  exact ⟨by first|rfl|(simp;done)|(simp [*];done),by repeat (first|exact Drawn0.refl _|apply Drawn0.step)⟩

end Go.Proofs.Ytpmeglcmhiihoaa.Q
end
section
namespace Go.Proofs.Ytpmeglcmhiihoaa.Q
open Go.RowKit Go.Proofs.YtpmeglcmhiihoaaW.PrintWords Go.Proofs.YtpmeglcmhiihoaaW.PrintLast Go.Proofs.YtpmeglcmhiihoaaW.PrintMore
attribute [local go_sem] max2_int min2_int max_two min_two max_three min_three max_four min_four max2_str min2_str str_geq str_gtr str_leq   -- for this text's walks alone
set_option linter.unusedVariables false
set_option linter.unusedSimpArgs false

def impl_NameOK.l0 : Nat→ByteArray→Int→Int→Option (Bool)
 | 0,_,_,_ => none
 | k + 1,x0,x5,x6 => if x6<x5 then (if 0≤x6 then (if x6<(x0.size : Int) then ((impl_isLetter.f (bt x0 x6)).bind fun t233 => (if t233=true then (impl_NameOK.l0 k x0 x5 (wrap64 (x6 + 1))) else ((impl_isDigit.f (bt x0 x6)).bind fun t234 => (if t234=true then (if x6=0 then (some false) else (impl_NameOK.l0 k x0 x5 (wrap64 (x6 + 1)))) else (some false))))) else (none)) else (none)) else ((impl_inRange.f (x0.size : Int) 1 40).bind fun t232 => (some t232))
def impl_NameOK.f (k : Nat) (a0 : ByteArray) : Option (Bool):=impl_NameOK.l0 k a0 (a0.size : Int) 0
theorem impl_NameOK.mono_l : ∀ k,(∀ y0 y1 y2,LeO (impl_NameOK.l0 k y0 y1 y2) (impl_NameOK.l0 (k + 1) y0 y1 y2))
 | 0 => fun _ _ _ r h => by simp [impl_NameOK.l0] at h
 | k + 1 => by
  have ih0:=impl_NameOK.mono_l k
  ·
   intro y0 y1 y2
   unfold impl_NameOK.l0
   repeat' first
   | (with_reducible exact ih0 _ _ _)
   | (with_reducible exact LeO.refl _)
   | (with_reducible exact LeO.none _)
   | (with_reducible refine LeO.ite ?_ ?_)
   | (with_reducible refine LeO.bind ?_ (fun _ => ?_))
   | exact ih0 _ _ _
   | exact LeO.none _
   | refine LeO.ite ?_ ?_
   | refine LeO.bind ?_ (fun _ => ?_)
theorem impl_NameOK.mono : ∀ a0 k,LeO (impl_NameOK.f k a0) (impl_NameOK.f (k + 1) a0):=by
 intro a0 k
 have ih0:=impl_NameOK.mono_l k
 unfold impl_NameOK.f
 repeat' first
   | (with_reducible exact ih0 _ _ _)
   | (with_reducible exact LeO.refl _)
   | (with_reducible exact LeO.none _)
   | (with_reducible refine LeO.ite ?_ ?_)
   | (with_reducible refine LeO.bind ?_ (fun _ => ?_))
   | exact ih0 _ _ _
   | exact LeO.none _
   | refine LeO.ite ?_ ?_
   | refine LeO.bind ?_ (fun _ => ?_)
set_option maxHeartbeats 8000000 in
set_option maxRecDepth 100000 in
theorem impl_NameOK.calls (k : Nat) (a0 : ByteArray) (r : Bool) (w : World) (h : impl_NameOK.f k a0=some r) :
  Calls Try.prog 111 #[.string a0] w fun e w' => e = .returned (.bool r)∧Drawn0 w w':=by
 have H : (impl_NameOK.l0 k a0 (a0.size : Int) 0)=some r:=h
 clear h
 have H':=Aside0.mk H
 clear H
 go_enter Try.func111,Try.ntmps111
 go_wp2
 go_loopg [6] k (fun kq v6 w' => ∃ (x6_1 : Int),v6 = .int .i64 x6_1∧Aside0 (impl_NameOK.l0 kq a0 (a0.size : Int) x6_1=some r)∧Aside0 (kq≤k)∧Drawn0 w w')
 case atStart => exact ⟨(0),(by first|rfl|(simp;done)|(simp [*];done)),H',⟨Nat.le_refl _⟩,by repeat (first|exact Drawn0.refl _|apply Drawn0.step)⟩
 case round =>
  clear H'
  try clear c1
  obtain ⟨x6_1,rfl,HA,HK1,⟨m1,rfl⟩⟩:=hrel
  cases gk with
  | zero => exact absurd HA.out (by simp [impl_NameOK.l0])
  | succ k1 =>
   have H:=HA.out
   clear HA
   simp only [impl_NameOK.l0] at H
   by_cases c2 : x6_1<(a0.size : Int)
   ·
    rw [if_pos c2] at H
    have c2b0 : decide (x6_1<(a0.size : Int))=true:=decide_eq_true c2
    clear c2
    by_cases c3 : 0≤x6_1
    ·
     rw [if_pos c3] at H
     have c3b0 : decide (0≤x6_1)=true:=decide_eq_true c3
     clear c3
     by_cases c4 : x6_1<(a0.size : Int)
     ·
      rw [if_pos c4] at H
      have c4b0 : decide (x6_1<(a0.size : Int))=true:=decide_eq_true c4
      clear c4
      replace H:=Option.bind_eq_some_iff.mp H
      obtain ⟨t233,A60,H⟩:=H
      replace H : (if t233=true then (impl_NameOK.l0 k1 a0 (a0.size : Int) (wrap64 (x6_1 + 1))) else ((impl_isDigit.f (bt a0 x6_1)).bind fun t234 => (if t234=true then (if x6_1=0 then (some false) else (impl_NameOK.l0 k1 a0 (a0.size : Int) (wrap64 (x6_1 + 1)))) else (some false))))=some r:=H
      have A6:=Aside0.mk A60
      clear A60
      by_cases c7 : t233=true
      ·
       subst c7
       have H1 : (impl_NameOK.l0 k1 a0 (a0.size : Int) (wrap64 (x6_1 + 1)))=some r:=by rw [if_pos rfl] at H;exact H
       clear H
       have H:=H1
       clear H1
       have H':=Aside0.mk H
       clear H
       have p5 : 0≤(x6_1 : Int):=of_decide_eq_true (by first|(with_reducible assumption)|assumption)
       have q5 : x6_1<(a0.size : Int):=of_decide_eq_true (by first|(with_reducible assumption)|assumption)
       have hx5:=bt_at a0 x6_1
       replace p5:=eq_true p5
       replace q5:=eq_true q5
       go_wp2_with (first|((with_reducible refine gate_callee (f:=121) rfl ?_);refine goesL_ (some 12) rfl rfl Try.func121 (by kernel_rfl) rfl #[.int .u8 (bt a0 x6_1)] rfl (by (try simp only [List.map_toArray,List.map_cons,List.map_nil]);first|done|rfl|(simp only [List.length_drop,List.length_take];rfl)|(simp only [gt_iff_lt,ge_iff_le,Int.ofNat_lt,Int.ofNat_le];rfl)) ?_;(with_reducible refine (impl_isLetter.calls  (bt a0 x6_1) true _ A6.out).mono ?_);rintro e w' ⟨rfl,⟨nd,rfl⟩⟩;refine ⟨_,rfl,?_⟩))
       go_roundg k1
       case measure => have:=HK1.out;omega
       case rel => exact ⟨(wrap64 (x6_1 + 1)),(by first|rfl|(simp;done)|(simp [*];done)),H',⟨by have:=HK1.out;omega⟩,by repeat (first|exact Drawn0.refl _|apply Drawn0.step)⟩
      ·
       replace c7:=Bool.eq_false_iff.mpr c7
       subst c7
       have H1 : ((impl_isDigit.f (bt a0 x6_1)).bind fun t234 => (if t234=true then (if x6_1=0 then (some false) else (impl_NameOK.l0 k1 a0 (a0.size : Int) (wrap64 (x6_1 + 1)))) else (some false)))=some r:=by rw [if_neg (show ¬ (false=true) by decide)] at H;exact H
       clear H
       have H:=H1
       clear H1
       replace H:=Option.bind_eq_some_iff.mp H
       obtain ⟨t234,A90,H⟩:=H
       replace H : (if t234=true then (if x6_1=0 then (some false) else (impl_NameOK.l0 k1 a0 (a0.size : Int) (wrap64 (x6_1 + 1)))) else (some false))=some r:=H
       have A9:=Aside0.mk A90
       clear A90
       by_cases c10 : t234=true
       ·
        subst c10
        have H1 : (if x6_1=0 then (some false) else (impl_NameOK.l0 k1 a0 (a0.size : Int) (wrap64 (x6_1 + 1))))=some r:=by rw [if_pos rfl] at H;exact H
        clear H
        have H:=H1
        clear H1
        by_cases c11 : x6_1=0
        ·
         rw [if_pos c11] at H
         have c11b0 : (x6_1 == 0)=true:=beq_iff_eq.mpr c11
         have c11b1 : (x6_1 != 0)=false:=bne_eq_false_iff_eq.mpr c11
         clear c11
         obtain rfl:=Option.some.inj H
         have p5 : 0≤(x6_1 : Int):=of_decide_eq_true (by first|(with_reducible assumption)|assumption)
         have q5 : x6_1<(a0.size : Int):=of_decide_eq_true (by first|(with_reducible assumption)|assumption)
         have hx5:=bt_at a0 x6_1
         replace p5:=eq_true p5
         replace q5:=eq_true q5
         go_wp2_with (first|((with_reducible refine gate_callee (f:=121) rfl ?_);refine goesL_ (some 12) rfl rfl Try.func121 (by kernel_rfl) rfl #[.int .u8 (bt a0 x6_1)] rfl (by (try simp only [List.map_toArray,List.map_cons,List.map_nil]);first|done|rfl|(simp only [List.length_drop,List.length_take];rfl)|(simp only [gt_iff_lt,ge_iff_le,Int.ofNat_lt,Int.ofNat_le];rfl)) ?_;(with_reducible refine (impl_isLetter.calls  (bt a0 x6_1) false _ A6.out).mono ?_);rintro e w' ⟨rfl,⟨nd,rfl⟩⟩;refine ⟨_,rfl,?_⟩;have p8 : 0≤(x6_1 : Int):=of_decide_eq_true (by first|(with_reducible assumption)|assumption);have q8 : x6_1<(a0.size : Int):=of_decide_eq_true (by first|(with_reducible assumption)|assumption);have hx8:=bt_at a0 x6_1;replace p8:=eq_true p8;replace q8:=eq_true q8)|(go_at_call 122;(with_reducible refine (impl_isDigit.calls  (bt a0 x6_1) true _ A9.out).mono ?_);rintro e w' ⟨rfl,⟨nd,rfl⟩⟩))
         go_ret
         exact ⟨by first|rfl|(simp;done)|(simp [*];done),by repeat (first|exact Drawn0.refl _|apply Drawn0.step)⟩
        ·
         rw [if_neg c11] at H
         have c11b0 : (x6_1 == 0)=false:=beq_eq_false_iff_ne.mpr c11
         have c11b1 : (x6_1 != 0)=true:=bne_iff_ne.mpr c11
         have H':=Aside0.mk H
         clear H
         have p5 : 0≤(x6_1 : Int):=of_decide_eq_true (by first|(with_reducible assumption)|assumption)
         have q5 : x6_1<(a0.size : Int):=of_decide_eq_true (by first|(with_reducible assumption)|assumption)
         have hx5:=bt_at a0 x6_1
         replace p5:=eq_true p5
         replace q5:=eq_true q5
         go_wp2_with (first|((with_reducible refine gate_callee (f:=121) rfl ?_);refine goesL_ (some 12) rfl rfl Try.func121 (by kernel_rfl) rfl #[.int .u8 (bt a0 x6_1)] rfl (by (try simp only [List.map_toArray,List.map_cons,List.map_nil]);first|done|rfl|(simp only [List.length_drop,List.length_take];rfl)|(simp only [gt_iff_lt,ge_iff_le,Int.ofNat_lt,Int.ofNat_le];rfl)) ?_;(with_reducible refine (impl_isLetter.calls  (bt a0 x6_1) false _ A6.out).mono ?_);rintro e w' ⟨rfl,⟨nd,rfl⟩⟩;refine ⟨_,rfl,?_⟩;have p8 : 0≤(x6_1 : Int):=of_decide_eq_true (by first|(with_reducible assumption)|assumption);have q8 : x6_1<(a0.size : Int):=of_decide_eq_true (by first|(with_reducible assumption)|assumption);have hx8:=bt_at a0 x6_1;replace p8:=eq_true p8;replace q8:=eq_true q8)|(go_at_call 122;(with_reducible refine (impl_isDigit.calls  (bt a0 x6_1) true _ A9.out).mono ?_);rintro e w' ⟨rfl,⟨nd,rfl⟩⟩))
         go_roundg k1
         case measure => have:=HK1.out;omega
         case rel => exact ⟨(wrap64 (x6_1 + 1)),(by first|rfl|(simp;done)|(simp [*];done)),H',⟨by have:=HK1.out;omega⟩,by repeat (first|exact Drawn0.refl _|apply Drawn0.step)⟩
       ·
        replace c10:=Bool.eq_false_iff.mpr c10
        subst c10
        have H1 : (some false)=some r:=by rw [if_neg (show ¬ (false=true) by decide)] at H;exact H
        clear H
        have H:=H1
        clear H1
        obtain rfl:=Option.some.inj H
        have p5 : 0≤(x6_1 : Int):=of_decide_eq_true (by first|(with_reducible assumption)|assumption)
        have q5 : x6_1<(a0.size : Int):=of_decide_eq_true (by first|(with_reducible assumption)|assumption)
        have hx5:=bt_at a0 x6_1
        replace p5:=eq_true p5
        replace q5:=eq_true q5
        go_wp2_with (first|((with_reducible refine gate_callee (f:=121) rfl ?_);refine goesL_ (some 12) rfl rfl Try.func121 (by kernel_rfl) rfl #[.int .u8 (bt a0 x6_1)] rfl (by (try simp only [List.map_toArray,List.map_cons,List.map_nil]);first|done|rfl|(simp only [List.length_drop,List.length_take];rfl)|(simp only [gt_iff_lt,ge_iff_le,Int.ofNat_lt,Int.ofNat_le];rfl)) ?_;(with_reducible refine (impl_isLetter.calls  (bt a0 x6_1) false _ A6.out).mono ?_);rintro e w' ⟨rfl,⟨nd,rfl⟩⟩;refine ⟨_,rfl,?_⟩;have p8 : 0≤(x6_1 : Int):=of_decide_eq_true (by first|(with_reducible assumption)|assumption);have q8 : x6_1<(a0.size : Int):=of_decide_eq_true (by first|(with_reducible assumption)|assumption);have hx8:=bt_at a0 x6_1;replace p8:=eq_true p8;replace q8:=eq_true q8)|(go_at_call 122;(with_reducible refine (impl_isDigit.calls  (bt a0 x6_1) false _ A9.out).mono ?_);rintro e w' ⟨rfl,⟨nd,rfl⟩⟩))
        go_ret
        exact ⟨by first|rfl|(simp;done)|(simp [*];done),by repeat (first|exact Drawn0.refl _|apply Drawn0.step)⟩
     ·
      rw [if_neg c4] at H
      exact absurd H (by simp)
    ·
     rw [if_neg c3] at H
     exact absurd H (by simp)
   ·
    rw [if_neg c2] at H
    have c2b0 : decide (x6_1<(a0.size : Int))=false:=decide_eq_false c2
    clear c2
    replace H:=Option.bind_eq_some_iff.mp H
    obtain ⟨t232,A120,H⟩:=H
    replace H : (some t232)=some r:=H
    have A12:=Aside0.mk A120
    clear A120
    obtain rfl:=Option.some.inj H
    go_wp2_with (first|((with_reducible refine gate_callee (f:=85) rfl ?_);refine goesL_ (some 28) rfl rfl Try.func85 (by kernel_rfl) rfl #[.int .i64 (a0.size : Int),.int .i64 1,.int .i64 40] rfl (by (try simp only [List.map_toArray,List.map_cons,List.map_nil]);first|done|rfl|(simp only [List.length_drop,List.length_take];rfl)|(simp only [gt_iff_lt,ge_iff_le,Int.ofNat_lt,Int.ofNat_le];rfl)) ?_;(with_reducible refine (impl_inRange.calls  (a0.size : Int) 1 40 t232 _ A12.out).mono ?_);rintro e w' ⟨rfl,⟨nd,rfl⟩⟩;refine ⟨_,rfl,?_⟩))
    go_ret
    exact ⟨by first|rfl|(simp;done)|(simp [*];done),by repeat (first|exact Drawn0.refl _|apply Drawn0.step)⟩

end Go.Proofs.Ytpmeglcmhiihoaa.Q
end
section
namespace Go.Proofs.Ytpmeglcmhiihoaa.Q
open Go.RowKit Go.Proofs.YtpmeglcmhiihoaaW.PrintWords Go.Proofs.YtpmeglcmhiihoaaW.PrintLast Go.Proofs.YtpmeglcmhiihoaaW.PrintMore
attribute [local go_sem] max2_int min2_int max_two min_two max_three min_three max_four min_four max2_str min2_str str_geq str_gtr str_leq   -- for this text's walks alone
set_option linter.unusedVariables false
set_option linter.unusedSimpArgs false

def impl_isShort.f (k : Nat) (a0 : ByteArray) : Option (Bool):=if (a0.size : Int)≤12 then ((impl_NameOK.f k a0).bind fun t235 => (some t235)) else (some false)
theorem impl_isShort.mono : ∀ a0 k,LeO (impl_isShort.f k a0) (impl_isShort.f (k + 1) a0):=by
 intro a0 k
 unfold impl_isShort.f
 repeat' first
   | (with_reducible exact impl_NameOK.mono _ _)
   | (with_reducible exact LeO.refl _)
   | (with_reducible exact LeO.none _)
   | (with_reducible refine LeO.ite ?_ ?_)
   | (with_reducible refine LeO.bind ?_ (fun _ => ?_))
   | exact impl_NameOK.mono _ _
   | exact LeO.none _
   | refine LeO.ite ?_ ?_
   | refine LeO.bind ?_ (fun _ => ?_)
set_option maxHeartbeats 8000000 in
set_option maxRecDepth 100000 in
theorem impl_isShort.calls (k : Nat) (a0 : ByteArray) (r : Bool) (w : World) (h : impl_isShort.f k a0=some r) :
  Calls Try.prog 81 #[.string a0] w fun e w' => e = .returned (.bool r)∧Drawn0 w w':=by
 have H : (if (a0.size : Int)≤12 then ((impl_NameOK.f k a0).bind fun t235 => (some t235)) else (some false))=some r:=h
 clear h
 by_cases c2 : (a0.size : Int)≤12
 ·
  rw [if_pos c2] at H
  have c2b0 : decide ((a0.size : Int)≤12)=true:=decide_eq_true c2
  have c2b1 : decide (a0.size≤12)=true:=decide_eq_true (by omega)
  clear c2
  replace H:=Option.bind_eq_some_iff.mp H
  obtain ⟨t235,A30,H⟩:=H
  replace H : (some t235)=some r:=H
  have A3:=Aside0.mk A30
  clear A30
  obtain rfl:=Option.some.inj H
  go_enter Try.func81,Try.ntmps81
  go_wp2_with (first|(go_at_call 111;(with_reducible refine (impl_NameOK.calls k  a0 t235 _ A3.out).mono ?_);rintro e w' ⟨rfl,⟨nd,rfl⟩⟩))
  go_ret
  exact ⟨by first|rfl|(simp;done)|(simp [*];done),by repeat (first|exact Drawn0.refl _|apply Drawn0.step)⟩
 ·
  rw [if_neg c2] at H
  have c2b0 : decide ((a0.size : Int)≤12)=false:=decide_eq_false c2
  have c2b1 : decide (a0.size≤12)=false:=decide_eq_false (by omega)
  clear c2
  obtain rfl:=Option.some.inj H
  go_enter Try.func81,Try.ntmps81
  go_wp2
  go_ret
  exact ⟨by first|rfl|(simp;done)|(simp [*];done),by repeat (first|exact Drawn0.refl _|apply Drawn0.step)⟩

end Go.Proofs.Ytpmeglcmhiihoaa.Q
end

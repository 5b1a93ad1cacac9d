/- FnExactListOf: for every argument the law answers true, and the argument reads behind the call as it read before. No condition. -/
import Derived.Test.YtpmeglcmhiihoaaKLawFnExactListOfp22
import Derived.Test.YtpmeglcmhiihoaaKLawFnExactListOfp26
import Derived.Test.YtpmeglcmhiihoaaKLawFnExactListOfp25
import Derived.Test.YtpmeglcmhiihoaaKLawFnExactListOfp23
import Derived.Test.YtpmeglcmhiihoaaRows
import Derived.WalkKit
import Derived.ProofKit
import Derived.OpenShut
import Derived.ShutString
import Derived.ChangeOld
import Derived.Below
import Derived.SizedLaws
import Derived.Carry
section
namespace Go.Proofs.Ytpmeglcmhiihoaa.Q
open Go.RowKit Go.Proofs.YtpmeglcmhiihoaaW.PrintWords Go.Proofs.YtpmeglcmhiihoaaW.PrintLast Go.Proofs.YtpmeglcmhiihoaaW.PrintMore
attribute [local go_sem] max2_int min2_int max_two min_two max_three min_three max_four min_four max2_str min2_str str_geq str_gtr str_leq   -- for this text's walks alone
set_option linter.unusedVariables false
set_option linter.unusedSimpArgs false

mutual
def spec_l01Depth.l0 : Nat→Int→List (S26)→Int→Option (Int)
 | 0,_,_,_ => none
 | k + 1,x3,x4,x6 => if x6<(x4.length : Int) then (if 0≤x6 then ((spec_l01Depth.f k ((rd_T26 x4 x6).f0) ((rd_T26 x4 x6).f1) ((rd_T26 x4 x6).f2)).bind fun t343 => (spec_l01Depth.l0 k (mx x3 t343) x4 (wrap64 (x6 + 1)))) else (none)) else (some (wrap64 (x3 + 1)))
def spec_l01Depth.l1 : Nat→Int→List (S68)→Int→Option (Int)
 | 0,_,_,_ => none
 | k + 1,x3,x7,x9 => if x9<(x7.length : Int) then (if 0≤x9 then ((spec_l01Depth.f k ((rd_T68 x7 x9).f1.f0) ((rd_T68 x7 x9).f1.f1) ((rd_T68 x7 x9).f1.f2)).bind fun t349 => (spec_l01Depth.l1 k (mx x3 t349) x7 (wrap64 (x9 + 1)))) else (none)) else (some (wrap64 (x3 + 1)))
def spec_l01Depth.f : Nat→Int→Int→ByteArray→Option (Int)
 | 0,_,_,_ => none
 | k + 1,a0_0,a0_1,a0_2 => if a0_0=4 then ((spec_l01Items.f k a0_2).bind fun bt338 => (spec_l01Depth.l0 k 0 bt338.1 0)) else (if a0_0=5 then ((spec_l01Fields.f k a0_2).bind fun bt344 => (spec_l01Depth.l1 k 0 bt344.1 0)) else (some 0))
end
theorem spec_l01Depth.mono_l : ∀ k,(∀ y0 y1 y2,LeO (spec_l01Depth.f k y0 y1 y2) (spec_l01Depth.f (k + 1) y0 y1 y2))∧(∀ y0 y1 y2,LeO (spec_l01Depth.l0 k y0 y1 y2) (spec_l01Depth.l0 (k + 1) y0 y1 y2))∧(∀ y0 y1 y2,LeO (spec_l01Depth.l1 k y0 y1 y2) (spec_l01Depth.l1 (k + 1) y0 y1 y2))
 | 0 => ⟨fun _ _ _ r h => by simp [spec_l01Depth.f] at h,fun _ _ _ r h => by simp [spec_l01Depth.l0] at h,fun _ _ _ r h => by simp [spec_l01Depth.l1] at h⟩
 | k + 1 => by
  obtain ⟨ih0,ih1,ih2⟩:=spec_l01Depth.mono_l k;refine ⟨?_,?_,?_⟩
  ·
   intro y0 y1 y2
   unfold spec_l01Depth.f
   repeat' first|(with_reducible exact ih0 _ _ _)|(with_reducible exact ih1 _ _ _)|(with_reducible exact ih2 _ _ _)|(with_reducible exact spec_l01Items.mono _ _)|(with_reducible exact spec_l01Fields.mono _ _)|(with_reducible exact zQ _)|(with_reducible exact zN _)|(with_reducible refine zP ?_ ?_)|(with_reducible refine zO ?_ (fun _ => ?_))|refine zP ?_ ?_|refine zO ?_ (fun _ => ?_)
  ·
   intro y0 y1 y2
   unfold spec_l01Depth.l0
   repeat' first|(with_reducible exact ih0 _ _ _)|(with_reducible exact ih1 _ _ _)|(with_reducible exact ih2 _ _ _)|(with_reducible exact spec_l01Items.mono _ _)|(with_reducible exact spec_l01Fields.mono _ _)|(with_reducible exact zQ _)|(with_reducible exact zN _)|(with_reducible refine zP ?_ ?_)|(with_reducible refine zO ?_ (fun _ => ?_))|refine zP ?_ ?_|refine zO ?_ (fun _ => ?_)
  intro y0 y1 y2;unfold spec_l01Depth.l1
  repeat' first|(with_reducible exact ih0 _ _ _)|(with_reducible exact ih1 _ _ _)|(with_reducible exact ih2 _ _ _)|(with_reducible exact spec_l01Items.mono _ _)|(with_reducible exact spec_l01Fields.mono _ _)|(with_reducible exact zQ _)|(with_reducible exact zN _)|(with_reducible refine zP ?_ ?_)|(with_reducible refine zO ?_ (fun _ => ?_))|refine zP ?_ ?_|refine zO ?_ (fun _ => ?_)
theorem spec_l01Depth.mono : ∀ a0 a1 a2 k,LeO (spec_l01Depth.f k a0 a1 a2) (spec_l01Depth.f (k + 1) a0 a1 a2):=by
 intro a0 a1 a2 k;obtain ⟨ih0,ih1,ih2⟩:=spec_l01Depth.mono_l k;exact ih0 a0 a1 a2
set_option maxHeartbeats 8000000 in
set_option maxRecDepth 100000 in
theorem spec_l01Depth.calls (k : Nat) : ∀ (a0_0 : Int) (a0_1 : Int) (a0_2 : ByteArray) (r : Int) (w : World) (h : spec_l01Depth.f k a0_0 a0_1 a0_2=some r),
  Calls Try.prog 57 #[.agg #[.int .i64 a0_0,.int .i64 a0_1,.string a0_2]] w fun e w' => e = .returned (.int .i64 r)∧Below w.heap.size w w':=by
 induction k using Nat.strongRecOn with
 | _ k ih =>
 intro a0_0 a0_1 a0_2 r w h
 cases k with
 | zero => exact absurd h (by simp [spec_l01Depth.f])
 | succ k =>
 simp only [spec_l01Depth.f] at h;have hu26:=Try.underlying26;have HB:=zh (Below.refl w.heap.size w);have H : (if a0_0=4 then ((spec_l01Items.f k a0_2).bind fun bt338 => (spec_l01Depth.l0 k 0 bt338.1 0)) else (if a0_0=5 then ((spec_l01Fields.f k a0_2).bind fun bt344 => (spec_l01Depth.l1 k 0 bt344.1 0)) else (some 0)))=some r:=h;clear h
 by_cases c2 : a0_0=4
 ·
  rw [if_pos c2] at H
  have c2b0 : (a0_0 == 4)=true:=ya.mpr c2;have c2b1 : (a0_0 != 4)=false:=zX.mpr c2;clear c2;replace H:=zT.mp H;obtain ⟨⟨t338,t339⟩,A30,H⟩:=H;replace H : (spec_l01Depth.l0 k 0 t338 0)=some r:=H;have A3:=zh A30;clear A30;have H':=zh H;clear H
  go_enter Try.func57,Try.ntmps57
  go_wp2_with (first|((with_reducible refine zK (N:=1) rfl ?_);refine zI ?hg (N:=1) ?hd (cs:=#[.int .i64 a0_0,.int .i64 a0_1,.string a0_2]) (t:=26) ?hr ?_;(case hd => rfl);(case hg => rfl);(case hr => first|(go_simp;done)|(go_simp;rfl));intro gb337 hg w4 hbox hb;have BK337:=zh (hbox);have GW337:=zh ((by rw [hg];exact (zB (by repeat (with_reducible first|exact HB.out|apply za|apply zb|apply zc))) : w.heap.size≤gb337));have GE337:=zh ((by rw [hg];exact (zB (by repeat (with_reducible first|exact HB.out|apply za|apply zb|apply zc))) : w.heap.size≤gb337));replace HB:=zh (zC (by repeat (with_reducible first|exact HB.out|apply za|apply zb|apply zc)) hb);clear hb hbox hg;have hcz5_0 : w4.cell? ⟨gb337,0,none⟩=some (.int .i64 a0_0):=(zz BK337.out 0).trans rfl;have hcz5_1 : w4.cell? ⟨gb337,1,none⟩=some (.int .i64 a0_1):=(zz BK337.out 1).trans rfl;have hcz5_2 : w4.cell? ⟨gb337,2,none⟩=some (.string a0_2):=(zz BK337.out 2).trans rfl;have hfz5_0:=zA BK337.out 0;have hfz5_1:=zA BK337.out 1;have hfz5_2:=zA BK337.out 2)|((with_reducible refine zJ (f:=61) rfl ?_);refine yj (some 16) rfl rfl Try.func61 (by kernel_rfl) rfl #[.string a0_2] rfl (by (try simp only [zt,zu,zv]);first|done|rfl|(simp only [zw,zx];rfl)|(simp only [yr,ys,zV,zW];rfl)) ?_;(with_reducible refine (spec_l01Items.calls k  a0_2 t338 t339 _ A3.out).mono ?_);rintro e w6 ⟨v340,rfl,ho0,hb⟩;refine ⟨_,rfl,?_⟩;have HO341:=zh (yy (Kd.R_newB ho0 (g:=gb337) (o:=.cells #[.int .i64 a0_0,.int .i64 a0_1,.string a0_2] 26 (0,0)) (by (with_reducible repeat (first|refine ze ?_ _|refine zf ?_|refine zg ?_ _));exact BK337.out)) (zB (by repeat (with_reducible first|exact HB.out|apply za|apply zb|apply zc|refine zd ?_ GE337.out))));replace BK337:=zh (zD (g:=gb337) (o:=.cells #[.int .i64 a0_0,.int .i64 a0_1,.string a0_2] 26 (0,0)) (by (with_reducible repeat (first|refine ze ?_ _|refine zf ?_|refine zg ?_ _));exact BK337.out) hb);replace HB:=zh (zC (by repeat (with_reducible first|exact HB.out|apply za|apply zb|apply zc|refine zd ?_ GE337.out)) hb);(try clear hb);(try clear hb2);(try clear hk);(try clear hi);(try clear ho0)))
  go_loopg [3,6] k (fun kq v3 v6 w' => ∃ (x3_1 : Int) (x6_1 : Int),v3 = .int .i64 x3_1∧v6 = .int .i64 x6_1∧Aside0 (spec_l01Depth.l0 kq x3_1 t338 x6_1=some r)∧Aside0 (kq≤k)∧Aside0 (Kd.R k26 26 w' w.heap.size (fun k_ => k_≠gb337) v340 t338)∧Aside0 (w'.heap[gb337]? = some (.cells #[.int .i64 a0_0,.int .i64 a0_1,.string a0_2] 26 (0,0)))∧Aside0 (Below w.heap.size w w'))
  case atStart => exact ⟨(0),(0),(by first|rfl|(simp;done)|(simp [*];done)),(by first|rfl|(simp;done)|(simp [*];done)),H',⟨ye _⟩,⟨by (with_reducible repeat (first|apply zm|apply zn|apply zo));exact zM HO341.out (fun _ hk => hk.2)⟩,⟨by (with_reducible repeat (first|refine ze ?_ _|refine zf ?_|refine zg ?_ _));exact BK337.out⟩,⟨by repeat (with_reducible first|exact HB.out|apply za|apply zb|apply zc|refine zd ?_ GE337.out)⟩⟩
  case round =>
   clear H'
   try clear c2
   try clear c2b0
   try clear c2b1
   try clear p2
   try clear c5
   try clear c6
   try clear hcz5_0
   try clear hcz5_1
   try clear hcz5_2
   try clear hfz5_0
   try clear hfz5_1
   try clear hfz5_2
   obtain ⟨x3_1,x6_1,rfl,rfl,HA,HK1,HO_4,BK337,HB⟩:=hrel
   cases gk with
   | zero => exact absurd HA.out (by simp [spec_l01Depth.l0])
   | succ k1 =>
    have H:=HA.out;clear HA;simp only [spec_l01Depth.l0] at H
    by_cases c7 : x6_1<(t338.length : Int)
    ·
     rw [if_pos c7] at H
     have c7b0 : decide (x6_1<(t338.length : Int))=true:=decide_eq_true c7;clear c7
     by_cases c8 : 0≤x6_1
     ·
      rw [if_pos c8] at H
      have c8b0 : decide (0≤x6_1)=true:=decide_eq_true c8;clear c8;replace H:=zT.mp H;obtain ⟨t343,A90,H⟩:=H;replace H : (spec_l01Depth.l0 k1 (mx x3_1 t343) t338 (wrap64 (x6_1 + 1)))=some r:=H;have A9:=zh A90;clear A90;obtain ⟨ji10,hji10⟩ : ∃ j_ : Int,(mx x3_1 t343)=j_:=⟨_,rfl⟩;replace H : (spec_l01Depth.l0 k1 ji10 t338 (wrap64 (x6_1 + 1)))=some r:=by first|(rw [hji10] at H;exact H)|(simp only [hji10] at H ⊢;exact H)
      (try rw [hji10] at A9);have hji10_ : (if x3_1<t343 then t343 else x3_1)=ji10:=hji10;have H':=zh H;clear H;obtain ⟨Ao11,co11,eo11⟩:=yk HO_4.out;subst eo11;have p342 : 0≤(x6_1 : Int):=zy (by first|(with_reducible assumption)|assumption);have q342 : x6_1<(t338.length : Int):=zy (by first|(with_reducible assumption)|assumption);obtain ⟨ad342,e342,hx342_0,hx342_1,hx342_2⟩:=at_T26 (yh HO_4.out).2.2 x6_1 p342 q342
      cases e342
      replace p342:=eq_true p342;replace q342:=eq_true q342
      go_wp2_with (first|((with_reducible refine zJ (f:=57) rfl ?_);refine yj (some 30) rfl rfl Try.func57 (by kernel_rfl) rfl #[.agg #[.int .i64 ((rd_T26 t338 x6_1).f0),.int .i64 ((rd_T26 t338 x6_1).f1),.string ((rd_T26 t338 x6_1).f2)]] rfl (by (try simp only [zt,zu,zv]);first|done|rfl|(simp only [zw,zx];rfl)|(simp only [yr,ys,zV,zW];rfl)) ?_;(with_reducible refine (ih k1 (by have:=HK1.out;omega)  ((rd_T26 t338 x6_1).f0) ((rd_T26 t338 x6_1).f1) ((rd_T26 t338 x6_1).f2) t343 _ A9.out).mono ?_);rintro e w12 ⟨rfl,hb⟩;refine ⟨_,rfl,?_⟩;replace HO_4:=zh (yg (by (with_reducible repeat (first|apply zm|apply zn|apply zo));exact HO_4.out) hb);replace BK337:=zh (zD (g:=gb337) (o:=.cells #[.int .i64 a0_0,.int .i64 a0_1,.string a0_2] 26 (0,0)) (by (with_reducible repeat (first|refine ze ?_ _|refine zf ?_|refine zg ?_ _));exact BK337.out) hb);replace HB:=zh (zC (by repeat (with_reducible first|exact HB.out|apply za|apply zb|apply zc|refine zd ?_ GE337.out)) hb);(try clear hb);(try clear hb2);(try clear hk);(try clear hi)))
      go_roundg k1
      case measure => have:=HK1.out;omega
      case rel => exact ⟨(ji10),(wrap64 (x6_1 + 1)),(by first|rfl|(simp;done)|(simp only [← hji10] <;> (first|rfl|simp))|(simp [*];done)),(by first|rfl|(simp;done)|(simp [*];done)),H',⟨by have:=HK1.out;omega⟩,⟨by (with_reducible repeat (first|apply zm|apply zn|apply zo));exact HO_4.out⟩,⟨by (with_reducible repeat (first|refine ze ?_ _|refine zf ?_|refine zg ?_ _));exact BK337.out⟩,⟨by repeat (with_reducible first|exact HB.out|apply za|apply zb|apply zc|refine zd ?_ GE337.out)⟩⟩
     rw [if_neg c8] at H;exact absurd H (by simp)
    rw [if_neg c7] at H;have c7b0 : decide (x6_1<(t338.length : Int))=false:=decide_eq_false c7;clear c7;obtain rfl:=zU H;obtain ⟨Ao13,co13,eo13⟩:=yk HO_4.out;subst eo13
    go_wp2
    go_ret
    exact ⟨by first|rfl|(simp [yt,yu] <;> rfl)|(simp [*,yt,yu] <;> rfl),by repeat (with_reducible first|exact HB.out|apply za|apply zb|apply zc|refine zd ?_ GE337.out)⟩
 rw [if_neg c2] at H;have c2b0 : (a0_0 == 4)=false:=zY.mpr c2;have c2b1 : (a0_0 != 4)=true:=zZ.mpr c2
 by_cases c14 : a0_0=5
 ·
  rw [if_pos c14] at H
  have c14b0 : (a0_0 == 5)=true:=ya.mpr c14;have c14b1 : (a0_0 != 5)=false:=zX.mpr c14;clear c14;replace H:=zT.mp H;obtain ⟨⟨t344,t345⟩,A150,H⟩:=H;replace H : (spec_l01Depth.l1 k 0 t344 0)=some r:=H;have A15:=zh A150;clear A150;have H':=zh H;clear H
  go_enter Try.func57,Try.ntmps57
  go_wp2_with (first|((with_reducible refine zK (N:=1) rfl ?_);refine zI ?hg (N:=1) ?hd (cs:=#[.int .i64 a0_0,.int .i64 a0_1,.string a0_2]) (t:=26) ?hr ?_;(case hd => rfl);(case hg => rfl);(case hr => first|(go_simp;done)|(go_simp;rfl));intro gb337 hg w16 hbox hb;have BK337:=zh (hbox);have GW337:=zh ((by rw [hg];exact (zB (by repeat (with_reducible first|exact HB.out|apply za|apply zb|apply zc))) : w.heap.size≤gb337));have GE337:=zh ((by rw [hg];exact (zB (by repeat (with_reducible first|exact HB.out|apply za|apply zb|apply zc))) : w.heap.size≤gb337));replace HB:=zh (zC (by repeat (with_reducible first|exact HB.out|apply za|apply zb|apply zc)) hb);clear hb hbox hg;have hcz17_0 : w16.cell? ⟨gb337,0,none⟩=some (.int .i64 a0_0):=(zz BK337.out 0).trans rfl;have hcz17_1 : w16.cell? ⟨gb337,1,none⟩=some (.int .i64 a0_1):=(zz BK337.out 1).trans rfl;have hcz17_2 : w16.cell? ⟨gb337,2,none⟩=some (.string a0_2):=(zz BK337.out 2).trans rfl;have hfz17_0:=zA BK337.out 0;have hfz17_1:=zA BK337.out 1;have hfz17_2:=zA BK337.out 2)|((with_reducible refine zJ (f:=64) rfl ?_);refine yj (some 40) rfl rfl Try.func64 (by kernel_rfl) rfl #[.string a0_2] rfl (by (try simp only [zt,zu,zv]);first|done|rfl|(simp only [zw,zx];rfl)|(simp only [yr,ys,zV,zW];rfl)) ?_;(with_reducible refine (spec_l01Fields.calls k  a0_2 t344 t345 _ A15.out).mono ?_);rintro e w18 ⟨v346,rfl,ho0,hb⟩;refine ⟨_,rfl,?_⟩;have HO347:=zh (yy ho0 (zB (by repeat (with_reducible first|exact HB.out|apply za|apply zb|apply zc|refine zd ?_ GE337.out))));replace BK337:=zh (zD (g:=gb337) (o:=.cells #[.int .i64 a0_0,.int .i64 a0_1,.string a0_2] 26 (0,0)) (by (with_reducible repeat (first|refine ze ?_ _|refine zf ?_|refine zg ?_ _));exact BK337.out) hb);replace HB:=zh (zC (by repeat (with_reducible first|exact HB.out|apply za|apply zb|apply zc|refine zd ?_ GE337.out)) hb);(try clear hb);(try clear hb2);(try clear hk);(try clear hi);(try clear ho0)))
  go_loopg [3,9] k (fun kq v3 v9 w' => ∃ (x3_1 : Int) (x9_1 : Int),v3 = .int .i64 x3_1∧v9 = .int .i64 x9_1∧Aside0 (spec_l01Depth.l1 kq x3_1 t344 x9_1=some r)∧Aside0 (kq≤k)∧Aside0 (Kd.R k68 68 w' w.heap.size (fun _ => True) v346 t344)∧Aside0 (w'.heap[gb337]? = some (.cells #[.int .i64 a0_0,.int .i64 a0_1,.string a0_2] 26 (0,0)))∧Aside0 (Below w.heap.size w w'))
  case atStart => exact ⟨(0),(0),(by first|rfl|(simp;done)|(simp [*];done)),(by first|rfl|(simp;done)|(simp [*];done)),H',⟨ye _⟩,⟨by (with_reducible repeat (first|apply zm|apply zn|apply zo));exact HO347.out⟩,⟨by (with_reducible repeat (first|refine ze ?_ _|refine zf ?_|refine zg ?_ _));exact BK337.out⟩,⟨by repeat (with_reducible first|exact HB.out|apply za|apply zb|apply zc|refine zd ?_ GE337.out)⟩⟩
  case round =>
   clear H'
   try clear c1
   try clear c2
   try clear c2b0
   try clear c2b1
   try clear p2
   try clear p3
   try clear q3
   try clear hx3
   try clear c5
   try clear c6
   try clear p6
   try clear c7
   try clear c7b0
   try clear c8
   try clear c8b0
   try clear c14
   try clear c14b0
   try clear c14b1
   try clear hcz17_0
   try clear hcz17_1
   try clear hcz17_2
   try clear hcz5_0
   try clear hcz5_1
   try clear hcz5_2
   try clear hfz17_0
   try clear hfz17_1
   try clear hfz17_2
   try clear hfz5_0
   try clear hfz5_1
   try clear hfz5_2
   try clear hx342_0
   try clear hx342_1
   try clear hx342_2
   try clear p2
   try clear p342
   try clear q342
   obtain ⟨x3_1,x9_1,rfl,rfl,HA,HK1,HO_7,BK337,HB⟩:=hrel
   cases gk with
   | zero => exact absurd HA.out (by simp [spec_l01Depth.l1])
   | succ k1 =>
    have H:=HA.out;clear HA;simp only [spec_l01Depth.l1] at H
    by_cases c19 : x9_1<(t344.length : Int)
    ·
     rw [if_pos c19] at H
     have c19b0 : decide (x9_1<(t344.length : Int))=true:=decide_eq_true c19;clear c19
     by_cases c20 : 0≤x9_1
     ·
      rw [if_pos c20] at H
      have c20b0 : decide (0≤x9_1)=true:=decide_eq_true c20;clear c20;replace H:=zT.mp H;obtain ⟨t349,A210,H⟩:=H;replace H : (spec_l01Depth.l1 k1 (mx x3_1 t349) t344 (wrap64 (x9_1 + 1)))=some r:=H;have A21:=zh A210;clear A210;obtain ⟨ji22,hji22⟩ : ∃ j_ : Int,(mx x3_1 t349)=j_:=⟨_,rfl⟩;replace H : (spec_l01Depth.l1 k1 ji22 t344 (wrap64 (x9_1 + 1)))=some r:=by first|(rw [hji22] at H;exact H)|(simp only [hji22] at H ⊢;exact H)
      (try rw [hji22] at A21);have hji22_ : (if x3_1<t349 then t349 else x3_1)=ji22:=hji22;have H':=zh H;clear H;obtain ⟨Ao23,co23,eo23⟩:=yk HO_7.out;subst eo23;have p348 : 0≤(x9_1 : Int):=zy (by first|(with_reducible assumption)|assumption);have q348 : x9_1<(t344.length : Int):=zy (by first|(with_reducible assumption)|assumption);obtain ⟨ad348,e348,hx348_0,hx348_1,hx348_2,hx348_3⟩:=at_T68 (yh HO_7.out).2.2 x9_1 p348 q348
      cases e348
      replace p348:=eq_true p348;replace q348:=eq_true q348
      go_wp2_with (first|((with_reducible refine zJ (f:=57) rfl ?_);refine yj (some 55) rfl rfl Try.func57 (by kernel_rfl) rfl #[.agg #[.int .i64 ((rd_T68 t344 x9_1).f1.f0),.int .i64 ((rd_T68 t344 x9_1).f1.f1),.string ((rd_T68 t344 x9_1).f1.f2)]] rfl (by (try simp only [zt,zu,zv]);first|done|rfl|(simp only [zw,zx];rfl)|(simp only [yr,ys,zV,zW];rfl)) ?_;(with_reducible refine (ih k1 (by have:=HK1.out;omega)  ((rd_T68 t344 x9_1).f1.f0) ((rd_T68 t344 x9_1).f1.f1) ((rd_T68 t344 x9_1).f1.f2) t349 _ A21.out).mono ?_);rintro e w24 ⟨rfl,hb⟩;refine ⟨_,rfl,?_⟩;replace HO_7:=zh (yg (by (with_reducible repeat (first|apply zm|apply zn|apply zo));exact HO_7.out) hb);replace BK337:=zh (zD (g:=gb337) (o:=.cells #[.int .i64 a0_0,.int .i64 a0_1,.string a0_2] 26 (0,0)) (by (with_reducible repeat (first|refine ze ?_ _|refine zf ?_|refine zg ?_ _));exact BK337.out) hb);replace HB:=zh (zC (by repeat (with_reducible first|exact HB.out|apply za|apply zb|apply zc|refine zd ?_ GE337.out)) hb);(try clear hb);(try clear hb2);(try clear hk);(try clear hi)))
      go_roundg k1
      case measure => have:=HK1.out;omega
      case rel => exact ⟨(ji22),(wrap64 (x9_1 + 1)),(by first|rfl|(simp;done)|(simp only [← hji22] <;> (first|rfl|simp))|(simp [*];done)),(by first|rfl|(simp;done)|(simp [*];done)),H',⟨by have:=HK1.out;omega⟩,⟨by (with_reducible repeat (first|apply zm|apply zn|apply zo));exact HO_7.out⟩,⟨by (with_reducible repeat (first|refine ze ?_ _|refine zf ?_|refine zg ?_ _));exact BK337.out⟩,⟨by repeat (with_reducible first|exact HB.out|apply za|apply zb|apply zc|refine zd ?_ GE337.out)⟩⟩
     rw [if_neg c20] at H;exact absurd H (by simp)
    rw [if_neg c19] at H;have c19b0 : decide (x9_1<(t344.length : Int))=false:=decide_eq_false c19;clear c19;obtain rfl:=zU H;obtain ⟨Ao25,co25,eo25⟩:=yk HO_7.out;subst eo25
    go_wp2
    go_ret
    exact ⟨by first|rfl|(simp [yt,yu] <;> rfl)|(simp [*,yt,yu] <;> rfl),by repeat (with_reducible first|exact HB.out|apply za|apply zb|apply zc|refine zd ?_ GE337.out)⟩
 rw [if_neg c14] at H;have c14b0 : (a0_0 == 5)=false:=zY.mpr c14;have c14b1 : (a0_0 != 5)=true:=zZ.mpr c14;obtain rfl:=zU H
 go_enter Try.func57,Try.ntmps57
 go_wp2_with (first|((with_reducible refine zK (N:=1) rfl ?_);refine zI ?hg (N:=1) ?hd (cs:=#[.int .i64 a0_0,.int .i64 a0_1,.string a0_2]) (t:=26) ?hr ?_;(case hd => rfl);(case hg => rfl);(case hr => first|(go_simp;done)|(go_simp;rfl));intro gb337 hg w26 hbox hb;have BK337:=zh (hbox);have GW337:=zh ((by rw [hg];exact (zB (by repeat (with_reducible first|exact HB.out|apply za|apply zb|apply zc))) : w.heap.size≤gb337));have GE337:=zh ((by rw [hg];exact (zB (by repeat (with_reducible first|exact HB.out|apply za|apply zb|apply zc))) : w.heap.size≤gb337));replace HB:=zh (zC (by repeat (with_reducible first|exact HB.out|apply za|apply zb|apply zc)) hb);clear hb hbox hg;have hcz27_0 : w26.cell? ⟨gb337,0,none⟩=some (.int .i64 a0_0):=(zz BK337.out 0).trans rfl;have hcz27_1 : w26.cell? ⟨gb337,1,none⟩=some (.int .i64 a0_1):=(zz BK337.out 1).trans rfl;have hcz27_2 : w26.cell? ⟨gb337,2,none⟩=some (.string a0_2):=(zz BK337.out 2).trans rfl;have hfz27_0:=zA BK337.out 0;have hfz27_1:=zA BK337.out 1;have hfz27_2:=zA BK337.out 2))
 go_ret
 exact ⟨by first|rfl|(simp [yt,yu] <;> rfl)|(simp [*,yt,yu] <;> rfl),by repeat (with_reducible first|exact HB.out|apply za|apply zb|apply zc|refine zd ?_ GE337.out)⟩

end Go.Proofs.Ytpmeglcmhiihoaa.Q
end
section
namespace Go.Proofs.Ytpmeglcmhiihoaa.Pure
open Go Go.RowKit Go.Proofs.Ytpmeglcmhiihoaa.Q Go.Proofs.YtpmeglcmhiihoaaW.PrintWords Go.Proofs.YtpmeglcmhiihoaaW.PrintLast Go.Proofs.YtpmeglcmhiihoaaW.PrintMore Go.Proofs.YtpmeglcmhiihoaaW.Pl
def depV : Nat→IVal→Int
 | 0,_ => 0
 | d + 1,v =>
  if v.f0=4 then (match itS v.f2.size v.f2 with|some l => (l.map (depV d)).foldl mx 0 + 1|none => 0)
  else if v.f0=5 then (match fdS v.f2.size v.f2 with|some l => (l.map (fun f => depV d f.f1)).foldl mx 0 + 1|none => 0)
  else 0
theorem mx_in {d : Int} {x y : Int} (hx : 0≤x∧x≤d) (hy : 0≤y∧y≤d) : 0≤mx x y∧mx x y≤d:=by
 unfold mx
 split <;> omega
theorem fold_in (d : Int) : ∀ (l : List Int) (x : Int),0≤x∧x≤d→(∀ y ∈ l,0≤y∧y≤d)→0≤l.foldl mx x∧l.foldl mx x≤d
 | [],_,h,_ => h
 | y :: l,x,h,h2 => fold_in d l (mx x y) (mx_in h (h2 y (by simp))) (fun z hz => h2 z (by simp [hz]))
theorem dep_in : ∀ (d : Nat) (v : IVal),0≤depV d v∧depV d v≤d:=by
 intro d
 induction d with
 | zero => intro v;simp [depV]
 | succ d ih =>
  intro v;unfold depV
  by_cases h4 : v.f0=4
  ·
   rw [if_pos h4]
   cases itS v.f2.size v.f2 with
   | none => simp only;omega
   | some l =>
    have:=fold_in d (l.map (depV d)) 0 (by omega) (fun y hy => by
     obtain ⟨x,_,rfl⟩:=List.mem_map.1 hy
     exact ih x)
    simp only;omega
  rw [if_neg h4]
  by_cases h5 : v.f0=5
  ·
   rw [if_pos h5]
   cases fdS v.f2.size v.f2 with
   | none => simp only;omega
   | some l =>
    have:=fold_in d (l.map (fun f => depV d f.f1)) 0 (by omega) (fun y hy => by
     obtain ⟨x,_,rfl⟩:=List.mem_map.1 hy
     exact ih x.f1)
    simp only;omega
  rw [if_neg h5];omega
theorem dep_loop (l : List IVal) (d : Nat) (hd : d≤1000) (hl : l.length≤1048576) (h : ∀ x ∈ l,Eve (fun k => impl_depth.f k x.f0 x.f1 x.f2) (depV d x)) : Eve (fun k => impl_depth.l0 k 0 l (l.length : Int) 0) ((l.map (depV d)).foldl mx 0 + 1):=by
 refine (ev_loop0 l (fun k (x : Int) i => impl_depth.l0 k x l (l.length : Int) i) (fun _ x r => (r.map (depV d)).foldl mx x + 1) (fun _ x => 0≤x∧x≤d) (fun x hx => ?_) (fun i hi x hx ih2 => ?_) 0 (by omega))
 ·
  simp only [impl_depth.l0]
  refine Eve.ite (fun h => absurd h (by omega)) (fun _ => Eve.one.eq ?_);rw [w64 (by omega) (by omega)];rfl
 simp only [impl_depth.l0,rdV l i hi,wi (show i≤9223372036854775806 by omega)];refine Eve.ite (fun _ => ?_) (fun h => absurd (by omega) h);refine Eve.ite (fun _ => ?_) (fun h => absurd (by omega) h);refine Eve.ite (fun _ => ?_) (fun h => absurd (by omega) h);refine Eve.bind (h l[i] (List.getElem_mem hi)) ?_;exact ih2 _ (mx_in hx (dep_in d l[i]))
theorem dep_nest (v : IVal) (d : Nat) (l : List IVal) (ok : Bool) (hd : d≤1000) (h45 : v.f0=4∨v.f0=5) (hin : Eve (fun k => impl_inner.f k v.f0 v.f1 v.f2) (l,ok)) (hl : l.length≤1048576)
  (hq : ∀ x ∈ l,Eve (fun k => impl_depth.f k x.f0 x.f1 x.f2) (depV d x)) : Eve (fun k => impl_depth.f k v.f0 v.f1 v.f2) ((l.map (depV d)).foldl mx 0 + 1):=by
 have hj : Eve (fun k => impl_depth.j0 k false v.f0 v.f1 v.f2) ((l.map (depV d)).foldl mx 0 + 1):=by
  refine Eve.succ ?_;simp only [impl_depth.j0,Bool.false_eq_true,if_false];refine Eve.bind hin ?_;refine Eve.ite (fun _ => dep_loop l d hd hl hq) (fun h => Eve.one.eq ?_);have : l=[]:=List.length_eq_zero_iff.1 (by simp only at h;omega);rw [this];rfl
 refine Eve.succ ?_;simp only [impl_depth.f];rcases h45 with h|h
 ·
  simp only [if_pos h];exact hj
 have h4 : ¬ v.f0=4:=by omega
 have h5 : (v.f0 != 5)=false:=by rw [h];rfl
 simp only [if_neg h4,h5];exact hj
theorem dep_impl : ∀ (d : Nat) (v : IVal),d≤1000→v.f2.size≤1048576→rightV d v=true→Eve (fun k => impl_depth.f k v.f0 v.f1 v.f2) (depV d v):=by
 intro d
 have flat0 : ∀ (v : IVal),v.f0≠4→v.f0≠5→Eve (fun k => impl_depth.f k v.f0 v.f1 v.f2) 0:=by
  intro v h4 h5;refine Eve.succ ?_;have h5' : (v.f0 != 5)=true:=by simpa using h5
  simp only [impl_depth.f,if_neg h4,h5'];refine Eve.succ ?_;simp only [impl_depth.j0,if_true];exact Eve.one
 induction d with
 | zero =>
  intro v hd hs h;refine flat0 v (fun h4 => ?_) (fun h5 => ?_)
  ·
   obtain ⟨e,_,he,_⟩:=right_four h h4;cases he
  obtain ⟨e,_,he,_⟩:=right_five h h5;cases he
 | succ d ih =>
  intro v hd hs h
  by_cases h4 : v.f0=4
  ·
   obtain ⟨e,l,he,hi,hr⟩:=right_four h h4
   obtain rfl : d=e:=by omega
   obtain ⟨l2,ok,hin,hl,hsz,hc⟩:=inner_four v h4 hs;rw [hi] at hc
   have hl2 : l=l2:=by
    rcases hc with ⟨e,_⟩|⟨e,_⟩
    ·
     simpa using e
    simp at e
   subst hl2;refine (dep_nest v d l ok (by omega) (.inl h4) hin hl (fun x hx => ih x (by omega) (hsz x hx) (List.all_eq_true.1 hr _ hx))).eq ?_;unfold depV;rw [if_pos h4,hi]
  by_cases h5 : v.f0=5
  ·
   obtain ⟨e,fs,he,hi,_,hr⟩:=right_five h h5
   obtain rfl : d=e:=by omega
   obtain ⟨l2,ok,hin,hl,hsz,hc⟩:=inner_five v h5 hs;rw [hi] at hc
   have hl2 : l2=fs.map (·.f1):=by
    rcases hc with ⟨f2,e,e2,_⟩|⟨e,_⟩
    ·
     obtain rfl : fs=f2:=by simpa using e
     exact e2
    simp at e
   subst hl2;refine (dep_nest v d _ ok (by omega) (.inr h5) hin hl (fun x hx => ih x (by omega) (hsz x hx) ?_)).eq ?_
   ·
    obtain ⟨f,hf,rfl⟩:=List.mem_map.1 hx
    exact List.all_eq_true.1 hr f hf
   unfold depV;rw [if_neg h4,if_pos h5,hi,List.map_map];rfl
  unfold depV;rw [if_neg h4,if_neg h5];exact flat0 v h4 h5
theorem bytes_cut (a : ByteArray) (i j : Nat) : bytesOf (a.extract i j)=((bytesOf a).drop i).take (j - i):=by
 unfold bytesOf;rw [ByteArray.data_extract,Array.toList_extract,List.map_take,List.map_drop] <;> rfl
theorem bytes_inj {a b : ByteArray} (h : bytesOf a=bytesOf b) : a=b:=by
 have h2 : a.data.toList=b.data.toList:=by
  refine (List.map_inj_right (fun x y hxy => ?_)).1 h;exact UInt8.toNat_inj.1 (by exact_mod_cast hxy)
 cases a;cases b
 simp only [ByteArray.mk.injEq];exact Array.toList_inj.1 h2
theorem stp_zero (b : Int) (h : 0≤b∧b≤255) : stp 0 b=0 * 256 + b:=by
 unfold stp;rw [w64m,w64m,w64m]
 omega
theorem str_app (a b : List Int) : strOfNums (a ++ b)=strOfNums a ++ strOfNums b:=by
 apply ba_ext;rw [ba_toList,ba_toList,ByteArray.data_append,Array.toList_append,strOfNums_data,strOfNums_data,strOfNums_data,List.map_append]
theorem str_bytes (s : ByteArray) : strOfNums (bytesOf s)=s:=by
 apply ba_ext;rw [ba_toList,ba_toList,strOfNums_data,bytesOf,List.map_map]
 conv => rhs;rw [← List.map_id s.data.toList]
 refine List.map_congr_left (fun b _ => ?_);show UInt8.ofNat ((b.toNat : Int)).toNat=b;rw [Int.toNat_natCast];exact UInt8.ofNat_toNat
theorem bytes_str (l : List Int) (h : ∀ b ∈ l,0≤b∧b≤255) : bytesOf (strOfNums l)=l:=by
 rw [bytesOf,strOfNums_data,List.map_map]
 conv => rhs;rw [← List.map_id l]
 refine List.map_congr_left (fun b hb => ?_);have:=h b hb;show (((UInt8.ofNat b.toNat).toNat : Nat) : Int)=b;rw [UInt8.toNat_ofNat']
 omega
abbrev Byts (l : List Int) : Prop:=∀ b ∈ l,0≤b∧b≤255
theorem byts_app {a b : List Int} (ha : Byts a) (hb : Byts b) : Byts (a ++ b):=fun x hx => (List.mem_append.1 hx).elim (ha x) (hb x)
theorem bt_of (l : List Int) (hl : Byts l) (i : Nat) (h : i<l.length) : bt (strOfNums l) (i : Int)=l[i]:=by
 have hz:=bytes_str l hl;have:=bt_get (strOfNums l) i (by rw [hz];exact h);simp only [hz] at this;exact this
theorem ext_of (l : List Int) (hl : Byts l) (i j : Nat) : (strOfNums l).extract i j=strOfNums ((l.drop i).take (j - i)):=by
 apply bytes_inj;rw [bytes_cut,bytes_str l hl,bytes_str _ (fun b hb => hl b (List.mem_of_mem_drop (List.mem_of_mem_take hb)))]
theorem tail_of (l : List Int) (hl : Byts l) (i : Nat) : (strOfNums l).extract i (strOfNums l).size=strOfNums (l.drop i):=by
 rw [ext_of l hl,strOfNums_size,List.take_of_length_le (by simp)]
abbrev LVal:=S23

def iv (v : LVal) : IVal:=⟨v.f0,v.f1,v.f2⟩
theorem ival_ext {a b : IVal} (h0 : a.f0=b.f0) (h1 : a.f1=b.f1) (h2 : a.f2=b.f2) : a=b:=by cases a;cases b;simp_all
theorem szValue_tells (v : LVal) (h : v.f2.size≤9223372036854775807) {left : Int} (h0 : 0≤left) (h1 : left≤1048576) :
  laws_szValue.f v.f0 v.f1 v.f2 left=some (if left - v.f2.size<0 then -1 else left - v.f2.size):=by
 unfold laws_szValue.f;rw [w64 (by omega) (by omega)]
 split <;> rfl
theorem toValue_tells (v : LVal) : laws_toValue.f v.f0 v.f1 v.f2=some (v.f0,v.f1,v.f2):=rfl
end Go.Proofs.Ytpmeglcmhiihoaa.Pure
end
section
namespace Go.Proofs.Ytpmeglcmhiihoaa.Q
open Go.RowKit Go.Proofs.YtpmeglcmhiihoaaW.PrintWords Go.Proofs.YtpmeglcmhiihoaaW.PrintLast Go.Proofs.YtpmeglcmhiihoaaW.PrintMore
attribute [local go_sem] max2_int min2_int max_two min_two max_three min_three max_four min_four max2_str min2_str str_geq str_gtr str_leq   -- for this text's walks alone
set_option linter.unusedVariables false
set_option linter.unusedSimpArgs false

def laws_markText.l0 : Nat→Int→ByteArray→Option (ByteArray)
 | 0,_,_ => none
 | k + 1,x0,x3 => if x0 > 0 then ((some (([(wrap64 (48 + (Int.tmod x0 10))) % 256] : List Int) : List Int)).bind fun y500 => (if (strOfNums y500).size + x3.size≤9223372036854775807 then (laws_markText.l0 k (wrap64 (Int.tdiv x0 10)) ((strOfNums y500) ++ x3)) else (none))) else (if 1 + x3.size≤9223372036854775807 then (some ((⟨#[109]⟩ : ByteArray) ++ x3)) else (none))
def laws_markText.f (k : Nat) (a0 : Int) : Option (ByteArray):=if a0≤0 then (some (⟨#[109,48]⟩ : ByteArray)) else (laws_markText.l0 k a0 (⟨#[]⟩ : ByteArray))
theorem laws_markText.mono_l : ∀ k,(∀ y0 y1,LeO (laws_markText.l0 k y0 y1) (laws_markText.l0 (k + 1) y0 y1))
 | 0 => fun _ _ r h => by simp [laws_markText.l0] at h
 | k + 1 => by
  have ih0:=laws_markText.mono_l k;intro y0 y1;unfold laws_markText.l0
  repeat' first|(with_reducible exact ih0 _ _)|(with_reducible exact zQ _)|(with_reducible exact zN _)|(with_reducible refine zP ?_ ?_)|(with_reducible refine zO ?_ (fun _ => ?_))|refine zP ?_ ?_|refine zO ?_ (fun _ => ?_)
theorem laws_markText.mono : ∀ a0 k,LeO (laws_markText.f k a0) (laws_markText.f (k + 1) a0):=by
 intro a0 k;have ih0:=laws_markText.mono_l k;unfold laws_markText.f
 repeat' first|(with_reducible exact ih0 _ _)|(with_reducible exact zQ _)|(with_reducible exact zN _)|(with_reducible refine zP ?_ ?_)|(with_reducible refine zO ?_ (fun _ => ?_))|refine zP ?_ ?_|refine zO ?_ (fun _ => ?_)
set_option maxHeartbeats 8000000 in
set_option maxRecDepth 100000 in
theorem laws_markText.calls (k : Nat) (a0 : Int) (r : ByteArray) (w : World) (h : laws_markText.f k a0=some r) :
  Calls Try.prog 63 #[.int .i64 a0] w fun e w' => e = .returned (.string r)∧Below w.heap.size w w':=by
 have HB:=zh (Below.refl w.heap.size w);have H : (if a0≤0 then (some (⟨#[109,48]⟩ : ByteArray)) else (laws_markText.l0 k a0 (⟨#[]⟩ : ByteArray)))=some r:=h;clear h
 by_cases c2 : a0≤0
 ·
  rw [if_pos c2] at H
  have c2b0 : decide (a0≤0)=true:=decide_eq_true c2;clear c2;obtain rfl:=zU H
  go_enter Try.func63,Try.ntmps63
  go_wp2
  go_ret
  exact ⟨by first|rfl|(simp [yt,yu] <;> rfl)|(simp [*,yt,yu] <;> rfl),by repeat (with_reducible first|exact HB.out|apply za|apply zb|apply zc)⟩
 rw [if_neg c2] at H;have c2b0 : decide (a0≤0)=false:=decide_eq_false c2;clear c2;have H':=zh H;clear H
 go_enter Try.func63,Try.ntmps63
 go_wp2
 go_loopg [0,3] k (fun kq v0 v3 w' => ∃ (x0_1 : Int) (x3_1 : ByteArray),v0 = .int .i64 x0_1∧v3 = .string x3_1∧Aside0 (laws_markText.l0 kq x0_1 x3_1=some r)∧Aside0 (kq≤k)∧Aside0 (Below w.heap.size w w'))
 case atStart => exact ⟨(a0),((⟨#[]⟩ : ByteArray)),(by first|rfl|(simp;done)|(simp [*];done)),(by first|rfl|(simp;done)|(simp [*];done)),H',⟨ye _⟩,⟨by repeat (with_reducible first|exact HB.out|apply za|apply zb|apply zc)⟩⟩
 case round =>
  clear H'
  try clear c2
  try clear c2b0
  try clear p2
  obtain ⟨x0_1,x3_1,rfl,rfl,HA,HK1,HB⟩:=hrel
  cases gk with
  | zero => exact absurd HA.out (by simp [laws_markText.l0])
  | succ k1 =>
   have H:=HA.out;clear HA;simp only [laws_markText.l0] at H
   by_cases c3 : x0_1 > 0
   ·
    rw [if_pos c3] at H
    have c3b0 : decide (0<x0_1)=true:=decide_eq_true c3;clear c3;obtain ⟨y500,hy500⟩ : ∃ y_ : List Int,y_=(([(wrap64 (48 + (Int.tmod x0_1 10))) % 256] : List Int)):=⟨_,rfl⟩;replace H : (if (strOfNums y500).size + x3_1.size≤9223372036854775807 then (laws_markText.l0 k1 (wrap64 (Int.tdiv x0_1 10)) ((strOfNums y500) ++ x3_1)) else (none))=some r:=by first|(rw [hy500];with_reducible exact H)|(have H2_:=(Option.bind_some _ _).symm.trans H;rw [hy500];with_reducible exact H2_)|(have H2_:=(Option.bind_some _ _).symm.trans H;with_reducible exact H2_)|with_reducible exact H|(rw [hy500];exact H)|exact H
    have Ny500:=zh hy500;clear hy500
    by_cases c4 : (strOfNums y500).size + x3_1.size≤9223372036854775807
    ·
     rw [if_pos c4] at H
     have c4b0:=eq_true c4;have c4b1 : decide ((strOfNums y500).size + x3_1.size≤9223372036854775807)=true:=decide_eq_true c4
     try have c4b2 : (9223372036854775807<(strOfNums y500).size + x3_1.size)=False:=eq_false (Nat.not_lt.2 c4)
     have H':=zh H;clear H
     go_wp2_with (first|((with_reducible refine zK (N:=12) rfl ?_);refine Kd.R_lit (Kd.int .u8) _ 5 ?hg (N:=12) ?hd (xs:=([(wrap64 (48 + (Int.tmod x0_1 10))) % 256] : List Int)) (inner:=[.int .u8 ((wrap64 (48 + (Int.tmod x0_1 10))) % 256)]) (ok:=fun _ => True) (okp:=fun _ => True) ?hr ?hp (fun _ hk => hk) trivial (Below.refl _ _) (ye _) (by simp) ?_;(case hd => rfl);(case hg => rfl);(case hr => first|(go_simp;done)|(go_simp;rfl));(case hp => exact (Reps.one (show Kd.M (Kd.int .u8) _ _ _ ((wrap64 (48 + (Int.tmod x0_1 10))) % 256) [.int .u8 ((wrap64 (48 + (Int.tmod x0_1 10))) % 256)] from rfl) (Reps.none _ _)));intro v501 w5 ho6 hb hg_ hnew_;clear hg_ hnew_;(first|rw [← Ny500.out] at ho6|(simp only [Int.reduceToNat] at ho6;rw [← Ny500.out] at ho6));have HO502:=zh (yy ho6 (zB (by repeat (with_reducible first|exact HB.out|apply za|apply zb|apply zc))));replace HB:=zh (zC (by repeat (with_reducible first|exact HB.out|apply za|apply zb|apply zc)) hb);clear hb ho6;have hcv7:=own_string (P:=Try.prog) Try.underlying29 Try.underlying5 Try.underlying9 (Kd.own_of_R HO502.out)))
     go_roundg k1
     case measure => have:=HK1.out;omega
     case rel => exact ⟨(wrap64 (Int.tdiv x0_1 10)),((strOfNums y500) ++ x3_1),(by first|rfl|(simp;done)|(simp [*];done)),(by first|rfl|(simp;done)|(simp [*];done)),H',⟨by have:=HK1.out;omega⟩,⟨by repeat (with_reducible first|exact HB.out|apply za|apply zb|apply zc)⟩⟩
    rw [if_neg c4] at H;exact absurd H (by simp)
   rw [if_neg c3] at H;have c3b0 : decide (0<x0_1)=false:=decide_eq_false c3;clear c3
   by_cases c8 : 1 + x3_1.size≤9223372036854775807
   ·
    rw [if_pos c8] at H
    have c8b0:=eq_true c8;have c8b1 : decide (1 + x3_1.size≤9223372036854775807)=true:=decide_eq_true c8
    try have c8b2 : (9223372036854775807<1 + x3_1.size)=False:=eq_false (Nat.not_lt.2 c8)
    obtain rfl:=zU H
    go_wp2
    go_ret
    exact ⟨by first|rfl|(simp [yt,yu] <;> rfl)|(simp [*,yt,yu] <;> rfl),by repeat (with_reducible first|exact HB.out|apply za|apply zb|apply zc)⟩
   rw [if_neg c8] at H;exact absurd H (by simp)

end Go.Proofs.Ytpmeglcmhiihoaa.Q
end
section
namespace Go.Proofs.Ytpmeglcmhiihoaa.Pure
open Go Go.RowKit Go.Proofs.Ytpmeglcmhiihoaa.Q Go.Proofs.YtpmeglcmhiihoaaW.PrintWords Go.Proofs.YtpmeglcmhiihoaaW.PrintLast Go.Proofs.YtpmeglcmhiihoaaW.PrintMore Go.Proofs.YtpmeglcmhiihoaaW.Pl
open Classical in
noncomputable def mt (x : Int) : ByteArray:=if h : ∃ t,Eve (fun k => laws_markText.f k x) t then h.choose else ⟨#[]⟩
theorem filled {α : Type} (ys : List α) (n : Nat) (c : Nat→α) (h1 : ys.length=n) (h2 : ∀ j,j<n→ys[j]? = some (c j)) : ys=(List.range n).map c:=by
 apply List.ext_getElem?
 intro j
 by_cases hj : j<n
 ·
  rw [h2 j hj];simp [hj]
 rw [List.getElem?_eq_none (by omega),List.getElem?_eq_none (by simp;omega)]
theorem fill_next {α : Type} (ys : List α) (i : Nat) (c : Nat→α) (h1 : i<ys.length) (h2 : ∀ j,j<i→ys[j]? = some (c j)) : ∀ j,j<i + 1→(ys.set i (c i))[j]? = some (c j):=by
 intro j hj
 by_cases h : j=i
 ·
  subst h;simp [h1]
 rw [List.getElem?_set_ne (by omega)];exact h2 j (by omega)
end Go.Proofs.Ytpmeglcmhiihoaa.Pure
end
section
namespace Go.Proofs.Ytpmeglcmhiihoaa.Pure
open Go Go.RowKit Go.Proofs.Ytpmeglcmhiihoaa.Q Go.Proofs.YtpmeglcmhiihoaaW.PrintWords Go.Proofs.YtpmeglcmhiihoaaW.PrintLast Go.Proofs.YtpmeglcmhiihoaaW.PrintMore Go.Proofs.YtpmeglcmhiihoaaW.Pl
def Shape (v : IVal) : Prop :=
 (v.f0=0∧v.f1=0∧v.f2=eB)∨(v.f0=1∧(0≤v.f1∧v.f1≤1)∧v.f2=eB)∨(v.f0=2∧(-1000000000000≤v.f1∧v.f1≤1000000000000)∧v.f2=eB)∨((3≤v.f0∧v.f0≤5)∧v.f1=0∧v.f2.size≤300)
theorem em_is {a : ByteArray} (h : emB a=true) : a=eB:=ba_ext (by rw [show a.toList=([] : List UInt8) from eq_of_beq h,ba_toList])
theorem flat_shape {v : IVal} (h : flat v=true) : Shape v:=by
 unfold flat at h;unfold Shape
 by_cases q0 : v.f0=0
 ·
  rw [if_pos q0,Bool.and_eq_true,decide_eq_true_eq] at h
  exact .inl ⟨q0,h.1,em_is h.2⟩
 rw [if_neg q0] at h
 by_cases q1 : v.f0=1
 ·
  rw [if_pos q1,Bool.and_eq_true] at h
  have h1:=h.1;unfold inr at h1;rw [Bool.and_eq_true,decide_eq_true_eq,decide_eq_true_eq] at h1;exact .inr (.inl ⟨q1,h1,em_is h.2⟩)
 rw [if_neg q1] at h
 by_cases q2 : v.f0=2
 ·
  rw [if_pos q2,Bool.and_eq_true] at h
  have h1:=h.1;unfold inr at h1;rw [Bool.and_eq_true,decide_eq_true_eq,decide_eq_true_eq] at h1;exact .inr (.inr (.inl ⟨q2,h1,em_is h.2⟩))
 rw [if_neg q2] at h
 by_cases q3 : v.f0=3
 ·
  rw [if_pos q3,Bool.and_eq_true,decide_eq_true_eq,decide_eq_true_eq] at h
  exact .inr (.inr (.inr ⟨by omega,h.1,by omega⟩))
 rw [if_neg q3] at h;cases h
theorem right_shape : ∀ (d : Nat) (v : IVal),rightV d v=true→Shape v:=by
 intro d v h
 cases d with
 | zero => exact flat_shape h
 | succ d =>
  unfold rightV at h
  by_cases h4 : v.f0=4
  ·
   rw [if_pos h4,Bool.and_eq_true,Bool.and_eq_true,decide_eq_true_eq,decide_eq_true_eq] at h
   exact .inr (.inr (.inr ⟨by omega,h.1,by omega⟩))
  rw [if_neg h4] at h
  by_cases h5 : v.f0=5
  ·
   rw [if_pos h5,Bool.and_eq_true,Bool.and_eq_true,decide_eq_true_eq,decide_eq_true_eq] at h
   exact .inr (.inr (.inr ⟨by omega,h.1,by omega⟩))
  rw [if_neg h5] at h;exact flat_shape h
def dig (x : Int) : Nat→List Int
 | 0 => []
 | m + 1 => (shr .i64 x (8 * (m : Int)) % 256) :: dig x m
theorem dig_in (x : Int) : ∀ m,∀ b ∈ dig x m,0≤b∧b≤255
 | 0 => fun b hb => by simp [dig] at hb
 | m + 1 => fun b hb => by
  rcases List.mem_cons.1 hb with rfl|hb
  ·
   omega
  exact dig_in x m b hb
theorem dig_length (x : Int) : ∀ m,(dig x m).length=m
 | 0 => rfl
 | m + 1 => by rw [dig,List.length_cons,dig_length x m]
theorem pow_eight (m : Nat) : (2 : Int) ^ (8 * (m + 1))=2 ^ (8 * m) * 256:=by
 rw [show 8 * (m + 1)=8 * m + 1 + 1 + 1 + 1 + 1 + 1 + 1 + 1 by omega];simp only [Int.pow_succ,Int.mul_assoc]
 rfl
theorem pow_at (m : Nat) : (0 : Int)<2 ^ (8 * m):=by
 induction m with
 | zero => decide
 | succ m ih => rw [pow_eight];omega
theorem shr_at (x : Int) (m : Nat) (h : m≤8) : shr .i64 x (8 * (m : Int))=x / 2 ^ (8 * m):=by
 unfold shr;have e1 : (8 * (m : Int)).toNat=8 * m:=by omega
 have e2 : min (8 * m) (IntKind.bits .i64)=8 * m:=Nat.min_eq_left (by show 8 * m≤64;omega);rw [e1,e2]
theorem shr_zero (x : Int) : shr .i64 x (8 * ((0 : Nat) : Int))=x:=by rw [shr_at x 0 (by omega)];simp
theorem stp_back (y : Int) (h0 : 0≤y) (h1 : y<9223372036854775808) : stp (y / 256) (y % 256)=y:=by
 unfold stp;rw [w64m,w64m,w64m]
 omega
theorem fold_dig (x : Int) (h0 : 0≤x) (h1 : x<9223372036854775808) : ∀ m : Nat,m≤8→(dig x m).foldl stp (x / 2 ^ (8 * m))=x
 | 0,_ => by simp [dig]
 | m + 1,h => by
  have hp:=pow_at m;have hy0 : 0≤x / 2 ^ (8 * m):=Int.ediv_nonneg h0 (by omega);have hy1 : x / 2 ^ (8 * m)≤x:=Int.ediv_le_self _ h0;rw [dig,List.foldl_cons,shr_at x m (by omega),pow_eight,← Int.ediv_ediv_of_nonneg (by omega),stp_back _ hy0 (by omega)];exact fold_dig x h0 h1 m (by omega)
theorem big_dig (x : Int) (h0 : 0≤x) (h1 : x<9223372036854775808) : bigV (dig x 8)=x:=by
 have:=fold_dig x h0 h1 8 (by omega)
 rw [show x / 2 ^ (8 * 8)=0 from by
  have : (2 : Int) ^ (8 * 8)=18446744073709551616:=by decide
  rw [this];omega] at this
 exact this
theorem u64_at (m : Nat) (h : m≤8) : IntKind.u64.wrap (wrap64 (8 * (m : Int)))=8 * (m : Int):=by
 rw [w64 (by omega) (by omega)];rw [show IntKind.u64.wrap (8 * (m : Int))=(8 * (m : Int)) % 18446744073709551616 from rfl]
 omega
theorem number_loop (x : Int) : ∀ (m : Nat) (acc : List Int),m≤8→acc.length + m≤100→Eve (fun k => spec_l01Number.l0 k x acc ((m : Int) - 1)) (strOfNums (acc ++ dig x m)):=by
 intro m
 induction m with
 | zero =>
  intro acc _ _;refine Eve.succ ?_;simp only [spec_l01Number.l0];exact Eve.ite (fun h => absurd h (by omega)) (fun _ => Eve.one.eq (by simp [dig]))
 | succ m ih =>
  intro acc h1 h2;refine Eve.succ ?_;simp only [spec_l01Number.l0,show ((m + 1 : Nat) : Int) - 1=(m : Int) by omega,u64_at m (by omega),w64 (show -9223372036854775808≤(m : Int) - 1 by omega) (by omega)];refine Eve.ite (fun _ => ?_) (fun h => absurd (by omega) h);refine Eve.ite (fun _ => ?_) (fun h => absurd (by omega) h);refine Eve.ite (fun _ => ?_) (fun h => absurd (by omega) h);exact (ih _ (by omega) (by simp;omega)).eq (by simp [dig])
theorem number_tells (x : Int) (n : Nat) (h : n≤8) : Eve (fun k => spec_l01Number.f k x (n : Int)) (strOfNums (dig x n)):=by
 simp only [spec_l01Number.f,w64 (show -9223372036854775808≤(n : Int) - 1 by omega) (by omega)];exact (number_loop x n [] h (by simp;omega)).eq (by simp)
def dig8 (x : Int) (i : Nat) : Int:=shr .i64 x (56 - 8 * (i : Int)) % 256
theorem eight_tells (x : Int) : Eve (fun k => impl_eight.f k x) (dig x 8):=by
 simp only [impl_eight.f];refine Eve.ite (fun _ => ?_) (fun h => absurd (by decide) h);have hl : (List.replicate 8 (0 : Int)).length=8:=by simp
 have he : (List.range 8).map (dig8 x)=dig x 8:=rfl;refine ev_loop0 (List.replicate 8 (0 : Int)) (fun k (s : List Int) i => impl_eight.l0 k x s i) (fun _ _ _ => dig x 8) (fun i s => s.length=8 ∧ ∀ j,j<i→s[j]? = some (dig8 x j)) (fun s hs => ?_) (fun i hi s hs ih => ?_) (List.replicate 8 0) ⟨hl,by intro j hj;omega⟩
 ·
  simp only [impl_eight.l0]
  refine Eve.ite (fun h => absurd h (by omega)) (fun _ => Eve.one.eq ?_);rw [← he];exact filled s 8 _ hs.1 (fun j hj => hs.2 j (by omega))
 obtain ⟨h1,h2⟩:=hs;have hi8 : i<8:=by omega
 have e1 : wrap64 (8 * (i : Int))=8 * (i : Int):=w64 (by omega) (by omega);have e2 : wrap64 (56 - 8 * (i : Int))=56 - 8 * (i : Int):=w64 (by omega) (by omega);simp only [impl_eight.l0,e1,e2,Int.toNat_natCast,wi (show i≤9223372036854775806 by omega)];refine Eve.ite (fun _ => ?_) (fun h => absurd (by omega) h);refine Eve.ite (fun _ => ?_) (fun h => absurd (by omega) h);refine Eve.ite (fun _ => ?_) (fun h => absurd (by omega) h);refine Eve.ite (fun _ => ?_) (fun h => absurd (by omega) h);exact ih (s.set i (dig8 x i)) ⟨by simpa using h1,fill_next s i (dig8 x) (by omega) h2⟩
def encB (v : IVal) : List Int :=
 if v.f0=0 then [0] else if v.f0=1 then [1,v.f1] else if v.f0=2 then 2 :: dig (v.f1 + 4611686018427387904) 8
 else v.f0 :: ((v.f2.size : Int) / 256 % 256) :: ((v.f2.size : Int) % 256) :: bytesOf v.f2
theorem enc_in {v : IVal} (h : Shape v) : ∀ b ∈ encB v,0≤b∧b≤255:=by
 unfold encB;rcases h with ⟨h,_⟩|⟨h,h1,_⟩|⟨h,_⟩|⟨h,_,hz⟩
 ·
  rw [if_pos h];intro b hb;simp at hb;omega
 ·
  rw [if_neg (by omega),if_pos h];intro b hb;simp at hb;omega
 ·
  rw [if_neg (by omega),if_neg (by omega),if_pos h]
  intro b hb;rcases List.mem_cons.1 hb with rfl|hb
  ·
   omega
  exact dig_in _ _ b hb
 rw [if_neg (by omega),if_neg (by omega),if_neg (by omega)];intro b hb;rcases List.mem_cons.1 hb with rfl|hb
 ·
  omega
 rcases List.mem_cons.1 hb with rfl|hb
 ·
  omega
 rcases List.mem_cons.1 hb with rfl|hb
 ·
  omega
 exact bytes_in _ b hb
theorem enc_length {v : IVal} (h : Shape v) : 1≤(encB v).length∧(encB v).length≤303:=by
 unfold encB;rcases h with ⟨h,_⟩|⟨h,h1,_⟩|⟨h,_⟩|⟨h,_,hz⟩
 ·
  rw [if_pos h];simp
 ·
  rw [if_neg (by omega),if_pos h];simp
 ·
  rw [if_neg (by omega),if_neg (by omega),if_pos h];simp [dig_length]
 rw [if_neg (by omega),if_neg (by omega),if_neg (by omega)];simp only [List.length_cons,bytesOf_length];omega
theorem put_tells (acc : List Int) {v : IVal} (h : Shape v) (ha : acc.length≤1048576) : Eve (fun k => impl_putValue.f k acc v.f0 v.f1 v.f2) (acc ++ encB v):=by
 simp only [impl_putValue.f,Option.bind_some,List.length_append,List.length_cons,List.length_nil,List.append_assoc,List.cons_append,List.nil_append];refine Eve.ite (fun _ => ?_) (fun h => absurd (by omega) h);unfold encB;rcases h with ⟨h,_⟩|⟨h,h1,_⟩|⟨h,h1,_⟩|⟨h,_,hz⟩
 ·
  rw [if_pos h]
  simp only [h];exact Eve.one
 ·
  rw [if_neg (show ¬ v.f0=0 by omega),if_pos h]
  simp only [h,if_true];refine Eve.ite (fun _ => Eve.one.eq ?_) (fun h => absurd (by omega) h);rw [show v.f1 % 256=v.f1 by omega];rfl
 ·
  rw [if_neg (show ¬ v.f0=0 by omega),if_neg (show ¬ v.f0=1 by omega),if_pos h]
  refine Eve.ite (fun h => absurd h (by omega)) (fun _ => Eve.ite (fun _ => ?_) (fun h2 => absurd h h2));rw [show wrap64 (v.f1 + 4611686018427387904)=v.f1 + 4611686018427387904 from w64 (by omega) (by omega)];refine Eve.bind (eight_tells _) ?_;refine Eve.ite (fun _ => Eve.one.eq (by rw [h];rfl)) (fun h => absurd (by rw [dig_length];omega) h)
 rw [if_neg (show ¬ v.f0=0 by omega),if_neg (show ¬ v.f0=1 by omega),if_neg (show ¬ v.f0=2 by omega)];have hk : v.f0 % 256=v.f0:=by omega
 have fin : Eve (fun _ => if acc.length + (0 + 1) + (0 + 1 + 1)<140737488355328 then (if acc.length + (0 + 1 + 1 + 1) + v.f2.size<140737488355328 then some (acc ++ v.f0 % 256 :: (v.f2.size : Int) / 256 % 256 :: (v.f2.size : Int) % 256 :: bytesOf v.f2) else none) else none) (acc ++ v.f0 :: (v.f2.size : Int) / 256 % 256 :: (v.f2.size : Int) % 256 :: bytesOf v.f2) :=
  Eve.ite (fun _ => Eve.ite (fun _ => Eve.one.eq (by rw [hk])) (fun h => absurd (by omega) h)) (fun h => absurd (by omega) h)
 refine Eve.ite (fun h => absurd h (by omega)) (fun _ => Eve.ite (fun h => absurd h (by omega)) (fun _ => ?_));exact Eve.ite (fun _ => fin) (fun _ => Eve.ite (fun _ => fin) (fun _ => Eve.ite (fun _ => fin) (fun h => absurd (by omega) h)))
theorem enc_tells {v : IVal} (h : Shape v) : Eve (fun k => spec_l01Encode.f k v.f0 v.f1 v.f2) (strOfNums (encB v)):=by
 have n1 : ∀ x : Int,0≤x→x≤255→dig x 1=[x]:=by
  intro x h0 h1;show [shr .i64 x (8 * ((0 : Nat) : Int)) % 256]=[x];rw [shr_zero,show x % 256=x by omega]
 simp only [spec_l01Encode.f]
 have hk : 0≤v.f0∧v.f0≤5:=by
  rcases h with ⟨h,_⟩|⟨h,_⟩|⟨h,_⟩|⟨h,_⟩ <;> omega
 have t1:=number_tells v.f0 1 (by omega);rw [n1 _ hk.1 (by omega)] at t1;refine Eve.bind t1 ?_;unfold encB;rcases h with ⟨h,_⟩|⟨h,h1,_⟩|⟨h,h1,_⟩|⟨h,_,hz⟩
 ·
  rw [if_pos h]
  simp only [h,if_true];exact Eve.one
 ·
  rw [if_neg (show ¬ v.f0=0 by omega),if_pos h]
  refine Eve.ite (fun h => absurd h (by omega)) (fun _ => Eve.ite (fun _ => ?_) (fun h2 => absurd h h2));have t2:=number_tells v.f1 1 (by omega);rw [n1 _ h1.1 (by omega)] at t2;refine Eve.bind t2 ?_;simp only [strOfNums_size,List.length_cons,List.length_nil];refine Eve.ite (fun _ => Eve.one.eq ?_) (fun h => absurd (by omega) h);rw [← str_app,h];rfl
 ·
  rw [if_neg (show ¬ v.f0=0 by omega),if_neg (show ¬ v.f0=1 by omega),if_pos h]
  refine Eve.ite (fun h => absurd h (by omega)) (fun _ => Eve.ite (fun h => absurd h (by omega)) (fun _ => Eve.ite (fun _ => ?_) (fun h2 => absurd h h2)));rw [show wrap64 (v.f1 + 4611686018427387904)=v.f1 + 4611686018427387904 from w64 (by omega) (by omega)];refine Eve.bind (number_tells _ 8 (by omega)) ?_;simp only [strOfNums_size,List.length_cons,List.length_nil,dig_length];refine Eve.ite (fun _ => Eve.one.eq ?_) (fun h => absurd (by omega) h);rw [← str_app,h];rfl
 rw [if_neg (show ¬ v.f0=0 by omega),if_neg (show ¬ v.f0=1 by omega),if_neg (show ¬ v.f0=2 by omega)];refine Eve.ite (fun h => absurd h (by omega)) (fun _ => Eve.ite (fun h => absurd h (by omega)) (fun _ => Eve.ite (fun h => absurd h (by omega)) (fun _ => ?_)));have t2:=number_tells (v.f2.size : Int) 2 (by omega)
 have e2 : dig (v.f2.size : Int) 2=[(v.f2.size : Int) / 256 % 256,(v.f2.size : Int) % 256]:=by
  show [shr .i64 (v.f2.size : Int) (8 * ((1 : Nat) : Int)) % 256,shr .i64 (v.f2.size : Int) (8 * ((0 : Nat) : Int)) % 256]=_;rw [shr_zero,shr_at _ 1 (by omega)];rfl
 rw [e2] at t2;refine Eve.bind t2 ?_;simp only [ByteArray.size_append,strOfNums_size,List.length_cons,List.length_nil];refine Eve.ite (fun _ => Eve.ite (fun _ => Eve.one.eq ?_) (fun h => absurd (by omega) h)) (fun h => absurd (by omega) h);rw [← str_app]
 conv => lhs;rw [← str_bytes v.f2]
 rw [← str_app,str_bytes];rfl
theorem head_of (v : IVal) (h : Shape v) (r : List Int) (hr : Byts r) : bt (strOfNums (encB v ++ r)) 0=v.f0:=by
 have hb:=byts_app (enc_in h) hr;have hlen:=enc_length h;have:=bt_of _ hb 0 (by simp;omega);rw [show ((0 : Nat) : Int)=0 from rfl] at this;rw [this];unfold encB;rcases h with ⟨h,_⟩|⟨h,_⟩|⟨h,_⟩|⟨h,_⟩
 ·
  simp [h]
 ·
  simp [h]
 ·
  simp [h]
 rw [List.getElem_append_left (by rw [if_neg (show ¬ v.f0=0 by omega),if_neg (show ¬ v.f0=1 by omega),if_neg (show ¬ v.f0=2 by omega)];simp)];simp only [if_neg (show ¬ v.f0=0 by omega),if_neg (show ¬ v.f0=1 by omega),if_neg (show ¬ v.f0=2 by omega),List.getElem_cons_zero]
theorem read_0 (v : IVal) (h : v.f0=0) (h1 : v.f1=0) (h2 : v.f2=eB) (r : List Int) (hb : Byts (encB v ++ r)) (h0 : bt (strOfNums (encB v ++ r)) 0=v.f0) (hs : (strOfNums (encB v ++ r)).size=(encB v).length + r.length) (hlen : 1≤(encB v).length) : nxtV (strOfNums (encB v ++ r))=some (v,strOfNums r):=by
 unfold nxtV;rw [if_neg (by omega),h0];have he : encB v=[0]:=by unfold encB;rw [if_pos h]
 rw [if_pos h,tail_of _ hb,he];simp only [List.cons_append,List.nil_append,List.drop_succ_cons,List.drop_zero];rw [show (⟨0,0,eB⟩ : IVal)=v from ival_ext h.symm h1.symm h2.symm]
theorem read_1 (v : IVal) (h : v.f0=1) (_h1 : 0≤v.f1∧v.f1≤1) (h2 : v.f2=eB) (r : List Int) (hb : Byts (encB v ++ r)) (h0 : bt (strOfNums (encB v ++ r)) 0=v.f0) (hs : (strOfNums (encB v ++ r)).size=(encB v).length + r.length) (hlen : 1≤(encB v).length) : nxtV (strOfNums (encB v ++ r))=some (v,strOfNums r):=by
 unfold nxtV;rw [if_neg (by omega),h0];have he : encB v=[1,v.f1]:=by unfold encB;rw [if_neg (show ¬ v.f0=0 by omega),if_pos h]
 have b1 : bt (strOfNums (encB v ++ r)) 1=v.f1:=by
  have:=bt_of _ hb 1 (by rw [he];simp);rw [show ((1 : Nat) : Int)=1 from rfl] at this;rw [this];simp [he]
 rw [if_neg (show ¬ v.f0=0 by omega),if_pos h,if_neg (by rw [hs,he];simp),b1,tail_of _ hb,he];simp only [List.cons_append,List.nil_append,List.drop_succ_cons,List.drop_zero];rw [show (⟨1,v.f1,eB⟩ : IVal)=v from ival_ext h.symm rfl h2.symm]
theorem read_2 (v : IVal) (h : v.f0=2) (h1 : -1000000000000≤v.f1∧v.f1≤1000000000000) (h2 : v.f2=eB) (r : List Int) (hb : Byts (encB v ++ r)) (h0 : bt (strOfNums (encB v ++ r)) 0=v.f0) (hs : (strOfNums (encB v ++ r)).size=(encB v).length + r.length) (hlen : 1≤(encB v).length) : nxtV (strOfNums (encB v ++ r))=some (v,strOfNums r):=by
 unfold nxtV;rw [if_neg (by omega),h0];obtain ⟨x,hx⟩ : ∃ x,x=v.f1 + 4611686018427387904:=⟨_,rfl⟩;have he : encB v=2 :: dig x 8:=by unfold encB;rw [if_neg (show ¬ v.f0=0 by omega),if_neg (show ¬ v.f0=1 by omega),if_pos h,← hx]
 have b1 : bt (strOfNums (encB v ++ r)) 1≤127:=by
  have:=bt_of _ hb 1 (by rw [he];simp [dig_length];omega);rw [show ((1 : Nat) : Int)=1 from rfl] at this;rw [this];have e : (encB v ++ r)[1]'(by rw [he];simp [dig_length];omega)=(dig x 8)[0]'(by rw [dig_length];omega):=by simp [he,List.getElem_append_left,dig_length]
  have e2 : (dig x 8)[0]'(by rw [dig_length];omega)=shr .i64 x (8 * ((7 : Nat) : Int)) % 256:=rfl;rw [e,e2,shr_at _ 7 (by omega),show (2 : Int) ^ (8 * 7)=72057594037927936 by decide]
  omega
 have e9 : (strOfNums (encB v ++ r)).extract 1 9=strOfNums (dig x 8):=by
  rw [ext_of _ hb,he];simp only [List.cons_append,List.drop_succ_cons,List.drop_zero];rw [List.take_append_of_le_length (by rw [dig_length];omega),List.take_of_length_le (by rw [dig_length];omega)]
 rw [if_neg (show ¬ v.f0=0 by omega),if_neg (show ¬ v.f0=1 by omega),if_pos h,if_neg (by rw [hs,he];simp [dig_length]),if_neg (by omega),e9,bytes_str _ (dig_in _ _),big_dig _ (by omega) (by omega),tail_of _ hb,he,
  w64 (show -9223372036854775808≤x - 4611686018427387904 by omega) (by omega)]
 simp only [List.cons_append,List.drop_succ_cons];rw [List.drop_left' (dig_length _ 8),show (⟨2,x - 4611686018427387904,eB⟩ : IVal)=v from ival_ext h.symm (by show x - 4611686018427387904=v.f1;omega) h2.symm]
def enc3 (v : IVal) : List Int:=v.f0 :: ((v.f2.size : Int) / 256 % 256) :: ((v.f2.size : Int) % 256) :: bytesOf v.f2
theorem enc3_is (v : IVal) (h : 3≤v.f0∧v.f0≤5) : encB v=enc3 v:=by
 unfold encB;rw [if_neg (show ¬ v.f0=0 by omega),if_neg (show ¬ v.f0=1 by omega),if_neg (show ¬ v.f0=2 by omega)];rfl
theorem enc3_len (v : IVal) : (enc3 v).length=3 + v.f2.size:=by unfold enc3;simp only [List.length_cons,bytesOf_length];omega
theorem two_big (n : Nat) (hz : n≤300) : stp (stp 0 ((n : Int) / 256 % 256)) ((n : Int) % 256)=n:=by
 rw [stp_zero _ (by omega),show 0 * 256 + (n : Int) / 256 % 256=(n : Int) / 256 by omega,stp_back _ (by omega) (by omega)]
theorem enc3_two (v : IVal) (r : List Int) : ((enc3 v ++ r).drop 1).take (3 - 1)=[(v.f2.size : Int) / 256 % 256,(v.f2.size : Int) % 256]:=by
 simp only [enc3,List.cons_append,List.drop_succ_cons,List.drop_zero,show 3 - 1=1 + 1 from rfl,List.take_succ_cons,List.take_zero]
theorem two_bytes (n : Nat) : bytesOf (strOfNums [(n : Int) / 256 % 256,(n : Int) % 256])=[(n : Int) / 256 % 256,(n : Int) % 256]:=by
 rw [bytes_str _ (by intro b hb;simp only [List.mem_cons,List.not_mem_nil,or_false] at hb;omega)]
theorem big_two (x y : Int) : bigV [x,y]=stp (stp 0 x) y:=by
 simp only [bigV,List.foldl_cons,List.foldl_nil]
theorem enc3_big (v : IVal) (hz : v.f2.size≤300) (r : List Int) (hb : Byts (enc3 v ++ r)) : bigV (bytesOf ((strOfNums (enc3 v ++ r)).extract 1 3))=(v.f2.size : Int):=by
 rw [ext_of _ hb,enc3_two,two_bytes,big_two,two_big _ hz]
theorem enc3_text (v : IVal) (r : List Int) (hb : Byts (enc3 v ++ r)) : (strOfNums (enc3 v ++ r)).extract 3 (3 + v.f2.size)=v.f2:=by
 rw [ext_of _ hb];have e : (enc3 v ++ r).drop 3=bytesOf v.f2 ++ r:=rfl;rw [e,show 3 + v.f2.size - 3=(bytesOf v.f2).length by rw [bytesOf_length];omega,List.take_left,str_bytes]
theorem enc3_rest (v : IVal) (r : List Int) (hb : Byts (enc3 v ++ r)) : (strOfNums (enc3 v ++ r)).extract (3 + v.f2.size) (strOfNums (enc3 v ++ r)).size=strOfNums r:=by
 rw [tail_of _ hb,← enc3_len v,List.drop_left]
theorem read_3 (v : IVal) (h : 3≤v.f0∧v.f0≤5) (h1 : v.f1=0) (hz : v.f2.size≤300) (r : List Int) (hb : Byts (encB v ++ r)) (h0 : bt (strOfNums (encB v ++ r)) 0=v.f0) (hs : (strOfNums (encB v ++ r)).size=(encB v).length + r.length) (_hlen : 1≤(encB v).length) : nxtV (strOfNums (encB v ++ r))=some (v,strOfNums r):=by
 rw [enc3_is v h] at *;have e3:=enc3_big v hz r hb;have e4:=enc3_text v r hb;have e5:=enc3_rest v r hb;have hn:=enc3_len v;generalize strOfNums (enc3 v ++ r)=a at *;have en : (3 + (v.f2.size : Int)).toNat=3 + v.f2.size:=by omega
 unfold nxtV;rw [if_neg (by omega),h0];rw [if_neg (show ¬ v.f0=0 by omega),if_neg (show ¬ v.f0=1 by omega),if_neg (show ¬ v.f0=2 by omega),if_pos (by omega),e3,en,e4,e5,if_neg (by omega),if_neg (by omega)];rw [show (⟨v.f0,0,v.f2⟩ : IVal)=v from ival_ext rfl h1.symm rfl]
theorem read_back (v : IVal) (h : Shape v) (r : List Int) (hr : Byts r) : nxtV (strOfNums (encB v ++ r))=some (v,strOfNums r):=by
 have hb:=byts_app (enc_in h) hr;have hlen:=enc_length h;have h0:=head_of v h r hr;have hs : (strOfNums (encB v ++ r)).size=(encB v).length + r.length:=by rw [strOfNums_size,List.length_append]
 rcases h with ⟨h,h1,h2⟩|⟨h,h1,h2⟩|⟨h,h1,h2⟩|⟨h,h1,hz⟩
 ·
  exact read_0 v h h1 h2 r hb h0 hs hlen.1
 ·
  exact read_1 v h h1 h2 r hb h0 hs hlen.1
 ·
  exact read_2 v h h1 h2 r hb h0 hs hlen.1
 exact read_3 v h h1 hz r hb h0 hs hlen.1
def encL (l : List IVal) : List Int:=l.flatMap encB
theorem encL_cons (v : IVal) (l : List IVal) : encL (v :: l)=encB v ++ encL l:=List.flatMap_cons ..
theorem app_none (s : ByteArray) : s ++ eB=s:=ba_ext (by rw [ba_toList,ba_toList,ByteArray.data_append];simp)
theorem none_app (s : ByteArray) : eB ++ s=s:=ba_ext (by rw [ba_toList,ba_toList,ByteArray.data_append];simp)
theorem encL_in {l : List IVal} (h : ∀ v ∈ l,Shape v) : Byts (encL l):=by
 intro b hb;obtain ⟨v,hv,hb⟩:=List.mem_flatMap.1 hb;exact enc_in (h v hv) b hb
theorem list_back : ∀ (l : List IVal) (m : Nat),(∀ v ∈ l,Shape v)→(encL l).length≤m→itS m (strOfNums (encL l))=some l
 | [],m,_,_ => by
  have hs : (strOfNums (encL [])).size=0:=by rw [strOfNums_size];rfl
  cases m <;> · unfold itS;rw [if_pos hs]
 | v :: l,m,h,hm => by
  have e:=encL_cons v l;have hv:=h v (by simp);have hl:=enc_length hv;have hr : ∀ w ∈ l,Shape w:=fun w hw => h w (by simp [hw]);rw [e,List.length_append] at hm;rw [e];obtain ⟨m,rfl⟩ : ∃ q,m=q + 1:=⟨m - 1,by omega⟩;unfold itS;rw [if_neg (by rw [strOfNums_size,List.length_append];omega),read_back v hv _ (encL_in hr)];simp only [list_back l m hr (by omega),Option.map_some]
theorem are_list (l : List IVal) (hl : l.length≤1048576) (hs : ∀ x ∈ l,x.f2.size≤1048576) : Eve (fun k => impl_areRight.f k l) (l.all (rightV 5)):=by
 simp only [impl_areRight.f,impl_Value_at_areRight_1.f,impl_Value_at_areRight_1_200003.f]
 have hf : Eve (fun k => impl_Value_at_areRight_1_200003.l0 k l (l.length : Int) 0) (first (fun x => !rightV 5 x) l 0):=by
  refine ev_loop0 l (fun k (_ : Unit) i => impl_Value_at_areRight_1_200003.l0 k l (l.length : Int) i) (fun i _ r => first (fun x => !rightV 5 x) r i) (fun _ _ => True) (fun _ _ => ?_) (fun i hi _ _ ih => ?_) () trivial
  ·
   simp only [impl_Value_at_areRight_1_200003.l0]
   exact Eve.ite (fun h => absurd h (by omega)) (fun _ => Eve.one)
  simp only [impl_Value_at_areRight_1_200003.l0,impl_areRight_1.f,rdV l i hi,wi (show i≤9223372036854775806 by omega)];refine Eve.ite (fun _ => ?_) (fun h => absurd (by omega) h);refine Eve.ite (fun _ => ?_) (fun h => absurd (by omega) h);refine Eve.ite (fun _ => ?_) (fun h => absurd (by omega) h);refine Eve.bind (v:=!rightV 5 l[i]) (Eve.bind (ok_impl l[i] (hs _ (List.getElem_mem hi))) Eve.one) ?_;refine Eve.ite (fun h => Eve.one.eq ?_) (fun h => (ih () trivial).eq ?_)
  ·
   simp [first,h]
  simp [first,h]
 refine Eve.bind (v:=l.any (fun x => !rightV 5 x)) (Eve.bind hf (Eve.one.eq (first_any _ l 0))) ?_;rw [← any_not];exact Eve.one
end Go.Proofs.Ytpmeglcmhiihoaa.Pure
end
section
namespace Go.Proofs.Ytpmeglcmhiihoaa.Pure
open Go.RowKit Go.Proofs.Ytpmeglcmhiihoaa.Q Go.Proofs.YtpmeglcmhiihoaaW.PrintWords Go.Proofs.YtpmeglcmhiihoaaW.PrintLast Go.Proofs.YtpmeglcmhiihoaaW.Pl
def ve (a b : IVal) : Bool:=a.f0 == b.f0 && (a.f1 == b.f1 && a.f2.toList == b.f2.toList)
theorem ve_iff (a b : IVal) : ve a b=true↔a=b:=by
 unfold ve
 constructor
 ·
  intro h
  simp only [Bool.and_eq_true,beq_iff_eq] at h;exact ival_ext h.1 h.2.1 (ba_ext h.2.2)
 rintro rfl;simp
theorem eqValue_tells (a b : IVal) : laws_eqValue.f a.f0 a.f1 a.f2 b.f0 b.f1 b.f2=some (ve a b):=by
 unfold laws_eqValue.f ve
 by_cases h0 : a.f0=b.f0
 ·
  rw [if_pos h0]
  by_cases h1 : a.f1=b.f1
  ·
   rw [if_pos h1]
   by_cases h2 : a.f2.toList=b.f2.toList
   ·
    rw [if_pos h2];simp [h0,h1,h2]
   rw [if_neg h2];simp [h2]
  rw [if_neg h1];simp [h1]
 rw [if_neg h0];simp [h0]
theorem rdL_at (l : List LVal) (i : Nat) (h : i<l.length) : rd_T23 l (i : Int)=l[i]:=getD_at _ l i h
theorem rdI_at (l : List IVal) (i : Nat) (h : i<l.length) : rd_T26 l (i : Int)=l[i]:=getD_at _ l i h
theorem szValueS_tells (l : List LVal) (hl : l.length≤9223372036854775807) (hs : ∀ x ∈ l,x.f2.size≤9223372036854775807) {left : Int} (h0 : 0≤left) (h1 : left≤1048576) {k : Nat} (hk : l.length<k) :
  laws_szValueS.f k l left=some (if left - l.length<0 then -1 else less (fun v => v.f2.size) l (left - l.length)):=by
 unfold laws_szValueS.f;rw [w64 (by omega) (by omega)]
 by_cases h : left - l.length<0
 ·
  rw [if_pos h,if_pos h]
 rw [if_neg h,if_neg h]
 have:=less_loop (fun k l' i => laws_szValueS.l0 k l l' i) l (fun v => v.f2.size) (fun k i l' hi a b => by
  have hsz:=hs l[i] (List.getElem_mem hi);simp only [laws_szValueS.l0];rw [if_pos (by omega),if_pos (by omega),rdL_at _ _ hi,szValue_tells _ hsz a b,w64 (i:=(i : Int) + 1) (by omega) (by omega)];simp only [Option.bind_some]
  by_cases h2 : l' - (l[i].f2.size : Int)<0
  ·
   rw [if_pos h2,if_pos h2,if_pos (by omega)]
  rw [if_neg h2,if_neg h2,if_neg h2];rfl) (fun k l' => by simp only [laws_szValueS.l0];rw [if_neg (by omega)]) l.length k 0 (left - l.length) (by omega) hk (by omega) (by omega)
 simpa using this
theorem toValueS_tells (l : List LVal) (hl : l.length≤1048576) {k : Nat} (hk : l.length<k) : laws_toValueS.f k l=some (l.map iv):=by
 unfold laws_toValueS.f;rw [if_pos (by omega),if_pos (by omega)]
 have:=map_loop0 (fun k ys i => laws_toValueS.l0 k l ys i) l iv (fun k ys i hi hy => by
  simp only [laws_toValueS.l0];rw [if_pos (by omega),if_pos (by omega),rdL_at _ _ hi,toValue_tells];simp only [Option.bind_some];rw [if_pos (by omega),w64 (by omega) (by omega)]
  rfl) (fun k ys hy => by simp only [laws_toValueS.l0];rw [if_neg (by omega)]) hk z26
 simpa using this
theorem eqValueS_tells (a b : List IVal) (hl : a.length≤1048576) {k : Nat} (hk : a.length<k) : laws_eqValueS.f k a b=some (decide (a.length=b.length) && all2 ve a b):=by
 unfold laws_eqValueS.f
 by_cases h : a.length=b.length
 ·
  rw [if_pos (by omega)]
  have:=all2_loop (fun k i => laws_eqValueS.l0 k a b i) a b h ve (fun k i hi => by
   simp only [laws_eqValueS.l0];rw [if_pos (by omega),if_pos (by omega),if_pos (by omega),rdI_at _ _ hi,rdI_at _ _ (by omega),eqValue_tells,w64 (by omega) (by omega)]
   rfl) (fun k => by simp only [laws_eqValueS.l0];rw [if_neg (by omega)]) a.length k 0 (by omega) hk
  rw [show ((0 : Nat) : Int)=0 from rfl,List.drop_zero,List.drop_zero] at this;rw [this];simp [h]
 rw [if_neg (by omega)];simp [h]
theorem eqValueS_self (a : List IVal) (hl : a.length≤1048576) {k : Nat} (hk : a.length<k) : laws_eqValueS.f k a a=some true:=by
 rw [eqValueS_tells a a hl hk,all2_refl ve (fun x => (ve_iff x x).mpr rfl)];simp
end Go.Proofs.Ytpmeglcmhiihoaa.Pure
end
section
namespace Go.Proofs.Ytpmeglcmhiihoaa.Pure
open Go Go.RowKit Go.Proofs.Ytpmeglcmhiihoaa.Q Go.Proofs.YtpmeglcmhiihoaaW.PrintWords Go.Proofs.YtpmeglcmhiihoaaW.PrintLast Go.Proofs.YtpmeglcmhiihoaaW.PrintMore Go.Proofs.YtpmeglcmhiihoaaW.Pl
theorem fold_le (d : Int) : ∀ (l : List Int) (x : Int),l.foldl mx x≤d↔x≤d ∧ ∀ y ∈ l,y≤d
 | [],x => by simp
 | y :: l,x => by
  rw [List.foldl_cons,fold_le d l];have : mx x y≤d↔x≤d∧y≤d:=by unfold mx;split <;> omega
  rw [this];simp only [List.mem_cons,forall_eq_or_imp,and_assoc]
theorem flat_four {v : IVal} (h4 : v.f0=4∨v.f0=5) : flat v=false:=by
 unfold flat;rw [if_neg (by omega),if_neg (by omega),if_neg (by omega),if_neg (by omega)]
theorem right_dep : ∀ (d : Nat) (v : IVal),rightV (d + 1) v=true→(rightV d v=true↔depV (d + 1) v≤d):=by
 intro d
 induction d with
 | zero =>
  intro v h
  by_cases h4 : v.f0=4
  ·
   obtain ⟨e,l,_,hi,_⟩:=right_four h h4
   unfold depV;rw [if_pos h4,hi];have hf : rightV 0 v=false:=flat_four (.inl h4)
   have:=(fold_in 0 (l.map (depV 0)) 0 (by omega) (fun y hy => by
    obtain ⟨x,_,rfl⟩:=List.mem_map.1 hy
    simp [depV])).1
   rw [hf];simp only [Bool.false_eq_true,false_iff];omega
  by_cases h5 : v.f0=5
  ·
   obtain ⟨e,l,_,hi,_,_⟩:=right_five h h5
   unfold depV;rw [if_neg h4,if_pos h5,hi];have hf : rightV 0 v=false:=flat_four (.inr h5)
   have:=(fold_in 0 (l.map (fun f => depV 0 f.f1)) 0 (by omega) (fun y hy => by
    obtain ⟨x,_,rfl⟩:=List.mem_map.1 hy
    simp [depV])).1
   rw [hf];simp only [Bool.false_eq_true,false_iff];omega
  unfold depV;rw [if_neg h4,if_neg h5];unfold rightV at h;rw [if_neg h4,if_neg h5] at h;exact ⟨fun _ => by omega,fun _ => h⟩
 | succ d ih =>
  intro v h
  by_cases h4 : v.f0=4
  ·
   obtain ⟨e,l,he,hi,hr⟩:=right_four h h4
   obtain rfl : d + 1=e:=by omega
   have hk : depV (d + 1 + 1) v≤((d + 1 : Nat) : Int) ↔ ∀ x ∈ l,depV (d + 1) x≤d:=by
    have e2 : depV (d + 1 + 1) v=(l.map (depV (d + 1))).foldl mx 0 + 1:=by
     conv => lhs;unfold depV
     rw [if_pos h4,hi]
    rw [e2];have:=fold_le d (l.map (depV (d + 1))) 0
    constructor
    ·
     intro hle x hx
     exact (this.1 (by omega)).2 _ (List.mem_map_of_mem hx)
    intro hall
    have:=this.2 ⟨by omega,fun y hy => by
     obtain ⟨x,hx,rfl⟩:=List.mem_map.1 hy
     exact hall x hx⟩
    omega
   rw [hk];unfold rightV at h ⊢;rw [if_pos h4,hi] at h;rw [if_pos h4,hi];simp only [Bool.and_eq_true] at h ⊢;refine ⟨fun hx x hm => (ih x (List.all_eq_true.1 hr x hm)).1 (List.all_eq_true.1 hx.2.2 x hm),fun hx => ⟨h.1,h.2.1,List.all_eq_true.2 (fun x hm => (ih x (List.all_eq_true.1 hr x hm)).2 (hx x hm))⟩⟩
  by_cases h5 : v.f0=5
  ·
   obtain ⟨e,l,he,hi,_,hr⟩:=right_five h h5
   obtain rfl : d + 1=e:=by omega
   have hk : depV (d + 1 + 1) v≤((d + 1 : Nat) : Int) ↔ ∀ x ∈ l,depV (d + 1) x.f1≤d:=by
    have e2 : depV (d + 1 + 1) v=(l.map (fun f => depV (d + 1) f.f1)).foldl mx 0 + 1:=by
     conv => lhs;unfold depV
     rw [if_neg h4,if_pos h5,hi]
    rw [e2];have:=fold_le d (l.map (fun f => depV (d + 1) f.f1)) 0
    constructor
    ·
     intro hle x hx
     exact (this.1 (by omega)).2 _ (List.mem_map_of_mem (f:=fun f => depV (d + 1) f.f1) hx)
    intro hall
    have:=this.2 ⟨by omega,fun y hy => by
     obtain ⟨x,hx,rfl⟩:=List.mem_map.1 hy
     exact hall x hx⟩
    omega
   rw [hk];unfold rightV at h ⊢;rw [if_neg h4,if_pos h5,hi] at h;rw [if_neg h4,if_pos h5,hi];simp only [Bool.and_eq_true] at h ⊢;refine ⟨fun hx x hm => (ih x.f1 (List.all_eq_true.1 hr x hm)).1 (List.all_eq_true.1 hx.2.2.2 x hm),fun hx => ⟨h.1,h.2.1,h.2.2.1,List.all_eq_true.2 (fun x hm => (ih x.f1 (List.all_eq_true.1 hr x hm)).2 (hx x hm))⟩⟩
  have e2 : depV (d + 1 + 1) v=0:=by unfold depV;rw [if_neg h4,if_neg h5]
  rw [e2];unfold rightV at h ⊢;rw [if_neg h4,if_neg h5] at h;rw [if_neg h4,if_neg h5];exact ⟨fun _ => by omega,fun _ => h⟩
def listV (l : List IVal) : IVal:=⟨4,0,strOfNums (encL l)⟩
abbrev Ans:=Int×Int×ByteArray×Int
def fitV (l : List IVal) : Ans:=if ((strOfNums (encL l)).size : Int) > 300 then (0,0,eB,10) else if rightV 5 (listV l)=true then (4,0,strOfNums (encL l),0) else (0,0,eB,9)
def ansL (l : List IVal) : Ans :=
 if (l.length : Int) > 4096 then (0,0,eB,2) else if (l.length : Int) > 300 then (0,0,eB,10)
 else if l.all (rightV 5)=true then
  fitV l
 else (0,0,eB,1)
theorem spec_list (l : List IVal) (hl : l.length≤300) (h : ∀ v ∈ l,Shape v) : Eve (fun k => spec_l01List.f k l) (4,0,strOfNums (encL l)):=by
 simp only [spec_l01List.f];refine (ev_loop0 l (fun k (s : ByteArray) i => spec_l01List.l0 k l s i) (fun _ s r => ((4 : Int),(0 : Int),s ++ strOfNums (encL r))) (fun i s => s.size≤303 * i) (fun s hs => ?_) (fun i hi s hs ih => ?_) eB (by show (0 : Nat)≤_;omega)).eq ?_
 ·
  simp only [spec_l01List.l0]
  refine Eve.ite (fun h => absurd h (by omega)) (fun _ => Eve.one.eq ?_);have : strOfNums (encL [])=eB:=rfl;rw [this,app_none]
 ·
  have hv:=h _ (List.getElem_mem hi)
  have hlen:=enc_length hv;simp only [spec_l01List.l0,rdV l i hi,wi (show i≤9223372036854775806 by omega)];refine Eve.ite (fun _ => ?_) (fun h => absurd (by omega) h);refine Eve.ite (fun _ => ?_) (fun h => absurd (by omega) h);refine Eve.bind (enc_tells hv) ?_;refine Eve.ite (fun _ => ?_) (fun h => absurd (by rw [strOfNums_size];omega) h);refine (ih (s ++ strOfNums (encB l[i])) (by rw [ByteArray.size_append,strOfNums_size];omega)).eq ?_;rw [encL_cons,str_app,ByteArray.append_assoc]
 rw [none_app]
theorem impl_list (l : List IVal) (hl : l.length≤300) (h : ∀ v ∈ l,Shape v) : Eve (fun k => impl_listOf.f k l) (4,0,strOfNums (encL l)):=by
 simp only [impl_listOf.f];refine (ev_loop0 l (fun k (s : List Int) i => impl_listOf.l0 k s l (l.length : Int) i) (fun _ s r => ((4 : Int),(0 : Int),strOfNums (s ++ encL r))) (fun i s => s.length≤303 * i) (fun s hs => ?_) (fun i hi s hs ih => ?_) [] (by simp)).eq (by simp)
 ·
  simp only [impl_listOf.l0]
  exact Eve.ite (fun h => absurd h (by omega)) (fun _ => Eve.one.eq (by simp [encL]))
 have hv:=h _ (List.getElem_mem hi);have hlen:=enc_length hv;simp only [impl_listOf.l0,rdV l i hi,wi (show i≤9223372036854775806 by omega)];refine Eve.ite (fun _ => ?_) (fun h => absurd (by omega) h);refine Eve.ite (fun _ => ?_) (fun h => absurd (by omega) h);refine Eve.ite (fun _ => ?_) (fun h => absurd (by omega) h);refine Eve.bind (put_tells s hv (by omega)) ?_;refine (ih (s ++ encB l[i]) (by rw [List.length_append];omega)).eq ?_;rw [encL_cons,List.append_assoc]
theorem list_spec (l : List IVal) (hs : ∀ x ∈ l,x.f2.size≤1048576) : Eve (fun k => spec_ListOf.f k l) (ansL l):=by
 simp only [spec_ListOf.f];unfold ansL;refine Eve.ite (fun h => Eve.one.eq (by rw [if_pos h])) (fun h => ?_);rw [if_neg h];refine Eve.ite (fun h => Eve.one.eq (by rw [if_pos h])) (fun h => ?_);rw [if_neg h];have key : l.all (rightV 5)=true→Eve (fun k => (spec_l01List.f k l).bind fun bt731 => ((spec_l01Fit.f k bt731.1 bt731.2.1 bt731.2.2).bind fun bt734 => (some (bt734.1,bt734.2.1,bt734.2.2.1,bt734.2.2.2))))
   (fitV l):=by
  intro ha;refine Eve.bind (spec_list l (by omega) (fun v hv => right_shape 5 v (List.all_eq_true.1 ha v hv))) ?_;refine Eve.bind (v:=fitV l) ?_ Eve.one;simp only [spec_l01Fit.f];unfold fitV;refine Eve.ite (fun h => Eve.one.eq (by rw [if_pos h])) (fun h => ?_);rw [if_neg h];refine Eve.bind (ok_spec (listV l) (by show (strOfNums (encL l)).size≤_;omega)) ?_;exact Eve.ite (fun h => Eve.one.eq (by rw [if_pos h])) (fun h => Eve.one.eq (by rw [if_neg h]))
 have:=ev_loop0 l (fun k (_ : Unit) i => spec_ListOf.l0 k l i) (fun _ _ r => if r.all (rightV 5)=true then (if l.all (rightV 5)=true then
   fitV l else ((0,0,eB,1) : Ans)) else ((0,0,eB,1) : Ans)) (fun i _ => ∀ j (hj : j<l.length),j<i→rightV 5 l[j]=true) (fun _ hI => ?_) (fun i hi _ hI ih => ?_) () (fun j hj h => absurd h (by omega))
 ·
  refine this.eq ?_
  by_cases ha : l.all (rightV 5)=true
  ·
   rw [if_pos ha,if_pos ha]
  rw [if_neg ha,if_neg ha]
 ·
  have ha : l.all (rightV 5)=true:=List.all_eq_true.2 (fun x hx => by
   obtain ⟨j,hj,rfl⟩:=List.getElem_of_mem hx
   exact hI j hj hj)
  simp only [spec_ListOf.l0];refine Eve.ite (fun h => absurd h (by omega)) (fun _ => (key ha).eq ?_);rw [if_pos (show List.all [] (rightV 5)=true from rfl),if_pos ha]
 have hx:=hs _ (List.getElem_mem hi);simp only [spec_ListOf.l0,rdV l i hi,wi (show i≤9223372036854775806 by omega)];refine Eve.ite (fun _ => ?_) (fun h => absurd (by omega) h);refine Eve.ite (fun _ => ?_) (fun h => absurd (by omega) h);refine Eve.bind (ok_spec l[i] hx) ?_;refine Eve.ite (fun h => (ih () (fun j hj hlt => ?_)).eq ?_) (fun h => Eve.one.eq ?_)
 ·
  by_cases e : j=i
  ·
   subst e;exact h
  exact hI j hj (by omega)
 ·
  rw [List.all_cons,h,Bool.true_and]
 rw [List.all_cons,Bool.eq_false_iff.2 h,Bool.false_and,if_neg (by decide)]
theorem list_impl (l : List IVal) (hs : ∀ x ∈ l,x.f2.size≤1048576) : Eve (fun k => impl_ListOf.f k l) (ansL l):=by
 simp only [impl_ListOf.f];unfold ansL;refine Eve.ite (fun h => Eve.one.eq (by rw [if_pos h])) (fun h => ?_);rw [if_neg h];refine Eve.ite (fun h => Eve.one.eq (by rw [if_pos h])) (fun h => ?_);rw [if_neg h];refine Eve.bind (are_list l (by omega) hs) ?_;refine Eve.ite (fun ha => ?_) (fun ha => Eve.one.eq (by rw [if_neg ha]));rw [if_pos ha];have hsh : ∀ v ∈ l,Shape v:=fun v hv => right_shape 5 v (List.all_eq_true.1 ha v hv);refine Eve.bind (impl_list l (by omega) hsh) ?_;refine Eve.bind (v:=fitV l) ?_ Eve.one;simp only [impl_bounded.f];unfold fitV;refine Eve.ite (fun h => Eve.one.eq (by rw [if_pos h])) (fun hz => ?_);rw [if_neg hz];have hsz : (listV l).f2.size≤300:=by show (strOfNums (encL l)).size≤_;omega
 have hi : itS (listV l).f2.size (listV l).f2=some l:=list_back l _ hsh (by show _≤(strOfNums (encL l)).size;rw [strOfNums_size];exact Nat.le_refl _)
 have h6 : rightV 6 (listV l)=true:=by
  show (if (listV l).f0=4 then _ else _)=true;rw [if_pos (show (listV l).f0=4 from rfl),hi];have hd : decide (((listV l).f2.size : Int)≤300)=true:=by simp;omega
  have hz : decide ((listV l).f1=0)=true:=rfl;simp only [hd,hz,ha,Bool.and_self]
 have hd:=dep_impl 6 (listV l) (by omega) (by omega) h6;have hk : rightV 5 (listV l)=true↔depV 6 (listV l)≤((5 : Nat) : Int):=right_dep 5 (listV l) h6;refine Eve.bind hd ?_;refine Eve.ite (fun h => Eve.one.eq ?_) (fun h => Eve.one.eq ?_)
 ·
  rw [if_neg (fun hr => by have:=hk.1 hr;omega)]
 rw [if_pos (hk.2 (by omega))]
theorem ansL_eq (l : List IVal) : laws_eqValue.f (ansL l).1 (ansL l).2.1 (ansL l).2.2.1 (ansL l).1 (ansL l).2.1 (ansL l).2.2.1=some true:=by
 have:=eqValue_tells (⟨(ansL l).1,(ansL l).2.1,(ansL l).2.2.1⟩ : IVal) ⟨(ansL l).1,(ansL l).2.1,(ansL l).2.2.1⟩;rw [(ve_iff _ _).2 rfl] at this;exact this
theorem FnExactListOf : laws_FnExactListOf.Pure:=by
 rintro l ⟨hl,hg⟩;refine Eve.get (g:=fun k => laws_FnExactListOf.f k l) ?_;simp only [laws_FnExactListOf.f];have hsz:=fun (k : Nat) (hk : l.length<k) => szValueS_tells l hl (fun x hx => (hg x hx).2.2) (left:=1048576) (by omega) (by omega) hk;refine Eve.bind (Eve.of hsz) ?_
 by_cases h : (1048576 : Int) - l.length<0
 ·
  rw [if_pos h];exact Eve.ite (fun _ => Eve.one) (fun h => absurd (by omega) h)
 rw [if_neg h,less_is _ _ _ (by omega)]
 by_cases h2 : (1048576 : Int) - l.length<total (fun v : LVal => v.f2.size) l
 ·
  rw [if_pos h2];exact Eve.ite (fun _ => Eve.one) (fun h => absurd (by omega) h)
 rw [if_neg h2];refine Eve.ite (fun h => absurd h (by omega)) (fun _ => ?_);have hto:=Eve.of (n:=l.length) (fun k (hk : l.length<k) => toValueS_tells l (by omega) hk)
 have hs : ∀ x ∈ l.map iv,x.f2.size≤1048576:=fun x hx => by
  obtain ⟨y,hy,rfl⟩:=List.mem_map.1 hx;have:=total_le (fun v : LVal => v.f2.size) l y hy;show y.f2.size≤_
  omega
 refine Eve.bind hto ?_;refine Eve.bind (list_spec (l.map iv) hs) ?_;refine Eve.bind hto ?_;refine Eve.bind (list_impl (l.map iv) hs) ?_;simp only [ansL_eq,Option.bind_some,if_true,bne_self_eq_false];refine Eve.succ ?_;simp only [laws_FnExactListOf.j0,Bool.false_eq_true,if_false];refine Eve.bind hto ?_;refine Eve.bind (Eve.of (n:=(l.map iv).length) (fun k hk => eqValueS_self (l.map iv) (by simp;omega) hk)) ?_;simp only [if_true];exact Eve.one
end Go.Proofs.Ytpmeglcmhiihoaa.Pure
end
section
namespace Go.Proofs.Ytpmeglcmhiihoaa.fnExactListOf
open Go.ChangeShapes Go.WideShapes Go.ChangeAt Go.RowKit Go.Proofs.YtpmeglcmhiihoaaW.PrintWords Go.Proofs.YtpmeglcmhiihoaaW.PrintOpen Go.Proofs.Ytpmeglcmhiihoaa.Q
open Go.ChangeMaps (open_string shut_string)
set_option linter.unusedVariables false
theorem own : ownKnob Try.prog.godebug=none:=by kernel_rfl
theorem laidOut : laidOutB Try.prog=true:=by kernel_rfl
set_option maxRecDepth 100000 in
theorem lifted (os : Os) (started : os.Started) (H : Type) (enc : TypeId×Value→H) :
  ReturnsInHanded {} Try.checked os 10 .any (Rows.fnExactListOfSpec.pre6 enc Try.prog Try.f10 Rows.fnExactListOfRow.domain false) (Rows.fnExactListOfSpec.post enc Try.prog Try.f10 false true false false):=by
 refine returnsInHanded_of_change_sized (C:=Try.checked) own started (by kernel_rfl) Try.func10
  (ChangeSpec.witness6 (enc:=enc) (C:=Try.checked) false ⟨#[],#[.slice none 0 0],[]⟩ 8 (by kernel_rfl) (by kernel_rfl) (by kernel_rfl) (by kernel_rfl)) ?_
 intro W base args ds gs before hval0 hW hcnd hsz0 _
 have hval : ∀ (j : Nat) t v,Try.f10.params[j]? = some t→args[j]? = some v→Value.okWide Try.prog W .any base t v:=hval0
 have hW':=hW
 obtain ⟨p,q,hA0,hV,rfl,hfz,hnd⟩:=hW
 have hA : DataW.TrodAll enc Try.prog W 0 (fun _ => true) true Try.f10.params.toList args.toList ds p:=hA0
 rw [Try.params10] at hA hval
 obtain ⟨v0,vs0,d0,ds0,p0,q0,hargs,rfl,rfl,h0,r0⟩:=trodAll_cons hA
 obtain ⟨rfl,rfl,rfl⟩:=trodAll_nil r0
 obtain rfl : args = #[v0]:=by cases args;simp_all
 obtain ⟨rfl,rfl⟩:=trodVars_none hV
 have t0:=h0
 have lt0 : ∀ x ∈ p0,x.block<W.heap.size:=by obtain ⟨m,hm⟩:=t0;exact DataW.trod_lt m _ _ _ hm
 obtain ⟨x0,A0,c0,rfl,hl0,hc0,g0⟩:=arg_slice Try.underlying53 (opens_slice Try.underlying53 (by kernel_rfl) opens23) (hval 0 53 v0 rfl rfl) h0
 clear hA0 hval0 hsz0
 obtain ⟨k,hp⟩:=Pure.FnExactListOf x0 g0
 refine (laws_FnExactListOf.calls k A0 c0 x0 true W hc0 hl0 hp).mono fun e W' ⟨he,bel0⟩ => ?_
 have bel : Below W.heap.size W W':=bel0
 subst he
 exact ⟨_,rfl,_,_,_,[],_,[],hW',trodAll_mk1 (shut_bool Try.underlying4 _),(trodAll_cons_mk (Below.trod laidOut (by kernel_rfl) (of_decide_eq_true (by kernel_rfl)) t0 bel lt0) trodAll_mk0),rfl,bel.frame _,fun h => by cases h⟩
theorem over : Rows.fnExactListOfRow.holds Try.pinned (OpenSpec.ofChange Rows.fnExactListOfSpec) :=
 OpenClaim.holds_of_wide 10 Try.f10 rfl rfl rfl rfl rfl rfl rfl ⟨rfl,rfl,rfl,rfl,rfl⟩ rfl rfl rfl rfl rfl (by kernel_rfl) Try.func10 (by kernel_rfl)
  (of_decide_eq_true (by kernel_rfl)) (by unfold Func.isWrapper;first|(rw [if_pos (by decide +kernel)];kernel_rfl)|(rw [if_neg (by decide +kernel)];exact ⟨rfl,rfl⟩))
  (fun os started H enc _ => lifted os started H enc)
theorem proved : Rows.FnExactListOfSaid:=over
#print axioms proved
end Go.Proofs.Ytpmeglcmhiihoaa.fnExactListOf
namespace Go.Proofs.Ytpmeglcmhiihoaa
theorem fnExactListOf_holds : Rows.FnExactListOfSaid:=fnExactListOf.proved
end Go.Proofs.Ytpmeglcmhiihoaa
end

/- Texts of this claim, merged by a program of this session. -/
import Derived.Test.YtceggklknggfdaaGreatKLawFnExactNewWorldp23
section
namespace Go.Proofs.YtceggklknggfdaaGreat.Q
open Go.RowKit Go.Proofs.YtceggklknggfdaaGreatW.PrintWords Go.Proofs.YtceggklknggfdaaGreatW.PrintLast Go.Proofs.YtceggklknggfdaaGreatW.PrintMore
attribute [local go_sem] max2_int min2_int max_two min_two max_three min_three max_four min_four max2_str min2_str str_geq str_gtr str_leq
set_option linter.unusedVariables false
set_option linter.unusedSimpArgs false

def F7.f (k : Nat) (a0_0 : Int) (a0_1 : Int) (l0_2 : List (S104)) (l0_3 : List (S109)) (a0_4 : Bool) (a0_5 : Bool) (a1_0 : Int) (a1_1 : Int) (l1_2 : List (S104)) (l1_3 : List (S109)) (a1_4 : Bool) (a1_5 : Bool) : Option (Bool):=if a0_0=a1_0 then (if a0_1=a1_1 then ((Fn.f k l0_2 l1_2).bind fun t498 => (if t498=true then ((Fj.f k l0_3 l1_3).bind fun t499 => (if t499=true then (if (a0_4 != a1_4)=true then (some false) else (if (a0_5 != a1_5)=true then (some false) else (some true))) else (some false))) else (some false))) else (some false)) else (some false)
theorem F7.mono : ∀ a0 a1 a2 a3 a4 a5 a6 a7 a8 a9 a10 a11 k,LeO (F7.f k a0 a1 a2 a3 a4 a5 a6 a7 a8 a9 a10 a11) (F7.f (k + 1) a0 a1 a2 a3 a4 a5 a6 a7 a8 a9 a10 a11):=by
 intro a0 a1 a2 a3 a4 a5 a6 a7 a8 a9 a10 a11 k;unfold F7.f
 repeat' first|(with_reducible first|exact Fn.mono _ _ _|exact Fj.mono _ _ _|exact zQ _|exact zN _|refine zP ?_ ?_|refine zO ?_ (fun _ => ?_))|refine zP ?_ ?_|refine zO ?_ (fun _ => ?_)
set_option maxHeartbeats 8000000 in
set_option maxRecDepth 100000 in
theorem F7.calls (k : Nat) (a0_0 : Int) (a0_1 : Int) (A0_2 : Option Addr) (c0_2 : Nat) (l0_2 : List (S104)) (A0_3 : Option Addr) (c0_3 : Nat) (l0_3 : List (S109)) (a0_4 : Bool) (a0_5 : Bool) (a1_0 : Int) (a1_1 : Int) (A1_2 : Option Addr) (c1_2 : Nat) (l1_2 : List (S104)) (A1_3 : Option Addr) (c1_3 : Nat) (l1_3 : List (S109)) (a1_4 : Bool) (a1_5 : Bool) (r : Bool) (w : World) (hr0_2 : Kd.C k104 w A0_2 l0_2.length l0_2) (hc0_2 : l0_2.length≤c0_2) (hr0_3 : Kd.C k109 w A0_3 l0_3.length l0_3) (hc0_3 : l0_3.length≤c0_3) (hr1_2 : Kd.C k104 w A1_2 l1_2.length l1_2) (hc1_2 : l1_2.length≤c1_2) (hr1_3 : Kd.C k109 w A1_3 l1_3.length l1_3) (hc1_3 : l1_3.length≤c1_3) (h : F7.f k a0_0 a0_1 l0_2 l0_3 a0_4 a0_5 a1_0 a1_1 l1_2 l1_3 a1_4 a1_5=some r) :
  Calls Tryz.prog 48 #[.agg #[.int .i64 a0_0,.int .i64 a0_1,.slice A0_2 l0_2.length c0_2,.slice A0_3 l0_3.length c0_3,.bool a0_4,.bool a0_5],.agg #[.int .i64 a1_0,.int .i64 a1_1,.slice A1_2 l1_2.length c1_2,.slice A1_3 l1_3.length c1_3,.bool a1_4,.bool a1_5]] w fun e w' => e = .returned (.bool r)∧Below w.heap.size w w':=by
 have hu41:=Tryz.underlying41;have HR0_2:=zh hr0_2;have HC0_2:=zh hc0_2;clear hr0_2 hc0_2;have HR0_3:=zh hr0_3;have HC0_3:=zh hc0_3;clear hr0_3 hc0_3;have HR1_2:=zh hr1_2;have HC1_2:=zh hc1_2;clear hr1_2 hc1_2;have HR1_3:=zh hr1_3;have HC1_3:=zh hc1_3;clear hr1_3 hc1_3;have HB:=zh (Below.refl w.heap.size w);have H : (if a0_0=a1_0 then (if a0_1=a1_1 then ((Fn.f k l0_2 l1_2).bind fun t498 => (if t498=true then ((Fj.f k l0_3 l1_3).bind fun t499 => (if t499=true then (if (a0_4 != a1_4)=true then (some false) else (if (a0_5 != a1_5)=true then (some false) else (some true))) else (some false))) else (some false))) else (some false)) else (some false))=some r:=h;clear h
 by_cases c3 : a0_0=a1_0
 ·
  rw [if_pos c3] at H
  have c3b0 : (a0_0 == a1_0)=true:=ya.mpr c3;have c3b1 : (a0_0 != a1_0)=false:=zX.mpr c3;clear c3
  by_cases c4 : a0_1=a1_1
  ·
   rw [if_pos c4] at H
   have c4b0 : (a0_1 == a1_1)=true:=ya.mpr c4;have c4b1 : (a0_1 != a1_1)=false:=zX.mpr c4;clear c4;replace H:=zT.mp H;obtain ⟨t498,A50,H⟩:=H;replace H : (if t498=true then ((Fj.f k l0_3 l1_3).bind fun t499 => (if t499=true then (if (a0_4 != a1_4)=true then (some false) else (if (a0_5 != a1_5)=true then (some false) else (some true))) else (some false))) else (some false))=some r:=H;have A5:=zh A50;clear A50
   by_cases c6 : t498=true
   ·
    subst c6
    have H1 : ((Fj.f k l0_3 l1_3).bind fun t499 => (if t499=true then (if (a0_4 != a1_4)=true then (some false) else (if (a0_5 != a1_5)=true then (some false) else (some true))) else (some false)))=some r:=by rw [if_pos rfl] at H;exact H
    clear H;have H:=H1;clear H1;replace H:=zT.mp H;obtain ⟨t499,A70,H⟩:=H;replace H : (if t499=true then (if (a0_4 != a1_4)=true then (some false) else (if (a0_5 != a1_5)=true then (some false) else (some true))) else (some false))=some r:=H;have A7:=zh A70;clear A70
    by_cases c8 : t499=true
    ·
     subst c8
     have H1 : (if (a0_4 != a1_4)=true then (some false) else (if (a0_5 != a1_5)=true then (some false) else (some true)))=some r:=by rw [if_pos rfl] at H;exact H
     clear H;have H:=H1;clear H1
     by_cases c9 : (a0_4 != a1_4)=true
     ·
      rw [if_pos c9] at H
      have c9b0 : (a0_4 != a1_4)=true:=c9;(try (have c9b1 : decide (a0_4=a1_4)=false:=by simpa using c9));(try (have c9b2 : (a0_4 == a1_4)=false:=by simpa using c9));(try (have c9b3 : ¬ (a0_4=a1_4):=by simpa using c9));clear c9;obtain rfl:=zU H
      go_enter Tryz.func48,Tryz.ntmps48
      go_wp2_with (first|((with_reducible refine zK (N:=2) rfl ?_);refine zI ?hg (N:=2) ?hd (cs:=#[.int .i64 a0_0,.int .i64 a0_1,.slice A0_2 l0_2.length c0_2,.slice A0_3 l0_3.length c0_3,.bool a0_4,.bool a0_5]) (t:=41) ?hr ?_;(case hd|hg => rfl);(case hr => go_simp <;> rfl);intro gb496 hg w10 hbox hb;have BK496:=zh (hbox);have hH_:=cH (by repeat (with_reducible first|exact HB.out|apply za|apply zb|apply zc)) hb hg;have GW496:=zh hH_.1;have GE496:=GW496;replace HB:=zh hH_.2;clear hb hbox hg hH_)|((with_reducible refine zK (N:=3) rfl ?_);refine zI ?hg (N:=3) ?hd (cs:=#[.int .i64 a1_0,.int .i64 a1_1,.slice A1_2 l1_2.length c1_2,.slice A1_3 l1_3.length c1_3,.bool a1_4,.bool a1_5]) (t:=41) ?hr ?_;(case hd|hg => rfl);(case hr => go_simp <;> rfl);intro gb497 hg w11 hbox hb;have BK497:=zh (hbox);have hH_:=cH (by repeat (with_reducible first|exact HB.out|apply za|apply zb|apply zc|refine zd ?_ GE496.out)) hb hg;have GW497:=zh hH_.1;have GE497:=GW497;replace HB:=zh hH_.2;have NB496_497:=zh ((by rw [hg];exact yc (yi (g:=gb496) (o:=.cells #[.int .i64 a0_0,.int .i64 a0_1,.slice A0_2 l0_2.length c0_2,.slice A0_3 l0_3.length c0_3,.bool a0_4,.bool a0_5] 41 (0,0)) (by (with_reducible repeat first|apply ze|apply zf|apply zg);exact BK496.out)) : gb496≠gb497));have NB497_496:=zh NB496_497.out.symm;replace BK496:=zh (cD BK496.out (by (with_reducible repeat first|apply ze|apply zf|apply zg);exact BK496.out) hb);clear hb hbox hg hH_;have hnb12:=NB496_497.out;have hnc12:=NB497_496.out;obtain ⟨hcz13_0,hcz13_1,hcz13_2,hcz13_3,hcz13_4,hcz13_5,hfz13_0,hfz13_1,hfz13_2,hfz13_3,hfz13_4,hfz13_5⟩:=cB6 BK496.out;obtain ⟨hcz14_0,hcz14_1,hcz14_2,hcz14_3,hcz14_4,hcz14_5,hfz14_0,hfz14_1,hfz14_2,hfz14_3,hfz14_4,hfz14_5⟩:=cB6 BK497.out)|((with_reducible refine zJ (f:=71) rfl ?_);refine yj (some 19) rfl rfl Tryz.func71 (by kernel_rfl) rfl #[.slice A0_2 l0_2.length c0_2,.slice A1_2 l1_2.length c1_2] rfl (by (try simp only [zt,zu,zv]);first|done|rfl|(simp only [zw,zx];rfl)|(simp only [yr,ys,zV,zW];rfl)) ?_;(with_reducible refine (Fn.calls k  _ _ l0_2 _ _ l1_2 true _ ?side1 ?side2 ?side3 ?side4 A5.out).mono ?_);(case side1 => repeat (first|exact (Kd.C_below HR0_2.out HB.out)|(with_reducible refine Kd.C_alloc ?_ _)|(with_reducible refine Kd.C_drewN ?_ _)|(with_reducible refine Kd.C_drew ?_)));(case side2 => exact HC0_2.out);(case side3 => repeat (first|exact (Kd.C_below HR1_2.out HB.out)|(with_reducible refine Kd.C_alloc ?_ _)|(with_reducible refine Kd.C_drewN ?_ _)|(with_reducible refine Kd.C_drew ?_)));(case side4 => exact HC1_2.out);rintro e w15 ⟨rfl,hb⟩;refine ⟨_,rfl,?_⟩;replace BK496:=zh (cD BK496.out (by (with_reducible repeat first|apply ze|apply zf|apply zg);exact BK496.out) hb);replace BK497:=zh (cD BK497.out (by (with_reducible repeat first|apply ze|apply zf|apply zg);exact BK497.out) hb);replace HB:=zh (zC (by repeat (with_reducible first|exact HB.out|apply za|apply zb|apply zc|refine zd ?_ GE496.out|refine zd ?_ GE497.out)) hb);(try clear hb);(try clear hb2);(try clear hk);(try clear hi);obtain ⟨hcz16_0,hcz16_1,hcz16_2,hcz16_3,hcz16_4,hcz16_5,hfz16_0,hfz16_1,hfz16_2,hfz16_3,hfz16_4,hfz16_5⟩:=cB6 BK496.out;obtain ⟨hcz17_0,hcz17_1,hcz17_2,hcz17_3,hcz17_4,hcz17_5,hfz17_0,hfz17_1,hfz17_2,hfz17_3,hfz17_4,hfz17_5⟩:=cB6 BK497.out)|((with_reducible refine zJ (f:=73) rfl ?_);refine yj (some 25) rfl rfl Tryz.func73 (by kernel_rfl) rfl #[.slice A0_3 l0_3.length c0_3,.slice A1_3 l1_3.length c1_3] rfl (by (try simp only [zt,zu,zv]);first|done|rfl|(simp only [zw,zx];rfl)|(simp only [yr,ys,zV,zW];rfl)) ?_;(with_reducible refine (Fj.calls k  _ _ l0_3 _ _ l1_3 true _ ?side1 ?side2 ?side3 ?side4 A7.out).mono ?_);(case side1 => repeat (first|exact (Kd.C_below HR0_3.out HB.out)|(with_reducible refine Kd.C_alloc ?_ _)|(with_reducible refine Kd.C_drewN ?_ _)|(with_reducible refine Kd.C_drew ?_)));(case side2 => exact HC0_3.out);(case side3 => repeat (first|exact (Kd.C_below HR1_3.out HB.out)|(with_reducible refine Kd.C_alloc ?_ _)|(with_reducible refine Kd.C_drewN ?_ _)|(with_reducible refine Kd.C_drew ?_)));(case side4 => exact HC1_3.out);rintro e w18 ⟨rfl,hb⟩;refine ⟨_,rfl,?_⟩;replace BK496:=zh (cD BK496.out (by (with_reducible repeat first|apply ze|apply zf|apply zg);exact BK496.out) hb);replace BK497:=zh (cD BK497.out (by (with_reducible repeat first|apply ze|apply zf|apply zg);exact BK497.out) hb);replace HB:=zh (zC (by repeat (with_reducible first|exact HB.out|apply za|apply zb|apply zc|refine zd ?_ GE496.out|refine zd ?_ GE497.out)) hb);(try clear hb);(try clear hb2);(try clear hk);(try clear hi);obtain ⟨hcz19_0,hcz19_1,hcz19_2,hcz19_3,hcz19_4,hcz19_5,hfz19_0,hfz19_1,hfz19_2,hfz19_3,hfz19_4,hfz19_5⟩:=cB6 BK496.out;obtain ⟨hcz20_0,hcz20_1,hcz20_2,hcz20_3,hcz20_4,hcz20_5,hfz20_0,hfz20_1,hfz20_2,hfz20_3,hfz20_4,hfz20_5⟩:=cB6 BK497.out))
      go_ret
      exact ⟨by first|rfl|(simp [yt,yu] <;> rfl)|(simp [*,yt,yu] <;> rfl),by repeat (with_reducible first|exact HB.out|apply za|apply zb|apply zc|refine zd ?_ GE496.out|refine zd ?_ GE497.out)⟩
     rw [if_neg c9] at H;have c9b0 : (a0_4 != a1_4)=false:=by simpa using c9
     (try (have c9b1 : decide (a0_4=a1_4)=true:=by simpa using c9));(try (have c9b2 : (a0_4 == a1_4)=true:=by simpa using c9));clear c9
     by_cases c21 : (a0_5 != a1_5)=true
     ·
      rw [if_pos c21] at H
      have c21b0 : (a0_5 != a1_5)=true:=c21;(try (have c21b1 : decide (a0_5=a1_5)=false:=by simpa using c21));(try (have c21b2 : (a0_5 == a1_5)=false:=by simpa using c21));(try (have c21b3 : ¬ (a0_5=a1_5):=by simpa using c21));clear c21;obtain rfl:=zU H
      go_enter Tryz.func48,Tryz.ntmps48
      go_wp2_with (first|((with_reducible refine zK (N:=2) rfl ?_);refine zI ?hg (N:=2) ?hd (cs:=#[.int .i64 a0_0,.int .i64 a0_1,.slice A0_2 l0_2.length c0_2,.slice A0_3 l0_3.length c0_3,.bool a0_4,.bool a0_5]) (t:=41) ?hr ?_;(case hd|hg => rfl);(case hr => go_simp <;> rfl);intro gb496 hg w22 hbox hb;have BK496:=zh (hbox);have hH_:=cH (by repeat (with_reducible first|exact HB.out|apply za|apply zb|apply zc)) hb hg;have GW496:=zh hH_.1;have GE496:=GW496;replace HB:=zh hH_.2;clear hb hbox hg hH_)|((with_reducible refine zK (N:=3) rfl ?_);refine zI ?hg (N:=3) ?hd (cs:=#[.int .i64 a1_0,.int .i64 a1_1,.slice A1_2 l1_2.length c1_2,.slice A1_3 l1_3.length c1_3,.bool a1_4,.bool a1_5]) (t:=41) ?hr ?_;(case hd|hg => rfl);(case hr => go_simp <;> rfl);intro gb497 hg w23 hbox hb;have BK497:=zh (hbox);have hH_:=cH (by repeat (with_reducible first|exact HB.out|apply za|apply zb|apply zc|refine zd ?_ GE496.out)) hb hg;have GW497:=zh hH_.1;have GE497:=GW497;replace HB:=zh hH_.2;have NB496_497:=zh ((by rw [hg];exact yc (yi (g:=gb496) (o:=.cells #[.int .i64 a0_0,.int .i64 a0_1,.slice A0_2 l0_2.length c0_2,.slice A0_3 l0_3.length c0_3,.bool a0_4,.bool a0_5] 41 (0,0)) (by (with_reducible repeat first|apply ze|apply zf|apply zg);exact BK496.out)) : gb496≠gb497));have NB497_496:=zh NB496_497.out.symm;replace BK496:=zh (cD BK496.out (by (with_reducible repeat first|apply ze|apply zf|apply zg);exact BK496.out) hb);clear hb hbox hg hH_;have hnb24:=NB496_497.out;have hnc24:=NB497_496.out;obtain ⟨hcz25_0,hcz25_1,hcz25_2,hcz25_3,hcz25_4,hcz25_5,hfz25_0,hfz25_1,hfz25_2,hfz25_3,hfz25_4,hfz25_5⟩:=cB6 BK496.out;obtain ⟨hcz26_0,hcz26_1,hcz26_2,hcz26_3,hcz26_4,hcz26_5,hfz26_0,hfz26_1,hfz26_2,hfz26_3,hfz26_4,hfz26_5⟩:=cB6 BK497.out)|((with_reducible refine zJ (f:=71) rfl ?_);refine yj (some 19) rfl rfl Tryz.func71 (by kernel_rfl) rfl #[.slice A0_2 l0_2.length c0_2,.slice A1_2 l1_2.length c1_2] rfl (by (try simp only [zt,zu,zv]);first|done|rfl|(simp only [zw,zx];rfl)|(simp only [yr,ys,zV,zW];rfl)) ?_;(with_reducible refine (Fn.calls k  _ _ l0_2 _ _ l1_2 true _ ?side1 ?side2 ?side3 ?side4 A5.out).mono ?_);(case side1 => repeat (first|exact (Kd.C_below HR0_2.out HB.out)|(with_reducible refine Kd.C_alloc ?_ _)|(with_reducible refine Kd.C_drewN ?_ _)|(with_reducible refine Kd.C_drew ?_)));(case side2 => exact HC0_2.out);(case side3 => repeat (first|exact (Kd.C_below HR1_2.out HB.out)|(with_reducible refine Kd.C_alloc ?_ _)|(with_reducible refine Kd.C_drewN ?_ _)|(with_reducible refine Kd.C_drew ?_)));(case side4 => exact HC1_2.out);rintro e w27 ⟨rfl,hb⟩;refine ⟨_,rfl,?_⟩;replace BK496:=zh (cD BK496.out (by (with_reducible repeat first|apply ze|apply zf|apply zg);exact BK496.out) hb);replace BK497:=zh (cD BK497.out (by (with_reducible repeat first|apply ze|apply zf|apply zg);exact BK497.out) hb);replace HB:=zh (zC (by repeat (with_reducible first|exact HB.out|apply za|apply zb|apply zc|refine zd ?_ GE496.out|refine zd ?_ GE497.out)) hb);(try clear hb);(try clear hb2);(try clear hk);(try clear hi);obtain ⟨hcz28_0,hcz28_1,hcz28_2,hcz28_3,hcz28_4,hcz28_5,hfz28_0,hfz28_1,hfz28_2,hfz28_3,hfz28_4,hfz28_5⟩:=cB6 BK496.out;obtain ⟨hcz29_0,hcz29_1,hcz29_2,hcz29_3,hcz29_4,hcz29_5,hfz29_0,hfz29_1,hfz29_2,hfz29_3,hfz29_4,hfz29_5⟩:=cB6 BK497.out)|((with_reducible refine zJ (f:=73) rfl ?_);refine yj (some 25) rfl rfl Tryz.func73 (by kernel_rfl) rfl #[.slice A0_3 l0_3.length c0_3,.slice A1_3 l1_3.length c1_3] rfl (by (try simp only [zt,zu,zv]);first|done|rfl|(simp only [zw,zx];rfl)|(simp only [yr,ys,zV,zW];rfl)) ?_;(with_reducible refine (Fj.calls k  _ _ l0_3 _ _ l1_3 true _ ?side1 ?side2 ?side3 ?side4 A7.out).mono ?_);(case side1 => repeat (first|exact (Kd.C_below HR0_3.out HB.out)|(with_reducible refine Kd.C_alloc ?_ _)|(with_reducible refine Kd.C_drewN ?_ _)|(with_reducible refine Kd.C_drew ?_)));(case side2 => exact HC0_3.out);(case side3 => repeat (first|exact (Kd.C_below HR1_3.out HB.out)|(with_reducible refine Kd.C_alloc ?_ _)|(with_reducible refine Kd.C_drewN ?_ _)|(with_reducible refine Kd.C_drew ?_)));(case side4 => exact HC1_3.out);rintro e w30 ⟨rfl,hb⟩;refine ⟨_,rfl,?_⟩;replace BK496:=zh (cD BK496.out (by (with_reducible repeat first|apply ze|apply zf|apply zg);exact BK496.out) hb);replace BK497:=zh (cD BK497.out (by (with_reducible repeat first|apply ze|apply zf|apply zg);exact BK497.out) hb);replace HB:=zh (zC (by repeat (with_reducible first|exact HB.out|apply za|apply zb|apply zc|refine zd ?_ GE496.out|refine zd ?_ GE497.out)) hb);(try clear hb);(try clear hb2);(try clear hk);(try clear hi);obtain ⟨hcz31_0,hcz31_1,hcz31_2,hcz31_3,hcz31_4,hcz31_5,hfz31_0,hfz31_1,hfz31_2,hfz31_3,hfz31_4,hfz31_5⟩:=cB6 BK496.out;obtain ⟨hcz32_0,hcz32_1,hcz32_2,hcz32_3,hcz32_4,hcz32_5,hfz32_0,hfz32_1,hfz32_2,hfz32_3,hfz32_4,hfz32_5⟩:=cB6 BK497.out))
      go_ret
      exact ⟨by first|rfl|(simp [yt,yu] <;> rfl)|(simp [*,yt,yu] <;> rfl),by repeat (with_reducible first|exact HB.out|apply za|apply zb|apply zc|refine zd ?_ GE496.out|refine zd ?_ GE497.out)⟩
     rw [if_neg c21] at H;have c21b0 : (a0_5 != a1_5)=false:=by simpa using c21
     (try (have c21b1 : decide (a0_5=a1_5)=true:=by simpa using c21));(try (have c21b2 : (a0_5 == a1_5)=true:=by simpa using c21));clear c21;obtain rfl:=zU H
     go_enter Tryz.func48,Tryz.ntmps48
     go_wp2_with (first|((with_reducible refine zK (N:=2) rfl ?_);refine zI ?hg (N:=2) ?hd (cs:=#[.int .i64 a0_0,.int .i64 a0_1,.slice A0_2 l0_2.length c0_2,.slice A0_3 l0_3.length c0_3,.bool a0_4,.bool a0_5]) (t:=41) ?hr ?_;(case hd|hg => rfl);(case hr => go_simp <;> rfl);intro gb496 hg w33 hbox hb;have BK496:=zh (hbox);have hH_:=cH (by repeat (with_reducible first|exact HB.out|apply za|apply zb|apply zc)) hb hg;have GW496:=zh hH_.1;have GE496:=GW496;replace HB:=zh hH_.2;clear hb hbox hg hH_)|((with_reducible refine zK (N:=3) rfl ?_);refine zI ?hg (N:=3) ?hd (cs:=#[.int .i64 a1_0,.int .i64 a1_1,.slice A1_2 l1_2.length c1_2,.slice A1_3 l1_3.length c1_3,.bool a1_4,.bool a1_5]) (t:=41) ?hr ?_;(case hd|hg => rfl);(case hr => go_simp <;> rfl);intro gb497 hg w34 hbox hb;have BK497:=zh (hbox);have hH_:=cH (by repeat (with_reducible first|exact HB.out|apply za|apply zb|apply zc|refine zd ?_ GE496.out)) hb hg;have GW497:=zh hH_.1;have GE497:=GW497;replace HB:=zh hH_.2;have NB496_497:=zh ((by rw [hg];exact yc (yi (g:=gb496) (o:=.cells #[.int .i64 a0_0,.int .i64 a0_1,.slice A0_2 l0_2.length c0_2,.slice A0_3 l0_3.length c0_3,.bool a0_4,.bool a0_5] 41 (0,0)) (by (with_reducible repeat first|apply ze|apply zf|apply zg);exact BK496.out)) : gb496≠gb497));have NB497_496:=zh NB496_497.out.symm;replace BK496:=zh (cD BK496.out (by (with_reducible repeat first|apply ze|apply zf|apply zg);exact BK496.out) hb);clear hb hbox hg hH_;have hnb35:=NB496_497.out;have hnc35:=NB497_496.out;obtain ⟨hcz36_0,hcz36_1,hcz36_2,hcz36_3,hcz36_4,hcz36_5,hfz36_0,hfz36_1,hfz36_2,hfz36_3,hfz36_4,hfz36_5⟩:=cB6 BK496.out;obtain ⟨hcz37_0,hcz37_1,hcz37_2,hcz37_3,hcz37_4,hcz37_5,hfz37_0,hfz37_1,hfz37_2,hfz37_3,hfz37_4,hfz37_5⟩:=cB6 BK497.out)|((with_reducible refine zJ (f:=71) rfl ?_);refine yj (some 19) rfl rfl Tryz.func71 (by kernel_rfl) rfl #[.slice A0_2 l0_2.length c0_2,.slice A1_2 l1_2.length c1_2] rfl (by (try simp only [zt,zu,zv]);first|done|rfl|(simp only [zw,zx];rfl)|(simp only [yr,ys,zV,zW];rfl)) ?_;(with_reducible refine (Fn.calls k  _ _ l0_2 _ _ l1_2 true _ ?side1 ?side2 ?side3 ?side4 A5.out).mono ?_);(case side1 => repeat (first|exact (Kd.C_below HR0_2.out HB.out)|(with_reducible refine Kd.C_alloc ?_ _)|(with_reducible refine Kd.C_drewN ?_ _)|(with_reducible refine Kd.C_drew ?_)));(case side2 => exact HC0_2.out);(case side3 => repeat (first|exact (Kd.C_below HR1_2.out HB.out)|(with_reducible refine Kd.C_alloc ?_ _)|(with_reducible refine Kd.C_drewN ?_ _)|(with_reducible refine Kd.C_drew ?_)));(case side4 => exact HC1_2.out);rintro e w38 ⟨rfl,hb⟩;refine ⟨_,rfl,?_⟩;replace BK496:=zh (cD BK496.out (by (with_reducible repeat first|apply ze|apply zf|apply zg);exact BK496.out) hb);replace BK497:=zh (cD BK497.out (by (with_reducible repeat first|apply ze|apply zf|apply zg);exact BK497.out) hb);replace HB:=zh (zC (by repeat (with_reducible first|exact HB.out|apply za|apply zb|apply zc|refine zd ?_ GE496.out|refine zd ?_ GE497.out)) hb);(try clear hb);(try clear hb2);(try clear hk);(try clear hi);obtain ⟨hcz39_0,hcz39_1,hcz39_2,hcz39_3,hcz39_4,hcz39_5,hfz39_0,hfz39_1,hfz39_2,hfz39_3,hfz39_4,hfz39_5⟩:=cB6 BK496.out;obtain ⟨hcz40_0,hcz40_1,hcz40_2,hcz40_3,hcz40_4,hcz40_5,hfz40_0,hfz40_1,hfz40_2,hfz40_3,hfz40_4,hfz40_5⟩:=cB6 BK497.out)|((with_reducible refine zJ (f:=73) rfl ?_);refine yj (some 25) rfl rfl Tryz.func73 (by kernel_rfl) rfl #[.slice A0_3 l0_3.length c0_3,.slice A1_3 l1_3.length c1_3] rfl (by (try simp only [zt,zu,zv]);first|done|rfl|(simp only [zw,zx];rfl)|(simp only [yr,ys,zV,zW];rfl)) ?_;(with_reducible refine (Fj.calls k  _ _ l0_3 _ _ l1_3 true _ ?side1 ?side2 ?side3 ?side4 A7.out).mono ?_);(case side1 => repeat (first|exact (Kd.C_below HR0_3.out HB.out)|(with_reducible refine Kd.C_alloc ?_ _)|(with_reducible refine Kd.C_drewN ?_ _)|(with_reducible refine Kd.C_drew ?_)));(case side2 => exact HC0_3.out);(case side3 => repeat (first|exact (Kd.C_below HR1_3.out HB.out)|(with_reducible refine Kd.C_alloc ?_ _)|(with_reducible refine Kd.C_drewN ?_ _)|(with_reducible refine Kd.C_drew ?_)));(case side4 => exact HC1_3.out);rintro e w41 ⟨rfl,hb⟩;refine ⟨_,rfl,?_⟩;replace BK496:=zh (cD BK496.out (by (with_reducible repeat first|apply ze|apply zf|apply zg);exact BK496.out) hb);replace BK497:=zh (cD BK497.out (by (with_reducible repeat first|apply ze|apply zf|apply zg);exact BK497.out) hb);replace HB:=zh (zC (by repeat (with_reducible first|exact HB.out|apply za|apply zb|apply zc|refine zd ?_ GE496.out|refine zd ?_ GE497.out)) hb);(try clear hb);(try clear hb2);(try clear hk);(try clear hi);obtain ⟨hcz42_0,hcz42_1,hcz42_2,hcz42_3,hcz42_4,hcz42_5,hfz42_0,hfz42_1,hfz42_2,hfz42_3,hfz42_4,hfz42_5⟩:=cB6 BK496.out;obtain ⟨hcz43_0,hcz43_1,hcz43_2,hcz43_3,hcz43_4,hcz43_5,hfz43_0,hfz43_1,hfz43_2,hfz43_3,hfz43_4,hfz43_5⟩:=cB6 BK497.out))
     go_ret
     exact ⟨by first|rfl|(simp [yt,yu] <;> rfl)|(simp [*,yt,yu] <;> rfl),by repeat (with_reducible first|exact HB.out|apply za|apply zb|apply zc|refine zd ?_ GE496.out|refine zd ?_ GE497.out)⟩
    replace c8:=yb.mpr c8;subst c8;have H1 : (some false)=some r:=by rw [if_neg (show ¬ (false=true) by decide)] at H;exact H
    clear H;have H:=H1;clear H1;obtain rfl:=zU H
    go_enter Tryz.func48,Tryz.ntmps48
    go_wp2_with (first|((with_reducible refine zK (N:=2) rfl ?_);refine zI ?hg (N:=2) ?hd (cs:=#[.int .i64 a0_0,.int .i64 a0_1,.slice A0_2 l0_2.length c0_2,.slice A0_3 l0_3.length c0_3,.bool a0_4,.bool a0_5]) (t:=41) ?hr ?_;(case hd|hg => rfl);(case hr => go_simp <;> rfl);intro gb496 hg w44 hbox hb;have BK496:=zh (hbox);have hH_:=cH (by repeat (with_reducible first|exact HB.out|apply za|apply zb|apply zc)) hb hg;have GW496:=zh hH_.1;have GE496:=GW496;replace HB:=zh hH_.2;clear hb hbox hg hH_)|((with_reducible refine zK (N:=3) rfl ?_);refine zI ?hg (N:=3) ?hd (cs:=#[.int .i64 a1_0,.int .i64 a1_1,.slice A1_2 l1_2.length c1_2,.slice A1_3 l1_3.length c1_3,.bool a1_4,.bool a1_5]) (t:=41) ?hr ?_;(case hd|hg => rfl);(case hr => go_simp <;> rfl);intro gb497 hg w45 hbox hb;have BK497:=zh (hbox);have hH_:=cH (by repeat (with_reducible first|exact HB.out|apply za|apply zb|apply zc|refine zd ?_ GE496.out)) hb hg;have GW497:=zh hH_.1;have GE497:=GW497;replace HB:=zh hH_.2;have NB496_497:=zh ((by rw [hg];exact yc (yi (g:=gb496) (o:=.cells #[.int .i64 a0_0,.int .i64 a0_1,.slice A0_2 l0_2.length c0_2,.slice A0_3 l0_3.length c0_3,.bool a0_4,.bool a0_5] 41 (0,0)) (by (with_reducible repeat first|apply ze|apply zf|apply zg);exact BK496.out)) : gb496≠gb497));have NB497_496:=zh NB496_497.out.symm;replace BK496:=zh (cD BK496.out (by (with_reducible repeat first|apply ze|apply zf|apply zg);exact BK496.out) hb);clear hb hbox hg hH_;have hnb46:=NB496_497.out;have hnc46:=NB497_496.out;obtain ⟨hcz47_0,hcz47_1,hcz47_2,hcz47_3,hcz47_4,hcz47_5,hfz47_0,hfz47_1,hfz47_2,hfz47_3,hfz47_4,hfz47_5⟩:=cB6 BK496.out;obtain ⟨hcz48_0,hcz48_1,hcz48_2,hcz48_3,hcz48_4,hcz48_5,hfz48_0,hfz48_1,hfz48_2,hfz48_3,hfz48_4,hfz48_5⟩:=cB6 BK497.out)|((with_reducible refine zJ (f:=71) rfl ?_);refine yj (some 19) rfl rfl Tryz.func71 (by kernel_rfl) rfl #[.slice A0_2 l0_2.length c0_2,.slice A1_2 l1_2.length c1_2] rfl (by (try simp only [zt,zu,zv]);first|done|rfl|(simp only [zw,zx];rfl)|(simp only [yr,ys,zV,zW];rfl)) ?_;(with_reducible refine (Fn.calls k  _ _ l0_2 _ _ l1_2 true _ ?side1 ?side2 ?side3 ?side4 A5.out).mono ?_);(case side1 => repeat (first|exact (Kd.C_below HR0_2.out HB.out)|(with_reducible refine Kd.C_alloc ?_ _)|(with_reducible refine Kd.C_drewN ?_ _)|(with_reducible refine Kd.C_drew ?_)));(case side2 => exact HC0_2.out);(case side3 => repeat (first|exact (Kd.C_below HR1_2.out HB.out)|(with_reducible refine Kd.C_alloc ?_ _)|(with_reducible refine Kd.C_drewN ?_ _)|(with_reducible refine Kd.C_drew ?_)));(case side4 => exact HC1_2.out);rintro e w49 ⟨rfl,hb⟩;refine ⟨_,rfl,?_⟩;replace BK496:=zh (cD BK496.out (by (with_reducible repeat first|apply ze|apply zf|apply zg);exact BK496.out) hb);replace BK497:=zh (cD BK497.out (by (with_reducible repeat first|apply ze|apply zf|apply zg);exact BK497.out) hb);replace HB:=zh (zC (by repeat (with_reducible first|exact HB.out|apply za|apply zb|apply zc|refine zd ?_ GE496.out|refine zd ?_ GE497.out)) hb);(try clear hb);(try clear hb2);(try clear hk);(try clear hi);obtain ⟨hcz50_0,hcz50_1,hcz50_2,hcz50_3,hcz50_4,hcz50_5,hfz50_0,hfz50_1,hfz50_2,hfz50_3,hfz50_4,hfz50_5⟩:=cB6 BK496.out;obtain ⟨hcz51_0,hcz51_1,hcz51_2,hcz51_3,hcz51_4,hcz51_5,hfz51_0,hfz51_1,hfz51_2,hfz51_3,hfz51_4,hfz51_5⟩:=cB6 BK497.out)|((with_reducible refine zJ (f:=73) rfl ?_);refine yj (some 25) rfl rfl Tryz.func73 (by kernel_rfl) rfl #[.slice A0_3 l0_3.length c0_3,.slice A1_3 l1_3.length c1_3] rfl (by (try simp only [zt,zu,zv]);first|done|rfl|(simp only [zw,zx];rfl)|(simp only [yr,ys,zV,zW];rfl)) ?_;(with_reducible refine (Fj.calls k  _ _ l0_3 _ _ l1_3 false _ ?side1 ?side2 ?side3 ?side4 A7.out).mono ?_);(case side1 => repeat (first|exact (Kd.C_below HR0_3.out HB.out)|(with_reducible refine Kd.C_alloc ?_ _)|(with_reducible refine Kd.C_drewN ?_ _)|(with_reducible refine Kd.C_drew ?_)));(case side2 => exact HC0_3.out);(case side3 => repeat (first|exact (Kd.C_below HR1_3.out HB.out)|(with_reducible refine Kd.C_alloc ?_ _)|(with_reducible refine Kd.C_drewN ?_ _)|(with_reducible refine Kd.C_drew ?_)));(case side4 => exact HC1_3.out);rintro e w52 ⟨rfl,hb⟩;refine ⟨_,rfl,?_⟩;replace BK496:=zh (cD BK496.out (by (with_reducible repeat first|apply ze|apply zf|apply zg);exact BK496.out) hb);replace BK497:=zh (cD BK497.out (by (with_reducible repeat first|apply ze|apply zf|apply zg);exact BK497.out) hb);replace HB:=zh (zC (by repeat (with_reducible first|exact HB.out|apply za|apply zb|apply zc|refine zd ?_ GE496.out|refine zd ?_ GE497.out)) hb);(try clear hb);(try clear hb2);(try clear hk);(try clear hi)))
    go_ret
    exact ⟨by first|rfl|(simp [yt,yu] <;> rfl)|(simp [*,yt,yu] <;> rfl),by repeat (with_reducible first|exact HB.out|apply za|apply zb|apply zc|refine zd ?_ GE496.out|refine zd ?_ GE497.out)⟩
   replace c6:=yb.mpr c6;subst c6;have H1 : (some false)=some r:=by rw [if_neg (show ¬ (false=true) by decide)] at H;exact H
   clear H;have H:=H1;clear H1;obtain rfl:=zU H
   go_enter Tryz.func48,Tryz.ntmps48
   go_wp2_with (first|((with_reducible refine zK (N:=2) rfl ?_);refine zI ?hg (N:=2) ?hd (cs:=#[.int .i64 a0_0,.int .i64 a0_1,.slice A0_2 l0_2.length c0_2,.slice A0_3 l0_3.length c0_3,.bool a0_4,.bool a0_5]) (t:=41) ?hr ?_;(case hd|hg => rfl);(case hr => go_simp <;> rfl);intro gb496 hg w53 hbox hb;have BK496:=zh (hbox);have hH_:=cH (by repeat (with_reducible first|exact HB.out|apply za|apply zb|apply zc)) hb hg;have GW496:=zh hH_.1;have GE496:=GW496;replace HB:=zh hH_.2;clear hb hbox hg hH_)|((with_reducible refine zK (N:=3) rfl ?_);refine zI ?hg (N:=3) ?hd (cs:=#[.int .i64 a1_0,.int .i64 a1_1,.slice A1_2 l1_2.length c1_2,.slice A1_3 l1_3.length c1_3,.bool a1_4,.bool a1_5]) (t:=41) ?hr ?_;(case hd|hg => rfl);(case hr => go_simp <;> rfl);intro gb497 hg w54 hbox hb;have BK497:=zh (hbox);have hH_:=cH (by repeat (with_reducible first|exact HB.out|apply za|apply zb|apply zc|refine zd ?_ GE496.out)) hb hg;have GW497:=zh hH_.1;have GE497:=GW497;replace HB:=zh hH_.2;have NB496_497:=zh ((by rw [hg];exact yc (yi (g:=gb496) (o:=.cells #[.int .i64 a0_0,.int .i64 a0_1,.slice A0_2 l0_2.length c0_2,.slice A0_3 l0_3.length c0_3,.bool a0_4,.bool a0_5] 41 (0,0)) (by (with_reducible repeat first|apply ze|apply zf|apply zg);exact BK496.out)) : gb496≠gb497));have NB497_496:=zh NB496_497.out.symm;replace BK496:=zh (cD BK496.out (by (with_reducible repeat first|apply ze|apply zf|apply zg);exact BK496.out) hb);clear hb hbox hg hH_;have hnb55:=NB496_497.out;have hnc55:=NB497_496.out;obtain ⟨hcz56_0,hcz56_1,hcz56_2,hcz56_3,hcz56_4,hcz56_5,hfz56_0,hfz56_1,hfz56_2,hfz56_3,hfz56_4,hfz56_5⟩:=cB6 BK496.out;obtain ⟨hcz57_0,hcz57_1,hcz57_2,hcz57_3,hcz57_4,hcz57_5,hfz57_0,hfz57_1,hfz57_2,hfz57_3,hfz57_4,hfz57_5⟩:=cB6 BK497.out)|((with_reducible refine zJ (f:=71) rfl ?_);refine yj (some 19) rfl rfl Tryz.func71 (by kernel_rfl) rfl #[.slice A0_2 l0_2.length c0_2,.slice A1_2 l1_2.length c1_2] rfl (by (try simp only [zt,zu,zv]);first|done|rfl|(simp only [zw,zx];rfl)|(simp only [yr,ys,zV,zW];rfl)) ?_;(with_reducible refine (Fn.calls k  _ _ l0_2 _ _ l1_2 false _ ?side1 ?side2 ?side3 ?side4 A5.out).mono ?_);(case side1 => repeat (first|exact (Kd.C_below HR0_2.out HB.out)|(with_reducible refine Kd.C_alloc ?_ _)|(with_reducible refine Kd.C_drewN ?_ _)|(with_reducible refine Kd.C_drew ?_)));(case side2 => exact HC0_2.out);(case side3 => repeat (first|exact (Kd.C_below HR1_2.out HB.out)|(with_reducible refine Kd.C_alloc ?_ _)|(with_reducible refine Kd.C_drewN ?_ _)|(with_reducible refine Kd.C_drew ?_)));(case side4 => exact HC1_2.out);rintro e w58 ⟨rfl,hb⟩;refine ⟨_,rfl,?_⟩;replace BK496:=zh (cD BK496.out (by (with_reducible repeat first|apply ze|apply zf|apply zg);exact BK496.out) hb);replace BK497:=zh (cD BK497.out (by (with_reducible repeat first|apply ze|apply zf|apply zg);exact BK497.out) hb);replace HB:=zh (zC (by repeat (with_reducible first|exact HB.out|apply za|apply zb|apply zc|refine zd ?_ GE496.out|refine zd ?_ GE497.out)) hb);(try clear hb);(try clear hb2);(try clear hk);(try clear hi)))
   go_ret
   exact ⟨by first|rfl|(simp [yt,yu] <;> rfl)|(simp [*,yt,yu] <;> rfl),by repeat (with_reducible first|exact HB.out|apply za|apply zb|apply zc|refine zd ?_ GE496.out|refine zd ?_ GE497.out)⟩
  rw [if_neg c4] at H;have c4b0 : (a0_1 == a1_1)=false:=zY.mpr c4;have c4b1 : (a0_1 != a1_1)=true:=zZ.mpr c4;obtain rfl:=zU H
  go_enter Tryz.func48,Tryz.ntmps48
  go_wp2_with (first|((with_reducible refine zK (N:=2) rfl ?_);refine zI ?hg (N:=2) ?hd (cs:=#[.int .i64 a0_0,.int .i64 a0_1,.slice A0_2 l0_2.length c0_2,.slice A0_3 l0_3.length c0_3,.bool a0_4,.bool a0_5]) (t:=41) ?hr ?_;(case hd|hg => rfl);(case hr => go_simp <;> rfl);intro gb496 hg w59 hbox hb;have BK496:=zh (hbox);have hH_:=cH (by repeat (with_reducible first|exact HB.out|apply za|apply zb|apply zc)) hb hg;have GW496:=zh hH_.1;have GE496:=GW496;replace HB:=zh hH_.2;clear hb hbox hg hH_)|((with_reducible refine zK (N:=3) rfl ?_);refine zI ?hg (N:=3) ?hd (cs:=#[.int .i64 a1_0,.int .i64 a1_1,.slice A1_2 l1_2.length c1_2,.slice A1_3 l1_3.length c1_3,.bool a1_4,.bool a1_5]) (t:=41) ?hr ?_;(case hd|hg => rfl);(case hr => go_simp <;> rfl);intro gb497 hg w60 hbox hb;have BK497:=zh (hbox);have hH_:=cH (by repeat (with_reducible first|exact HB.out|apply za|apply zb|apply zc|refine zd ?_ GE496.out)) hb hg;have GW497:=zh hH_.1;have GE497:=GW497;replace HB:=zh hH_.2;have NB496_497:=zh ((by rw [hg];exact yc (yi (g:=gb496) (o:=.cells #[.int .i64 a0_0,.int .i64 a0_1,.slice A0_2 l0_2.length c0_2,.slice A0_3 l0_3.length c0_3,.bool a0_4,.bool a0_5] 41 (0,0)) (by (with_reducible repeat first|apply ze|apply zf|apply zg);exact BK496.out)) : gb496≠gb497));have NB497_496:=zh NB496_497.out.symm;replace BK496:=zh (cD BK496.out (by (with_reducible repeat first|apply ze|apply zf|apply zg);exact BK496.out) hb);clear hb hbox hg hH_;have hnb61:=NB496_497.out;have hnc61:=NB497_496.out;obtain ⟨hcz62_0,hcz62_1,hcz62_2,hcz62_3,hcz62_4,hcz62_5,hfz62_0,hfz62_1,hfz62_2,hfz62_3,hfz62_4,hfz62_5⟩:=cB6 BK496.out;obtain ⟨hcz63_0,hcz63_1,hcz63_2,hcz63_3,hcz63_4,hcz63_5,hfz63_0,hfz63_1,hfz63_2,hfz63_3,hfz63_4,hfz63_5⟩:=cB6 BK497.out))
  go_ret
  exact ⟨by first|rfl|(simp [yt,yu] <;> rfl)|(simp [*,yt,yu] <;> rfl),by repeat (with_reducible first|exact HB.out|apply za|apply zb|apply zc|refine zd ?_ GE496.out|refine zd ?_ GE497.out)⟩
 rw [if_neg c3] at H;have c3b0 : (a0_0 == a1_0)=false:=zY.mpr c3;have c3b1 : (a0_0 != a1_0)=true:=zZ.mpr c3;obtain rfl:=zU H
 go_enter Tryz.func48,Tryz.ntmps48
 go_wp2_with (first|((with_reducible refine zK (N:=2) rfl ?_);refine zI ?hg (N:=2) ?hd (cs:=#[.int .i64 a0_0,.int .i64 a0_1,.slice A0_2 l0_2.length c0_2,.slice A0_3 l0_3.length c0_3,.bool a0_4,.bool a0_5]) (t:=41) ?hr ?_;(case hd|hg => rfl);(case hr => go_simp <;> rfl);intro gb496 hg w64 hbox hb;have BK496:=zh (hbox);have hH_:=cH (by repeat (with_reducible first|exact HB.out|apply za|apply zb|apply zc)) hb hg;have GW496:=zh hH_.1;have GE496:=GW496;replace HB:=zh hH_.2;clear hb hbox hg hH_)|((with_reducible refine zK (N:=3) rfl ?_);refine zI ?hg (N:=3) ?hd (cs:=#[.int .i64 a1_0,.int .i64 a1_1,.slice A1_2 l1_2.length c1_2,.slice A1_3 l1_3.length c1_3,.bool a1_4,.bool a1_5]) (t:=41) ?hr ?_;(case hd|hg => rfl);(case hr => go_simp <;> rfl);intro gb497 hg w65 hbox hb;have BK497:=zh (hbox);have hH_:=cH (by repeat (with_reducible first|exact HB.out|apply za|apply zb|apply zc|refine zd ?_ GE496.out)) hb hg;have GW497:=zh hH_.1;have GE497:=GW497;replace HB:=zh hH_.2;have NB496_497:=zh ((by rw [hg];exact yc (yi (g:=gb496) (o:=.cells #[.int .i64 a0_0,.int .i64 a0_1,.slice A0_2 l0_2.length c0_2,.slice A0_3 l0_3.length c0_3,.bool a0_4,.bool a0_5] 41 (0,0)) (by (with_reducible repeat first|apply ze|apply zf|apply zg);exact BK496.out)) : gb496≠gb497));have NB497_496:=zh NB496_497.out.symm;replace BK496:=zh (cD BK496.out (by (with_reducible repeat first|apply ze|apply zf|apply zg);exact BK496.out) hb);clear hb hbox hg hH_;have hnb66:=NB496_497.out;have hnc66:=NB497_496.out;obtain ⟨hcz67_0,hcz67_1,hcz67_2,hcz67_3,hcz67_4,hcz67_5,hfz67_0,hfz67_1,hfz67_2,hfz67_3,hfz67_4,hfz67_5⟩:=cB6 BK496.out;obtain ⟨hcz68_0,hcz68_1,hcz68_2,hcz68_3,hcz68_4,hcz68_5,hfz68_0,hfz68_1,hfz68_2,hfz68_3,hfz68_4,hfz68_5⟩:=cB6 BK497.out))
 go_ret
 exact ⟨by first|rfl|(simp [yt,yu] <;> rfl)|(simp [*,yt,yu] <;> rfl),by repeat (with_reducible first|exact HB.out|apply za|apply zb|apply zc|refine zd ?_ GE496.out|refine zd ?_ GE497.out)⟩


def Fq.l0 : Nat→List (S91)→Int→Option (Bool)
 | 0,_,_ => none
 | k + 1,x0,x5 => if x5<(x0.length : Int) then (none) else (some true)
def Fq.f (k : Nat) (l0 : List (S91)) (l1 : List (S91)) : Option (Bool):=if (l0.length : Int)=(l1.length : Int) then (Fq.l0 k l0 0) else (some false)
theorem Fq.mono_l : ∀ k,(∀ y0 y1,LeO (Fq.l0 k y0 y1) (Fq.l0 (k + 1) y0 y1))
 | 0 => fun _ _ r h => by simp [Fq.l0] at h
 | k + 1 => by
  have ih0:=Fq.mono_l k;intro y0 y1;unfold Fq.l0
  repeat' first|(with_reducible first|exact ih0 _ _|exact zQ _|exact zN _|refine zP ?_ ?_|refine zO ?_ (fun _ => ?_))|refine zP ?_ ?_|refine zO ?_ (fun _ => ?_)
theorem Fq.mono : ∀ a0 a1 k,LeO (Fq.f k a0 a1) (Fq.f (k + 1) a0 a1):=by
 intro a0 a1 k;have ih0:=Fq.mono_l k;unfold Fq.f
 repeat' first|(with_reducible first|exact ih0 _ _|exact zQ _|exact zN _|refine zP ?_ ?_|refine zO ?_ (fun _ => ?_))|refine zP ?_ ?_|refine zO ?_ (fun _ => ?_)
set_option maxHeartbeats 8000000 in
set_option maxRecDepth 100000 in
theorem Fq.calls (k : Nat) (A0 : Option Addr) (c0 : Nat) (l0 : List (S91)) (A1 : Option Addr) (c1 : Nat) (l1 : List (S91)) (r : Bool) (w : World) (hr0 : Kd.C k91 w A0 l0.length l0) (hc0 : l0.length≤c0) (hr1 : Kd.C k91 w A1 l1.length l1) (hc1 : l1.length≤c1) (h : Fq.f k l0 l1=some r) :
  Calls Tryz.prog 49 #[.slice A0 l0.length c0,.slice A1 l1.length c1] w fun e w' => e = .returned (.bool r)∧Below w.heap.size w w':=by
 have hu91:=Tryz.underlying91;have HR0:=zh hr0;have HC0:=zh hc0;clear hr0 hc0;have HR1:=zh hr1;have HC1:=zh hc1;clear hr1 hc1;have HB:=zh (Below.refl w.heap.size w);have H : (if (l0.length : Int)=(l1.length : Int) then (Fq.l0 k l0 0) else (some false))=some r:=h;clear h
 by_cases c3 : (l0.length : Int)=(l1.length : Int)
 ·
  rw [if_pos c3] at H
  have c3b0 : ((l0.length : Int) == (l1.length : Int))=true:=ya.mpr c3;have c3b1 : ((l0.length : Int) != (l1.length : Int))=false:=zX.mpr c3;have c3b2 : (l0.length == l1.length)=true:=by first|simpa using c3|(simp at c3 ⊢;omega)
  clear c3;have H':=zh H;clear H
  go_enter Tryz.func49,Tryz.ntmps49
  go_wp2
  go_loopg [5] k (fun kq v5 w' => ∃ (x5_1 : Int),v5 = .int .i64 x5_1∧Aside0 (Fq.l0 kq l0 x5_1=some r)∧Aside0 (kq≤k)∧Aside0 (Below w.heap.size w w'))
  case atStart => exact ⟨(0),(by first|rfl|(simp;done)|(simp [*];done)),H',⟨ye _⟩,⟨by repeat (with_reducible first|exact HB.out|apply za|apply zb|apply zc)⟩⟩
  case round =>
   clear H'
   try clear c1
   try clear p2
   try clear c3 c3b0 c3b1 c3b2
   obtain ⟨x5_1,rfl,HA,HK1,HB⟩:=hrel
   cases gk with
   | zero => exact absurd HA.out (by simp [Fq.l0])
   | succ k1 =>
    have H:=HA.out;clear HA;simp only [Fq.l0] at H
    by_cases c4 : x5_1<(l0.length : Int)
    ·
     rw [if_pos c4] at H
     exact absurd H (by simp)
    rw [if_neg c4] at H;have c4b0 : decide (x5_1<(l0.length : Int))=false:=decide_eq_false c4;clear c4;obtain rfl:=zU H
    go_wp2
    go_ret
    exact ⟨by first|rfl|(simp [yt,yu] <;> rfl)|(simp [*,yt,yu] <;> rfl),by repeat (with_reducible first|exact HB.out|apply za|apply zb|apply zc)⟩
 rw [if_neg c3] at H;have c3b0 : ((l0.length : Int) == (l1.length : Int))=false:=zY.mpr c3;have c3b1 : ((l0.length : Int) != (l1.length : Int))=true:=zZ.mpr c3;have c3b2 : (l0.length == l1.length)=false:=by first|simpa using c3|(simp at c3 ⊢;omega)
 obtain rfl:=zU H
 go_enter Tryz.func49,Tryz.ntmps49
 go_wp2
 go_ret
 exact ⟨by first|rfl|(simp [yt,yu] <;> rfl)|(simp [*,yt,yu] <;> rfl),by repeat (with_reducible first|exact HB.out|apply za|apply zb|apply zc)⟩


def F0.f (k : Nat) (a0_0 : Int) (a0_1 : Int) (l0_2 : List (S104)) (l0_3 : List (S109)) (a0_4 : Bool) (a0_5 : Bool) (l0_6 : List (S91)) (a1_0 : Int) (a1_1 : Int) (l1_2 : List (S104)) (l1_3 : List (S109)) (a1_4 : Bool) (a1_5 : Bool) (l1_6 : List (S91)) : Option (Bool):=(F7.f k a0_0 a0_1 l0_2 l0_3 a0_4 a0_5 a1_0 a1_1 l1_2 l1_3 a1_4 a1_5).bind fun t536 => (if t536=true then ((Fq.f k l0_6 l1_6).bind fun t537 => (if t537=true then (some true) else (some false))) else (some false))
theorem F0.mono : ∀ a0 a1 a2 a3 a4 a5 a6 a7 a8 a9 a10 a11 a12 a13 k,LeO (F0.f k a0 a1 a2 a3 a4 a5 a6 a7 a8 a9 a10 a11 a12 a13) (F0.f (k + 1) a0 a1 a2 a3 a4 a5 a6 a7 a8 a9 a10 a11 a12 a13):=by
 intro a0 a1 a2 a3 a4 a5 a6 a7 a8 a9 a10 a11 a12 a13 k;unfold F0.f
 repeat' first|(with_reducible first|exact F7.mono _ _ _ _ _ _ _ _ _ _ _ _ _|exact Fq.mono _ _ _|exact zQ _|exact zN _|refine zP ?_ ?_|refine zO ?_ (fun _ => ?_))|refine zP ?_ ?_|refine zO ?_ (fun _ => ?_)
set_option maxHeartbeats 8000000 in
set_option maxRecDepth 100000 in
theorem F0.calls (k : Nat) (a0_0 : Int) (a0_1 : Int) (A0_2 : Option Addr) (c0_2 : Nat) (l0_2 : List (S104)) (A0_3 : Option Addr) (c0_3 : Nat) (l0_3 : List (S109)) (a0_4 : Bool) (a0_5 : Bool) (A0_6 : Option Addr) (c0_6 : Nat) (l0_6 : List (S91)) (a1_0 : Int) (a1_1 : Int) (A1_2 : Option Addr) (c1_2 : Nat) (l1_2 : List (S104)) (A1_3 : Option Addr) (c1_3 : Nat) (l1_3 : List (S109)) (a1_4 : Bool) (a1_5 : Bool) (A1_6 : Option Addr) (c1_6 : Nat) (l1_6 : List (S91)) (r : Bool) (w : World) (hr0_2 : Kd.C k104 w A0_2 l0_2.length l0_2) (hc0_2 : l0_2.length≤c0_2) (hr0_3 : Kd.C k109 w A0_3 l0_3.length l0_3) (hc0_3 : l0_3.length≤c0_3) (hr0_6 : Kd.C k91 w A0_6 l0_6.length l0_6) (hc0_6 : l0_6.length≤c0_6) (hr1_2 : Kd.C k104 w A1_2 l1_2.length l1_2) (hc1_2 : l1_2.length≤c1_2) (hr1_3 : Kd.C k109 w A1_3 l1_3.length l1_3) (hc1_3 : l1_3.length≤c1_3) (hr1_6 : Kd.C k91 w A1_6 l1_6.length l1_6) (hc1_6 : l1_6.length≤c1_6) (h : F0.f k a0_0 a0_1 l0_2 l0_3 a0_4 a0_5 l0_6 a1_0 a1_1 l1_2 l1_3 a1_4 a1_5 l1_6=some r) :
  Calls Tryz.prog 27 #[.agg #[.int .i64 a0_0,.int .i64 a0_1,.slice A0_2 l0_2.length c0_2,.slice A0_3 l0_3.length c0_3,.bool a0_4,.bool a0_5,.slice A0_6 l0_6.length c0_6],.agg #[.int .i64 a1_0,.int .i64 a1_1,.slice A1_2 l1_2.length c1_2,.slice A1_3 l1_3.length c1_3,.bool a1_4,.bool a1_5,.slice A1_6 l1_6.length c1_6]] w fun e w' => e = .returned (.bool r)∧Below w.heap.size w w':=by
 have hu44:=Tryz.underlying44;have hu41:=Tryz.underlying41;have HR0_2:=zh hr0_2;have HC0_2:=zh hc0_2;clear hr0_2 hc0_2;have HR0_3:=zh hr0_3;have HC0_3:=zh hc0_3;clear hr0_3 hc0_3;have HR0_6:=zh hr0_6;have HC0_6:=zh hc0_6;clear hr0_6 hc0_6;have HR1_2:=zh hr1_2;have HC1_2:=zh hc1_2;clear hr1_2 hc1_2;have HR1_3:=zh hr1_3;have HC1_3:=zh hc1_3;clear hr1_3 hc1_3;have HR1_6:=zh hr1_6;have HC1_6:=zh hc1_6;clear hr1_6 hc1_6;have HB:=zh (Below.refl w.heap.size w);have H : ((F7.f k a0_0 a0_1 l0_2 l0_3 a0_4 a0_5 a1_0 a1_1 l1_2 l1_3 a1_4 a1_5).bind fun t536 => (if t536=true then ((Fq.f k l0_6 l1_6).bind fun t537 => (if t537=true then (some true) else (some false))) else (some false)))=some r:=h;clear h;replace H:=zT.mp H;obtain ⟨t536,A30,H⟩:=H;replace H : (if t536=true then ((Fq.f k l0_6 l1_6).bind fun t537 => (if t537=true then (some true) else (some false))) else (some false))=some r:=H;have A3:=zh A30;clear A30
 by_cases c4 : t536=true
 ·
  subst c4
  have H1 : ((Fq.f k l0_6 l1_6).bind fun t537 => (if t537=true then (some true) else (some false)))=some r:=by rw [if_pos rfl] at H;exact H
  clear H;have H:=H1;clear H1;replace H:=zT.mp H;obtain ⟨t537,A50,H⟩:=H;replace H : (if t537=true then (some true) else (some false))=some r:=H;have A5:=zh A50;clear A50
  by_cases c6 : t537=true
  ·
   subst c6
   have H1 : (some true)=some r:=by rw [if_pos rfl] at H;exact H
   clear H;have H:=H1;clear H1;obtain rfl:=zU H
   go_enter Tryz.func27,Tryz.ntmps27
   go_wp2_with (first|((with_reducible refine zK (N:=2) rfl ?_);refine zI ?hg (N:=2) ?hd (cs:=#[.int .i64 a0_0,.int .i64 a0_1,.slice A0_2 l0_2.length c0_2,.slice A0_3 l0_3.length c0_3,.bool a0_4,.bool a0_5,.slice A0_6 l0_6.length c0_6]) (t:=44) ?hr ?_;(case hd|hg => rfl);(case hr => go_simp <;> rfl);intro gb534 hg w7 hbox hb;have BK534:=zh (hbox);have hH_:=cH (by repeat (with_reducible first|exact HB.out|apply za|apply zb|apply zc)) hb hg;have GW534:=zh hH_.1;have GE534:=GW534;replace HB:=zh hH_.2;clear hb hbox hg hH_)|((with_reducible refine zK (N:=3) rfl ?_);refine zI ?hg (N:=3) ?hd (cs:=#[.int .i64 a1_0,.int .i64 a1_1,.slice A1_2 l1_2.length c1_2,.slice A1_3 l1_3.length c1_3,.bool a1_4,.bool a1_5,.slice A1_6 l1_6.length c1_6]) (t:=44) ?hr ?_;(case hd|hg => rfl);(case hr => go_simp <;> rfl);intro gb535 hg w8 hbox hb;have BK535:=zh (hbox);have hH_:=cH (by repeat (with_reducible first|exact HB.out|apply za|apply zb|apply zc|refine zd ?_ GE534.out)) hb hg;have GW535:=zh hH_.1;have GE535:=GW535;replace HB:=zh hH_.2;have NB534_535:=zh ((by rw [hg];exact yc (yi (g:=gb534) (o:=.cells #[.int .i64 a0_0,.int .i64 a0_1,.slice A0_2 l0_2.length c0_2,.slice A0_3 l0_3.length c0_3,.bool a0_4,.bool a0_5,.slice A0_6 l0_6.length c0_6] 44 (0,0)) (by (with_reducible repeat first|apply ze|apply zf|apply zg);exact BK534.out)) : gb534≠gb535));have NB535_534:=zh NB534_535.out.symm;replace BK534:=zh (cD BK534.out (by (with_reducible repeat first|apply ze|apply zf|apply zg);exact BK534.out) hb);clear hb hbox hg hH_;have hnb9:=NB534_535.out;have hnc9:=NB535_534.out;obtain ⟨hcz10_0,hcz10_1,hcz10_2,hcz10_3,hcz10_4,hcz10_5,hcz10_6,hfz10_0,hfz10_1,hfz10_2,hfz10_3,hfz10_4,hfz10_5,hfz10_6⟩:=cB7 BK534.out;obtain ⟨hcz11_0,hcz11_1,hcz11_2,hcz11_3,hcz11_4,hcz11_5,hcz11_6,hfz11_0,hfz11_1,hfz11_2,hfz11_3,hfz11_4,hfz11_5,hfz11_6⟩:=cB7 BK535.out)|((with_reducible refine zJ (f:=48) rfl ?_);refine yj (some 9) rfl rfl Tryz.func48 (by kernel_rfl) rfl #[.agg #[.int .i64 a0_0,.int .i64 a0_1,.slice A0_2 l0_2.length c0_2,.slice A0_3 l0_3.length c0_3,.bool a0_4,.bool a0_5],.agg #[.int .i64 a1_0,.int .i64 a1_1,.slice A1_2 l1_2.length c1_2,.slice A1_3 l1_3.length c1_3,.bool a1_4,.bool a1_5]] rfl (by (try simp only [zt,zu,zv]);first|done|rfl|(simp only [zw,zx];rfl)|(simp only [yr,ys,zV,zW];rfl)) ?_;(with_reducible refine (F7.calls k  a0_0 a0_1 _ _ l0_2 _ _ l0_3 a0_4 a0_5 a1_0 a1_1 _ _ l1_2 _ _ l1_3 a1_4 a1_5 true _ ?side1 ?side2 ?side3 ?side4 ?side5 ?side6 ?side7 ?side8 A3.out).mono ?_);(case side1 => repeat (first|exact (Kd.C_below HR0_2.out HB.out)|(with_reducible refine Kd.C_alloc ?_ _)|(with_reducible refine Kd.C_drewN ?_ _)|(with_reducible refine Kd.C_drew ?_)));(case side2 => exact HC0_2.out);(case side3 => repeat (first|exact (Kd.C_below HR0_3.out HB.out)|(with_reducible refine Kd.C_alloc ?_ _)|(with_reducible refine Kd.C_drewN ?_ _)|(with_reducible refine Kd.C_drew ?_)));(case side4 => exact HC0_3.out);(case side5 => repeat (first|exact (Kd.C_below HR1_2.out HB.out)|(with_reducible refine Kd.C_alloc ?_ _)|(with_reducible refine Kd.C_drewN ?_ _)|(with_reducible refine Kd.C_drew ?_)));(case side6 => exact HC1_2.out);(case side7 => repeat (first|exact (Kd.C_below HR1_3.out HB.out)|(with_reducible refine Kd.C_alloc ?_ _)|(with_reducible refine Kd.C_drewN ?_ _)|(with_reducible refine Kd.C_drew ?_)));(case side8 => exact HC1_3.out);rintro e w12 ⟨rfl,hb⟩;refine ⟨_,rfl,?_⟩;replace BK534:=zh (cD BK534.out (by (with_reducible repeat first|apply ze|apply zf|apply zg);exact BK534.out) hb);replace BK535:=zh (cD BK535.out (by (with_reducible repeat first|apply ze|apply zf|apply zg);exact BK535.out) hb);replace HB:=zh (zC (by repeat (with_reducible first|exact HB.out|apply za|apply zb|apply zc|refine zd ?_ GE534.out|refine zd ?_ GE535.out)) hb);(try clear hb);(try clear hb2);(try clear hk);(try clear hi);obtain ⟨hcz13_0,hcz13_1,hcz13_2,hcz13_3,hcz13_4,hcz13_5,hcz13_6,hfz13_0,hfz13_1,hfz13_2,hfz13_3,hfz13_4,hfz13_5,hfz13_6⟩:=cB7 BK534.out;obtain ⟨hcz14_0,hcz14_1,hcz14_2,hcz14_3,hcz14_4,hcz14_5,hcz14_6,hfz14_0,hfz14_1,hfz14_2,hfz14_3,hfz14_4,hfz14_5,hfz14_6⟩:=cB7 BK535.out)|((with_reducible refine zJ (f:=49) rfl ?_);refine yj (some 15) rfl rfl Tryz.func49 (by kernel_rfl) rfl #[.slice A0_6 l0_6.length c0_6,.slice A1_6 l1_6.length c1_6] rfl (by (try simp only [zt,zu,zv]);first|done|rfl|(simp only [zw,zx];rfl)|(simp only [yr,ys,zV,zW];rfl)) ?_;(with_reducible refine (Fq.calls k  _ _ l0_6 _ _ l1_6 true _ ?side1 ?side2 ?side3 ?side4 A5.out).mono ?_);(case side1 => repeat (first|exact (Kd.C_below HR0_6.out HB.out)|(with_reducible refine Kd.C_alloc ?_ _)|(with_reducible refine Kd.C_drewN ?_ _)|(with_reducible refine Kd.C_drew ?_)));(case side2 => exact HC0_6.out);(case side3 => repeat (first|exact (Kd.C_below HR1_6.out HB.out)|(with_reducible refine Kd.C_alloc ?_ _)|(with_reducible refine Kd.C_drewN ?_ _)|(with_reducible refine Kd.C_drew ?_)));(case side4 => exact HC1_6.out);rintro e w15 ⟨rfl,hb⟩;refine ⟨_,rfl,?_⟩;replace BK534:=zh (cD BK534.out (by (with_reducible repeat first|apply ze|apply zf|apply zg);exact BK534.out) hb);replace BK535:=zh (cD BK535.out (by (with_reducible repeat first|apply ze|apply zf|apply zg);exact BK535.out) hb);replace HB:=zh (zC (by repeat (with_reducible first|exact HB.out|apply za|apply zb|apply zc|refine zd ?_ GE534.out|refine zd ?_ GE535.out)) hb);(try clear hb);(try clear hb2);(try clear hk);(try clear hi)))
   go_ret
   exact ⟨by first|rfl|(simp [yt,yu] <;> rfl)|(simp [*,yt,yu] <;> rfl),by repeat (with_reducible first|exact HB.out|apply za|apply zb|apply zc|refine zd ?_ GE534.out|refine zd ?_ GE535.out)⟩
  replace c6:=yb.mpr c6;subst c6;have H1 : (some false)=some r:=by rw [if_neg (show ¬ (false=true) by decide)] at H;exact H
  clear H;have H:=H1;clear H1;obtain rfl:=zU H
  go_enter Tryz.func27,Tryz.ntmps27
  go_wp2_with (first|((with_reducible refine zK (N:=2) rfl ?_);refine zI ?hg (N:=2) ?hd (cs:=#[.int .i64 a0_0,.int .i64 a0_1,.slice A0_2 l0_2.length c0_2,.slice A0_3 l0_3.length c0_3,.bool a0_4,.bool a0_5,.slice A0_6 l0_6.length c0_6]) (t:=44) ?hr ?_;(case hd|hg => rfl);(case hr => go_simp <;> rfl);intro gb534 hg w16 hbox hb;have BK534:=zh (hbox);have hH_:=cH (by repeat (with_reducible first|exact HB.out|apply za|apply zb|apply zc)) hb hg;have GW534:=zh hH_.1;have GE534:=GW534;replace HB:=zh hH_.2;clear hb hbox hg hH_)|((with_reducible refine zK (N:=3) rfl ?_);refine zI ?hg (N:=3) ?hd (cs:=#[.int .i64 a1_0,.int .i64 a1_1,.slice A1_2 l1_2.length c1_2,.slice A1_3 l1_3.length c1_3,.bool a1_4,.bool a1_5,.slice A1_6 l1_6.length c1_6]) (t:=44) ?hr ?_;(case hd|hg => rfl);(case hr => go_simp <;> rfl);intro gb535 hg w17 hbox hb;have BK535:=zh (hbox);have hH_:=cH (by repeat (with_reducible first|exact HB.out|apply za|apply zb|apply zc|refine zd ?_ GE534.out)) hb hg;have GW535:=zh hH_.1;have GE535:=GW535;replace HB:=zh hH_.2;have NB534_535:=zh ((by rw [hg];exact yc (yi (g:=gb534) (o:=.cells #[.int .i64 a0_0,.int .i64 a0_1,.slice A0_2 l0_2.length c0_2,.slice A0_3 l0_3.length c0_3,.bool a0_4,.bool a0_5,.slice A0_6 l0_6.length c0_6] 44 (0,0)) (by (with_reducible repeat first|apply ze|apply zf|apply zg);exact BK534.out)) : gb534≠gb535));have NB535_534:=zh NB534_535.out.symm;replace BK534:=zh (cD BK534.out (by (with_reducible repeat first|apply ze|apply zf|apply zg);exact BK534.out) hb);clear hb hbox hg hH_;have hnb18:=NB534_535.out;have hnc18:=NB535_534.out;obtain ⟨hcz19_0,hcz19_1,hcz19_2,hcz19_3,hcz19_4,hcz19_5,hcz19_6,hfz19_0,hfz19_1,hfz19_2,hfz19_3,hfz19_4,hfz19_5,hfz19_6⟩:=cB7 BK534.out;obtain ⟨hcz20_0,hcz20_1,hcz20_2,hcz20_3,hcz20_4,hcz20_5,hcz20_6,hfz20_0,hfz20_1,hfz20_2,hfz20_3,hfz20_4,hfz20_5,hfz20_6⟩:=cB7 BK535.out)|((with_reducible refine zJ (f:=48) rfl ?_);refine yj (some 9) rfl rfl Tryz.func48 (by kernel_rfl) rfl #[.agg #[.int .i64 a0_0,.int .i64 a0_1,.slice A0_2 l0_2.length c0_2,.slice A0_3 l0_3.length c0_3,.bool a0_4,.bool a0_5],.agg #[.int .i64 a1_0,.int .i64 a1_1,.slice A1_2 l1_2.length c1_2,.slice A1_3 l1_3.length c1_3,.bool a1_4,.bool a1_5]] rfl (by (try simp only [zt,zu,zv]);first|done|rfl|(simp only [zw,zx];rfl)|(simp only [yr,ys,zV,zW];rfl)) ?_;(with_reducible refine (F7.calls k  a0_0 a0_1 _ _ l0_2 _ _ l0_3 a0_4 a0_5 a1_0 a1_1 _ _ l1_2 _ _ l1_3 a1_4 a1_5 true _ ?side1 ?side2 ?side3 ?side4 ?side5 ?side6 ?side7 ?side8 A3.out).mono ?_);(case side1 => repeat (first|exact (Kd.C_below HR0_2.out HB.out)|(with_reducible refine Kd.C_alloc ?_ _)|(with_reducible refine Kd.C_drewN ?_ _)|(with_reducible refine Kd.C_drew ?_)));(case side2 => exact HC0_2.out);(case side3 => repeat (first|exact (Kd.C_below HR0_3.out HB.out)|(with_reducible refine Kd.C_alloc ?_ _)|(with_reducible refine Kd.C_drewN ?_ _)|(with_reducible refine Kd.C_drew ?_)));(case side4 => exact HC0_3.out);(case side5 => repeat (first|exact (Kd.C_below HR1_2.out HB.out)|(with_reducible refine Kd.C_alloc ?_ _)|(with_reducible refine Kd.C_drewN ?_ _)|(with_reducible refine Kd.C_drew ?_)));(case side6 => exact HC1_2.out);(case side7 => repeat (first|exact (Kd.C_below HR1_3.out HB.out)|(with_reducible refine Kd.C_alloc ?_ _)|(with_reducible refine Kd.C_drewN ?_ _)|(with_reducible refine Kd.C_drew ?_)));(case side8 => exact HC1_3.out);rintro e w21 ⟨rfl,hb⟩;refine ⟨_,rfl,?_⟩;replace BK534:=zh (cD BK534.out (by (with_reducible repeat first|apply ze|apply zf|apply zg);exact BK534.out) hb);replace BK535:=zh (cD BK535.out (by (with_reducible repeat first|apply ze|apply zf|apply zg);exact BK535.out) hb);replace HB:=zh (zC (by repeat (with_reducible first|exact HB.out|apply za|apply zb|apply zc|refine zd ?_ GE534.out|refine zd ?_ GE535.out)) hb);(try clear hb);(try clear hb2);(try clear hk);(try clear hi);obtain ⟨hcz22_0,hcz22_1,hcz22_2,hcz22_3,hcz22_4,hcz22_5,hcz22_6,hfz22_0,hfz22_1,hfz22_2,hfz22_3,hfz22_4,hfz22_5,hfz22_6⟩:=cB7 BK534.out;obtain ⟨hcz23_0,hcz23_1,hcz23_2,hcz23_3,hcz23_4,hcz23_5,hcz23_6,hfz23_0,hfz23_1,hfz23_2,hfz23_3,hfz23_4,hfz23_5,hfz23_6⟩:=cB7 BK535.out)|((with_reducible refine zJ (f:=49) rfl ?_);refine yj (some 15) rfl rfl Tryz.func49 (by kernel_rfl) rfl #[.slice A0_6 l0_6.length c0_6,.slice A1_6 l1_6.length c1_6] rfl (by (try simp only [zt,zu,zv]);first|done|rfl|(simp only [zw,zx];rfl)|(simp only [yr,ys,zV,zW];rfl)) ?_;(with_reducible refine (Fq.calls k  _ _ l0_6 _ _ l1_6 false _ ?side1 ?side2 ?side3 ?side4 A5.out).mono ?_);(case side1 => repeat (first|exact (Kd.C_below HR0_6.out HB.out)|(with_reducible refine Kd.C_alloc ?_ _)|(with_reducible refine Kd.C_drewN ?_ _)|(with_reducible refine Kd.C_drew ?_)));(case side2 => exact HC0_6.out);(case side3 => repeat (first|exact (Kd.C_below HR1_6.out HB.out)|(with_reducible refine Kd.C_alloc ?_ _)|(with_reducible refine Kd.C_drewN ?_ _)|(with_reducible refine Kd.C_drew ?_)));(case side4 => exact HC1_6.out);rintro e w24 ⟨rfl,hb⟩;refine ⟨_,rfl,?_⟩;replace BK534:=zh (cD BK534.out (by (with_reducible repeat first|apply ze|apply zf|apply zg);exact BK534.out) hb);replace BK535:=zh (cD BK535.out (by (with_reducible repeat first|apply ze|apply zf|apply zg);exact BK535.out) hb);replace HB:=zh (zC (by repeat (with_reducible first|exact HB.out|apply za|apply zb|apply zc|refine zd ?_ GE534.out|refine zd ?_ GE535.out)) hb);(try clear hb);(try clear hb2);(try clear hk);(try clear hi)))
  go_ret
  exact ⟨by first|rfl|(simp [yt,yu] <;> rfl)|(simp [*,yt,yu] <;> rfl),by repeat (with_reducible first|exact HB.out|apply za|apply zb|apply zc|refine zd ?_ GE534.out|refine zd ?_ GE535.out)⟩
 replace c4:=yb.mpr c4;subst c4;have H1 : (some false)=some r:=by rw [if_neg (show ¬ (false=true) by decide)] at H;exact H
 clear H;have H:=H1;clear H1;obtain rfl:=zU H
 go_enter Tryz.func27,Tryz.ntmps27
 go_wp2_with (first|((with_reducible refine zK (N:=2) rfl ?_);refine zI ?hg (N:=2) ?hd (cs:=#[.int .i64 a0_0,.int .i64 a0_1,.slice A0_2 l0_2.length c0_2,.slice A0_3 l0_3.length c0_3,.bool a0_4,.bool a0_5,.slice A0_6 l0_6.length c0_6]) (t:=44) ?hr ?_;(case hd|hg => rfl);(case hr => go_simp <;> rfl);intro gb534 hg w25 hbox hb;have BK534:=zh (hbox);have hH_:=cH (by repeat (with_reducible first|exact HB.out|apply za|apply zb|apply zc)) hb hg;have GW534:=zh hH_.1;have GE534:=GW534;replace HB:=zh hH_.2;clear hb hbox hg hH_)|((with_reducible refine zK (N:=3) rfl ?_);refine zI ?hg (N:=3) ?hd (cs:=#[.int .i64 a1_0,.int .i64 a1_1,.slice A1_2 l1_2.length c1_2,.slice A1_3 l1_3.length c1_3,.bool a1_4,.bool a1_5,.slice A1_6 l1_6.length c1_6]) (t:=44) ?hr ?_;(case hd|hg => rfl);(case hr => go_simp <;> rfl);intro gb535 hg w26 hbox hb;have BK535:=zh (hbox);have hH_:=cH (by repeat (with_reducible first|exact HB.out|apply za|apply zb|apply zc|refine zd ?_ GE534.out)) hb hg;have GW535:=zh hH_.1;have GE535:=GW535;replace HB:=zh hH_.2;have NB534_535:=zh ((by rw [hg];exact yc (yi (g:=gb534) (o:=.cells #[.int .i64 a0_0,.int .i64 a0_1,.slice A0_2 l0_2.length c0_2,.slice A0_3 l0_3.length c0_3,.bool a0_4,.bool a0_5,.slice A0_6 l0_6.length c0_6] 44 (0,0)) (by (with_reducible repeat first|apply ze|apply zf|apply zg);exact BK534.out)) : gb534≠gb535));have NB535_534:=zh NB534_535.out.symm;replace BK534:=zh (cD BK534.out (by (with_reducible repeat first|apply ze|apply zf|apply zg);exact BK534.out) hb);clear hb hbox hg hH_;have hnb27:=NB534_535.out;have hnc27:=NB535_534.out;obtain ⟨hcz28_0,hcz28_1,hcz28_2,hcz28_3,hcz28_4,hcz28_5,hcz28_6,hfz28_0,hfz28_1,hfz28_2,hfz28_3,hfz28_4,hfz28_5,hfz28_6⟩:=cB7 BK534.out;obtain ⟨hcz29_0,hcz29_1,hcz29_2,hcz29_3,hcz29_4,hcz29_5,hcz29_6,hfz29_0,hfz29_1,hfz29_2,hfz29_3,hfz29_4,hfz29_5,hfz29_6⟩:=cB7 BK535.out)|((with_reducible refine zJ (f:=48) rfl ?_);refine yj (some 9) rfl rfl Tryz.func48 (by kernel_rfl) rfl #[.agg #[.int .i64 a0_0,.int .i64 a0_1,.slice A0_2 l0_2.length c0_2,.slice A0_3 l0_3.length c0_3,.bool a0_4,.bool a0_5],.agg #[.int .i64 a1_0,.int .i64 a1_1,.slice A1_2 l1_2.length c1_2,.slice A1_3 l1_3.length c1_3,.bool a1_4,.bool a1_5]] rfl (by (try simp only [zt,zu,zv]);first|done|rfl|(simp only [zw,zx];rfl)|(simp only [yr,ys,zV,zW];rfl)) ?_;(with_reducible refine (F7.calls k  a0_0 a0_1 _ _ l0_2 _ _ l0_3 a0_4 a0_5 a1_0 a1_1 _ _ l1_2 _ _ l1_3 a1_4 a1_5 false _ ?side1 ?side2 ?side3 ?side4 ?side5 ?side6 ?side7 ?side8 A3.out).mono ?_);(case side1 => repeat (first|exact (Kd.C_below HR0_2.out HB.out)|(with_reducible refine Kd.C_alloc ?_ _)|(with_reducible refine Kd.C_drewN ?_ _)|(with_reducible refine Kd.C_drew ?_)));(case side2 => exact HC0_2.out);(case side3 => repeat (first|exact (Kd.C_below HR0_3.out HB.out)|(with_reducible refine Kd.C_alloc ?_ _)|(with_reducible refine Kd.C_drewN ?_ _)|(with_reducible refine Kd.C_drew ?_)));(case side4 => exact HC0_3.out);(case side5 => repeat (first|exact (Kd.C_below HR1_2.out HB.out)|(with_reducible refine Kd.C_alloc ?_ _)|(with_reducible refine Kd.C_drewN ?_ _)|(with_reducible refine Kd.C_drew ?_)));(case side6 => exact HC1_2.out);(case side7 => repeat (first|exact (Kd.C_below HR1_3.out HB.out)|(with_reducible refine Kd.C_alloc ?_ _)|(with_reducible refine Kd.C_drewN ?_ _)|(with_reducible refine Kd.C_drew ?_)));(case side8 => exact HC1_3.out);rintro e w30 ⟨rfl,hb⟩;refine ⟨_,rfl,?_⟩;replace BK534:=zh (cD BK534.out (by (with_reducible repeat first|apply ze|apply zf|apply zg);exact BK534.out) hb);replace BK535:=zh (cD BK535.out (by (with_reducible repeat first|apply ze|apply zf|apply zg);exact BK535.out) hb);replace HB:=zh (zC (by repeat (with_reducible first|exact HB.out|apply za|apply zb|apply zc|refine zd ?_ GE534.out|refine zd ?_ GE535.out)) hb);(try clear hb);(try clear hb2);(try clear hk);(try clear hi)))
 go_ret
 exact ⟨by first|rfl|(simp [yt,yu] <;> rfl)|(simp [*,yt,yu] <;> rfl),by repeat (with_reducible first|exact HB.out|apply za|apply zb|apply zc|refine zd ?_ GE534.out|refine zd ?_ GE535.out)⟩


def F3.l0 : Nat→List (S44)→List (S44)→Int→Option (Bool)
 | 0,_,_,_ => none
 | k + 1,x0,x1,x5 => if x5<(x0.length : Int) then (if 0≤x5 then (if x5<(x1.length : Int) then ((F0.f k ((rd_T44 x0 x5).f0.f0) ((rd_T44 x0 x5).f0.f1) ((rd_T44 x0 x5).f0.f2) ((rd_T44 x0 x5).f0.f3) ((rd_T44 x0 x5).f0.f4) ((rd_T44 x0 x5).f0.f5) ((rd_T44 x0 x5).f1) ((rd_T44 x1 x5).f0.f0) ((rd_T44 x1 x5).f0.f1) ((rd_T44 x1 x5).f0.f2) ((rd_T44 x1 x5).f0.f3) ((rd_T44 x1 x5).f0.f4) ((rd_T44 x1 x5).f0.f5) ((rd_T44 x1 x5).f1)).bind fun t540 => (if t540=true then (F3.l0 k x0 x1 (wrap64 (x5 + 1))) else (some false))) else (none)) else (none)) else (some true)
def F3.f (k : Nat) (l0 : List (S44)) (l1 : List (S44)) : Option (Bool):=if (l0.length : Int)=(l1.length : Int) then (F3.l0 k l0 l1 0) else (some false)
theorem F3.mono_l : ∀ k,(∀ y0 y1 y2,LeO (F3.l0 k y0 y1 y2) (F3.l0 (k + 1) y0 y1 y2))
 | 0 => fun _ _ _ r h => by simp [F3.l0] at h
 | k + 1 => by
  have ih0:=F3.mono_l k;intro y0 y1 y2;unfold F3.l0
  repeat' first|(with_reducible first|exact ih0 _ _ _|exact F0.mono _ _ _ _ _ _ _ _ _ _ _ _ _ _ _|exact zQ _|exact zN _|refine zP ?_ ?_|refine zO ?_ (fun _ => ?_))|refine zP ?_ ?_|refine zO ?_ (fun _ => ?_)
theorem F3.mono : ∀ a0 a1 k,LeO (F3.f k a0 a1) (F3.f (k + 1) a0 a1):=by
 intro a0 a1 k;have ih0:=F3.mono_l k;unfold F3.f
 repeat' first|(with_reducible first|exact ih0 _ _ _|exact F0.mono _ _ _ _ _ _ _ _ _ _ _ _ _ _ _|exact zQ _|exact zN _|refine zP ?_ ?_|refine zO ?_ (fun _ => ?_))|refine zP ?_ ?_|refine zO ?_ (fun _ => ?_)
def F3.T6 : Bool×List (List Nat×List Nat):=(true,[([],[]),([],[]),([0,1],[0,1]),([2],[2]),([],[]),([],[]),([4,5],[4,5]),([6],[6]),([3,7],[3,7]),([8],[8])])
def F3.B6 : List Nat:=[0,0,3,7,0,0,48,112,255,511]
theorem F3.tab6 : rtab .any (opsOf Tryz.f14 6)=F3.T6:=by kernel_rfl
theorem F3.bits6 : waitsOk F3.T6.2 F3.B6=true:=by kernel_rfl
set_option maxHeartbeats 8000000 in
set_option maxRecDepth 100000 in
theorem F3.calls (k : Nat) (A0 : Option Addr) (c0 : Nat) (l0 : List (S44)) (A1 : Option Addr) (c1 : Nat) (l1 : List (S44)) (r : Bool) (w : World) (hr0 : Kd.C k44 w A0 l0.length l0) (hc0 : l0.length≤c0) (hr1 : Kd.C k44 w A1 l1.length l1) (hc1 : l1.length≤c1) (h : F3.f k l0 l1=some r) :
  Calls Tryz.prog 14 #[.slice A0 l0.length c0,.slice A1 l1.length c1] w fun e w' => e = .returned (.bool r)∧Below w.heap.size w w':=by
 have hu44:=Tryz.underlying44;have HR0:=zh hr0;have HC0:=zh hc0;clear hr0 hc0;have HR1:=zh hr1;have HC1:=zh hc1;clear hr1 hc1;have HB:=zh (Below.refl w.heap.size w);have H : (if (l0.length : Int)=(l1.length : Int) then (F3.l0 k l0 l1 0) else (some false))=some r:=h;clear h
 by_cases c3 : (l0.length : Int)=(l1.length : Int)
 ·
  rw [if_pos c3] at H
  have c3b0 : ((l0.length : Int) == (l1.length : Int))=true:=ya.mpr c3;have c3b1 : ((l0.length : Int) != (l1.length : Int))=false:=zX.mpr c3;have c3b2 : (l0.length == l1.length)=true:=by first|simpa using c3|(simp at c3 ⊢;omega)
  clear c3;have H':=zh H;clear H
  go_enter Tryz.func14,Tryz.ntmps14
  go_wp2
  go_loopg [5] k (fun kq v5 w' => ∃ (x5_1 : Int),v5 = .int .i64 x5_1∧Aside0 (F3.l0 kq l0 l1 x5_1=some r)∧Aside0 (kq≤k)∧Aside0 (Below w.heap.size w w'))
  case atStart => exact ⟨(0),(by first|rfl|(simp;done)|(simp [*];done)),H',⟨ye _⟩,⟨by repeat (with_reducible first|exact HB.out|apply za|apply zb|apply zc)⟩⟩
  case round =>
   clear H'
   try clear c1
   try clear p2
   try clear c3 c3b0 c3b1 c3b2
   obtain ⟨x5_1,rfl,HA,HK1,HB⟩:=hrel
   cases gk with
   | zero => exact absurd HA.out (by simp [F3.l0])
   | succ k1 =>
    have H:=HA.out;clear HA;simp only [F3.l0] at H
    by_cases c4 : x5_1<(l0.length : Int)
    ·
     rw [if_pos c4] at H
     have c4b0 : decide (x5_1<(l0.length : Int))=true:=decide_eq_true c4;clear c4
     by_cases c5 : 0≤x5_1
     ·
      rw [if_pos c5] at H
      have c5b0 : decide (0≤x5_1)=true:=decide_eq_true c5;clear c5
      by_cases c6 : x5_1<(l1.length : Int)
      ·
       rw [if_pos c6] at H
       have c6b0 : decide (x5_1<(l1.length : Int))=true:=decide_eq_true c6;clear c6;replace H:=zT.mp H;obtain ⟨t540,A70,H⟩:=H;replace H : (if t540=true then (F3.l0 k1 l0 l1 (wrap64 (x5_1 + 1))) else (some false))=some r:=H;have A7:=zh A70;clear A70
       by_cases c8 : t540=true
       ·
        subst c8
        have H1 : (F3.l0 k1 l0 l1 (wrap64 (x5_1 + 1)))=some r:=by rw [if_pos rfl] at H;exact H
        clear H;have H:=H1;clear H1;have H':=zh H;clear H
        try go_wp2
        replace HB:=zh (zc HB.out);have p538 : 0≤(x5_1 : Int):=zy (by first|(with_reducible assumption)|assumption);have q538 : x5_1<(l0.length : Int):=zy (by first|(with_reducible assumption)|assumption);obtain ⟨ad538,A538_2,c538_2,A538_3,c538_3,A538_6,c538_6,e538,hx538_0,hx538_1,hx538_2,hx538_3,hx538_4,hx538_5,hx538_6,hl538_2,hi538_2,hl538_3,hi538_3,hl538_6,hi538_6⟩:=at_T44 HR0.out x5_1 p538 q538;have hw538_6:=hx538_6;have hw538_5:=hx538_5;have hw538_4:=hx538_4;have hw538_3:=hx538_3;have hw538_2:=hx538_2;have hw538_1:=hx538_1;have hw538_0:=hx538_0
        cases e538
        replace hx538_0:=(HB.out.cell (zl w _ hx538_0)).trans hx538_0;replace hx538_1:=(HB.out.cell (zl w _ hx538_1)).trans hx538_1;replace hx538_2:=(HB.out.cell (zl w _ hx538_2)).trans hx538_2;replace hx538_3:=(HB.out.cell (zl w _ hx538_3)).trans hx538_3;replace hx538_4:=(HB.out.cell (zl w _ hx538_4)).trans hx538_4;replace hx538_5:=(HB.out.cell (zl w _ hx538_5)).trans hx538_5;replace hx538_6:=(HB.out.cell (zl w _ hx538_6)).trans hx538_6;have HR538_2:=zh hi538_2;have HC538_2:=zh hl538_2;clear hi538_2 hl538_2;have HR538_3:=zh hi538_3;have HC538_3:=zh hl538_3;clear hi538_3 hl538_3;have HR538_6:=zh hi538_6;have HC538_6:=zh hl538_6;clear hi538_6 hl538_6;replace p538:=eq_true p538;replace q538:=eq_true q538;have p539 : 0≤(x5_1 : Int):=zy (by first|(with_reducible assumption)|assumption);have q539 : x5_1<(l1.length : Int):=zy (by first|(with_reducible assumption)|assumption);obtain ⟨ad539,A539_2,c539_2,A539_3,c539_3,A539_6,c539_6,e539,hx539_0,hx539_1,hx539_2,hx539_3,hx539_4,hx539_5,hx539_6,hl539_2,hi539_2,hl539_3,hi539_3,hl539_6,hi539_6⟩:=at_T44 HR1.out x5_1 p539 q539;have hw539_6:=hx539_6;have hw539_5:=hx539_5;have hw539_4:=hx539_4;have hw539_3:=hx539_3;have hw539_2:=hx539_2;have hw539_1:=hx539_1;have hw539_0:=hx539_0
        cases e539
        replace hx539_0:=(HB.out.cell (zl w _ hx539_0)).trans hx539_0;replace hx539_1:=(HB.out.cell (zl w _ hx539_1)).trans hx539_1;replace hx539_2:=(HB.out.cell (zl w _ hx539_2)).trans hx539_2;replace hx539_3:=(HB.out.cell (zl w _ hx539_3)).trans hx539_3;replace hx539_4:=(HB.out.cell (zl w _ hx539_4)).trans hx539_4;replace hx539_5:=(HB.out.cell (zl w _ hx539_5)).trans hx539_5;replace hx539_6:=(HB.out.cell (zl w _ hx539_6)).trans hx539_6;have HR539_2:=zh hi539_2;have HC539_2:=zh hl539_2;clear hi539_2 hl539_2;have HR539_3:=zh hi539_3;have HC539_3:=zh hl539_3;clear hi539_3 hl539_3;have HR539_6:=zh hi539_6;have HC539_6:=zh hl539_6;clear hi539_6 hl539_6;replace p539:=eq_true p539;replace q539:=eq_true q539;refine start_ (n:=10) (S:=fun w' => w'.cell? (ad538.add ((x5_1).toNat * 7))=some (.int .i64 ((rd_T44 l0 x5_1).f0.f0))∧w'.cell? ⟨(ad538.add ((x5_1).toNat * 7)).block,(ad538.add ((x5_1).toNat * 7)).off + 1,none⟩=some (.int .i64 ((rd_T44 l0 x5_1).f0.f1))∧w'.cell? ⟨(ad538.add ((x5_1).toNat * 7)).block,(ad538.add ((x5_1).toNat * 7)).off + 2,none⟩=some (.slice A538_2 ((rd_T44 l0 x5_1).f0.f2).length c538_2)∧w'.cell? ⟨(ad538.add ((x5_1).toNat * 7)).block,(ad538.add ((x5_1).toNat * 7)).off + 3,none⟩=some (.slice A538_3 ((rd_T44 l0 x5_1).f0.f3).length c538_3)∧w'.cell? ⟨(ad538.add ((x5_1).toNat * 7)).block,(ad538.add ((x5_1).toNat * 7)).off + 4,none⟩=some (.bool ((rd_T44 l0 x5_1).f0.f4))∧w'.cell? ⟨(ad538.add ((x5_1).toNat * 7)).block,(ad538.add ((x5_1).toNat * 7)).off + 5,none⟩=some (.bool ((rd_T44 l0 x5_1).f0.f5))∧w'.cell? ⟨(ad538.add ((x5_1).toNat * 7)).block,(ad538.add ((x5_1).toNat * 7)).off + 6,none⟩=some (.slice A538_6 ((rd_T44 l0 x5_1).f1).length c538_6)∧w'.cell? (ad539.add ((x5_1).toNat * 7))=some (.int .i64 ((rd_T44 l1 x5_1).f0.f0))∧w'.cell? ⟨(ad539.add ((x5_1).toNat * 7)).block,(ad539.add ((x5_1).toNat * 7)).off + 1,none⟩=some (.int .i64 ((rd_T44 l1 x5_1).f0.f1))∧w'.cell? ⟨(ad539.add ((x5_1).toNat * 7)).block,(ad539.add ((x5_1).toNat * 7)).off + 2,none⟩=some (.slice A539_2 ((rd_T44 l1 x5_1).f0.f2).length c539_2)∧w'.cell? ⟨(ad539.add ((x5_1).toNat * 7)).block,(ad539.add ((x5_1).toNat * 7)).off + 3,none⟩=some (.slice A539_3 ((rd_T44 l1 x5_1).f0.f3).length c539_3)∧w'.cell? ⟨(ad539.add ((x5_1).toNat * 7)).block,(ad539.add ((x5_1).toNat * 7)).off + 4,none⟩=some (.bool ((rd_T44 l1 x5_1).f0.f4))∧w'.cell? ⟨(ad539.add ((x5_1).toNat * 7)).block,(ad539.add ((x5_1).toNat * 7)).off + 5,none⟩=some (.bool ((rd_T44 l1 x5_1).f0.f5))∧w'.cell? ⟨(ad539.add ((x5_1).toNat * 7)).block,(ad539.add ((x5_1).toNat * 7)).off + 6,none⟩=some (.slice A539_6 ((rd_T44 l1 x5_1).f1).length c539_6)) (ds:=[]) (bm_ 0 10) (by kernel_rfl) rfl rfl ⟨((HB.out.cell (zl w _ hw538_0)).trans hw538_0),((HB.out.cell (zl w _ hw538_1)).trans hw538_1),((HB.out.cell (zl w _ hw538_2)).trans hw538_2),((HB.out.cell (zl w _ hw538_3)).trans hw538_3),((HB.out.cell (zl w _ hw538_4)).trans hw538_4),((HB.out.cell (zl w _ hw538_5)).trans hw538_5),((HB.out.cell (zl w _ hw538_6)).trans hw538_6),((HB.out.cell (zl w _ hw539_0)).trans hw539_0),((HB.out.cell (zl w _ hw539_1)).trans hw539_1),((HB.out.cell (zl w _ hw539_2)).trans hw539_2),((HB.out.cell (zl w _ hw539_3)).trans hw539_3),((HB.out.cell (zl w _ hw539_4)).trans hw539_4),((HB.out.cell (zl w _ hw539_5)).trans hw539_5),((HB.out.cell (zl w _ hw539_6)).trans hw539_6)⟩ (fun hHeld => ?_);refine with_tabW F3.tab6 F3.bits6 (fun HT_ HW_ => ?_);generalize wr.drew=w9 at HB HR538_2 HR538_3 HR538_6 HR539_2 HR539_3 HR539_6 hx538_0 hx538_1 hx538_2 hx538_3 hx538_4 hx538_5 hx538_6 hx539_0 hx539_1 hx539_2 hx539_3 hx539_4 hx539_5 hx539_6 hHeld ⊢;refine pure_ (i:=0) (N:=some 17) (v:=?_) (a':=?_) (bm_ 1 10) rfl rfl (any_of HT_.out (by kernel_rfl)) (fun _ _ _ h => h) (Or.inl ⟨by rfl,?_⟩) ?_ ?_;rotate_left
        ·
         intro w'
         go_simp
         with_reducible rfl
        rotate_left
        ·
         simp only [Act.put,zi,zj,zk,zG,zH]
         rfl
        refine pure_ (i:=1) (N:=some 18) (v:=?_) (a':=?_) (bm_ 2 10) rfl rfl (any_of HT_.out (by kernel_rfl)) (fun _ _ _ h => h) (Or.inl ⟨by rfl,?_⟩) ?_ ?_;rotate_left
        ·
         intro w'
         go_simp
         with_reducible rfl
        rotate_left
        ·
         simp only [Act.put,zi,zj,zk,zG,zH]
         rfl
        refine pure_ (i:=2) (N:=some 19) (v:=?_) (a':=?_) (bm_ 3 10) rfl rfl (any_of HT_.out (by kernel_rfl)) (fun _ _ _ h => h) (Or.inl ⟨by rfl,?_⟩) ?_ ?_;rotate_left
        ·
         intro w'
         go_simp
         with_reducible rfl
        rotate_left
        ·
         simp only [Act.put,zi,zj,zk,zG,zH]
         rfl
        refine pure_ (i:=4) (N:=some 21) (v:=?_) (a':=?_) #[true,true,true,false,true,false,false,false,false,false] rfl rfl (any_of HT_.out (by kernel_rfl)) (fun _ _ _ h => h) (Or.inl ⟨by rfl,?_⟩) ?_ ?_;rotate_left
        ·
         intro w'
         go_simp
         with_reducible rfl
        rotate_left
        ·
         simp only [Act.put,zi,zj,zk,zG,zH]
         rfl
        refine pure_ (i:=5) (N:=some 22) (v:=?_) (a':=?_) #[true,true,true,false,true,true,false,false,false,false] rfl rfl (any_of HT_.out (by kernel_rfl)) (fun _ _ _ h => h) (Or.inl ⟨by rfl,?_⟩) ?_ ?_;rotate_left
        ·
         intro w'
         go_simp
         with_reducible rfl
        rotate_left
        ·
         simp only [Act.put,zi,zj,zk,zG,zH]
         rfl
        refine pure_ (i:=6) (N:=some 23) (v:=?_) (a':=?_) #[true,true,true,false,true,true,true,false,false,false] rfl rfl (any_of HT_.out (by kernel_rfl)) (fun _ _ _ h => h) (Or.inl ⟨by rfl,?_⟩) ?_ ?_;rotate_left
        ·
         intro w'
         go_simp
         with_reducible rfl
        rotate_left
        ·
         simp only [Act.put,zi,zj,zk,zG,zH]
         rfl
        refine take_ (i:=3) (N:=some 20) (v:=?_) (a':=?_) (bm_ 7 10) rfl rfl (yo HT_.out HW_.out (by kernel_rfl)) (fun _ _ _ h => h) (Or.inl ⟨by rfl,?_⟩) hHeld ?_ ?_;rotate_left
        ·
         rintro w' ⟨s0,s1,s2,s3,s4,s5,s6,s7,s8,s9,s10,s11,s12,s13⟩
         go_simp
         with_reducible rfl
        rotate_left
        ·
         simp only [Act.put,zi,zj,zk,zG,zH]
         rfl
        refine take_ (i:=7) (N:=some 24) (v:=?_) (a':=?_) (bm_ 8 10) rfl rfl (yo HT_.out HW_.out (by kernel_rfl)) (fun _ _ _ h => h) (Or.inl ⟨by rfl,?_⟩) hHeld ?_ ?_;rotate_left
        ·
         rintro w' ⟨s0,s1,s2,s3,s4,s5,s6,s7,s8,s9,s10,s11,s12,s13⟩
         go_simp
         with_reducible rfl
        rotate_left
        ·
         simp only [Act.put,zi,zj,zk,zG,zH]
         rfl
        refine one_ (i:=8) (N:=some 25) (bm_ 9 10) rfl rfl (one_of HT_.out (by kernel_rfl)) (by decide) (fun K hK => ?_);refine goes_ Tryz.func27 (by kernel_rfl) rfl #[.agg #[.int .i64 ((rd_T44 l0 x5_1).f0.f0),.int .i64 ((rd_T44 l0 x5_1).f0.f1),.slice A538_2 ((rd_T44 l0 x5_1).f0.f2).length c538_2,.slice A538_3 ((rd_T44 l0 x5_1).f0.f3).length c538_3,.bool ((rd_T44 l0 x5_1).f0.f4),.bool ((rd_T44 l0 x5_1).f0.f5),.slice A538_6 ((rd_T44 l0 x5_1).f1).length c538_6],.agg #[.int .i64 ((rd_T44 l1 x5_1).f0.f0),.int .i64 ((rd_T44 l1 x5_1).f0.f1),.slice A539_2 ((rd_T44 l1 x5_1).f0.f2).length c539_2,.slice A539_3 ((rd_T44 l1 x5_1).f0.f3).length c539_3,.bool ((rd_T44 l1 x5_1).f0.f4),.bool ((rd_T44 l1 x5_1).f0.f5),.slice A539_6 ((rd_T44 l1 x5_1).f1).length c539_6]] (by rfl) rfl rfl (by (try simp only [zt,zu,zv]);first|done|rfl|(simp only [zw,zx];rfl)|(simp only [yr,ys,zV,zW];rfl)) ?_
        with_reducible refine (F0.calls k1  ((rd_T44 l0 x5_1).f0.f0) ((rd_T44 l0 x5_1).f0.f1) _ _ ((rd_T44 l0 x5_1).f0.f2) _ _ ((rd_T44 l0 x5_1).f0.f3) ((rd_T44 l0 x5_1).f0.f4) ((rd_T44 l0 x5_1).f0.f5) _ _ ((rd_T44 l0 x5_1).f1) ((rd_T44 l1 x5_1).f0.f0) ((rd_T44 l1 x5_1).f0.f1) _ _ ((rd_T44 l1 x5_1).f0.f2) _ _ ((rd_T44 l1 x5_1).f0.f3) ((rd_T44 l1 x5_1).f0.f4) ((rd_T44 l1 x5_1).f0.f5) _ _ ((rd_T44 l1 x5_1).f1) true _ ?side1 ?side2 ?side3 ?side4 ?side5 ?side6 ?side7 ?side8 ?side9 ?side10 ?side11 ?side12 A7.out).mono ?_
        (case side1 => repeat (first|exact (Kd.C_below HR538_2.out HB.out)|(with_reducible refine Kd.C_alloc ?_ _)|(with_reducible refine Kd.C_drewN ?_ _)|(with_reducible refine Kd.C_drew ?_)))
        (case side2 => exact HC538_2.out)
        (case side3 => repeat (first|exact (Kd.C_below HR538_3.out HB.out)|(with_reducible refine Kd.C_alloc ?_ _)|(with_reducible refine Kd.C_drewN ?_ _)|(with_reducible refine Kd.C_drew ?_)))
        (case side4 => exact HC538_3.out)
        (case side5 => repeat (first|exact (Kd.C_below HR538_6.out HB.out)|(with_reducible refine Kd.C_alloc ?_ _)|(with_reducible refine Kd.C_drewN ?_ _)|(with_reducible refine Kd.C_drew ?_)))
        (case side6 => exact HC538_6.out)
        (case side7 => repeat (first|exact (Kd.C_below HR539_2.out HB.out)|(with_reducible refine Kd.C_alloc ?_ _)|(with_reducible refine Kd.C_drewN ?_ _)|(with_reducible refine Kd.C_drew ?_)))
        (case side8 => exact HC539_2.out)
        (case side9 => repeat (first|exact (Kd.C_below HR539_3.out HB.out)|(with_reducible refine Kd.C_alloc ?_ _)|(with_reducible refine Kd.C_drewN ?_ _)|(with_reducible refine Kd.C_drew ?_)))
        (case side10 => exact HC539_3.out)
        (case side11 => repeat (first|exact (Kd.C_below HR539_6.out HB.out)|(with_reducible refine Kd.C_alloc ?_ _)|(with_reducible refine Kd.C_drewN ?_ _)|(with_reducible refine Kd.C_drew ?_)))
        (case side12 => exact HC539_6.out)
        rintro e w10 ⟨rfl,hb⟩;refine ⟨_,rfl,?_⟩;replace HB:=zh (zC (by repeat (with_reducible first|exact HB.out|apply za|apply zb|apply zc)) hb);(try clear hb);(try clear hb2);(try clear hk);(try clear hi);refine hK.out _ _ ⟨((HB.out.cell (zl w _ hw538_0)).trans hw538_0),((HB.out.cell (zl w _ hw538_1)).trans hw538_1),((HB.out.cell (zl w _ hw538_2)).trans hw538_2),((HB.out.cell (zl w _ hw538_3)).trans hw538_3),((HB.out.cell (zl w _ hw538_4)).trans hw538_4),((HB.out.cell (zl w _ hw538_5)).trans hw538_5),((HB.out.cell (zl w _ hw538_6)).trans hw538_6),((HB.out.cell (zl w _ hw539_0)).trans hw539_0),((HB.out.cell (zl w _ hw539_1)).trans hw539_1),((HB.out.cell (zl w _ hw539_2)).trans hw539_2),((HB.out.cell (zl w _ hw539_3)).trans hw539_3),((HB.out.cell (zl w _ hw539_4)).trans hw539_4),((HB.out.cell (zl w _ hw539_5)).trans hw539_5),((HB.out.cell (zl w _ hw539_6)).trans hw539_6)⟩ (fun hHeld => ?_);clear hK K;refine norm_ (a':=?_) ?_ ?_;rotate_left
        ·
         show Act.put _ (some 25) _=_
         simp only [Act.put,zi,zj,zk,zG,zH]
         rfl
        refine pure_ (i:=9) (N:=some 26) (v:=?_) (a':=?_) (bm_ 10 10) rfl rfl (any_of HT_.out (by kernel_rfl)) (fun _ _ _ h => h) (Or.inl ⟨by rfl,?_⟩) ?_ ?_;rotate_left
        ·
         intro w'
         go_simp
         with_reducible rfl
        rotate_left
        ·
         simp only [Act.put,zi,zj,zk,zG,zH]
         rfl
        refine done_ (done_of HT_.out (by kernel_rfl)) ?_
        try go_wp2
        go_roundg k1
        case measure => have:=HK1.out;omega
        case rel => exact ⟨(wrap64 (x5_1 + 1)),(by first|rfl|(simp;done)|(simp [*];done)),H',⟨by have:=HK1.out;omega⟩,⟨by repeat (with_reducible first|exact HB.out|apply za|apply zb|apply zc)⟩⟩
       replace c8:=yb.mpr c8;subst c8;have H1 : (some false)=some r:=by rw [if_neg (show ¬ (false=true) by decide)] at H;exact H
       clear H;have H:=H1;clear H1;obtain rfl:=zU H
       try go_wp2
       replace HB:=zh (zc HB.out);have p538 : 0≤(x5_1 : Int):=zy (by first|(with_reducible assumption)|assumption);have q538 : x5_1<(l0.length : Int):=zy (by first|(with_reducible assumption)|assumption);obtain ⟨ad538,A538_2,c538_2,A538_3,c538_3,A538_6,c538_6,e538,hx538_0,hx538_1,hx538_2,hx538_3,hx538_4,hx538_5,hx538_6,hl538_2,hi538_2,hl538_3,hi538_3,hl538_6,hi538_6⟩:=at_T44 HR0.out x5_1 p538 q538;have hw538_6:=hx538_6;have hw538_5:=hx538_5;have hw538_4:=hx538_4;have hw538_3:=hx538_3;have hw538_2:=hx538_2;have hw538_1:=hx538_1;have hw538_0:=hx538_0
       cases e538
       replace hx538_0:=(HB.out.cell (zl w _ hx538_0)).trans hx538_0;replace hx538_1:=(HB.out.cell (zl w _ hx538_1)).trans hx538_1;replace hx538_2:=(HB.out.cell (zl w _ hx538_2)).trans hx538_2;replace hx538_3:=(HB.out.cell (zl w _ hx538_3)).trans hx538_3;replace hx538_4:=(HB.out.cell (zl w _ hx538_4)).trans hx538_4;replace hx538_5:=(HB.out.cell (zl w _ hx538_5)).trans hx538_5;replace hx538_6:=(HB.out.cell (zl w _ hx538_6)).trans hx538_6;have HR538_2:=zh hi538_2;have HC538_2:=zh hl538_2;clear hi538_2 hl538_2;have HR538_3:=zh hi538_3;have HC538_3:=zh hl538_3;clear hi538_3 hl538_3;have HR538_6:=zh hi538_6;have HC538_6:=zh hl538_6;clear hi538_6 hl538_6;replace p538:=eq_true p538;replace q538:=eq_true q538;have p539 : 0≤(x5_1 : Int):=zy (by first|(with_reducible assumption)|assumption);have q539 : x5_1<(l1.length : Int):=zy (by first|(with_reducible assumption)|assumption);obtain ⟨ad539,A539_2,c539_2,A539_3,c539_3,A539_6,c539_6,e539,hx539_0,hx539_1,hx539_2,hx539_3,hx539_4,hx539_5,hx539_6,hl539_2,hi539_2,hl539_3,hi539_3,hl539_6,hi539_6⟩:=at_T44 HR1.out x5_1 p539 q539;have hw539_6:=hx539_6;have hw539_5:=hx539_5;have hw539_4:=hx539_4;have hw539_3:=hx539_3;have hw539_2:=hx539_2;have hw539_1:=hx539_1;have hw539_0:=hx539_0
       cases e539
       replace hx539_0:=(HB.out.cell (zl w _ hx539_0)).trans hx539_0;replace hx539_1:=(HB.out.cell (zl w _ hx539_1)).trans hx539_1;replace hx539_2:=(HB.out.cell (zl w _ hx539_2)).trans hx539_2;replace hx539_3:=(HB.out.cell (zl w _ hx539_3)).trans hx539_3;replace hx539_4:=(HB.out.cell (zl w _ hx539_4)).trans hx539_4;replace hx539_5:=(HB.out.cell (zl w _ hx539_5)).trans hx539_5;replace hx539_6:=(HB.out.cell (zl w _ hx539_6)).trans hx539_6;have HR539_2:=zh hi539_2;have HC539_2:=zh hl539_2;clear hi539_2 hl539_2;have HR539_3:=zh hi539_3;have HC539_3:=zh hl539_3;clear hi539_3 hl539_3;have HR539_6:=zh hi539_6;have HC539_6:=zh hl539_6;clear hi539_6 hl539_6;replace p539:=eq_true p539;replace q539:=eq_true q539;refine start_ (n:=10) (S:=fun w' => w'.cell? (ad538.add ((x5_1).toNat * 7))=some (.int .i64 ((rd_T44 l0 x5_1).f0.f0))∧w'.cell? ⟨(ad538.add ((x5_1).toNat * 7)).block,(ad538.add ((x5_1).toNat * 7)).off + 1,none⟩=some (.int .i64 ((rd_T44 l0 x5_1).f0.f1))∧w'.cell? ⟨(ad538.add ((x5_1).toNat * 7)).block,(ad538.add ((x5_1).toNat * 7)).off + 2,none⟩=some (.slice A538_2 ((rd_T44 l0 x5_1).f0.f2).length c538_2)∧w'.cell? ⟨(ad538.add ((x5_1).toNat * 7)).block,(ad538.add ((x5_1).toNat * 7)).off + 3,none⟩=some (.slice A538_3 ((rd_T44 l0 x5_1).f0.f3).length c538_3)∧w'.cell? ⟨(ad538.add ((x5_1).toNat * 7)).block,(ad538.add ((x5_1).toNat * 7)).off + 4,none⟩=some (.bool ((rd_T44 l0 x5_1).f0.f4))∧w'.cell? ⟨(ad538.add ((x5_1).toNat * 7)).block,(ad538.add ((x5_1).toNat * 7)).off + 5,none⟩=some (.bool ((rd_T44 l0 x5_1).f0.f5))∧w'.cell? ⟨(ad538.add ((x5_1).toNat * 7)).block,(ad538.add ((x5_1).toNat * 7)).off + 6,none⟩=some (.slice A538_6 ((rd_T44 l0 x5_1).f1).length c538_6)∧w'.cell? (ad539.add ((x5_1).toNat * 7))=some (.int .i64 ((rd_T44 l1 x5_1).f0.f0))∧w'.cell? ⟨(ad539.add ((x5_1).toNat * 7)).block,(ad539.add ((x5_1).toNat * 7)).off + 1,none⟩=some (.int .i64 ((rd_T44 l1 x5_1).f0.f1))∧w'.cell? ⟨(ad539.add ((x5_1).toNat * 7)).block,(ad539.add ((x5_1).toNat * 7)).off + 2,none⟩=some (.slice A539_2 ((rd_T44 l1 x5_1).f0.f2).length c539_2)∧w'.cell? ⟨(ad539.add ((x5_1).toNat * 7)).block,(ad539.add ((x5_1).toNat * 7)).off + 3,none⟩=some (.slice A539_3 ((rd_T44 l1 x5_1).f0.f3).length c539_3)∧w'.cell? ⟨(ad539.add ((x5_1).toNat * 7)).block,(ad539.add ((x5_1).toNat * 7)).off + 4,none⟩=some (.bool ((rd_T44 l1 x5_1).f0.f4))∧w'.cell? ⟨(ad539.add ((x5_1).toNat * 7)).block,(ad539.add ((x5_1).toNat * 7)).off + 5,none⟩=some (.bool ((rd_T44 l1 x5_1).f0.f5))∧w'.cell? ⟨(ad539.add ((x5_1).toNat * 7)).block,(ad539.add ((x5_1).toNat * 7)).off + 6,none⟩=some (.slice A539_6 ((rd_T44 l1 x5_1).f1).length c539_6)) (ds:=[]) (bm_ 0 10) (by kernel_rfl) rfl rfl ⟨((HB.out.cell (zl w _ hw538_0)).trans hw538_0),((HB.out.cell (zl w _ hw538_1)).trans hw538_1),((HB.out.cell (zl w _ hw538_2)).trans hw538_2),((HB.out.cell (zl w _ hw538_3)).trans hw538_3),((HB.out.cell (zl w _ hw538_4)).trans hw538_4),((HB.out.cell (zl w _ hw538_5)).trans hw538_5),((HB.out.cell (zl w _ hw538_6)).trans hw538_6),((HB.out.cell (zl w _ hw539_0)).trans hw539_0),((HB.out.cell (zl w _ hw539_1)).trans hw539_1),((HB.out.cell (zl w _ hw539_2)).trans hw539_2),((HB.out.cell (zl w _ hw539_3)).trans hw539_3),((HB.out.cell (zl w _ hw539_4)).trans hw539_4),((HB.out.cell (zl w _ hw539_5)).trans hw539_5),((HB.out.cell (zl w _ hw539_6)).trans hw539_6)⟩ (fun hHeld => ?_);refine with_tabW F3.tab6 F3.bits6 (fun HT_ HW_ => ?_);generalize wr.drew=w11 at HB HR538_2 HR538_3 HR538_6 HR539_2 HR539_3 HR539_6 hx538_0 hx538_1 hx538_2 hx538_3 hx538_4 hx538_5 hx538_6 hx539_0 hx539_1 hx539_2 hx539_3 hx539_4 hx539_5 hx539_6 hHeld ⊢;refine pure_ (i:=0) (N:=some 17) (v:=?_) (a':=?_) (bm_ 1 10) rfl rfl (any_of HT_.out (by kernel_rfl)) (fun _ _ _ h => h) (Or.inl ⟨by rfl,?_⟩) ?_ ?_;rotate_left
       ·
        intro w'
        go_simp
        with_reducible rfl
       rotate_left
       ·
        simp only [Act.put,zi,zj,zk,zG,zH]
        rfl
       refine pure_ (i:=1) (N:=some 18) (v:=?_) (a':=?_) (bm_ 2 10) rfl rfl (any_of HT_.out (by kernel_rfl)) (fun _ _ _ h => h) (Or.inl ⟨by rfl,?_⟩) ?_ ?_;rotate_left
       ·
        intro w'
        go_simp
        with_reducible rfl
       rotate_left
       ·
        simp only [Act.put,zi,zj,zk,zG,zH]
        rfl
       refine pure_ (i:=2) (N:=some 19) (v:=?_) (a':=?_) (bm_ 3 10) rfl rfl (any_of HT_.out (by kernel_rfl)) (fun _ _ _ h => h) (Or.inl ⟨by rfl,?_⟩) ?_ ?_;rotate_left
       ·
        intro w'
        go_simp
        with_reducible rfl
       rotate_left
       ·
        simp only [Act.put,zi,zj,zk,zG,zH]
        rfl
       refine pure_ (i:=4) (N:=some 21) (v:=?_) (a':=?_) #[true,true,true,false,true,false,false,false,false,false] rfl rfl (any_of HT_.out (by kernel_rfl)) (fun _ _ _ h => h) (Or.inl ⟨by rfl,?_⟩) ?_ ?_;rotate_left
       ·
        intro w'
        go_simp
        with_reducible rfl
       rotate_left
       ·
        simp only [Act.put,zi,zj,zk,zG,zH]
        rfl
       refine pure_ (i:=5) (N:=some 22) (v:=?_) (a':=?_) #[true,true,true,false,true,true,false,false,false,false] rfl rfl (any_of HT_.out (by kernel_rfl)) (fun _ _ _ h => h) (Or.inl ⟨by rfl,?_⟩) ?_ ?_;rotate_left
       ·
        intro w'
        go_simp
        with_reducible rfl
       rotate_left
       ·
        simp only [Act.put,zi,zj,zk,zG,zH]
        rfl
       refine pure_ (i:=6) (N:=some 23) (v:=?_) (a':=?_) #[true,true,true,false,true,true,true,false,false,false] rfl rfl (any_of HT_.out (by kernel_rfl)) (fun _ _ _ h => h) (Or.inl ⟨by rfl,?_⟩) ?_ ?_;rotate_left
       ·
        intro w'
        go_simp
        with_reducible rfl
       rotate_left
       ·
        simp only [Act.put,zi,zj,zk,zG,zH]
        rfl
       refine take_ (i:=3) (N:=some 20) (v:=?_) (a':=?_) (bm_ 7 10) rfl rfl (yo HT_.out HW_.out (by kernel_rfl)) (fun _ _ _ h => h) (Or.inl ⟨by rfl,?_⟩) hHeld ?_ ?_;rotate_left
       ·
        rintro w' ⟨s0,s1,s2,s3,s4,s5,s6,s7,s8,s9,s10,s11,s12,s13⟩
        go_simp
        with_reducible rfl
       rotate_left
       ·
        simp only [Act.put,zi,zj,zk,zG,zH]
        rfl
       refine take_ (i:=7) (N:=some 24) (v:=?_) (a':=?_) (bm_ 8 10) rfl rfl (yo HT_.out HW_.out (by kernel_rfl)) (fun _ _ _ h => h) (Or.inl ⟨by rfl,?_⟩) hHeld ?_ ?_;rotate_left
       ·
        rintro w' ⟨s0,s1,s2,s3,s4,s5,s6,s7,s8,s9,s10,s11,s12,s13⟩
        go_simp
        with_reducible rfl
       rotate_left
       ·
        simp only [Act.put,zi,zj,zk,zG,zH]
        rfl
       refine one_ (i:=8) (N:=some 25) (bm_ 9 10) rfl rfl (one_of HT_.out (by kernel_rfl)) (by decide) (fun K hK => ?_);refine goes_ Tryz.func27 (by kernel_rfl) rfl #[.agg #[.int .i64 ((rd_T44 l0 x5_1).f0.f0),.int .i64 ((rd_T44 l0 x5_1).f0.f1),.slice A538_2 ((rd_T44 l0 x5_1).f0.f2).length c538_2,.slice A538_3 ((rd_T44 l0 x5_1).f0.f3).length c538_3,.bool ((rd_T44 l0 x5_1).f0.f4),.bool ((rd_T44 l0 x5_1).f0.f5),.slice A538_6 ((rd_T44 l0 x5_1).f1).length c538_6],.agg #[.int .i64 ((rd_T44 l1 x5_1).f0.f0),.int .i64 ((rd_T44 l1 x5_1).f0.f1),.slice A539_2 ((rd_T44 l1 x5_1).f0.f2).length c539_2,.slice A539_3 ((rd_T44 l1 x5_1).f0.f3).length c539_3,.bool ((rd_T44 l1 x5_1).f0.f4),.bool ((rd_T44 l1 x5_1).f0.f5),.slice A539_6 ((rd_T44 l1 x5_1).f1).length c539_6]] (by rfl) rfl rfl (by (try simp only [zt,zu,zv]);first|done|rfl|(simp only [zw,zx];rfl)|(simp only [yr,ys,zV,zW];rfl)) ?_
       with_reducible refine (F0.calls k1  ((rd_T44 l0 x5_1).f0.f0) ((rd_T44 l0 x5_1).f0.f1) _ _ ((rd_T44 l0 x5_1).f0.f2) _ _ ((rd_T44 l0 x5_1).f0.f3) ((rd_T44 l0 x5_1).f0.f4) ((rd_T44 l0 x5_1).f0.f5) _ _ ((rd_T44 l0 x5_1).f1) ((rd_T44 l1 x5_1).f0.f0) ((rd_T44 l1 x5_1).f0.f1) _ _ ((rd_T44 l1 x5_1).f0.f2) _ _ ((rd_T44 l1 x5_1).f0.f3) ((rd_T44 l1 x5_1).f0.f4) ((rd_T44 l1 x5_1).f0.f5) _ _ ((rd_T44 l1 x5_1).f1) false _ ?side1 ?side2 ?side3 ?side4 ?side5 ?side6 ?side7 ?side8 ?side9 ?side10 ?side11 ?side12 A7.out).mono ?_
       (case side1 => repeat (first|exact (Kd.C_below HR538_2.out HB.out)|(with_reducible refine Kd.C_alloc ?_ _)|(with_reducible refine Kd.C_drewN ?_ _)|(with_reducible refine Kd.C_drew ?_)))
       (case side2 => exact HC538_2.out)
       (case side3 => repeat (first|exact (Kd.C_below HR538_3.out HB.out)|(with_reducible refine Kd.C_alloc ?_ _)|(with_reducible refine Kd.C_drewN ?_ _)|(with_reducible refine Kd.C_drew ?_)))
       (case side4 => exact HC538_3.out)
       (case side5 => repeat (first|exact (Kd.C_below HR538_6.out HB.out)|(with_reducible refine Kd.C_alloc ?_ _)|(with_reducible refine Kd.C_drewN ?_ _)|(with_reducible refine Kd.C_drew ?_)))
       (case side6 => exact HC538_6.out)
       (case side7 => repeat (first|exact (Kd.C_below HR539_2.out HB.out)|(with_reducible refine Kd.C_alloc ?_ _)|(with_reducible refine Kd.C_drewN ?_ _)|(with_reducible refine Kd.C_drew ?_)))
       (case side8 => exact HC539_2.out)
       (case side9 => repeat (first|exact (Kd.C_below HR539_3.out HB.out)|(with_reducible refine Kd.C_alloc ?_ _)|(with_reducible refine Kd.C_drewN ?_ _)|(with_reducible refine Kd.C_drew ?_)))
       (case side10 => exact HC539_3.out)
       (case side11 => repeat (first|exact (Kd.C_below HR539_6.out HB.out)|(with_reducible refine Kd.C_alloc ?_ _)|(with_reducible refine Kd.C_drewN ?_ _)|(with_reducible refine Kd.C_drew ?_)))
       (case side12 => exact HC539_6.out)
       rintro e w12 ⟨rfl,hb⟩;refine ⟨_,rfl,?_⟩;replace HB:=zh (zC (by repeat (with_reducible first|exact HB.out|apply za|apply zb|apply zc)) hb);(try clear hb);(try clear hb2);(try clear hk);(try clear hi);refine hK.out _ _ ⟨((HB.out.cell (zl w _ hw538_0)).trans hw538_0),((HB.out.cell (zl w _ hw538_1)).trans hw538_1),((HB.out.cell (zl w _ hw538_2)).trans hw538_2),((HB.out.cell (zl w _ hw538_3)).trans hw538_3),((HB.out.cell (zl w _ hw538_4)).trans hw538_4),((HB.out.cell (zl w _ hw538_5)).trans hw538_5),((HB.out.cell (zl w _ hw538_6)).trans hw538_6),((HB.out.cell (zl w _ hw539_0)).trans hw539_0),((HB.out.cell (zl w _ hw539_1)).trans hw539_1),((HB.out.cell (zl w _ hw539_2)).trans hw539_2),((HB.out.cell (zl w _ hw539_3)).trans hw539_3),((HB.out.cell (zl w _ hw539_4)).trans hw539_4),((HB.out.cell (zl w _ hw539_5)).trans hw539_5),((HB.out.cell (zl w _ hw539_6)).trans hw539_6)⟩ (fun hHeld => ?_);clear hK K;refine norm_ (a':=?_) ?_ ?_;rotate_left
       ·
        show Act.put _ (some 25) _=_
        simp only [Act.put,zi,zj,zk,zG,zH]
        rfl
       refine pure_ (i:=9) (N:=some 26) (v:=?_) (a':=?_) (bm_ 10 10) rfl rfl (any_of HT_.out (by kernel_rfl)) (fun _ _ _ h => h) (Or.inl ⟨by rfl,?_⟩) ?_ ?_;rotate_left
       ·
        intro w'
        go_simp
        with_reducible rfl
       rotate_left
       ·
        simp only [Act.put,zi,zj,zk,zG,zH]
        rfl
       refine done_ (done_of HT_.out (by kernel_rfl)) ?_
       try go_wp2
       go_ret
       exact ⟨by first|rfl|(simp [yt,yu] <;> rfl)|(simp [*,yt,yu] <;> rfl),by repeat (with_reducible first|exact HB.out|apply za|apply zb|apply zc)⟩
      rw [if_neg c6] at H;exact absurd H (by simp)
     rw [if_neg c5] at H;exact absurd H (by simp)
    rw [if_neg c4] at H;have c4b0 : decide (x5_1<(l0.length : Int))=false:=decide_eq_false c4;clear c4;obtain rfl:=zU H
    go_wp2
    go_ret
    exact ⟨by first|rfl|(simp [yt,yu] <;> rfl)|(simp [*,yt,yu] <;> rfl),by repeat (with_reducible first|exact HB.out|apply za|apply zb|apply zc)⟩
 rw [if_neg c3] at H;have c3b0 : ((l0.length : Int) == (l1.length : Int))=false:=zY.mpr c3;have c3b1 : ((l0.length : Int) != (l1.length : Int))=true:=zZ.mpr c3;have c3b2 : (l0.length == l1.length)=false:=by first|simpa using c3|(simp at c3 ⊢;omega)
 obtain rfl:=zU H
 go_enter Tryz.func14,Tryz.ntmps14
 go_wp2
 go_ret
 exact ⟨by first|rfl|(simp [yt,yu] <;> rfl)|(simp [*,yt,yu] <;> rfl),by repeat (with_reducible first|exact HB.out|apply za|apply zb|apply zc)⟩


def F0b.f (k : Nat) (l0_0 : List (S54)) (l0_1 : List (S71)) (l0_2 : List (S41)) (a0_3 : Int) (l0_4 : List (S44)) (l0_5 : List (S44)) (l1_0 : List (S54)) (l1_1 : List (S71)) (l1_2 : List (S41)) (a1_3 : Int) (l1_4 : List (S44)) (l1_5 : List (S44)) : Option (Bool):=(F04.f k l0_0 l0_1 l0_2 a0_3 l1_0 l1_1 l1_2 a1_3).bind fun t543 => (if t543=true then ((F3.f k l0_4 l1_4).bind fun t544 => (if t544=true then ((F3.f k l0_5 l1_5).bind fun t545 => (if t545=true then (some true) else (some false))) else (some false))) else (some false))
theorem F0b.mono : ∀ a0 a1 a2 a3 a4 a5 a6 a7 a8 a9 a10 a11 k,LeO (F0b.f k a0 a1 a2 a3 a4 a5 a6 a7 a8 a9 a10 a11) (F0b.f (k + 1) a0 a1 a2 a3 a4 a5 a6 a7 a8 a9 a10 a11):=by
 intro a0 a1 a2 a3 a4 a5 a6 a7 a8 a9 a10 a11 k;unfold F0b.f
 repeat' first|(with_reducible first|exact F04.mono _ _ _ _ _ _ _ _ _|exact F3.mono _ _ _|exact zQ _|exact zN _|refine zP ?_ ?_|refine zO ?_ (fun _ => ?_))|refine zP ?_ ?_|refine zO ?_ (fun _ => ?_)
set_option maxHeartbeats 8000000 in
set_option maxRecDepth 100000 in
theorem F0b.calls (k : Nat) (A0_0 : Option Addr) (c0_0 : Nat) (l0_0 : List (S54)) (A0_1 : Option Addr) (c0_1 : Nat) (l0_1 : List (S71)) (A0_2 : Option Addr) (c0_2 : Nat) (l0_2 : List (S41)) (a0_3 : Int) (A0_4 : Option Addr) (c0_4 : Nat) (l0_4 : List (S44)) (A0_5 : Option Addr) (c0_5 : Nat) (l0_5 : List (S44)) (A1_0 : Option Addr) (c1_0 : Nat) (l1_0 : List (S54)) (A1_1 : Option Addr) (c1_1 : Nat) (l1_1 : List (S71)) (A1_2 : Option Addr) (c1_2 : Nat) (l1_2 : List (S41)) (a1_3 : Int) (A1_4 : Option Addr) (c1_4 : Nat) (l1_4 : List (S44)) (A1_5 : Option Addr) (c1_5 : Nat) (l1_5 : List (S44)) (r : Bool) (w : World) (hr0_0 : Kd.C k54 w A0_0 l0_0.length l0_0) (hc0_0 : l0_0.length≤c0_0) (hr0_1 : Kd.C k71 w A0_1 l0_1.length l0_1) (hc0_1 : l0_1.length≤c0_1) (hr0_2 : Kd.C k41 w A0_2 l0_2.length l0_2) (hc0_2 : l0_2.length≤c0_2) (hr0_4 : Kd.C k44 w A0_4 l0_4.length l0_4) (hc0_4 : l0_4.length≤c0_4) (hr0_5 : Kd.C k44 w A0_5 l0_5.length l0_5) (hc0_5 : l0_5.length≤c0_5) (hr1_0 : Kd.C k54 w A1_0 l1_0.length l1_0) (hc1_0 : l1_0.length≤c1_0) (hr1_1 : Kd.C k71 w A1_1 l1_1.length l1_1) (hc1_1 : l1_1.length≤c1_1) (hr1_2 : Kd.C k41 w A1_2 l1_2.length l1_2) (hc1_2 : l1_2.length≤c1_2) (hr1_4 : Kd.C k44 w A1_4 l1_4.length l1_4) (hc1_4 : l1_4.length≤c1_4) (hr1_5 : Kd.C k44 w A1_5 l1_5.length l1_5) (hc1_5 : l1_5.length≤c1_5) (h : F0b.f k l0_0 l0_1 l0_2 a0_3 l0_4 l0_5 l1_0 l1_1 l1_2 a1_3 l1_4 l1_5=some r) :
  Calls Tryz.prog 6 #[.agg #[.slice A0_0 l0_0.length c0_0,.slice A0_1 l0_1.length c0_1,.slice A0_2 l0_2.length c0_2,.int .i64 a0_3,.slice A0_4 l0_4.length c0_4,.slice A0_5 l0_5.length c0_5],.agg #[.slice A1_0 l1_0.length c1_0,.slice A1_1 l1_1.length c1_1,.slice A1_2 l1_2.length c1_2,.int .i64 a1_3,.slice A1_4 l1_4.length c1_4,.slice A1_5 l1_5.length c1_5]] w fun e w' => e = .returned (.bool r)∧Below w.heap.size w w':=by
 have hu29:=Tryz.underlying29;have hu26:=Tryz.underlying26;have HR0_0:=zh hr0_0;have HC0_0:=zh hc0_0;clear hr0_0 hc0_0;have HR0_1:=zh hr0_1;have HC0_1:=zh hc0_1;clear hr0_1 hc0_1;have HR0_2:=zh hr0_2;have HC0_2:=zh hc0_2;clear hr0_2 hc0_2;have HR0_4:=zh hr0_4;have HC0_4:=zh hc0_4;clear hr0_4 hc0_4;have HR0_5:=zh hr0_5;have HC0_5:=zh hc0_5;clear hr0_5 hc0_5;have HR1_0:=zh hr1_0;have HC1_0:=zh hc1_0;clear hr1_0 hc1_0;have HR1_1:=zh hr1_1;have HC1_1:=zh hc1_1;clear hr1_1 hc1_1;have HR1_2:=zh hr1_2;have HC1_2:=zh hc1_2;clear hr1_2 hc1_2;have HR1_4:=zh hr1_4;have HC1_4:=zh hc1_4;clear hr1_4 hc1_4;have HR1_5:=zh hr1_5;have HC1_5:=zh hc1_5;clear hr1_5 hc1_5;have HB:=zh (Below.refl w.heap.size w);have H : ((F04.f k l0_0 l0_1 l0_2 a0_3 l1_0 l1_1 l1_2 a1_3).bind fun t543 => (if t543=true then ((F3.f k l0_4 l1_4).bind fun t544 => (if t544=true then ((F3.f k l0_5 l1_5).bind fun t545 => (if t545=true then (some true) else (some false))) else (some false))) else (some false)))=some r:=h;clear h;replace H:=zT.mp H;obtain ⟨t543,A30,H⟩:=H;replace H : (if t543=true then ((F3.f k l0_4 l1_4).bind fun t544 => (if t544=true then ((F3.f k l0_5 l1_5).bind fun t545 => (if t545=true then (some true) else (some false))) else (some false))) else (some false))=some r:=H;have A3:=zh A30;clear A30
 by_cases c4 : t543=true
 ·
  subst c4
  have H1 : ((F3.f k l0_4 l1_4).bind fun t544 => (if t544=true then ((F3.f k l0_5 l1_5).bind fun t545 => (if t545=true then (some true) else (some false))) else (some false)))=some r:=by rw [if_pos rfl] at H;exact H
  clear H;have H:=H1;clear H1;replace H:=zT.mp H;obtain ⟨t544,A50,H⟩:=H;replace H : (if t544=true then ((F3.f k l0_5 l1_5).bind fun t545 => (if t545=true then (some true) else (some false))) else (some false))=some r:=H;have A5:=zh A50;clear A50
  by_cases c6 : t544=true
  ·
   subst c6
   have H1 : ((F3.f k l0_5 l1_5).bind fun t545 => (if t545=true then (some true) else (some false)))=some r:=by rw [if_pos rfl] at H;exact H
   clear H;have H:=H1;clear H1;replace H:=zT.mp H;obtain ⟨t545,A70,H⟩:=H;replace H : (if t545=true then (some true) else (some false))=some r:=H;have A7:=zh A70;clear A70
   by_cases c8 : t545=true
   ·
    subst c8
    have H1 : (some true)=some r:=by rw [if_pos rfl] at H;exact H
    clear H;have H:=H1;clear H1;obtain rfl:=zU H
    go_enter Tryz.func6,Tryz.ntmps6
    go_wp2_with (first|((with_reducible refine zK (N:=2) rfl ?_);refine zI ?hg (N:=2) ?hd (cs:=#[.slice A0_0 l0_0.length c0_0,.slice A0_1 l0_1.length c0_1,.slice A0_2 l0_2.length c0_2,.int .i64 a0_3,.slice A0_4 l0_4.length c0_4,.slice A0_5 l0_5.length c0_5]) (t:=29) ?hr ?_;(case hd|hg => rfl);(case hr => go_simp <;> rfl);intro gb541 hg w9 hbox hb;have BK541:=zh (hbox);have hH_:=cH (by repeat (with_reducible first|exact HB.out|apply za|apply zb|apply zc)) hb hg;have GW541:=zh hH_.1;have GE541:=GW541;replace HB:=zh hH_.2;clear hb hbox hg hH_)|((with_reducible refine zK (N:=3) rfl ?_);refine zI ?hg (N:=3) ?hd (cs:=#[.slice A1_0 l1_0.length c1_0,.slice A1_1 l1_1.length c1_1,.slice A1_2 l1_2.length c1_2,.int .i64 a1_3,.slice A1_4 l1_4.length c1_4,.slice A1_5 l1_5.length c1_5]) (t:=29) ?hr ?_;(case hd|hg => rfl);(case hr => go_simp <;> rfl);intro gb542 hg w10 hbox hb;have BK542:=zh (hbox);have hH_:=cH (by repeat (with_reducible first|exact HB.out|apply za|apply zb|apply zc|refine zd ?_ GE541.out)) hb hg;have GW542:=zh hH_.1;have GE542:=GW542;replace HB:=zh hH_.2;have NB541_542:=zh ((by rw [hg];exact yc (yi (g:=gb541) (o:=.cells #[.slice A0_0 l0_0.length c0_0,.slice A0_1 l0_1.length c0_1,.slice A0_2 l0_2.length c0_2,.int .i64 a0_3,.slice A0_4 l0_4.length c0_4,.slice A0_5 l0_5.length c0_5] 29 (0,0)) (by (with_reducible repeat first|apply ze|apply zf|apply zg);exact BK541.out)) : gb541≠gb542));have NB542_541:=zh NB541_542.out.symm;replace BK541:=zh (cD BK541.out (by (with_reducible repeat first|apply ze|apply zf|apply zg);exact BK541.out) hb);clear hb hbox hg hH_;have hnb11:=NB541_542.out;have hnc11:=NB542_541.out;obtain ⟨hcz12_0,hcz12_1,hcz12_2,hcz12_3,hcz12_4,hcz12_5,hfz12_0,hfz12_1,hfz12_2,hfz12_3,hfz12_4,hfz12_5⟩:=cB6 BK541.out;obtain ⟨hcz13_0,hcz13_1,hcz13_2,hcz13_3,hcz13_4,hcz13_5,hfz13_0,hfz13_1,hfz13_2,hfz13_3,hfz13_4,hfz13_5⟩:=cB6 BK542.out)|((with_reducible refine zJ (f:=13) rfl ?_);refine yj (some 9) rfl rfl Tryz.func13 (by kernel_rfl) rfl #[.agg #[.slice A0_0 l0_0.length c0_0,.slice A0_1 l0_1.length c0_1,.slice A0_2 l0_2.length c0_2,.int .i64 a0_3],.agg #[.slice A1_0 l1_0.length c1_0,.slice A1_1 l1_1.length c1_1,.slice A1_2 l1_2.length c1_2,.int .i64 a1_3]] rfl (by (try simp only [zt,zu,zv]);first|done|rfl|(simp only [zw,zx];rfl)|(simp only [yr,ys,zV,zW];rfl)) ?_;(with_reducible refine (F04.calls k  _ _ l0_0 _ _ l0_1 _ _ l0_2 a0_3 _ _ l1_0 _ _ l1_1 _ _ l1_2 a1_3 true _ ?side1 ?side2 ?side3 ?side4 ?side5 ?side6 ?side7 ?side8 ?side9 ?side10 ?side11 ?side12 A3.out).mono ?_);(case side1 => repeat (first|exact (Kd.C_below HR0_0.out HB.out)|(with_reducible refine Kd.C_alloc ?_ _)|(with_reducible refine Kd.C_drewN ?_ _)|(with_reducible refine Kd.C_drew ?_)));(case side2 => exact HC0_0.out);(case side3 => repeat (first|exact (Kd.C_below HR0_1.out HB.out)|(with_reducible refine Kd.C_alloc ?_ _)|(with_reducible refine Kd.C_drewN ?_ _)|(with_reducible refine Kd.C_drew ?_)));(case side4 => exact HC0_1.out);(case side5 => repeat (first|exact (Kd.C_below HR0_2.out HB.out)|(with_reducible refine Kd.C_alloc ?_ _)|(with_reducible refine Kd.C_drewN ?_ _)|(with_reducible refine Kd.C_drew ?_)));(case side6 => exact HC0_2.out);(case side7 => repeat (first|exact (Kd.C_below HR1_0.out HB.out)|(with_reducible refine Kd.C_alloc ?_ _)|(with_reducible refine Kd.C_drewN ?_ _)|(with_reducible refine Kd.C_drew ?_)));(case side8 => exact HC1_0.out);(case side9 => repeat (first|exact (Kd.C_below HR1_1.out HB.out)|(with_reducible refine Kd.C_alloc ?_ _)|(with_reducible refine Kd.C_drewN ?_ _)|(with_reducible refine Kd.C_drew ?_)));(case side10 => exact HC1_1.out);(case side11 => repeat (first|exact (Kd.C_below HR1_2.out HB.out)|(with_reducible refine Kd.C_alloc ?_ _)|(with_reducible refine Kd.C_drewN ?_ _)|(with_reducible refine Kd.C_drew ?_)));(case side12 => exact HC1_2.out);rintro e w14 ⟨rfl,hb⟩;refine ⟨_,rfl,?_⟩;replace BK541:=zh (cD BK541.out (by (with_reducible repeat first|apply ze|apply zf|apply zg);exact BK541.out) hb);replace BK542:=zh (cD BK542.out (by (with_reducible repeat first|apply ze|apply zf|apply zg);exact BK542.out) hb);replace HB:=zh (zC (by repeat (with_reducible first|exact HB.out|apply za|apply zb|apply zc|refine zd ?_ GE541.out|refine zd ?_ GE542.out)) hb);(try clear hb);(try clear hb2);(try clear hk);(try clear hi);obtain ⟨hcz15_0,hcz15_1,hcz15_2,hcz15_3,hcz15_4,hcz15_5,hfz15_0,hfz15_1,hfz15_2,hfz15_3,hfz15_4,hfz15_5⟩:=cB6 BK541.out;obtain ⟨hcz16_0,hcz16_1,hcz16_2,hcz16_3,hcz16_4,hcz16_5,hfz16_0,hfz16_1,hfz16_2,hfz16_3,hfz16_4,hfz16_5⟩:=cB6 BK542.out)|((with_reducible refine zJ (f:=14) rfl ?_);refine yj (some 15) rfl rfl Tryz.func14 (by kernel_rfl) rfl #[.slice A0_4 l0_4.length c0_4,.slice A1_4 l1_4.length c1_4] rfl (by (try simp only [zt,zu,zv]);first|done|rfl|(simp only [zw,zx];rfl)|(simp only [yr,ys,zV,zW];rfl)) ?_;(with_reducible refine (F3.calls k  _ _ l0_4 _ _ l1_4 true _ ?side1 ?side2 ?side3 ?side4 A5.out).mono ?_);(case side1 => repeat (first|exact (Kd.C_below HR0_4.out HB.out)|(with_reducible refine Kd.C_alloc ?_ _)|(with_reducible refine Kd.C_drewN ?_ _)|(with_reducible refine Kd.C_drew ?_)));(case side2 => exact HC0_4.out);(case side3 => repeat (first|exact (Kd.C_below HR1_4.out HB.out)|(with_reducible refine Kd.C_alloc ?_ _)|(with_reducible refine Kd.C_drewN ?_ _)|(with_reducible refine Kd.C_drew ?_)));(case side4 => exact HC1_4.out);rintro e w17 ⟨rfl,hb⟩;refine ⟨_,rfl,?_⟩;replace BK541:=zh (cD BK541.out (by (with_reducible repeat first|apply ze|apply zf|apply zg);exact BK541.out) hb);replace BK542:=zh (cD BK542.out (by (with_reducible repeat first|apply ze|apply zf|apply zg);exact BK542.out) hb);replace HB:=zh (zC (by repeat (with_reducible first|exact HB.out|apply za|apply zb|apply zc|refine zd ?_ GE541.out|refine zd ?_ GE542.out)) hb);(try clear hb);(try clear hb2);(try clear hk);(try clear hi);obtain ⟨hcz18_0,hcz18_1,hcz18_2,hcz18_3,hcz18_4,hcz18_5,hfz18_0,hfz18_1,hfz18_2,hfz18_3,hfz18_4,hfz18_5⟩:=cB6 BK541.out;obtain ⟨hcz19_0,hcz19_1,hcz19_2,hcz19_3,hcz19_4,hcz19_5,hfz19_0,hfz19_1,hfz19_2,hfz19_3,hfz19_4,hfz19_5⟩:=cB6 BK542.out)|((with_reducible refine zJ (f:=14) rfl ?_);refine yj (some 21) rfl rfl Tryz.func14 (by kernel_rfl) rfl #[.slice A0_5 l0_5.length c0_5,.slice A1_5 l1_5.length c1_5] rfl (by (try simp only [zt,zu,zv]);first|done|rfl|(simp only [zw,zx];rfl)|(simp only [yr,ys,zV,zW];rfl)) ?_;(with_reducible refine (F3.calls k  _ _ l0_5 _ _ l1_5 true _ ?side1 ?side2 ?side3 ?side4 A7.out).mono ?_);(case side1 => repeat (first|exact (Kd.C_below HR0_5.out HB.out)|(with_reducible refine Kd.C_alloc ?_ _)|(with_reducible refine Kd.C_drewN ?_ _)|(with_reducible refine Kd.C_drew ?_)));(case side2 => exact HC0_5.out);(case side3 => repeat (first|exact (Kd.C_below HR1_5.out HB.out)|(with_reducible refine Kd.C_alloc ?_ _)|(with_reducible refine Kd.C_drewN ?_ _)|(with_reducible refine Kd.C_drew ?_)));(case side4 => exact HC1_5.out);rintro e w20 ⟨rfl,hb⟩;refine ⟨_,rfl,?_⟩;replace BK541:=zh (cD BK541.out (by (with_reducible repeat first|apply ze|apply zf|apply zg);exact BK541.out) hb);replace BK542:=zh (cD BK542.out (by (with_reducible repeat first|apply ze|apply zf|apply zg);exact BK542.out) hb);replace HB:=zh (zC (by repeat (with_reducible first|exact HB.out|apply za|apply zb|apply zc|refine zd ?_ GE541.out|refine zd ?_ GE542.out)) hb);(try clear hb);(try clear hb2);(try clear hk);(try clear hi)))
    go_ret
    exact ⟨by first|rfl|(simp [yt,yu] <;> rfl)|(simp [*,yt,yu] <;> rfl),by repeat (with_reducible first|exact HB.out|apply za|apply zb|apply zc|refine zd ?_ GE541.out|refine zd ?_ GE542.out)⟩
   replace c8:=yb.mpr c8;subst c8;have H1 : (some false)=some r:=by rw [if_neg (show ¬ (false=true) by decide)] at H;exact H
   clear H;have H:=H1;clear H1;obtain rfl:=zU H
   go_enter Tryz.func6,Tryz.ntmps6
   go_wp2_with (first|((with_reducible refine zK (N:=2) rfl ?_);refine zI ?hg (N:=2) ?hd (cs:=#[.slice A0_0 l0_0.length c0_0,.slice A0_1 l0_1.length c0_1,.slice A0_2 l0_2.length c0_2,.int .i64 a0_3,.slice A0_4 l0_4.length c0_4,.slice A0_5 l0_5.length c0_5]) (t:=29) ?hr ?_;(case hd|hg => rfl);(case hr => go_simp <;> rfl);intro gb541 hg w21 hbox hb;have BK541:=zh (hbox);have hH_:=cH (by repeat (with_reducible first|exact HB.out|apply za|apply zb|apply zc)) hb hg;have GW541:=zh hH_.1;have GE541:=GW541;replace HB:=zh hH_.2;clear hb hbox hg hH_)|((with_reducible refine zK (N:=3) rfl ?_);refine zI ?hg (N:=3) ?hd (cs:=#[.slice A1_0 l1_0.length c1_0,.slice A1_1 l1_1.length c1_1,.slice A1_2 l1_2.length c1_2,.int .i64 a1_3,.slice A1_4 l1_4.length c1_4,.slice A1_5 l1_5.length c1_5]) (t:=29) ?hr ?_;(case hd|hg => rfl);(case hr => go_simp <;> rfl);intro gb542 hg w22 hbox hb;have BK542:=zh (hbox);have hH_:=cH (by repeat (with_reducible first|exact HB.out|apply za|apply zb|apply zc|refine zd ?_ GE541.out)) hb hg;have GW542:=zh hH_.1;have GE542:=GW542;replace HB:=zh hH_.2;have NB541_542:=zh ((by rw [hg];exact yc (yi (g:=gb541) (o:=.cells #[.slice A0_0 l0_0.length c0_0,.slice A0_1 l0_1.length c0_1,.slice A0_2 l0_2.length c0_2,.int .i64 a0_3,.slice A0_4 l0_4.length c0_4,.slice A0_5 l0_5.length c0_5] 29 (0,0)) (by (with_reducible repeat first|apply ze|apply zf|apply zg);exact BK541.out)) : gb541≠gb542));have NB542_541:=zh NB541_542.out.symm;replace BK541:=zh (cD BK541.out (by (with_reducible repeat first|apply ze|apply zf|apply zg);exact BK541.out) hb);clear hb hbox hg hH_;have hnb23:=NB541_542.out;have hnc23:=NB542_541.out;obtain ⟨hcz24_0,hcz24_1,hcz24_2,hcz24_3,hcz24_4,hcz24_5,hfz24_0,hfz24_1,hfz24_2,hfz24_3,hfz24_4,hfz24_5⟩:=cB6 BK541.out;obtain ⟨hcz25_0,hcz25_1,hcz25_2,hcz25_3,hcz25_4,hcz25_5,hfz25_0,hfz25_1,hfz25_2,hfz25_3,hfz25_4,hfz25_5⟩:=cB6 BK542.out)|((with_reducible refine zJ (f:=13) rfl ?_);refine yj (some 9) rfl rfl Tryz.func13 (by kernel_rfl) rfl #[.agg #[.slice A0_0 l0_0.length c0_0,.slice A0_1 l0_1.length c0_1,.slice A0_2 l0_2.length c0_2,.int .i64 a0_3],.agg #[.slice A1_0 l1_0.length c1_0,.slice A1_1 l1_1.length c1_1,.slice A1_2 l1_2.length c1_2,.int .i64 a1_3]] rfl (by (try simp only [zt,zu,zv]);first|done|rfl|(simp only [zw,zx];rfl)|(simp only [yr,ys,zV,zW];rfl)) ?_;(with_reducible refine (F04.calls k  _ _ l0_0 _ _ l0_1 _ _ l0_2 a0_3 _ _ l1_0 _ _ l1_1 _ _ l1_2 a1_3 true _ ?side1 ?side2 ?side3 ?side4 ?side5 ?side6 ?side7 ?side8 ?side9 ?side10 ?side11 ?side12 A3.out).mono ?_);(case side1 => repeat (first|exact (Kd.C_below HR0_0.out HB.out)|(with_reducible refine Kd.C_alloc ?_ _)|(with_reducible refine Kd.C_drewN ?_ _)|(with_reducible refine Kd.C_drew ?_)));(case side2 => exact HC0_0.out);(case side3 => repeat (first|exact (Kd.C_below HR0_1.out HB.out)|(with_reducible refine Kd.C_alloc ?_ _)|(with_reducible refine Kd.C_drewN ?_ _)|(with_reducible refine Kd.C_drew ?_)));(case side4 => exact HC0_1.out);(case side5 => repeat (first|exact (Kd.C_below HR0_2.out HB.out)|(with_reducible refine Kd.C_alloc ?_ _)|(with_reducible refine Kd.C_drewN ?_ _)|(with_reducible refine Kd.C_drew ?_)));(case side6 => exact HC0_2.out);(case side7 => repeat (first|exact (Kd.C_below HR1_0.out HB.out)|(with_reducible refine Kd.C_alloc ?_ _)|(with_reducible refine Kd.C_drewN ?_ _)|(with_reducible refine Kd.C_drew ?_)));(case side8 => exact HC1_0.out);(case side9 => repeat (first|exact (Kd.C_below HR1_1.out HB.out)|(with_reducible refine Kd.C_alloc ?_ _)|(with_reducible refine Kd.C_drewN ?_ _)|(with_reducible refine Kd.C_drew ?_)));(case side10 => exact HC1_1.out);(case side11 => repeat (first|exact (Kd.C_below HR1_2.out HB.out)|(with_reducible refine Kd.C_alloc ?_ _)|(with_reducible refine Kd.C_drewN ?_ _)|(with_reducible refine Kd.C_drew ?_)));(case side12 => exact HC1_2.out);rintro e w26 ⟨rfl,hb⟩;refine ⟨_,rfl,?_⟩;replace BK541:=zh (cD BK541.out (by (with_reducible repeat first|apply ze|apply zf|apply zg);exact BK541.out) hb);replace BK542:=zh (cD BK542.out (by (with_reducible repeat first|apply ze|apply zf|apply zg);exact BK542.out) hb);replace HB:=zh (zC (by repeat (with_reducible first|exact HB.out|apply za|apply zb|apply zc|refine zd ?_ GE541.out|refine zd ?_ GE542.out)) hb);(try clear hb);(try clear hb2);(try clear hk);(try clear hi);obtain ⟨hcz27_0,hcz27_1,hcz27_2,hcz27_3,hcz27_4,hcz27_5,hfz27_0,hfz27_1,hfz27_2,hfz27_3,hfz27_4,hfz27_5⟩:=cB6 BK541.out;obtain ⟨hcz28_0,hcz28_1,hcz28_2,hcz28_3,hcz28_4,hcz28_5,hfz28_0,hfz28_1,hfz28_2,hfz28_3,hfz28_4,hfz28_5⟩:=cB6 BK542.out)|((with_reducible refine zJ (f:=14) rfl ?_);refine yj (some 15) rfl rfl Tryz.func14 (by kernel_rfl) rfl #[.slice A0_4 l0_4.length c0_4,.slice A1_4 l1_4.length c1_4] rfl (by (try simp only [zt,zu,zv]);first|done|rfl|(simp only [zw,zx];rfl)|(simp only [yr,ys,zV,zW];rfl)) ?_;(with_reducible refine (F3.calls k  _ _ l0_4 _ _ l1_4 true _ ?side1 ?side2 ?side3 ?side4 A5.out).mono ?_);(case side1 => repeat (first|exact (Kd.C_below HR0_4.out HB.out)|(with_reducible refine Kd.C_alloc ?_ _)|(with_reducible refine Kd.C_drewN ?_ _)|(with_reducible refine Kd.C_drew ?_)));(case side2 => exact HC0_4.out);(case side3 => repeat (first|exact (Kd.C_below HR1_4.out HB.out)|(with_reducible refine Kd.C_alloc ?_ _)|(with_reducible refine Kd.C_drewN ?_ _)|(with_reducible refine Kd.C_drew ?_)));(case side4 => exact HC1_4.out);rintro e w29 ⟨rfl,hb⟩;refine ⟨_,rfl,?_⟩;replace BK541:=zh (cD BK541.out (by (with_reducible repeat first|apply ze|apply zf|apply zg);exact BK541.out) hb);replace BK542:=zh (cD BK542.out (by (with_reducible repeat first|apply ze|apply zf|apply zg);exact BK542.out) hb);replace HB:=zh (zC (by repeat (with_reducible first|exact HB.out|apply za|apply zb|apply zc|refine zd ?_ GE541.out|refine zd ?_ GE542.out)) hb);(try clear hb);(try clear hb2);(try clear hk);(try clear hi);obtain ⟨hcz30_0,hcz30_1,hcz30_2,hcz30_3,hcz30_4,hcz30_5,hfz30_0,hfz30_1,hfz30_2,hfz30_3,hfz30_4,hfz30_5⟩:=cB6 BK541.out;obtain ⟨hcz31_0,hcz31_1,hcz31_2,hcz31_3,hcz31_4,hcz31_5,hfz31_0,hfz31_1,hfz31_2,hfz31_3,hfz31_4,hfz31_5⟩:=cB6 BK542.out)|((with_reducible refine zJ (f:=14) rfl ?_);refine yj (some 21) rfl rfl Tryz.func14 (by kernel_rfl) rfl #[.slice A0_5 l0_5.length c0_5,.slice A1_5 l1_5.length c1_5] rfl (by (try simp only [zt,zu,zv]);first|done|rfl|(simp only [zw,zx];rfl)|(simp only [yr,ys,zV,zW];rfl)) ?_;(with_reducible refine (F3.calls k  _ _ l0_5 _ _ l1_5 false _ ?side1 ?side2 ?side3 ?side4 A7.out).mono ?_);(case side1 => repeat (first|exact (Kd.C_below HR0_5.out HB.out)|(with_reducible refine Kd.C_alloc ?_ _)|(with_reducible refine Kd.C_drewN ?_ _)|(with_reducible refine Kd.C_drew ?_)));(case side2 => exact HC0_5.out);(case side3 => repeat (first|exact (Kd.C_below HR1_5.out HB.out)|(with_reducible refine Kd.C_alloc ?_ _)|(with_reducible refine Kd.C_drewN ?_ _)|(with_reducible refine Kd.C_drew ?_)));(case side4 => exact HC1_5.out);rintro e w32 ⟨rfl,hb⟩;refine ⟨_,rfl,?_⟩;replace BK541:=zh (cD BK541.out (by (with_reducible repeat first|apply ze|apply zf|apply zg);exact BK541.out) hb);replace BK542:=zh (cD BK542.out (by (with_reducible repeat first|apply ze|apply zf|apply zg);exact BK542.out) hb);replace HB:=zh (zC (by repeat (with_reducible first|exact HB.out|apply za|apply zb|apply zc|refine zd ?_ GE541.out|refine zd ?_ GE542.out)) hb);(try clear hb);(try clear hb2);(try clear hk);(try clear hi)))
   go_ret
   exact ⟨by first|rfl|(simp [yt,yu] <;> rfl)|(simp [*,yt,yu] <;> rfl),by repeat (with_reducible first|exact HB.out|apply za|apply zb|apply zc|refine zd ?_ GE541.out|refine zd ?_ GE542.out)⟩
  replace c6:=yb.mpr c6;subst c6;have H1 : (some false)=some r:=by rw [if_neg (show ¬ (false=true) by decide)] at H;exact H
  clear H;have H:=H1;clear H1;obtain rfl:=zU H
  go_enter Tryz.func6,Tryz.ntmps6
  go_wp2_with (first|((with_reducible refine zK (N:=2) rfl ?_);refine zI ?hg (N:=2) ?hd (cs:=#[.slice A0_0 l0_0.length c0_0,.slice A0_1 l0_1.length c0_1,.slice A0_2 l0_2.length c0_2,.int .i64 a0_3,.slice A0_4 l0_4.length c0_4,.slice A0_5 l0_5.length c0_5]) (t:=29) ?hr ?_;(case hd|hg => rfl);(case hr => go_simp <;> rfl);intro gb541 hg w33 hbox hb;have BK541:=zh (hbox);have hH_:=cH (by repeat (with_reducible first|exact HB.out|apply za|apply zb|apply zc)) hb hg;have GW541:=zh hH_.1;have GE541:=GW541;replace HB:=zh hH_.2;clear hb hbox hg hH_)|((with_reducible refine zK (N:=3) rfl ?_);refine zI ?hg (N:=3) ?hd (cs:=#[.slice A1_0 l1_0.length c1_0,.slice A1_1 l1_1.length c1_1,.slice A1_2 l1_2.length c1_2,.int .i64 a1_3,.slice A1_4 l1_4.length c1_4,.slice A1_5 l1_5.length c1_5]) (t:=29) ?hr ?_;(case hd|hg => rfl);(case hr => go_simp <;> rfl);intro gb542 hg w34 hbox hb;have BK542:=zh (hbox);have hH_:=cH (by repeat (with_reducible first|exact HB.out|apply za|apply zb|apply zc|refine zd ?_ GE541.out)) hb hg;have GW542:=zh hH_.1;have GE542:=GW542;replace HB:=zh hH_.2;have NB541_542:=zh ((by rw [hg];exact yc (yi (g:=gb541) (o:=.cells #[.slice A0_0 l0_0.length c0_0,.slice A0_1 l0_1.length c0_1,.slice A0_2 l0_2.length c0_2,.int .i64 a0_3,.slice A0_4 l0_4.length c0_4,.slice A0_5 l0_5.length c0_5] 29 (0,0)) (by (with_reducible repeat first|apply ze|apply zf|apply zg);exact BK541.out)) : gb541≠gb542));have NB542_541:=zh NB541_542.out.symm;replace BK541:=zh (cD BK541.out (by (with_reducible repeat first|apply ze|apply zf|apply zg);exact BK541.out) hb);clear hb hbox hg hH_;have hnb35:=NB541_542.out;have hnc35:=NB542_541.out;obtain ⟨hcz36_0,hcz36_1,hcz36_2,hcz36_3,hcz36_4,hcz36_5,hfz36_0,hfz36_1,hfz36_2,hfz36_3,hfz36_4,hfz36_5⟩:=cB6 BK541.out;obtain ⟨hcz37_0,hcz37_1,hcz37_2,hcz37_3,hcz37_4,hcz37_5,hfz37_0,hfz37_1,hfz37_2,hfz37_3,hfz37_4,hfz37_5⟩:=cB6 BK542.out)|((with_reducible refine zJ (f:=13) rfl ?_);refine yj (some 9) rfl rfl Tryz.func13 (by kernel_rfl) rfl #[.agg #[.slice A0_0 l0_0.length c0_0,.slice A0_1 l0_1.length c0_1,.slice A0_2 l0_2.length c0_2,.int .i64 a0_3],.agg #[.slice A1_0 l1_0.length c1_0,.slice A1_1 l1_1.length c1_1,.slice A1_2 l1_2.length c1_2,.int .i64 a1_3]] rfl (by (try simp only [zt,zu,zv]);first|done|rfl|(simp only [zw,zx];rfl)|(simp only [yr,ys,zV,zW];rfl)) ?_;(with_reducible refine (F04.calls k  _ _ l0_0 _ _ l0_1 _ _ l0_2 a0_3 _ _ l1_0 _ _ l1_1 _ _ l1_2 a1_3 true _ ?side1 ?side2 ?side3 ?side4 ?side5 ?side6 ?side7 ?side8 ?side9 ?side10 ?side11 ?side12 A3.out).mono ?_);(case side1 => repeat (first|exact (Kd.C_below HR0_0.out HB.out)|(with_reducible refine Kd.C_alloc ?_ _)|(with_reducible refine Kd.C_drewN ?_ _)|(with_reducible refine Kd.C_drew ?_)));(case side2 => exact HC0_0.out);(case side3 => repeat (first|exact (Kd.C_below HR0_1.out HB.out)|(with_reducible refine Kd.C_alloc ?_ _)|(with_reducible refine Kd.C_drewN ?_ _)|(with_reducible refine Kd.C_drew ?_)));(case side4 => exact HC0_1.out);(case side5 => repeat (first|exact (Kd.C_below HR0_2.out HB.out)|(with_reducible refine Kd.C_alloc ?_ _)|(with_reducible refine Kd.C_drewN ?_ _)|(with_reducible refine Kd.C_drew ?_)));(case side6 => exact HC0_2.out);(case side7 => repeat (first|exact (Kd.C_below HR1_0.out HB.out)|(with_reducible refine Kd.C_alloc ?_ _)|(with_reducible refine Kd.C_drewN ?_ _)|(with_reducible refine Kd.C_drew ?_)));(case side8 => exact HC1_0.out);(case side9 => repeat (first|exact (Kd.C_below HR1_1.out HB.out)|(with_reducible refine Kd.C_alloc ?_ _)|(with_reducible refine Kd.C_drewN ?_ _)|(with_reducible refine Kd.C_drew ?_)));(case side10 => exact HC1_1.out);(case side11 => repeat (first|exact (Kd.C_below HR1_2.out HB.out)|(with_reducible refine Kd.C_alloc ?_ _)|(with_reducible refine Kd.C_drewN ?_ _)|(with_reducible refine Kd.C_drew ?_)));(case side12 => exact HC1_2.out);rintro e w38 ⟨rfl,hb⟩;refine ⟨_,rfl,?_⟩;replace BK541:=zh (cD BK541.out (by (with_reducible repeat first|apply ze|apply zf|apply zg);exact BK541.out) hb);replace BK542:=zh (cD BK542.out (by (with_reducible repeat first|apply ze|apply zf|apply zg);exact BK542.out) hb);replace HB:=zh (zC (by repeat (with_reducible first|exact HB.out|apply za|apply zb|apply zc|refine zd ?_ GE541.out|refine zd ?_ GE542.out)) hb);(try clear hb);(try clear hb2);(try clear hk);(try clear hi);obtain ⟨hcz39_0,hcz39_1,hcz39_2,hcz39_3,hcz39_4,hcz39_5,hfz39_0,hfz39_1,hfz39_2,hfz39_3,hfz39_4,hfz39_5⟩:=cB6 BK541.out;obtain ⟨hcz40_0,hcz40_1,hcz40_2,hcz40_3,hcz40_4,hcz40_5,hfz40_0,hfz40_1,hfz40_2,hfz40_3,hfz40_4,hfz40_5⟩:=cB6 BK542.out)|((with_reducible refine zJ (f:=14) rfl ?_);refine yj (some 15) rfl rfl Tryz.func14 (by kernel_rfl) rfl #[.slice A0_4 l0_4.length c0_4,.slice A1_4 l1_4.length c1_4] rfl (by (try simp only [zt,zu,zv]);first|done|rfl|(simp only [zw,zx];rfl)|(simp only [yr,ys,zV,zW];rfl)) ?_;(with_reducible refine (F3.calls k  _ _ l0_4 _ _ l1_4 false _ ?side1 ?side2 ?side3 ?side4 A5.out).mono ?_);(case side1 => repeat (first|exact (Kd.C_below HR0_4.out HB.out)|(with_reducible refine Kd.C_alloc ?_ _)|(with_reducible refine Kd.C_drewN ?_ _)|(with_reducible refine Kd.C_drew ?_)));(case side2 => exact HC0_4.out);(case side3 => repeat (first|exact (Kd.C_below HR1_4.out HB.out)|(with_reducible refine Kd.C_alloc ?_ _)|(with_reducible refine Kd.C_drewN ?_ _)|(with_reducible refine Kd.C_drew ?_)));(case side4 => exact HC1_4.out);rintro e w41 ⟨rfl,hb⟩;refine ⟨_,rfl,?_⟩;replace BK541:=zh (cD BK541.out (by (with_reducible repeat first|apply ze|apply zf|apply zg);exact BK541.out) hb);replace BK542:=zh (cD BK542.out (by (with_reducible repeat first|apply ze|apply zf|apply zg);exact BK542.out) hb);replace HB:=zh (zC (by repeat (with_reducible first|exact HB.out|apply za|apply zb|apply zc|refine zd ?_ GE541.out|refine zd ?_ GE542.out)) hb);(try clear hb);(try clear hb2);(try clear hk);(try clear hi)))
  go_ret
  exact ⟨by first|rfl|(simp [yt,yu] <;> rfl)|(simp [*,yt,yu] <;> rfl),by repeat (with_reducible first|exact HB.out|apply za|apply zb|apply zc|refine zd ?_ GE541.out|refine zd ?_ GE542.out)⟩
 replace c4:=yb.mpr c4;subst c4;have H1 : (some false)=some r:=by rw [if_neg (show ¬ (false=true) by decide)] at H;exact H
 clear H;have H:=H1;clear H1;obtain rfl:=zU H
 go_enter Tryz.func6,Tryz.ntmps6
 go_wp2_with (first|((with_reducible refine zK (N:=2) rfl ?_);refine zI ?hg (N:=2) ?hd (cs:=#[.slice A0_0 l0_0.length c0_0,.slice A0_1 l0_1.length c0_1,.slice A0_2 l0_2.length c0_2,.int .i64 a0_3,.slice A0_4 l0_4.length c0_4,.slice A0_5 l0_5.length c0_5]) (t:=29) ?hr ?_;(case hd|hg => rfl);(case hr => go_simp <;> rfl);intro gb541 hg w42 hbox hb;have BK541:=zh (hbox);have hH_:=cH (by repeat (with_reducible first|exact HB.out|apply za|apply zb|apply zc)) hb hg;have GW541:=zh hH_.1;have GE541:=GW541;replace HB:=zh hH_.2;clear hb hbox hg hH_)|((with_reducible refine zK (N:=3) rfl ?_);refine zI ?hg (N:=3) ?hd (cs:=#[.slice A1_0 l1_0.length c1_0,.slice A1_1 l1_1.length c1_1,.slice A1_2 l1_2.length c1_2,.int .i64 a1_3,.slice A1_4 l1_4.length c1_4,.slice A1_5 l1_5.length c1_5]) (t:=29) ?hr ?_;(case hd|hg => rfl);(case hr => go_simp <;> rfl);intro gb542 hg w43 hbox hb;have BK542:=zh (hbox);have hH_:=cH (by repeat (with_reducible first|exact HB.out|apply za|apply zb|apply zc|refine zd ?_ GE541.out)) hb hg;have GW542:=zh hH_.1;have GE542:=GW542;replace HB:=zh hH_.2;have NB541_542:=zh ((by rw [hg];exact yc (yi (g:=gb541) (o:=.cells #[.slice A0_0 l0_0.length c0_0,.slice A0_1 l0_1.length c0_1,.slice A0_2 l0_2.length c0_2,.int .i64 a0_3,.slice A0_4 l0_4.length c0_4,.slice A0_5 l0_5.length c0_5] 29 (0,0)) (by (with_reducible repeat first|apply ze|apply zf|apply zg);exact BK541.out)) : gb541≠gb542));have NB542_541:=zh NB541_542.out.symm;replace BK541:=zh (cD BK541.out (by (with_reducible repeat first|apply ze|apply zf|apply zg);exact BK541.out) hb);clear hb hbox hg hH_;have hnb44:=NB541_542.out;have hnc44:=NB542_541.out;obtain ⟨hcz45_0,hcz45_1,hcz45_2,hcz45_3,hcz45_4,hcz45_5,hfz45_0,hfz45_1,hfz45_2,hfz45_3,hfz45_4,hfz45_5⟩:=cB6 BK541.out;obtain ⟨hcz46_0,hcz46_1,hcz46_2,hcz46_3,hcz46_4,hcz46_5,hfz46_0,hfz46_1,hfz46_2,hfz46_3,hfz46_4,hfz46_5⟩:=cB6 BK542.out)|((with_reducible refine zJ (f:=13) rfl ?_);refine yj (some 9) rfl rfl Tryz.func13 (by kernel_rfl) rfl #[.agg #[.slice A0_0 l0_0.length c0_0,.slice A0_1 l0_1.length c0_1,.slice A0_2 l0_2.length c0_2,.int .i64 a0_3],.agg #[.slice A1_0 l1_0.length c1_0,.slice A1_1 l1_1.length c1_1,.slice A1_2 l1_2.length c1_2,.int .i64 a1_3]] rfl (by (try simp only [zt,zu,zv]);first|done|rfl|(simp only [zw,zx];rfl)|(simp only [yr,ys,zV,zW];rfl)) ?_;(with_reducible refine (F04.calls k  _ _ l0_0 _ _ l0_1 _ _ l0_2 a0_3 _ _ l1_0 _ _ l1_1 _ _ l1_2 a1_3 false _ ?side1 ?side2 ?side3 ?side4 ?side5 ?side6 ?side7 ?side8 ?side9 ?side10 ?side11 ?side12 A3.out).mono ?_);(case side1 => repeat (first|exact (Kd.C_below HR0_0.out HB.out)|(with_reducible refine Kd.C_alloc ?_ _)|(with_reducible refine Kd.C_drewN ?_ _)|(with_reducible refine Kd.C_drew ?_)));(case side2 => exact HC0_0.out);(case side3 => repeat (first|exact (Kd.C_below HR0_1.out HB.out)|(with_reducible refine Kd.C_alloc ?_ _)|(with_reducible refine Kd.C_drewN ?_ _)|(with_reducible refine Kd.C_drew ?_)));(case side4 => exact HC0_1.out);(case side5 => repeat (first|exact (Kd.C_below HR0_2.out HB.out)|(with_reducible refine Kd.C_alloc ?_ _)|(with_reducible refine Kd.C_drewN ?_ _)|(with_reducible refine Kd.C_drew ?_)));(case side6 => exact HC0_2.out);(case side7 => repeat (first|exact (Kd.C_below HR1_0.out HB.out)|(with_reducible refine Kd.C_alloc ?_ _)|(with_reducible refine Kd.C_drewN ?_ _)|(with_reducible refine Kd.C_drew ?_)));(case side8 => exact HC1_0.out);(case side9 => repeat (first|exact (Kd.C_below HR1_1.out HB.out)|(with_reducible refine Kd.C_alloc ?_ _)|(with_reducible refine Kd.C_drewN ?_ _)|(with_reducible refine Kd.C_drew ?_)));(case side10 => exact HC1_1.out);(case side11 => repeat (first|exact (Kd.C_below HR1_2.out HB.out)|(with_reducible refine Kd.C_alloc ?_ _)|(with_reducible refine Kd.C_drewN ?_ _)|(with_reducible refine Kd.C_drew ?_)));(case side12 => exact HC1_2.out);rintro e w47 ⟨rfl,hb⟩;refine ⟨_,rfl,?_⟩;replace BK541:=zh (cD BK541.out (by (with_reducible repeat first|apply ze|apply zf|apply zg);exact BK541.out) hb);replace BK542:=zh (cD BK542.out (by (with_reducible repeat first|apply ze|apply zf|apply zg);exact BK542.out) hb);replace HB:=zh (zC (by repeat (with_reducible first|exact HB.out|apply za|apply zb|apply zc|refine zd ?_ GE541.out|refine zd ?_ GE542.out)) hb);(try clear hb);(try clear hb2);(try clear hk);(try clear hi)))
 go_ret
 exact ⟨by first|rfl|(simp [yt,yu] <;> rfl)|(simp [*,yt,yu] <;> rfl),by repeat (with_reducible first|exact HB.out|apply za|apply zb|apply zc|refine zd ?_ GE541.out|refine zd ?_ GE542.out)⟩


def Ff.l0 : Nat→Int→ByteArray→Option (ByteArray)
 | 0,_,_ => none
 | k + 1,x0,x3 => if x0 > 0 then ((some (([(wrap64 (48 + (Int.tmod x0 10))) % 256] : List Int) : List Int)).bind fun y546 => (if (strOfNums y546).size + x3.size≤9223372036854775807 then (Ff.l0 k (wrap64 (Int.tdiv x0 10)) ((strOfNums y546) ++ x3)) else (none))) else (if 1 + x3.size≤9223372036854775807 then (some ((⟨#[109]⟩ : ByteArray) ++ x3)) else (none))
def Ff.f (k : Nat) (a0 : Int) : Option (ByteArray):=if a0≤0 then (some (⟨#[109,48]⟩ : ByteArray)) else (Ff.l0 k a0 (⟨#[]⟩ : ByteArray))
theorem Ff.mono_l : ∀ k,(∀ y0 y1,LeO (Ff.l0 k y0 y1) (Ff.l0 (k + 1) y0 y1))
 | 0 => fun _ _ r h => by simp [Ff.l0] at h
 | k + 1 => by
  have ih0:=Ff.mono_l k;intro y0 y1;unfold Ff.l0
  repeat' first|(with_reducible first|exact ih0 _ _|exact zQ _|exact zN _|refine zP ?_ ?_|refine zO ?_ (fun _ => ?_))|refine zP ?_ ?_|refine zO ?_ (fun _ => ?_)
theorem Ff.mono : ∀ a0 k,LeO (Ff.f k a0) (Ff.f (k + 1) a0):=by
 intro a0 k;have ih0:=Ff.mono_l k;unfold Ff.f
 repeat' first|(with_reducible first|exact ih0 _ _|exact zQ _|exact zN _|refine zP ?_ ?_|refine zO ?_ (fun _ => ?_))|refine zP ?_ ?_|refine zO ?_ (fun _ => ?_)
set_option maxHeartbeats 8000000 in
set_option maxRecDepth 100000 in
theorem Ff.calls (k : Nat) (a0 : Int) (r : ByteArray) (w : World) (h : Ff.f k a0=some r) :
  Calls Tryz.prog 50 #[.int .i64 a0] w fun e w' => e = .returned (.string r)∧Below w.heap.size w w':=by
 have HB:=zh (Below.refl w.heap.size w);have H : (if a0≤0 then (some (⟨#[109,48]⟩ : ByteArray)) else (Ff.l0 k a0 (⟨#[]⟩ : ByteArray)))=some r:=h;clear h
 by_cases c2 : a0≤0
 ·
  rw [if_pos c2] at H
  have c2b0 : decide (a0≤0)=true:=decide_eq_true c2;clear c2;obtain rfl:=zU H
  go_enter Tryz.func50,Tryz.ntmps50
  go_wp2
  go_ret
  exact ⟨by first|rfl|(simp [yt,yu] <;> rfl)|(simp [*,yt,yu] <;> rfl),by repeat (with_reducible first|exact HB.out|apply za|apply zb|apply zc)⟩
 rw [if_neg c2] at H;have c2b0 : decide (a0≤0)=false:=decide_eq_false c2;clear c2;have H':=zh H;clear H
 go_enter Tryz.func50,Tryz.ntmps50
 go_wp2
 go_loopg [0,3] k (fun kq v0 v3 w' => ∃ (x0_1 : Int) (x3_1 : ByteArray),v0 = .int .i64 x0_1∧v3 = .string x3_1∧Aside0 (Ff.l0 kq x0_1 x3_1=some r)∧Aside0 (kq≤k)∧Aside0 (Below w.heap.size w w'))
 case atStart => exact ⟨(a0),((⟨#[]⟩ : ByteArray)),(by first|rfl|(simp;done)|(simp [*];done)),(by first|rfl|(simp;done)|(simp [*];done)),H',⟨ye _⟩,⟨by repeat (with_reducible first|exact HB.out|apply za|apply zb|apply zc)⟩⟩
 case round =>
  clear H'
  try clear c2 c2b0
  try clear p2
  obtain ⟨x0_1,x3_1,rfl,rfl,HA,HK1,HB⟩:=hrel
  cases gk with
  | zero => exact absurd HA.out (by simp [Ff.l0])
  | succ k1 =>
   have H:=HA.out;clear HA;simp only [Ff.l0] at H
   by_cases c3 : x0_1 > 0
   ·
    rw [if_pos c3] at H
    have c3b0 : decide (0<x0_1)=true:=decide_eq_true c3;clear c3;obtain ⟨y546,hy546⟩ : ∃ y_ : List Int,y_=(([(wrap64 (48 + (Int.tmod x0_1 10))) % 256] : List Int)):=⟨_,rfl⟩;replace H : (if (strOfNums y546).size + x3_1.size≤9223372036854775807 then (Ff.l0 k1 (wrap64 (Int.tdiv x0_1 10)) ((strOfNums y546) ++ x3_1)) else (none))=some r:=by first|(rw [hy546];with_reducible exact H)|(have H2_:=(Option.bind_some _ _).symm.trans H;rw [hy546];with_reducible exact H2_)|(have H2_:=(Option.bind_some _ _).symm.trans H;with_reducible exact H2_)|with_reducible exact H|(rw [hy546];exact H)|exact H
    have Ny546:=zh hy546;clear hy546
    by_cases c4 : (strOfNums y546).size + x3_1.size≤9223372036854775807
    ·
     rw [if_pos c4] at H
     have c4b0:=eq_true c4;have c4b1 : decide ((strOfNums y546).size + x3_1.size≤9223372036854775807)=true:=decide_eq_true c4
     try have c4b2 : (9223372036854775807<(strOfNums y546).size + x3_1.size)=False:=eq_false (Nat.not_lt.2 c4)
     have H':=zh H;clear H
     go_wp2_with (first|((with_reducible refine zK (N:=12) rfl ?_);refine Kd.R_lit (Kd.int .u8) _ 5 ?hg (N:=12) ?hd (xs:=([(wrap64 (48 + (Int.tmod x0_1 10))) % 256] : List Int)) (inner:=[.int .u8 ((wrap64 (48 + (Int.tmod x0_1 10))) % 256)]) (ok:=fun _ => True) (okp:=fun _ => True) ?hr ?hp (fun _ hk => hk) trivial (Below.refl _ _) (ye _) (by simp) ?_;(case hd|hg => rfl);(case hr => go_simp <;> rfl);(case hp => exact (Reps.one (show Kd.M (Kd.int .u8) _ _ _ ((wrap64 (48 + (Int.tmod x0_1 10))) % 256) [.int .u8 ((wrap64 (48 + (Int.tmod x0_1 10))) % 256)] from rfl) (Reps.none _ _)));intro v547 w5 ho6 hb hg_ hnew_;clear hg_ hnew_;(first|rw [← Ny546.out] at ho6|(simp only [Int.reduceToNat] at ho6;rw [← Ny546.out] at ho6));have HO548:=zh (yy ho6 (zB (by repeat (with_reducible first|exact HB.out|apply za|apply zb|apply zc))));replace HB:=zh (zC (by repeat (with_reducible first|exact HB.out|apply za|apply zb|apply zc)) hb);clear hb ho6;have hcv7:=own_string (P:=Tryz.prog) Tryz.underlying124 Tryz.underlying5 Tryz.underlying9 (Kd.own_of_R HO548.out)))
     go_roundg k1
     case measure => have:=HK1.out;omega
     case rel => exact ⟨(wrap64 (Int.tdiv x0_1 10)),((strOfNums y546) ++ x3_1),(by first|rfl|(simp;done)|(simp [*];done)),(by first|rfl|(simp;done)|(simp [*];done)),H',⟨by have:=HK1.out;omega⟩,⟨by repeat (with_reducible first|exact HB.out|apply za|apply zb|apply zc)⟩⟩
    rw [if_neg c4] at H;exact absurd H (by simp)
   rw [if_neg c3] at H;have c3b0 : decide (0<x0_1)=false:=decide_eq_false c3;clear c3
   by_cases c8 : 1 + x3_1.size≤9223372036854775807
   ·
    rw [if_pos c8] at H
    have c8b0:=eq_true c8;have c8b1 : decide (1 + x3_1.size≤9223372036854775807)=true:=decide_eq_true c8
    try have c8b2 : (9223372036854775807<1 + x3_1.size)=False:=eq_false (Nat.not_lt.2 c8)
    obtain rfl:=zU H
    go_wp2
    go_ret
    exact ⟨by first|rfl|(simp [yt,yu] <;> rfl)|(simp [*,yt,yu] <;> rfl),by repeat (with_reducible first|exact HB.out|apply za|apply zb|apply zc)⟩
   rw [if_neg c8] at H;exact absurd H (by simp)


def Fz.l0 : Nat→List (S116)→Int→Int→Option (Int)
 | 0,_,_,_ => none
 | k + 1,x0,x1,x5 => if x5<(x0.length : Int) then (none) else (some x1)
def Fz.f (k : Nat) (l0 : List (S116)) (a1 : Int) : Option (Int):=Fz.l0 k l0 a1 0
theorem Fz.mono_l : ∀ k,(∀ y0 y1 y2,LeO (Fz.l0 k y0 y1 y2) (Fz.l0 (k + 1) y0 y1 y2))
 | 0 => fun _ _ _ r h => by simp [Fz.l0] at h
 | k + 1 => by
  have ih0:=Fz.mono_l k;intro y0 y1 y2;unfold Fz.l0
  repeat' first|(with_reducible first|exact ih0 _ _ _|exact zQ _|exact zN _|refine zP ?_ ?_|refine zO ?_ (fun _ => ?_))|refine zP ?_ ?_|refine zO ?_ (fun _ => ?_)
theorem Fz.mono : ∀ a0 a1 k,LeO (Fz.f k a0 a1) (Fz.f (k + 1) a0 a1):=by
 intro a0 a1 k;have ih0:=Fz.mono_l k;unfold Fz.f
 repeat' first|(with_reducible first|exact ih0 _ _ _|exact zQ _|exact zN _|refine zP ?_ ?_|refine zO ?_ (fun _ => ?_))|refine zP ?_ ?_|refine zO ?_ (fun _ => ?_)
set_option maxHeartbeats 8000000 in
set_option maxRecDepth 100000 in
theorem Fz.calls (k : Nat) (A0 : Option Addr) (c0 : Nat) (l0 : List (S116)) (a1 : Int) (r : Int) (w : World) (hr0 : Kd.C k116 w A0 l0.length l0) (hc0 : l0.length≤c0) (h : Fz.f k l0 a1=some r) :
  Calls Tryz.prog 51 #[.slice A0 l0.length c0,.int .i64 a1] w fun e w' => e = .returned (.int .i64 r)∧Below w.heap.size w w':=by
 have HR0:=zh hr0;have HC0:=zh hc0;clear hr0 hc0;have HB:=zh (Below.refl w.heap.size w);have H : (Fz.l0 k l0 a1 0)=some r:=h;clear h;have H':=zh H;clear H
 go_enter Tryz.func51,Tryz.ntmps51
 go_wp2
 go_loopg [1,5] k (fun kq v1 v5 w' => ∃ (x1_1 : Int) (x5_1 : Int),v1 = .int .i64 x1_1∧v5 = .int .i64 x5_1∧Aside0 (Fz.l0 kq l0 x1_1 x5_1=some r)∧Aside0 (kq≤k)∧Aside0 (Below w.heap.size w w'))
 case atStart => exact ⟨(a1),(0),(by first|rfl|(simp;done)|(simp [*];done)),(by first|rfl|(simp;done)|(simp [*];done)),H',⟨ye _⟩,⟨by repeat (with_reducible first|exact HB.out|apply za|apply zb|apply zc)⟩⟩
 case round =>
  clear H'
  try clear p2
  obtain ⟨x1_1,x5_1,rfl,rfl,HA,HK1,HB⟩:=hrel
  cases gk with
  | zero => exact absurd HA.out (by simp [Fz.l0])
  | succ k1 =>
   have H:=HA.out;clear HA;simp only [Fz.l0] at H
   by_cases c3 : x5_1<(l0.length : Int)
   ·
    rw [if_pos c3] at H
    exact absurd H (by simp)
   rw [if_neg c3] at H;have c3b0 : decide (x5_1<(l0.length : Int))=false:=decide_eq_false c3;clear c3;obtain rfl:=zU H
   go_wp2
   go_ret
   exact ⟨by first|rfl|(simp [yt,yu] <;> rfl)|(simp [*,yt,yu] <;> rfl),by repeat (with_reducible first|exact HB.out|apply za|apply zb|apply zc)⟩


def Fx.l0 : Nat→List (S84)→Int→Int→Option (Int)
 | 0,_,_,_ => none
 | k + 1,x0,x1,x5 => if x5<(x0.length : Int) then (none) else (some x1)
def Fx.f (k : Nat) (l0 : List (S84)) (a1 : Int) : Option (Int):=Fx.l0 k l0 a1 0
theorem Fx.mono_l : ∀ k,(∀ y0 y1 y2,LeO (Fx.l0 k y0 y1 y2) (Fx.l0 (k + 1) y0 y1 y2))
 | 0 => fun _ _ _ r h => by simp [Fx.l0] at h
 | k + 1 => by
  have ih0:=Fx.mono_l k;intro y0 y1 y2;unfold Fx.l0
  repeat' first|(with_reducible first|exact ih0 _ _ _|exact zQ _|exact zN _|refine zP ?_ ?_|refine zO ?_ (fun _ => ?_))|refine zP ?_ ?_|refine zO ?_ (fun _ => ?_)
theorem Fx.mono : ∀ a0 a1 k,LeO (Fx.f k a0 a1) (Fx.f (k + 1) a0 a1):=by
 intro a0 a1 k;have ih0:=Fx.mono_l k;unfold Fx.f
 repeat' first|(with_reducible first|exact ih0 _ _ _|exact zQ _|exact zN _|refine zP ?_ ?_|refine zO ?_ (fun _ => ?_))|refine zP ?_ ?_|refine zO ?_ (fun _ => ?_)
set_option maxHeartbeats 8000000 in
set_option maxRecDepth 100000 in
theorem Fx.calls (k : Nat) (A0 : Option Addr) (c0 : Nat) (l0 : List (S84)) (a1 : Int) (r : Int) (w : World) (hr0 : Kd.C k84 w A0 l0.length l0) (hc0 : l0.length≤c0) (h : Fx.f k l0 a1=some r) :
  Calls Tryz.prog 52 #[.slice A0 l0.length c0,.int .i64 a1] w fun e w' => e = .returned (.int .i64 r)∧Below w.heap.size w w':=by
 have HR0:=zh hr0;have HC0:=zh hc0;clear hr0 hc0;have HB:=zh (Below.refl w.heap.size w);have H : (Fx.l0 k l0 a1 0)=some r:=h;clear h;have H':=zh H;clear H
 go_enter Tryz.func52,Tryz.ntmps52
 go_wp2
 go_loopg [1,5] k (fun kq v1 v5 w' => ∃ (x1_1 : Int) (x5_1 : Int),v1 = .int .i64 x1_1∧v5 = .int .i64 x5_1∧Aside0 (Fx.l0 kq l0 x1_1 x5_1=some r)∧Aside0 (kq≤k)∧Aside0 (Below w.heap.size w w'))
 case atStart => exact ⟨(a1),(0),(by first|rfl|(simp;done)|(simp [*];done)),(by first|rfl|(simp;done)|(simp [*];done)),H',⟨ye _⟩,⟨by repeat (with_reducible first|exact HB.out|apply za|apply zb|apply zc)⟩⟩
 case round =>
  clear H'
  try clear p2
  obtain ⟨x1_1,x5_1,rfl,rfl,HA,HK1,HB⟩:=hrel
  cases gk with
  | zero => exact absurd HA.out (by simp [Fx.l0])
  | succ k1 =>
   have H:=HA.out;clear HA;simp only [Fx.l0] at H
   by_cases c3 : x5_1<(l0.length : Int)
   ·
    rw [if_pos c3] at H
    exact absurd H (by simp)
   rw [if_neg c3] at H;have c3b0 : decide (x5_1<(l0.length : Int))=false:=decide_eq_false c3;clear c3;obtain rfl:=zU H
   go_wp2
   go_ret
   exact ⟨by first|rfl|(simp [yt,yu] <;> rfl)|(simp [*,yt,yu] <;> rfl),by repeat (with_reducible first|exact HB.out|apply za|apply zb|apply zc)⟩


def Fo.l0 : Nat→List (S54)→Int→Int→Option (Int×(List (S54)))
 | 0,_,_,_ => none
 | k + 1,x0,x1,x5 => if x5<(x0.length : Int) then ((Ff.f k x1).bind fun t558 => (if 0≤x5 then ((some (x0.set (x5 : Int).toNat (⟨t558,(rd_T54 x0 x5).f1,(rd_T54 x0 x5).f2⟩ : S54) : List (S54))).bind fun y559 => ((Fz.f k ((rd_T54 y559 x5).f1) (wrap64 (x1 + 1))).bind fun t561 => ((Fx.f k ((rd_T54 y559 x5).f2) t561).bind fun t563 => (Fo.l0 k y559 t563 (wrap64 (x5 + 1)))))) else (none))) else (some (x1,x0))
def Fo.f (k : Nat) (l0 : List (S54)) (a1 : Int) : Option (Int×(List (S54))):=Fo.l0 k l0 a1 0
theorem Fo.mono_l : ∀ k,(∀ y0 y1 y2,LeO (Fo.l0 k y0 y1 y2) (Fo.l0 (k + 1) y0 y1 y2))
 | 0 => fun _ _ _ r h => by simp [Fo.l0] at h
 | k + 1 => by
  have ih0:=Fo.mono_l k;intro y0 y1 y2;unfold Fo.l0
  repeat' first|(with_reducible first|exact ih0 _ _ _|exact Ff.mono _ _|exact Fz.mono _ _ _|exact Fx.mono _ _ _|exact zQ _|exact zN _|refine zP ?_ ?_|refine zO ?_ (fun _ => ?_))|refine zP ?_ ?_|refine zO ?_ (fun _ => ?_)
theorem Fo.mono : ∀ a0 a1 k,LeO (Fo.f k a0 a1) (Fo.f (k + 1) a0 a1):=by
 intro a0 a1 k;have ih0:=Fo.mono_l k;unfold Fo.f
 repeat' first|(with_reducible first|exact ih0 _ _ _|exact Ff.mono _ _|exact Fz.mono _ _ _|exact Fx.mono _ _ _|exact zQ _|exact zN _|refine zP ?_ ?_|refine zO ?_ (fun _ => ?_))|refine zP ?_ ?_|refine zO ?_ (fun _ => ?_)
set_option maxHeartbeats 8000000 in
set_option maxRecDepth 100000 in
theorem Fo.calls (k : Nat) (P0_ : Nat→Prop) (u9000_ : Value) (l0 : List (S54)) (a1 : Int) (r1 : Int) (r2 : List (S54)) (w0 w : World) (hB : Below w0.heap.size w0 w) (ho0 : Kd.R k54 54 w w0.heap.size P0_ u9000_ l0) (h : Fo.f k l0 a1=some (r1,r2)) :
  Calls Tryz.prog 28 #[u9000_,.int .i64 a1] w fun e w' => e = .returned (.int .i64 r1)∧Kd.R k54 54 w' w0.heap.size (fun k_ => (P0_ k_∨w.heap.size≤k_)) u9000_ r2∧Below w0.heap.size w0 w' ∧ Kept w w' (fun k_ => P0_ k_):=by
 have HO0:=zh (show Kd.R k54 54 w w0.heap.size (fun k_ => (P0_ k_∨w.heap.size≤k_)) u9000_ l0 from zM ho0 (fun k_ hk => (.inl hk)));have HK:=zh (Kept.refl w (fun k_ => P0_ k_));have HW0:=zh hB.size;have HB:=zh hB;clear hB;have H : (Fo.l0 k l0 a1 0)=some (r1,r2):=h;clear h;have H':=zh H;clear H
 go_enter Tryz.func28,Tryz.ntmps28
 go_wp2
 go_loopg [1,5] k (fun kq v1 v5 w' => ∃ (x0_1 : List (S54)) (x1_1 : Int) (x5_1 : Int),v1 = .int .i64 x1_1∧v5 = .int .i64 x5_1∧Aside0 (Fo.l0 kq x0_1 x1_1 x5_1=some (r1,r2))∧Aside0 (kq≤k)∧Aside0 (Kd.R k54 54 w' w0.heap.size (fun k_ => (P0_ k_∨w.heap.size≤k_)) u9000_ x0_1)∧Aside0 (Kept w w' (fun k_ => P0_ k_))∧Aside0 (Below w0.heap.size w0 w'))
 case atStart => exact ⟨(l0),(a1),(0),(by first|rfl|(simp;done)|(simp [*];done)),(by first|rfl|(simp;done)|(simp [*];done)),H',⟨ye _⟩,⟨by (with_reducible repeat (first|apply zm|apply zn|apply zo));exact HO0.out⟩,⟨by repeat (with_reducible first|exact HK.out|apply zr|apply zp|apply zq)⟩,⟨by repeat (with_reducible first|exact HB.out|apply za|apply zb|apply zc)⟩⟩
 case round =>
  clear H'
  try clear c2
  try clear p2
  obtain ⟨x0_1,x1_1,x5_1,rfl,rfl,HA,HK1,HO_0,HK,HB⟩:=hrel
  cases gk with
  | zero => exact absurd HA.out (by simp [Fo.l0])
  | succ k1 =>
   have H:=HA.out;clear HA;simp only [Fo.l0] at H
   by_cases c3 : x5_1<(x0_1.length : Int)
   ·
    rw [if_pos c3] at H
    have c3b0 : decide (x5_1<(x0_1.length : Int))=true:=decide_eq_true c3;clear c3;replace H:=zT.mp H;obtain ⟨t558,A40,H⟩:=H;replace H : (if 0≤x5_1 then ((some (x0_1.set (x5_1 : Int).toNat (⟨t558,(rd_T54 x0_1 x5_1).f1,(rd_T54 x0_1 x5_1).f2⟩ : S54) : List (S54))).bind fun y559 => ((Fz.f k1 ((rd_T54 y559 x5_1).f1) (wrap64 (x1_1 + 1))).bind fun t561 => ((Fx.f k1 ((rd_T54 y559 x5_1).f2) t561).bind fun t563 => (Fo.l0 k1 y559 t563 (wrap64 (x5_1 + 1)))))) else (none))=some (r1,r2):=H;have A4:=zh A40;clear A40
    by_cases c5 : 0≤x5_1
    ·
     rw [if_pos c5] at H
     have c5b0 : decide (0≤x5_1)=true:=decide_eq_true c5;clear c5;obtain ⟨y559,hy559⟩ : ∃ y_ : List (S54),y_=(x0_1.set (x5_1 : Int).toNat (⟨t558,(rd_T54 x0_1 x5_1).f1,(rd_T54 x0_1 x5_1).f2⟩ : S54)):=⟨_,rfl⟩;replace H : ((Fz.f k1 ((rd_T54 y559 x5_1).f1) (wrap64 (x1_1 + 1))).bind fun t561 => ((Fx.f k1 ((rd_T54 y559 x5_1).f2) t561).bind fun t563 => (Fo.l0 k1 y559 t563 (wrap64 (x5_1 + 1)))))=some (r1,r2):=by first|(rw [hy559];with_reducible exact H)|(have H2_:=(Option.bind_some _ _).symm.trans H;rw [hy559];with_reducible exact H2_)|(have H2_:=(Option.bind_some _ _).symm.trans H;with_reducible exact H2_)|with_reducible exact H|(rw [hy559];exact H)|exact H
     have Ny559:=zh hy559;clear hy559;replace H:=zT.mp H;obtain ⟨t561,A70,H⟩:=H;replace H : ((Fx.f k1 ((rd_T54 y559 x5_1).f2) t561).bind fun t563 => (Fo.l0 k1 y559 t563 (wrap64 (x5_1 + 1))))=some (r1,r2):=H;have A7:=zh A70;clear A70;replace H:=zT.mp H;obtain ⟨t563,A80,H⟩:=H;replace H : (Fo.l0 k1 y559 t563 (wrap64 (x5_1 + 1)))=some (r1,r2):=H;have A8:=zh A80;clear A80;have H':=zh H;clear H;obtain ⟨Ao9,co9,eo9⟩:=yk HO_0.out;subst eo9
     go_wp2_with (first|((with_reducible refine zJ (f:=50) rfl ?_);refine yj (some 15) rfl rfl Tryz.func50 (by kernel_rfl) rfl #[.int .i64 x1_1] rfl (by (try simp only [zt,zu,zv]);first|done|rfl|(simp only [zw,zx];rfl)|(simp only [yr,ys,zV,zW];rfl)) ?_;(with_reducible refine (Ff.calls k1  x1_1 t558 _ A4.out).mono ?_);rintro e w10 ⟨rfl,hb⟩;refine ⟨_,rfl,?_⟩;replace HO_0:=zh (yg (by (with_reducible repeat (first|apply zm|apply zn|apply zo));exact HO_0.out) hb);replace HK:=zh (Kept.below (S:=(fun k_ => P0_ k_)) (by repeat (with_reducible first|exact HK.out|apply zr|apply zp|apply zq)) hb);replace HB:=zh (zC (by repeat (with_reducible first|exact HB.out|apply za|apply zb|apply zc)) hb);(try clear hb);(try clear hb2);(try clear hk);(try clear hi);have p6 : 0≤(x5_1 : Int):=zy (by first|(with_reducible assumption)|assumption);have q6 : (x5_1 : Int)<((x0_1.length : Int) : Int):=zy (by first|(with_reducible assumption)|assumption);obtain ⟨go6,co6,eo6,gb6,gl6,cl6,HG6⟩:=Kd.R_form HO_0.out (by omega);(first|cases eo6|(injection eo6 with ea_ en_ ec_;(first|subst ea_|(injection ea_ with ea_;subst ea_));subst ec_;clear en_));have GB6:=zh gb6;have GG6:=zh HG6;clear gb6 gl6 HG6;have HMgo6:=zh (show (P0_ go6∨w.heap.size≤go6) from (HO_0.out.1 _ rfl));obtain ⟨ce6,hcl6,hM6,hcc6,hfr6⟩:=Kd.R_elem HO_0.out z54 (x5_1 : Int) p6 q6;obtain ⟨ve6_1,ve6_2,rfl,ge6_1,ge6_2⟩:=k54_openM hM6;have hx6_0 : w10.cell? ⟨go6,(x5_1 : Int).toNat * 3,none⟩=some (.string ((rd_T54 x0_1 x5_1).f0)):=hcc6 0 _ rfl;have hx6_1 : w10.cell? ⟨go6,(x5_1 : Int).toNat * 3 + 1,none⟩=some (ve6_1):=hcc6 1 _ rfl;have hx6_2 : w10.cell? ⟨go6,(x5_1 : Int).toNat * 3 + 2,none⟩=some (ve6_2):=hcc6 2 _ rfl;have hf6_0 : w10.frozen? ⟨go6,(x5_1 : Int).toNat * 3,none⟩=false:=hfr6 0;have hf6_1 : w10.frozen? ⟨go6,(x5_1 : Int).toNat * 3 + 1,none⟩=false:=hfr6 1;have hf6_2 : w10.frozen? ⟨go6,(x5_1 : Int).toNat * 3 + 2,none⟩=false:=hfr6 2;clear hcl6 hcc6 hfr6 hM6;replace p6:=eq_true p6;replace q6:=eq_true q6;have HX11:=zh (show Kd.R k54 54 w10 w0.heap.size (fun k_ => (P0_ k_∨w.heap.size≤k_)) (.slice (some ⟨go6,0,none⟩) x0_1.length co9) x0_1 from (by (with_reducible repeat (first|apply zm|apply zn|apply zo));exact HO_0.out));obtain ⟨ce11,hcl11,hM11,hcc11,hfr11⟩:=Kd.R_elem HX11.out z54 (x5_1 : Int) (zy (by first|(with_reducible assumption)|assumption)) (by have h_ : (x5_1 : Int)<((x0_1.length : Int) : Int):=zy (by first|(with_reducible assumption)|assumption);first|exact h_|(have e_:=(yh HO_0.out).1;omega)|simpa using h_);obtain ⟨ve11_1,ve11_2,rfl,ge11_1,ge11_2⟩:=k54_openM hM11;have HP11:=Kd.R_seg HX11.out (x5_1 : Int) (zy (by first|(with_reducible assumption)|assumption)) (by have h_ : (x5_1 : Int)<((x0_1.length : Int) : Int):=zy (by first|(with_reducible assumption)|assumption);first|exact h_|(have e_:=(yh HO_0.out).1;omega)|simpa using h_) (seg:=[.string t558]) (j:=0) hcl11 hcc11 (show 1≤3 from by decide) (x':=(⟨t558,(rd_T54 x0_1 x5_1).f1,(rd_T54 x0_1 x5_1).f2⟩ : S54)) (k54_mkM _ _ _ (⟨t558,(rd_T54 x0_1 x5_1).f1,(rd_T54 x0_1 x5_1).f2⟩ : S54) ge11_1 ge11_2) (fun _ hk => hk);have hx11_0:=hcc11 0 _ rfl;(try simp only [show (k54).sz=3 from rfl,Nat.mul_one,Nat.add_zero] at hx11_0);have hf11_0:=hfr11 0;(try simp only [show (k54).sz=3 from rfl,Nat.mul_one,Nat.add_zero] at hf11_0);clear hcl11 hcc11 hfr11 hM11)|((with_reducible refine gate_store (t:=9) (p:=17) rfl ?_);refine store_event (t:=9) (p:=17) (v:=?vo_w12) (w1:=(w10.setCell ⟨go6,(x5_1 : Int).toNat * 3,none⟩ (.string t558))) ?hg ?ho ?hn ?hr ?_;(case ho => rfl);(case hg => rfl);(case hn => rfl);(case hr => go_simp <;> rfl);intro w12 hw;have hg : w10.grownBy w12 (some go6):=(by rw [hw];exact HP11.2);have hp_ : Kd.R k54 54 w12 w0.heap.size (fun k_ => (P0_ k_∨w.heap.size≤k_)) (.slice (some ⟨go6,0,none⟩) x0_1.length co9) y559:=(by rw [hw,Ny559.out];exact HP11.1);clear HP11;replace HB:=zh ((by rw [hw];exact zd (HB.out) GB6.out : Below w0.heap.size w0 w12));replace HK:=zh (yA (S:=(fun k_ => P0_ k_)) hg (by repeat (with_reducible first|exact HK.out|apply zr|apply zp|apply zq)) (fun k_ e_ => (HO_0.out.1 k_ e_)));replace HO_0:=zh (hp_);clear hg hw hp_;have p560 : 0≤(x5_1 : Int):=zy (by first|(with_reducible assumption)|assumption);have q560 : x5_1<(y559.length : Int):=(by have h_ : (x5_1 : Int)<((x0_1.length : Int) : Int):=zy (by first|(with_reducible assumption)|assumption);first|(have e_:=(yh HO_0.out).1;omega)|simpa only [Ny559.out,List.length_set] using h_);have ql560 : ((x5_1 : Int)<((x0_1.length : Int) : Int))=True:=eq_true (zy (by first|(with_reducible assumption)|assumption));obtain ⟨ad560,A560_1,c560_1,A560_2,c560_2,e560,hx560_0,hx560_1,hx560_2,hl560_1,hi560_1,hl560_2,hi560_2⟩:=at_T54 (yh HO_0.out).2.2 x5_1 p560 q560;obtain rfl : (⟨go6,0,none⟩ : Addr)=ad560:=(by injection e560);obtain ⟨ce560,hce560,hMe560,hcc560⟩:=Kd.R_get HO_0.out z54 x5_1 p560 (by first|exact q560|exact zy (by first|(with_reducible assumption)|assumption)|(have e_:=(yh HO_0.out).1;omega));obtain ⟨ve560_1,ve560_2,rfl,ge560_1,ge560_2⟩:=k54_openM hMe560;have hv560_1:=hcc560 1 _ rfl;rw [add_field _ _ 1 (by omega)] at hv560_1;replace hv560_1:=zU (hv560_1.symm.trans hx560_1);rw [hv560_1] at ge560_1;have HL560_1:=zh (show Kd.R k116 116 _ _ _ _ ((rd_T54 y559 x5_1).f1) from ge560_1);clear hv560_1 ge560_1;have hv560_2:=hcc560 2 _ rfl;rw [add_field _ _ 2 (by omega)] at hv560_2;replace hv560_2:=zU (hv560_2.symm.trans hx560_2);rw [hv560_2] at ge560_2;have HL560_2:=zh (show Kd.R k84 84 _ _ _ _ ((rd_T54 y559 x5_1).f2) from ge560_2);clear hv560_2 ge560_2 hcc560 hce560;(first|simp only [add_plain] at hx560_0|simp only [add_at] at hx560_0|simp only [Addr.add,Nat.zero_add] at hx560_0|skip);(first|simp only [add_plain] at hx560_1|simp only [add_at] at hx560_1|simp only [Addr.add,Nat.zero_add] at hx560_1|skip);(first|simp only [add_plain] at hx560_2|simp only [add_at] at hx560_2|simp only [Addr.add,Nat.zero_add] at hx560_2|skip);have HR560_1:=zh hi560_1;have HC560_1:=zh hl560_1;clear hi560_1 hl560_1;have HR560_2:=zh hi560_2;have HC560_2:=zh hl560_2;clear hi560_2 hl560_2;replace p560:=eq_true p560;replace q560:=eq_true q560)|((with_reducible refine zJ (f:=51) rfl ?_);refine yj (some 26) rfl rfl Tryz.func51 (by kernel_rfl) rfl #[.slice A560_1 ((rd_T54 y559 x5_1).f1).length c560_1,.int .i64 (wrap64 (x1_1 + 1))] rfl (by (try simp only [zt,zu,zv]);first|done|rfl|(simp only [zw,zx];rfl)|(simp only [yr,ys,zV,zW];rfl)) ?_;(with_reducible refine (Fz.calls k1  _ _ ((rd_T54 y559 x5_1).f1) (wrap64 (x1_1 + 1)) t561 _ ?side1 ?side2 A7.out).mono ?_);(case side1 => repeat (first|exact (by repeat (first|(with_reducible exact HR560_1.out)|(with_reducible refine Kd.C_alloc ?_ _)|(with_reducible refine Kd.C_drewN ?_ _)|(with_reducible refine Kd.C_drew ?_)|exact HR560_1.out))|(with_reducible refine Kd.C_alloc ?_ _)|(with_reducible refine Kd.C_drewN ?_ _)|(with_reducible refine Kd.C_drew ?_)));(case side2 => exact HC560_1.out);rintro e w13 ⟨rfl,hb⟩;refine ⟨_,rfl,?_⟩;replace HO_0:=zh (yg (by (with_reducible repeat (first|apply zm|apply zn|apply zo));exact HO_0.out) hb);replace HL560_1:=zh (yg (by (with_reducible repeat (first|apply zm|apply zn|apply zo));exact HL560_1.out) hb);replace HL560_2:=zh (yg (by (with_reducible repeat (first|apply zm|apply zn|apply zo));exact HL560_2.out) hb);replace HR560_1:=zh (Kd.C_below (by repeat (first|(with_reducible exact HR560_1.out)|(with_reducible refine Kd.C_alloc ?_ _)|(with_reducible refine Kd.C_drewN ?_ _)|(with_reducible refine Kd.C_drew ?_)|exact HR560_1.out)) hb);replace HR560_2:=zh (Kd.C_below (by repeat (first|(with_reducible exact HR560_2.out)|(with_reducible refine Kd.C_alloc ?_ _)|(with_reducible refine Kd.C_drewN ?_ _)|(with_reducible refine Kd.C_drew ?_)|exact HR560_2.out)) hb);replace HK:=zh (Kept.below (S:=(fun k_ => P0_ k_)) (by repeat (with_reducible first|exact HK.out|apply zr|apply zp|apply zq)) hb);replace HB:=zh (zC (by repeat (with_reducible first|exact HB.out|apply za|apply zb|apply zc)) hb);(try clear hb);(try clear hb2);(try clear hk);(try clear hi);have p562 : 0≤(x5_1 : Int):=zy (by first|(with_reducible assumption)|assumption);have q562 : x5_1<(y559.length : Int):=(by have h_ : (x5_1 : Int)<((x0_1.length : Int) : Int):=zy (by first|(with_reducible assumption)|assumption);first|(have e_:=(yh HO_0.out).1;omega)|simpa only [Ny559.out,List.length_set] using h_);have ql562 : ((x5_1 : Int)<((x0_1.length : Int) : Int))=True:=eq_true (zy (by first|(with_reducible assumption)|assumption));obtain ⟨ad562,A562_1,c562_1,A562_2,c562_2,e562,hx562_0,hx562_1,hx562_2,hl562_1,hi562_1,hl562_2,hi562_2⟩:=at_T54 (yh HO_0.out).2.2 x5_1 p562 q562;obtain rfl : (⟨go6,0,none⟩ : Addr)=ad562:=(by injection e562);obtain ⟨ce562,hce562,hMe562,hcc562⟩:=Kd.R_get HO_0.out z54 x5_1 p562 (by first|exact q562|exact zy (by first|(with_reducible assumption)|assumption)|(have e_:=(yh HO_0.out).1;omega));obtain ⟨ve562_1,ve562_2,rfl,ge562_1,ge562_2⟩:=k54_openM hMe562;have hv562_1:=hcc562 1 _ rfl;rw [add_field _ _ 1 (by omega)] at hv562_1;replace hv562_1:=zU (hv562_1.symm.trans hx562_1);rw [hv562_1] at ge562_1;have HL562_1:=zh (show Kd.R k116 116 _ _ _ _ ((rd_T54 y559 x5_1).f1) from ge562_1);clear hv562_1 ge562_1;have hv562_2:=hcc562 2 _ rfl;rw [add_field _ _ 2 (by omega)] at hv562_2;replace hv562_2:=zU (hv562_2.symm.trans hx562_2);rw [hv562_2] at ge562_2;have HL562_2:=zh (show Kd.R k84 84 _ _ _ _ ((rd_T54 y559 x5_1).f2) from ge562_2);clear hv562_2 ge562_2 hcc562 hce562;(first|simp only [add_plain] at hx562_0|simp only [add_at] at hx562_0|simp only [Addr.add,Nat.zero_add] at hx562_0|skip);(first|simp only [add_plain] at hx562_1|simp only [add_at] at hx562_1|simp only [Addr.add,Nat.zero_add] at hx562_1|skip);(first|simp only [add_plain] at hx562_2|simp only [add_at] at hx562_2|simp only [Addr.add,Nat.zero_add] at hx562_2|skip);have HR562_1:=zh hi562_1;have HC562_1:=zh hl562_1;clear hi562_1 hl562_1;have HR562_2:=zh hi562_2;have HC562_2:=zh hl562_2;clear hi562_2 hl562_2;replace p562:=eq_true p562;replace q562:=eq_true q562)|((with_reducible refine zJ (f:=52) rfl ?_);refine yj (some 33) rfl rfl Tryz.func52 (by kernel_rfl) rfl #[.slice A562_2 ((rd_T54 y559 x5_1).f2).length c562_2,.int .i64 t561] rfl (by (try simp only [zt,zu,zv]);first|done|rfl|(simp only [zw,zx];rfl)|(simp only [yr,ys,zV,zW];rfl)) ?_;(with_reducible refine (Fx.calls k1  _ _ ((rd_T54 y559 x5_1).f2) t561 t563 _ ?side1 ?side2 A8.out).mono ?_);(case side1 => repeat (first|exact (by repeat (first|(with_reducible exact HR562_2.out)|(with_reducible refine Kd.C_alloc ?_ _)|(with_reducible refine Kd.C_drewN ?_ _)|(with_reducible refine Kd.C_drew ?_)|exact HR562_2.out))|(with_reducible refine Kd.C_alloc ?_ _)|(with_reducible refine Kd.C_drewN ?_ _)|(with_reducible refine Kd.C_drew ?_)));(case side2 => exact HC562_2.out);rintro e w14 ⟨rfl,hb⟩;refine ⟨_,rfl,?_⟩;replace HO_0:=zh (yg (by (with_reducible repeat (first|apply zm|apply zn|apply zo));exact HO_0.out) hb);replace HL560_1:=zh (yg (by (with_reducible repeat (first|apply zm|apply zn|apply zo));exact HL560_1.out) hb);replace HL560_2:=zh (yg (by (with_reducible repeat (first|apply zm|apply zn|apply zo));exact HL560_2.out) hb);replace HL562_1:=zh (yg (by (with_reducible repeat (first|apply zm|apply zn|apply zo));exact HL562_1.out) hb);replace HL562_2:=zh (yg (by (with_reducible repeat (first|apply zm|apply zn|apply zo));exact HL562_2.out) hb);replace HR560_1:=zh (Kd.C_below (by repeat (first|(with_reducible exact HR560_1.out)|(with_reducible refine Kd.C_alloc ?_ _)|(with_reducible refine Kd.C_drewN ?_ _)|(with_reducible refine Kd.C_drew ?_)|exact HR560_1.out)) hb);replace HR560_2:=zh (Kd.C_below (by repeat (first|(with_reducible exact HR560_2.out)|(with_reducible refine Kd.C_alloc ?_ _)|(with_reducible refine Kd.C_drewN ?_ _)|(with_reducible refine Kd.C_drew ?_)|exact HR560_2.out)) hb);replace HR562_1:=zh (Kd.C_below (by repeat (first|(with_reducible exact HR562_1.out)|(with_reducible refine Kd.C_alloc ?_ _)|(with_reducible refine Kd.C_drewN ?_ _)|(with_reducible refine Kd.C_drew ?_)|exact HR562_1.out)) hb);replace HR562_2:=zh (Kd.C_below (by repeat (first|(with_reducible exact HR562_2.out)|(with_reducible refine Kd.C_alloc ?_ _)|(with_reducible refine Kd.C_drewN ?_ _)|(with_reducible refine Kd.C_drew ?_)|exact HR562_2.out)) hb);replace HK:=zh (Kept.below (S:=(fun k_ => P0_ k_)) (by repeat (with_reducible first|exact HK.out|apply zr|apply zp|apply zq)) hb);replace HB:=zh (zC (by repeat (with_reducible first|exact HB.out|apply za|apply zb|apply zc)) hb);(try clear hb);(try clear hb2);(try clear hk);(try clear hi)))
     go_roundg k1
     case measure => have:=HK1.out;omega
     case rel => exact ⟨(y559),(t563),(wrap64 (x5_1 + 1)),(by first|rfl|(simp;done)|(simp [*];done)),(by first|rfl|(simp;done)|(simp [*];done)),H',⟨by have:=HK1.out;omega⟩,⟨by (with_reducible repeat (first|apply zm|apply zn|apply zo));exact HO_0.out⟩,⟨by repeat (with_reducible first|exact HK.out|apply zr|apply zp|apply zq)⟩,⟨by repeat (with_reducible first|exact HB.out|apply za|apply zb|apply zc)⟩⟩
    rw [if_neg c5] at H;exact absurd H (by simp)
   rw [if_neg c3] at H;have c3b0 : decide (x5_1<(x0_1.length : Int))=false:=decide_eq_false c3;clear c3;simp only [Option.some.injEq,Prod.mk.injEq] at H;obtain ⟨rfl,rfl⟩:=H;obtain ⟨Ao15,co15,eo15⟩:=yk HO_0.out;subst eo15
   go_wp2
   go_ret
   exact ⟨by first|rfl|(simp [yt,yu] <;> rfl)|(simp [*,yt,yu] <;> rfl),by (with_reducible repeat (first|apply zm|apply zn|apply zo));exact HO_0.out,by repeat (with_reducible first|exact HB.out|apply za|apply zb|apply zc),by repeat (with_reducible first|exact HK.out|apply zr|apply zp|apply zq)⟩


def F02.l0 : Nat→List (S71)→Int→Int→Option (Int)
 | 0,_,_,_ => none
 | k + 1,x0,x1,x5 => if x5<(x0.length : Int) then (none) else (some x1)
def F02.f (k : Nat) (l0 : List (S71)) (a1 : Int) : Option (Int):=F02.l0 k l0 a1 0
theorem F02.mono_l : ∀ k,(∀ y0 y1 y2,LeO (F02.l0 k y0 y1 y2) (F02.l0 (k + 1) y0 y1 y2))
 | 0 => fun _ _ _ r h => by simp [F02.l0] at h
 | k + 1 => by
  have ih0:=F02.mono_l k;intro y0 y1 y2;unfold F02.l0
  repeat' first|(with_reducible first|exact ih0 _ _ _|exact zQ _|exact zN _|refine zP ?_ ?_|refine zO ?_ (fun _ => ?_))|refine zP ?_ ?_|refine zO ?_ (fun _ => ?_)
theorem F02.mono : ∀ a0 a1 k,LeO (F02.f k a0 a1) (F02.f (k + 1) a0 a1):=by
 intro a0 a1 k;have ih0:=F02.mono_l k;unfold F02.f
 repeat' first|(with_reducible first|exact ih0 _ _ _|exact zQ _|exact zN _|refine zP ?_ ?_|refine zO ?_ (fun _ => ?_))|refine zP ?_ ?_|refine zO ?_ (fun _ => ?_)
set_option maxHeartbeats 8000000 in
set_option maxRecDepth 100000 in
theorem F02.calls (k : Nat) (A0 : Option Addr) (c0 : Nat) (l0 : List (S71)) (a1 : Int) (r : Int) (w : World) (hr0 : Kd.C k71 w A0 l0.length l0) (hc0 : l0.length≤c0) (h : F02.f k l0 a1=some r) :
  Calls Tryz.prog 29 #[.slice A0 l0.length c0,.int .i64 a1] w fun e w' => e = .returned (.int .i64 r)∧Below w.heap.size w w':=by
 have HR0:=zh hr0;have HC0:=zh hc0;clear hr0 hc0;have HB:=zh (Below.refl w.heap.size w);have H : (F02.l0 k l0 a1 0)=some r:=h;clear h;have H':=zh H;clear H
 go_enter Tryz.func29,Tryz.ntmps29
 go_wp2
 go_loopg [1,5] k (fun kq v1 v5 w' => ∃ (x1_1 : Int) (x5_1 : Int),v1 = .int .i64 x1_1∧v5 = .int .i64 x5_1∧Aside0 (F02.l0 kq l0 x1_1 x5_1=some r)∧Aside0 (kq≤k)∧Aside0 (Below w.heap.size w w'))
 case atStart => exact ⟨(a1),(0),(by first|rfl|(simp;done)|(simp [*];done)),(by first|rfl|(simp;done)|(simp [*];done)),H',⟨ye _⟩,⟨by repeat (with_reducible first|exact HB.out|apply za|apply zb|apply zc)⟩⟩
 case round =>
  clear H'
  try clear c2
  try clear p2
  obtain ⟨x1_1,x5_1,rfl,rfl,HA,HK1,HB⟩:=hrel
  cases gk with
  | zero => exact absurd HA.out (by simp [F02.l0])
  | succ k1 =>
   have H:=HA.out;clear HA;simp only [F02.l0] at H
   by_cases c3 : x5_1<(l0.length : Int)
   ·
    rw [if_pos c3] at H
    exact absurd H (by simp)
   rw [if_neg c3] at H;have c3b0 : decide (x5_1<(l0.length : Int))=false:=decide_eq_false c3;clear c3;obtain rfl:=zU H
   go_wp2
   go_ret
   exact ⟨by first|rfl|(simp [yt,yu] <;> rfl)|(simp [*,yt,yu] <;> rfl),by repeat (with_reducible first|exact HB.out|apply za|apply zb|apply zc)⟩


def F01.l0 : Nat→List (S41)→Int→Int→Option (Int)
 | 0,_,_,_ => none
 | k + 1,x0,x1,x5 => if x5<(x0.length : Int) then (none) else (some x1)
def F01.f (k : Nat) (l0 : List (S41)) (a1 : Int) : Option (Int):=F01.l0 k l0 a1 0
theorem F01.mono_l : ∀ k,(∀ y0 y1 y2,LeO (F01.l0 k y0 y1 y2) (F01.l0 (k + 1) y0 y1 y2))
 | 0 => fun _ _ _ r h => by simp [F01.l0] at h
 | k + 1 => by
  have ih0:=F01.mono_l k;intro y0 y1 y2;unfold F01.l0
  repeat' first|(with_reducible first|exact ih0 _ _ _|exact zQ _|exact zN _|refine zP ?_ ?_|refine zO ?_ (fun _ => ?_))|refine zP ?_ ?_|refine zO ?_ (fun _ => ?_)
theorem F01.mono : ∀ a0 a1 k,LeO (F01.f k a0 a1) (F01.f (k + 1) a0 a1):=by
 intro a0 a1 k;have ih0:=F01.mono_l k;unfold F01.f
 repeat' first|(with_reducible first|exact ih0 _ _ _|exact zQ _|exact zN _|refine zP ?_ ?_|refine zO ?_ (fun _ => ?_))|refine zP ?_ ?_|refine zO ?_ (fun _ => ?_)
set_option maxHeartbeats 8000000 in
set_option maxRecDepth 100000 in
theorem F01.calls (k : Nat) (A0 : Option Addr) (c0 : Nat) (l0 : List (S41)) (a1 : Int) (r : Int) (w : World) (hr0 : Kd.C k41 w A0 l0.length l0) (hc0 : l0.length≤c0) (h : F01.f k l0 a1=some r) :
  Calls Tryz.prog 30 #[.slice A0 l0.length c0,.int .i64 a1] w fun e w' => e = .returned (.int .i64 r)∧Below w.heap.size w w':=by
 have HR0:=zh hr0;have HC0:=zh hc0;clear hr0 hc0;have HB:=zh (Below.refl w.heap.size w);have H : (F01.l0 k l0 a1 0)=some r:=h;clear h;have H':=zh H;clear H
 go_enter Tryz.func30,Tryz.ntmps30
 go_wp2
 go_loopg [1,5] k (fun kq v1 v5 w' => ∃ (x1_1 : Int) (x5_1 : Int),v1 = .int .i64 x1_1∧v5 = .int .i64 x5_1∧Aside0 (F01.l0 kq l0 x1_1 x5_1=some r)∧Aside0 (kq≤k)∧Aside0 (Below w.heap.size w w'))
 case atStart => exact ⟨(a1),(0),(by first|rfl|(simp;done)|(simp [*];done)),(by first|rfl|(simp;done)|(simp [*];done)),H',⟨ye _⟩,⟨by repeat (with_reducible first|exact HB.out|apply za|apply zb|apply zc)⟩⟩
 case round =>
  clear H'
  try clear p2
  obtain ⟨x1_1,x5_1,rfl,rfl,HA,HK1,HB⟩:=hrel
  cases gk with
  | zero => exact absurd HA.out (by simp [F01.l0])
  | succ k1 =>
   have H:=HA.out;clear HA;simp only [F01.l0] at H
   by_cases c3 : x5_1<(l0.length : Int)
   ·
    rw [if_pos c3] at H
    exact absurd H (by simp)
   rw [if_neg c3] at H;have c3b0 : decide (x5_1<(l0.length : Int))=false:=decide_eq_false c3;clear c3;obtain rfl:=zU H
   go_wp2
   go_ret
   exact ⟨by first|rfl|(simp [yt,yu] <;> rfl)|(simp [*,yt,yu] <;> rfl),by repeat (with_reducible first|exact HB.out|apply za|apply zb|apply zc)⟩


def F0d.f (k : Nat) (l0_0 : List (S54)) (l0_1 : List (S71)) (l0_2 : List (S41)) (a0_3 : Int) (a1 : Int) : Option (Int×(List (S54))):=(Fo.f k l0_0 a1).bind fun bt572 => ((F02.f k l0_1 bt572.1).bind fun t574 => ((F01.f k l0_2 t574).bind fun t575 => (some (t575,bt572.2))))
theorem F0d.mono : ∀ a0 a1 a2 a3 a4 k,LeO (F0d.f k a0 a1 a2 a3 a4) (F0d.f (k + 1) a0 a1 a2 a3 a4):=by
 intro a0 a1 a2 a3 a4 k;unfold F0d.f
 repeat' first|(with_reducible first|exact Fo.mono _ _ _|exact F02.mono _ _ _|exact F01.mono _ _ _|exact zQ _|exact zN _|refine zP ?_ ?_|refine zO ?_ (fun _ => ?_))|refine zP ?_ ?_|refine zO ?_ (fun _ => ?_)
set_option maxHeartbeats 8000000 in
set_option maxRecDepth 100000 in
theorem F0d.calls (k : Nat) (P0_0_ : Nat→Prop) (u9000_ : Value) (l0_0 : List (S54)) (A0_1 : Option Addr) (c0_1 : Nat) (l0_1 : List (S71)) (A0_2 : Option Addr) (c0_2 : Nat) (l0_2 : List (S41)) (a0_3 : Int) (a1 : Int) (r1 : Int) (r2 : List (S54)) (w0 w : World) (hB : Below w0.heap.size w0 w) (ho0_0 : Kd.R k54 54 w w0.heap.size P0_0_ u9000_ l0_0) (hr0_1 : ∀ W_,Kept w W_ (fun k_ => P0_0_ k_)→Kd.C k71 W_ A0_1 l0_1.length l0_1) (hc0_1 : l0_1.length≤c0_1) (hr0_2 : ∀ W_,Kept w W_ (fun k_ => P0_0_ k_)→Kd.C k41 W_ A0_2 l0_2.length l0_2) (hc0_2 : l0_2.length≤c0_2) (h : F0d.f k l0_0 l0_1 l0_2 a0_3 a1=some (r1,r2)) :
  Calls Tryz.prog 15 #[.agg #[u9000_,.slice A0_1 l0_1.length c0_1,.slice A0_2 l0_2.length c0_2,.int .i64 a0_3],.int .i64 a1] w fun e w' => e = .returned (.int .i64 r1)∧Kd.R k54 54 w' w0.heap.size (fun k_ => (P0_0_ k_∨w.heap.size≤k_)) u9000_ r2∧Below w0.heap.size w0 w' ∧ Kept w w' (fun k_ => P0_0_ k_):=by
 have hu26:=Tryz.underlying26;unfold F0d.f at h;obtain ⟨⟨t364,t365⟩,A3,h⟩:=zT.mp h;obtain ⟨t366,A4,h⟩:=zT.mp h;obtain ⟨t367,A5,h⟩:=zT.mp h;simp only [Option.some.injEq,Prod.mk.injEq] at h;obtain ⟨rfl,rfl⟩:=h;have hP:=zM (ok':=fun k_ => P0_0_ k_∧k_<w.heap.size) (Kd.R_bound ho0_0) (fun k_ hk => ⟨hk.1,hk.2.2.1⟩);obtain ⟨Ao,co,rfl⟩:=yk ho0_0
 go_enter Tryz.func15,Tryz.ntmps15
 go_wp2_with fail
 go_at_call 28
 refine (Fo.calls k (fun k_ => P0_0_ k_∧k_<w.heap.size) _ l0_0 a1 t364 t365 w0 _ (za hB _) (zm hP _) A3).mono ?_;rintro e w1 ⟨rfl,hR1,hB1,hK1⟩;have hKw : Kept w w1 (fun k_ => P0_0_ k_):=((Kept.refl w _).alloc _).then_ hK1 (fun k_ hk => .inl hk.1);have B1 : w1.heap[w.heap.size]? = some (.cells #[.slice Ao l0_0.length co,.slice A0_1 l0_1.length c0_1,.slice A0_2 l0_2.length c0_2,.int .i64 a0_3] 26 (0,0)):=blk_kept (blk_new w _) hK1 (fun hk => Nat.lt_irrefl _ hk.2);have q0:=zz B1 0;have q1:=zz B1 1;have q2:=zz B1 2;have q3:=zz B1 3
 go_wp2_with fail
 go_at_call 29
 refine (F02.calls k A0_1 c0_1 l0_1 t364 t366 _ (hr0_1 _ hKw) hc0_1 A4).mono ?_;rintro e w2 ⟨rfl,hb2⟩;have B2:=zD B1 hb2;have r0:=zz B2 0;have r1':=zz B2 1;have r2':=zz B2 2;have r3:=zz B2 3
 go_wp2_with fail
 go_at_call 30
 refine (F01.calls k A0_2 c0_2 l0_2 t366 t367 _ (hr0_2 _ (hKw.below hb2)) hc0_2 A5).mono ?_;rintro e w3 ⟨rfl,hb3⟩
 go_wp2
 go_ret
 refine ⟨by first|rfl|(simp;done),?_,zC (zC hB1 hb2) hb3,(hKw.below hb2).below hb3⟩;refine yg (yg (zM hR1 (fun k_ hk => ?_)) hb2) hb3;rcases hk with hk|hk
 ·
  exact .inl hk.1
 right;simp at hk;omega


def F00.l0 : Nat→List (S104)→Int→Int→Option (Int)
 | 0,_,_,_ => none
 | k + 1,x0,x1,x5 => if x5<(x0.length : Int) then (none) else (some x1)
def F00.f (k : Nat) (l0 : List (S104)) (a1 : Int) : Option (Int):=F00.l0 k l0 a1 0
theorem F00.mono_l : ∀ k,(∀ y0 y1 y2,LeO (F00.l0 k y0 y1 y2) (F00.l0 (k + 1) y0 y1 y2))
 | 0 => fun _ _ _ r h => by simp [F00.l0] at h
 | k + 1 => by
  have ih0:=F00.mono_l k;intro y0 y1 y2;unfold F00.l0
  repeat' first|(with_reducible first|exact ih0 _ _ _|exact zQ _|exact zN _|refine zP ?_ ?_|refine zO ?_ (fun _ => ?_))|refine zP ?_ ?_|refine zO ?_ (fun _ => ?_)
theorem F00.mono : ∀ a0 a1 k,LeO (F00.f k a0 a1) (F00.f (k + 1) a0 a1):=by
 intro a0 a1 k;have ih0:=F00.mono_l k;unfold F00.f
 repeat' first|(with_reducible first|exact ih0 _ _ _|exact zQ _|exact zN _|refine zP ?_ ?_|refine zO ?_ (fun _ => ?_))|refine zP ?_ ?_|refine zO ?_ (fun _ => ?_)
set_option maxHeartbeats 8000000 in
set_option maxRecDepth 100000 in
theorem F00.calls (k : Nat) (A0 : Option Addr) (c0 : Nat) (l0 : List (S104)) (a1 : Int) (r : Int) (w : World) (hr0 : Kd.C k104 w A0 l0.length l0) (hc0 : l0.length≤c0) (h : F00.f k l0 a1=some r) :
  Calls Tryz.prog 31 #[.slice A0 l0.length c0,.int .i64 a1] w fun e w' => e = .returned (.int .i64 r)∧Below w.heap.size w w':=by
 have HR0:=zh hr0;have HC0:=zh hc0;clear hr0 hc0;have HB:=zh (Below.refl w.heap.size w);have H : (F00.l0 k l0 a1 0)=some r:=h;clear h;have H':=zh H;clear H
 go_enter Tryz.func31,Tryz.ntmps31
 go_wp2
 go_loopg [1,5] k (fun kq v1 v5 w' => ∃ (x1_1 : Int) (x5_1 : Int),v1 = .int .i64 x1_1∧v5 = .int .i64 x5_1∧Aside0 (F00.l0 kq l0 x1_1 x5_1=some r)∧Aside0 (kq≤k)∧Aside0 (Below w.heap.size w w'))
 case atStart => exact ⟨(a1),(0),(by first|rfl|(simp;done)|(simp [*];done)),(by first|rfl|(simp;done)|(simp [*];done)),H',⟨ye _⟩,⟨by repeat (with_reducible first|exact HB.out|apply za|apply zb|apply zc)⟩⟩
 case round =>
  clear H'
  try clear p2
  obtain ⟨x1_1,x5_1,rfl,rfl,HA,HK1,HB⟩:=hrel
  cases gk with
  | zero => exact absurd HA.out (by simp [F00.l0])
  | succ k1 =>
   have H:=HA.out;clear HA;simp only [F00.l0] at H
   by_cases c3 : x5_1<(l0.length : Int)
   ·
    rw [if_pos c3] at H
    exact absurd H (by simp)
   rw [if_neg c3] at H;have c3b0 : decide (x5_1<(l0.length : Int))=false:=decide_eq_false c3;clear c3;obtain rfl:=zU H
   go_wp2
   go_ret
   exact ⟨by first|rfl|(simp [yt,yu] <;> rfl)|(simp [*,yt,yu] <;> rfl),by repeat (with_reducible first|exact HB.out|apply za|apply zb|apply zc)⟩


def Fw.l0 : Nat→List (S109)→Int→Int→Option (Int)
 | 0,_,_,_ => none
 | k + 1,x0,x1,x5 => if x5<(x0.length : Int) then (none) else (some x1)
def Fw.f (k : Nat) (l0 : List (S109)) (a1 : Int) : Option (Int):=Fw.l0 k l0 a1 0
theorem Fw.mono_l : ∀ k,(∀ y0 y1 y2,LeO (Fw.l0 k y0 y1 y2) (Fw.l0 (k + 1) y0 y1 y2))
 | 0 => fun _ _ _ r h => by simp [Fw.l0] at h
 | k + 1 => by
  have ih0:=Fw.mono_l k;intro y0 y1 y2;unfold Fw.l0
  repeat' first|(with_reducible first|exact ih0 _ _ _|exact zQ _|exact zN _|refine zP ?_ ?_|refine zO ?_ (fun _ => ?_))|refine zP ?_ ?_|refine zO ?_ (fun _ => ?_)
theorem Fw.mono : ∀ a0 a1 k,LeO (Fw.f k a0 a1) (Fw.f (k + 1) a0 a1):=by
 intro a0 a1 k;have ih0:=Fw.mono_l k;unfold Fw.f
 repeat' first|(with_reducible first|exact ih0 _ _ _|exact zQ _|exact zN _|refine zP ?_ ?_|refine zO ?_ (fun _ => ?_))|refine zP ?_ ?_|refine zO ?_ (fun _ => ?_)
set_option maxHeartbeats 8000000 in
set_option maxRecDepth 100000 in
theorem Fw.calls (k : Nat) (A0 : Option Addr) (c0 : Nat) (l0 : List (S109)) (a1 : Int) (r : Int) (w : World) (hr0 : Kd.C k109 w A0 l0.length l0) (hc0 : l0.length≤c0) (h : Fw.f k l0 a1=some r) :
  Calls Tryz.prog 32 #[.slice A0 l0.length c0,.int .i64 a1] w fun e w' => e = .returned (.int .i64 r)∧Below w.heap.size w w':=by
 have HR0:=zh hr0;have HC0:=zh hc0;clear hr0 hc0;have HB:=zh (Below.refl w.heap.size w);have H : (Fw.l0 k l0 a1 0)=some r:=h;clear h;have H':=zh H;clear H
 go_enter Tryz.func32,Tryz.ntmps32
 go_wp2
 go_loopg [1,5] k (fun kq v1 v5 w' => ∃ (x1_1 : Int) (x5_1 : Int),v1 = .int .i64 x1_1∧v5 = .int .i64 x5_1∧Aside0 (Fw.l0 kq l0 x1_1 x5_1=some r)∧Aside0 (kq≤k)∧Aside0 (Below w.heap.size w w'))
 case atStart => exact ⟨(a1),(0),(by first|rfl|(simp;done)|(simp [*];done)),(by first|rfl|(simp;done)|(simp [*];done)),H',⟨ye _⟩,⟨by repeat (with_reducible first|exact HB.out|apply za|apply zb|apply zc)⟩⟩
 case round =>
  clear H'
  try clear p2
  obtain ⟨x1_1,x5_1,rfl,rfl,HA,HK1,HB⟩:=hrel
  cases gk with
  | zero => exact absurd HA.out (by simp [Fw.l0])
  | succ k1 =>
   have H:=HA.out;clear HA;simp only [Fw.l0] at H
   by_cases c3 : x5_1<(l0.length : Int)
   ·
    rw [if_pos c3] at H
    exact absurd H (by simp)
   rw [if_neg c3] at H;have c3b0 : decide (x5_1<(l0.length : Int))=false:=decide_eq_false c3;clear c3;obtain rfl:=zU H
   go_wp2
   go_ret
   exact ⟨by first|rfl|(simp [yt,yu] <;> rfl)|(simp [*,yt,yu] <;> rfl),by repeat (with_reducible first|exact HB.out|apply za|apply zb|apply zc)⟩


def Fi.l0 : Nat→List (S91)→Int→Int→Option (Int)
 | 0,_,_,_ => none
 | k + 1,x0,x1,x5 => if x5<(x0.length : Int) then (none) else (some x1)
def Fi.f (k : Nat) (l0 : List (S91)) (a1 : Int) : Option (Int):=Fi.l0 k l0 a1 0
theorem Fi.mono_l : ∀ k,(∀ y0 y1 y2,LeO (Fi.l0 k y0 y1 y2) (Fi.l0 (k + 1) y0 y1 y2))
 | 0 => fun _ _ _ r h => by simp [Fi.l0] at h
 | k + 1 => by
  have ih0:=Fi.mono_l k;intro y0 y1 y2;unfold Fi.l0
  repeat' first|(with_reducible first|exact ih0 _ _ _|exact zQ _|exact zN _|refine zP ?_ ?_|refine zO ?_ (fun _ => ?_))|refine zP ?_ ?_|refine zO ?_ (fun _ => ?_)
theorem Fi.mono : ∀ a0 a1 k,LeO (Fi.f k a0 a1) (Fi.f (k + 1) a0 a1):=by
 intro a0 a1 k;have ih0:=Fi.mono_l k;unfold Fi.f
 repeat' first|(with_reducible first|exact ih0 _ _ _|exact zQ _|exact zN _|refine zP ?_ ?_|refine zO ?_ (fun _ => ?_))|refine zP ?_ ?_|refine zO ?_ (fun _ => ?_)
set_option maxHeartbeats 8000000 in
set_option maxRecDepth 100000 in
theorem Fi.calls (k : Nat) (A0 : Option Addr) (c0 : Nat) (l0 : List (S91)) (a1 : Int) (r : Int) (w : World) (hr0 : Kd.C k91 w A0 l0.length l0) (hc0 : l0.length≤c0) (h : Fi.f k l0 a1=some r) :
  Calls Tryz.prog 33 #[.slice A0 l0.length c0,.int .i64 a1] w fun e w' => e = .returned (.int .i64 r)∧Below w.heap.size w w':=by
 have HR0:=zh hr0;have HC0:=zh hc0;clear hr0 hc0;have HB:=zh (Below.refl w.heap.size w);have H : (Fi.l0 k l0 a1 0)=some r:=h;clear h;have H':=zh H;clear H
 go_enter Tryz.func33,Tryz.ntmps33
 go_wp2
 go_loopg [1,5] k (fun kq v1 v5 w' => ∃ (x1_1 : Int) (x5_1 : Int),v1 = .int .i64 x1_1∧v5 = .int .i64 x5_1∧Aside0 (Fi.l0 kq l0 x1_1 x5_1=some r)∧Aside0 (kq≤k)∧Aside0 (Below w.heap.size w w'))
 case atStart => exact ⟨(a1),(0),(by first|rfl|(simp;done)|(simp [*];done)),(by first|rfl|(simp;done)|(simp [*];done)),H',⟨ye _⟩,⟨by repeat (with_reducible first|exact HB.out|apply za|apply zb|apply zc)⟩⟩
 case round =>
  clear H'
  try clear p2
  obtain ⟨x1_1,x5_1,rfl,rfl,HA,HK1,HB⟩:=hrel
  cases gk with
  | zero => exact absurd HA.out (by simp [Fi.l0])
  | succ k1 =>
   have H:=HA.out;clear HA;simp only [Fi.l0] at H
   by_cases c3 : x5_1<(l0.length : Int)
   ·
    rw [if_pos c3] at H
    exact absurd H (by simp)
   rw [if_neg c3] at H;have c3b0 : decide (x5_1<(l0.length : Int))=false:=decide_eq_false c3;clear c3;obtain rfl:=zU H
   go_wp2
   go_ret
   exact ⟨by first|rfl|(simp [yt,yu] <;> rfl)|(simp [*,yt,yu] <;> rfl),by repeat (with_reducible first|exact HB.out|apply za|apply zb|apply zc)⟩


def Fe.l0 : Nat→List (S44)→Int→Int→Option (Int×(List (S44)))
 | 0,_,_,_ => none
 | k + 1,x0,x1,x5 => if x5<(x0.length : Int) then (if 0≤x5 then ((some (x0.set (x5 : Int).toNat (⟨(⟨x1,(rd_T44 x0 x5).f0.f1,(rd_T44 x0 x5).f0.f2,(rd_T44 x0 x5).f0.f3,(rd_T44 x0 x5).f0.f4,(rd_T44 x0 x5).f0.f5⟩ : S41),(rd_T44 x0 x5).f1⟩ : S44) : List (S44))).bind fun y589 => ((some (y589.set (x5 : Int).toNat (⟨(⟨(rd_T44 y589 x5).f0.f0,wrap64 (x1 + 1),(rd_T44 y589 x5).f0.f2,(rd_T44 y589 x5).f0.f3,(rd_T44 y589 x5).f0.f4,(rd_T44 y589 x5).f0.f5⟩ : S41),(rd_T44 y589 x5).f1⟩ : S44) : List (S44))).bind fun y590 => ((F00.f k ((rd_T44 y590 x5).f0.f2) (wrap64 ((wrap64 (x1 + 1)) + 1))).bind fun t592 => ((Fw.f k ((rd_T44 y590 x5).f0.f3) t592).bind fun t594 => ((some (y590.set (x5 : Int).toNat (⟨(⟨(rd_T44 y590 x5).f0.f0,(rd_T44 y590 x5).f0.f1,(rd_T44 y590 x5).f0.f2,(rd_T44 y590 x5).f0.f3,((Int.tmod t594 3) == 0),(rd_T44 y590 x5).f0.f5⟩ : S41),(rd_T44 y590 x5).f1⟩ : S44) : List (S44))).bind fun y595 => ((some (y595.set (x5 : Int).toNat (⟨(⟨(rd_T44 y595 x5).f0.f0,(rd_T44 y595 x5).f0.f1,(rd_T44 y595 x5).f0.f2,(rd_T44 y595 x5).f0.f3,(rd_T44 y595 x5).f0.f4,((Int.tmod (wrap64 (t594 + 1)) 3) == 0)⟩ : S41),(rd_T44 y595 x5).f1⟩ : S44) : List (S44))).bind fun y596 => ((Fi.f k ((rd_T44 y596 x5).f1) (wrap64 ((wrap64 (t594 + 1)) + 1))).bind fun t598 => (Fe.l0 k y596 t598 (wrap64 (x5 + 1)))))))))) else (none)) else (some (x1,x0))
def Fe.f (k : Nat) (l0 : List (S44)) (a1 : Int) : Option (Int×(List (S44))):=Fe.l0 k l0 a1 0
theorem Fe.mono_l : ∀ k,(∀ y0 y1 y2,LeO (Fe.l0 k y0 y1 y2) (Fe.l0 (k + 1) y0 y1 y2))
 | 0 => fun _ _ _ r h => by simp [Fe.l0] at h
 | k + 1 => by
  have ih0:=Fe.mono_l k;intro y0 y1 y2;unfold Fe.l0
  repeat' first|(with_reducible first|exact ih0 _ _ _|exact F00.mono _ _ _|exact Fw.mono _ _ _|exact Fi.mono _ _ _|exact zQ _|exact zN _|refine zP ?_ ?_|refine zO ?_ (fun _ => ?_))|refine zP ?_ ?_|refine zO ?_ (fun _ => ?_)
theorem Fe.mono : ∀ a0 a1 k,LeO (Fe.f k a0 a1) (Fe.f (k + 1) a0 a1):=by
 intro a0 a1 k;have ih0:=Fe.mono_l k;unfold Fe.f
 repeat' first|(with_reducible first|exact ih0 _ _ _|exact F00.mono _ _ _|exact Fw.mono _ _ _|exact Fi.mono _ _ _|exact zQ _|exact zN _|refine zP ?_ ?_|refine zO ?_ (fun _ => ?_))|refine zP ?_ ?_|refine zO ?_ (fun _ => ?_)
set_option maxHeartbeats 8000000 in
set_option maxRecDepth 100000 in
theorem Fe.calls (k : Nat) (P0_ : Nat→Prop) (u9000_ : Value) (l0 : List (S44)) (a1 : Int) (r1 : Int) (r2 : List (S44)) (w0 w : World) (hB : Below w0.heap.size w0 w) (ho0 : Kd.R k44 44 w w0.heap.size P0_ u9000_ l0) (h : Fe.f k l0 a1=some (r1,r2)) :
  Calls Tryz.prog 16 #[u9000_,.int .i64 a1] w fun e w' => e = .returned (.int .i64 r1)∧Kd.R k44 44 w' w0.heap.size (fun k_ => (P0_ k_∨w.heap.size≤k_)) u9000_ r2∧Below w0.heap.size w0 w' ∧ Kept w w' (fun k_ => P0_ k_):=by
 have HO0:=zh (show Kd.R k44 44 w w0.heap.size (fun k_ => (P0_ k_∨w.heap.size≤k_)) u9000_ l0 from zM ho0 (fun k_ hk => (.inl hk)));have HK:=zh (Kept.refl w (fun k_ => P0_ k_));have HW0:=zh hB.size;have HB:=zh hB;clear hB;have H : (Fe.l0 k l0 a1 0)=some (r1,r2):=h;clear h;have H':=zh H;clear H
 go_enter Tryz.func16,Tryz.ntmps16
 go_wp2
 go_loopg [1,5] k (fun kq v1 v5 w' => ∃ (x0_1 : List (S44)) (x1_1 : Int) (x5_1 : Int),v1 = .int .i64 x1_1∧v5 = .int .i64 x5_1∧Aside0 (Fe.l0 kq x0_1 x1_1 x5_1=some (r1,r2))∧Aside0 (kq≤k)∧Aside0 (Kd.R k44 44 w' w0.heap.size (fun k_ => (P0_ k_∨w.heap.size≤k_)) u9000_ x0_1)∧Aside0 (Kept w w' (fun k_ => P0_ k_))∧Aside0 (Below w0.heap.size w0 w'))
 case atStart => exact ⟨(l0),(a1),(0),(by first|rfl|(simp;done)|(simp [*];done)),(by first|rfl|(simp;done)|(simp [*];done)),H',⟨ye _⟩,⟨by (with_reducible repeat (first|apply zm|apply zn|apply zo));exact HO0.out⟩,⟨by repeat (with_reducible first|exact HK.out|apply zr|apply zp|apply zq)⟩,⟨by repeat (with_reducible first|exact HB.out|apply za|apply zb|apply zc)⟩⟩
 case round =>
  clear H'
  try clear c1
  try clear p2
  obtain ⟨x0_1,x1_1,x5_1,rfl,rfl,HA,HK1,HO_0,HK,HB⟩:=hrel
  cases gk with
  | zero => exact absurd HA.out (by simp [Fe.l0])
  | succ k1 =>
   have H:=HA.out;clear HA;simp only [Fe.l0] at H
   by_cases c3 : x5_1<(x0_1.length : Int)
   ·
    rw [if_pos c3] at H
    have c3b0 : decide (x5_1<(x0_1.length : Int))=true:=decide_eq_true c3;clear c3
    by_cases c4 : 0≤x5_1
    ·
     rw [if_pos c4] at H
     have c4b0 : decide (0≤x5_1)=true:=decide_eq_true c4;clear c4;obtain ⟨y589,hy589⟩ : ∃ y_ : List (S44),y_=(x0_1.set (x5_1 : Int).toNat (⟨(⟨x1_1,(rd_T44 x0_1 x5_1).f0.f1,(rd_T44 x0_1 x5_1).f0.f2,(rd_T44 x0_1 x5_1).f0.f3,(rd_T44 x0_1 x5_1).f0.f4,(rd_T44 x0_1 x5_1).f0.f5⟩ : S41),(rd_T44 x0_1 x5_1).f1⟩ : S44)):=⟨_,rfl⟩;replace H : ((some (y589.set (x5_1 : Int).toNat (⟨(⟨(rd_T44 y589 x5_1).f0.f0,wrap64 (x1_1 + 1),(rd_T44 y589 x5_1).f0.f2,(rd_T44 y589 x5_1).f0.f3,(rd_T44 y589 x5_1).f0.f4,(rd_T44 y589 x5_1).f0.f5⟩ : S41),(rd_T44 y589 x5_1).f1⟩ : S44) : List (S44))).bind fun y590 => ((F00.f k1 ((rd_T44 y590 x5_1).f0.f2) (wrap64 ((wrap64 (x1_1 + 1)) + 1))).bind fun t592 => ((Fw.f k1 ((rd_T44 y590 x5_1).f0.f3) t592).bind fun t594 => ((some (y590.set (x5_1 : Int).toNat (⟨(⟨(rd_T44 y590 x5_1).f0.f0,(rd_T44 y590 x5_1).f0.f1,(rd_T44 y590 x5_1).f0.f2,(rd_T44 y590 x5_1).f0.f3,((Int.tmod t594 3) == 0),(rd_T44 y590 x5_1).f0.f5⟩ : S41),(rd_T44 y590 x5_1).f1⟩ : S44) : List (S44))).bind fun y595 => ((some (y595.set (x5_1 : Int).toNat (⟨(⟨(rd_T44 y595 x5_1).f0.f0,(rd_T44 y595 x5_1).f0.f1,(rd_T44 y595 x5_1).f0.f2,(rd_T44 y595 x5_1).f0.f3,(rd_T44 y595 x5_1).f0.f4,((Int.tmod (wrap64 (t594 + 1)) 3) == 0)⟩ : S41),(rd_T44 y595 x5_1).f1⟩ : S44) : List (S44))).bind fun y596 => ((Fi.f k1 ((rd_T44 y596 x5_1).f1) (wrap64 ((wrap64 (t594 + 1)) + 1))).bind fun t598 => (Fe.l0 k1 y596 t598 (wrap64 (x5_1 + 1)))))))))=some (r1,r2):=by first|(rw [hy589];with_reducible exact H)|(have H2_:=(Option.bind_some _ _).symm.trans H;rw [hy589];with_reducible exact H2_)|(have H2_:=(Option.bind_some _ _).symm.trans H;with_reducible exact H2_)|with_reducible exact H|(rw [hy589];exact H)|exact H
     have Ny589:=zh hy589;clear hy589;obtain ⟨y590,hy590⟩ : ∃ y_ : List (S44),y_=(y589.set (x5_1 : Int).toNat (⟨(⟨(rd_T44 y589 x5_1).f0.f0,wrap64 (x1_1 + 1),(rd_T44 y589 x5_1).f0.f2,(rd_T44 y589 x5_1).f0.f3,(rd_T44 y589 x5_1).f0.f4,(rd_T44 y589 x5_1).f0.f5⟩ : S41),(rd_T44 y589 x5_1).f1⟩ : S44)):=⟨_,rfl⟩;replace H : ((F00.f k1 ((rd_T44 y590 x5_1).f0.f2) (wrap64 ((wrap64 (x1_1 + 1)) + 1))).bind fun t592 => ((Fw.f k1 ((rd_T44 y590 x5_1).f0.f3) t592).bind fun t594 => ((some (y590.set (x5_1 : Int).toNat (⟨(⟨(rd_T44 y590 x5_1).f0.f0,(rd_T44 y590 x5_1).f0.f1,(rd_T44 y590 x5_1).f0.f2,(rd_T44 y590 x5_1).f0.f3,((Int.tmod t594 3) == 0),(rd_T44 y590 x5_1).f0.f5⟩ : S41),(rd_T44 y590 x5_1).f1⟩ : S44) : List (S44))).bind fun y595 => ((some (y595.set (x5_1 : Int).toNat (⟨(⟨(rd_T44 y595 x5_1).f0.f0,(rd_T44 y595 x5_1).f0.f1,(rd_T44 y595 x5_1).f0.f2,(rd_T44 y595 x5_1).f0.f3,(rd_T44 y595 x5_1).f0.f4,((Int.tmod (wrap64 (t594 + 1)) 3) == 0)⟩ : S41),(rd_T44 y595 x5_1).f1⟩ : S44) : List (S44))).bind fun y596 => ((Fi.f k1 ((rd_T44 y596 x5_1).f1) (wrap64 ((wrap64 (t594 + 1)) + 1))).bind fun t598 => (Fe.l0 k1 y596 t598 (wrap64 (x5_1 + 1))))))))=some (r1,r2):=by first|(rw [hy590];with_reducible exact H)|(have H2_:=(Option.bind_some _ _).symm.trans H;rw [hy590];with_reducible exact H2_)|(have H2_:=(Option.bind_some _ _).symm.trans H;with_reducible exact H2_)|with_reducible exact H|(rw [hy590];exact H)|exact H
     have Ny590:=zh hy590;clear hy590;replace H:=zT.mp H;obtain ⟨t592,A70,H⟩:=H;replace H : ((Fw.f k1 ((rd_T44 y590 x5_1).f0.f3) t592).bind fun t594 => ((some (y590.set (x5_1 : Int).toNat (⟨(⟨(rd_T44 y590 x5_1).f0.f0,(rd_T44 y590 x5_1).f0.f1,(rd_T44 y590 x5_1).f0.f2,(rd_T44 y590 x5_1).f0.f3,((Int.tmod t594 3) == 0),(rd_T44 y590 x5_1).f0.f5⟩ : S41),(rd_T44 y590 x5_1).f1⟩ : S44) : List (S44))).bind fun y595 => ((some (y595.set (x5_1 : Int).toNat (⟨(⟨(rd_T44 y595 x5_1).f0.f0,(rd_T44 y595 x5_1).f0.f1,(rd_T44 y595 x5_1).f0.f2,(rd_T44 y595 x5_1).f0.f3,(rd_T44 y595 x5_1).f0.f4,((Int.tmod (wrap64 (t594 + 1)) 3) == 0)⟩ : S41),(rd_T44 y595 x5_1).f1⟩ : S44) : List (S44))).bind fun y596 => ((Fi.f k1 ((rd_T44 y596 x5_1).f1) (wrap64 ((wrap64 (t594 + 1)) + 1))).bind fun t598 => (Fe.l0 k1 y596 t598 (wrap64 (x5_1 + 1)))))))=some (r1,r2):=H;have A7:=zh A70;clear A70;replace H:=zT.mp H;obtain ⟨t594,A80,H⟩:=H;replace H : ((some (y590.set (x5_1 : Int).toNat (⟨(⟨(rd_T44 y590 x5_1).f0.f0,(rd_T44 y590 x5_1).f0.f1,(rd_T44 y590 x5_1).f0.f2,(rd_T44 y590 x5_1).f0.f3,((Int.tmod t594 3) == 0),(rd_T44 y590 x5_1).f0.f5⟩ : S41),(rd_T44 y590 x5_1).f1⟩ : S44) : List (S44))).bind fun y595 => ((some (y595.set (x5_1 : Int).toNat (⟨(⟨(rd_T44 y595 x5_1).f0.f0,(rd_T44 y595 x5_1).f0.f1,(rd_T44 y595 x5_1).f0.f2,(rd_T44 y595 x5_1).f0.f3,(rd_T44 y595 x5_1).f0.f4,((Int.tmod (wrap64 (t594 + 1)) 3) == 0)⟩ : S41),(rd_T44 y595 x5_1).f1⟩ : S44) : List (S44))).bind fun y596 => ((Fi.f k1 ((rd_T44 y596 x5_1).f1) (wrap64 ((wrap64 (t594 + 1)) + 1))).bind fun t598 => (Fe.l0 k1 y596 t598 (wrap64 (x5_1 + 1))))))=some (r1,r2):=H;have A8:=zh A80;clear A80;obtain ⟨y595,hy595⟩ : ∃ y_ : List (S44),y_=(y590.set (x5_1 : Int).toNat (⟨(⟨(rd_T44 y590 x5_1).f0.f0,(rd_T44 y590 x5_1).f0.f1,(rd_T44 y590 x5_1).f0.f2,(rd_T44 y590 x5_1).f0.f3,((Int.tmod t594 3) == 0),(rd_T44 y590 x5_1).f0.f5⟩ : S41),(rd_T44 y590 x5_1).f1⟩ : S44)):=⟨_,rfl⟩;replace H : ((some (y595.set (x5_1 : Int).toNat (⟨(⟨(rd_T44 y595 x5_1).f0.f0,(rd_T44 y595 x5_1).f0.f1,(rd_T44 y595 x5_1).f0.f2,(rd_T44 y595 x5_1).f0.f3,(rd_T44 y595 x5_1).f0.f4,((Int.tmod (wrap64 (t594 + 1)) 3) == 0)⟩ : S41),(rd_T44 y595 x5_1).f1⟩ : S44) : List (S44))).bind fun y596 => ((Fi.f k1 ((rd_T44 y596 x5_1).f1) (wrap64 ((wrap64 (t594 + 1)) + 1))).bind fun t598 => (Fe.l0 k1 y596 t598 (wrap64 (x5_1 + 1)))))=some (r1,r2):=by first|(rw [hy595];with_reducible exact H)|(have H2_:=(Option.bind_some _ _).symm.trans H;rw [hy595];with_reducible exact H2_)|(have H2_:=(Option.bind_some _ _).symm.trans H;with_reducible exact H2_)|with_reducible exact H|(rw [hy595];exact H)|exact H
     have Ny595:=zh hy595;clear hy595;obtain ⟨y596,hy596⟩ : ∃ y_ : List (S44),y_=(y595.set (x5_1 : Int).toNat (⟨(⟨(rd_T44 y595 x5_1).f0.f0,(rd_T44 y595 x5_1).f0.f1,(rd_T44 y595 x5_1).f0.f2,(rd_T44 y595 x5_1).f0.f3,(rd_T44 y595 x5_1).f0.f4,((Int.tmod (wrap64 (t594 + 1)) 3) == 0)⟩ : S41),(rd_T44 y595 x5_1).f1⟩ : S44)):=⟨_,rfl⟩;replace H : ((Fi.f k1 ((rd_T44 y596 x5_1).f1) (wrap64 ((wrap64 (t594 + 1)) + 1))).bind fun t598 => (Fe.l0 k1 y596 t598 (wrap64 (x5_1 + 1))))=some (r1,r2):=by first|(rw [hy596];with_reducible exact H)|(have H2_:=(Option.bind_some _ _).symm.trans H;rw [hy596];with_reducible exact H2_)|(have H2_:=(Option.bind_some _ _).symm.trans H;with_reducible exact H2_)|with_reducible exact H|(rw [hy596];exact H)|exact H
     have Ny596:=zh hy596;clear hy596;replace H:=zT.mp H;obtain ⟨t598,A110,H⟩:=H;replace H : (Fe.l0 k1 y596 t598 (wrap64 (x5_1 + 1)))=some (r1,r2):=H;have A11:=zh A110;clear A110;have H':=zh H;clear H;obtain ⟨Ao12,co12,eo12⟩:=yk HO_0.out;subst eo12;have p5 : 0≤(x5_1 : Int):=zy (by first|(with_reducible assumption)|assumption);have q5 : (x5_1 : Int)<((x0_1.length : Int) : Int):=zy (by first|(with_reducible assumption)|assumption);obtain ⟨go5,co5,eo5,gb5,gl5,cl5,HG5⟩:=Kd.R_form HO_0.out (by omega);(first|cases eo5|(injection eo5 with ea_ en_ ec_;(first|subst ea_|(injection ea_ with ea_;subst ea_));subst ec_;clear en_));have GB5:=zh gb5;have GG5:=zh HG5;clear gb5 gl5 HG5;have HMgo5:=zh (show (P0_ go5∨w.heap.size≤go5) from (HO_0.out.1 _ rfl));obtain ⟨ce5,hcl5,hM5,hcc5,hfr5⟩:=Kd.R_elem HO_0.out z44 (x5_1 : Int) p5 q5;obtain ⟨ve5_2,ve5_3,ve5_6,rfl,ge5_2,ge5_3,ge5_6⟩:=k44_openM hM5;have hx5_0 : wr.cell? ⟨go5,(x5_1 : Int).toNat * 7,none⟩=some (.int .i64 ((rd_T44 x0_1 x5_1).f0.f0)):=hcc5 0 _ rfl;have hx5_1 : wr.cell? ⟨go5,(x5_1 : Int).toNat * 7 + 1,none⟩=some (.int .i64 ((rd_T44 x0_1 x5_1).f0.f1)):=hcc5 1 _ rfl;have hx5_2 : wr.cell? ⟨go5,(x5_1 : Int).toNat * 7 + 2,none⟩=some (ve5_2):=hcc5 2 _ rfl;have hx5_3 : wr.cell? ⟨go5,(x5_1 : Int).toNat * 7 + 3,none⟩=some (ve5_3):=hcc5 3 _ rfl;have hx5_4 : wr.cell? ⟨go5,(x5_1 : Int).toNat * 7 + 4,none⟩=some (.bool ((rd_T44 x0_1 x5_1).f0.f4)):=hcc5 4 _ rfl;have hx5_5 : wr.cell? ⟨go5,(x5_1 : Int).toNat * 7 + 5,none⟩=some (.bool ((rd_T44 x0_1 x5_1).f0.f5)):=hcc5 5 _ rfl;have hx5_6 : wr.cell? ⟨go5,(x5_1 : Int).toNat * 7 + 6,none⟩=some (ve5_6):=hcc5 6 _ rfl;have hf5_0 : wr.frozen? ⟨go5,(x5_1 : Int).toNat * 7,none⟩=false:=hfr5 0;have hf5_1 : wr.frozen? ⟨go5,(x5_1 : Int).toNat * 7 + 1,none⟩=false:=hfr5 1;have hf5_2 : wr.frozen? ⟨go5,(x5_1 : Int).toNat * 7 + 2,none⟩=false:=hfr5 2;have hf5_3 : wr.frozen? ⟨go5,(x5_1 : Int).toNat * 7 + 3,none⟩=false:=hfr5 3;have hf5_4 : wr.frozen? ⟨go5,(x5_1 : Int).toNat * 7 + 4,none⟩=false:=hfr5 4;have hf5_5 : wr.frozen? ⟨go5,(x5_1 : Int).toNat * 7 + 5,none⟩=false:=hfr5 5;have hf5_6 : wr.frozen? ⟨go5,(x5_1 : Int).toNat * 7 + 6,none⟩=false:=hfr5 6;clear hcl5 hcc5 hfr5 hM5;replace p5:=eq_true p5;replace q5:=eq_true q5;have HX13:=zh (show Kd.R k44 44 wr w0.heap.size (fun k_ => (P0_ k_∨w.heap.size≤k_)) (.slice (some ⟨go5,0,none⟩) x0_1.length co12) x0_1 from (by (with_reducible repeat (first|apply zm|apply zn|apply zo));exact HO_0.out));obtain ⟨ce13,hcl13,hM13,hcc13,hfr13⟩:=Kd.R_elem HX13.out z44 (x5_1 : Int) (zy (by first|(with_reducible assumption)|assumption)) (by have h_ : (x5_1 : Int)<((x0_1.length : Int) : Int):=zy (by first|(with_reducible assumption)|assumption);first|exact h_|(have e_:=(yh HO_0.out).1;omega)|simpa using h_);obtain ⟨ve13_2,ve13_3,ve13_6,rfl,ge13_2,ge13_3,ge13_6⟩:=k44_openM hM13;have HP13:=Kd.R_seg HX13.out (x5_1 : Int) (zy (by first|(with_reducible assumption)|assumption)) (by have h_ : (x5_1 : Int)<((x0_1.length : Int) : Int):=zy (by first|(with_reducible assumption)|assumption);first|exact h_|(have e_:=(yh HO_0.out).1;omega)|simpa using h_) (seg:=[.int .i64 x1_1]) (j:=0) hcl13 hcc13 (show 1≤7 from by decide) (x':=(⟨(⟨x1_1,(rd_T44 x0_1 x5_1).f0.f1,(rd_T44 x0_1 x5_1).f0.f2,(rd_T44 x0_1 x5_1).f0.f3,(rd_T44 x0_1 x5_1).f0.f4,(rd_T44 x0_1 x5_1).f0.f5⟩ : S41),(rd_T44 x0_1 x5_1).f1⟩ : S44)) (k44_mkM _ _ _ (⟨(⟨x1_1,(rd_T44 x0_1 x5_1).f0.f1,(rd_T44 x0_1 x5_1).f0.f2,(rd_T44 x0_1 x5_1).f0.f3,(rd_T44 x0_1 x5_1).f0.f4,(rd_T44 x0_1 x5_1).f0.f5⟩ : S41),(rd_T44 x0_1 x5_1).f1⟩ : S44) ge13_2 ge13_3 ge13_6) (fun _ hk => hk);have hx13_0:=hcc13 0 _ rfl;(try simp only [show (k44).sz=7 from rfl,Nat.mul_one,Nat.add_zero] at hx13_0);have hf13_0:=hfr13 0;(try simp only [show (k44).sz=7 from rfl,Nat.mul_one,Nat.add_zero] at hf13_0);clear hcl13 hcc13 hfr13 hM13
     go_wp2_with (first|((with_reducible refine gate_store (t:=3) (p:=17) rfl ?_);refine store_event (t:=3) (p:=17) (v:=?vo_w14) (w1:=(wr.setCell ⟨go5,(x5_1 : Int).toNat * 7,none⟩ (.int .i64 x1_1))) ?hg ?ho ?hn ?hr ?_;(case ho => rfl);(case hg => rfl);(case hn => rfl);(case hr => go_simp <;> rfl);intro w14 hw;have hg : wr.grownBy w14 (some go5):=(by rw [hw];exact HP13.2);have hp_ : Kd.R k44 44 w14 w0.heap.size (fun k_ => (P0_ k_∨w.heap.size≤k_)) (.slice (some ⟨go5,0,none⟩) x0_1.length co12) y589:=(by rw [hw,Ny589.out];exact HP13.1);clear HP13;replace HB:=zh ((by rw [hw];exact zd (HB.out) GB5.out : Below w0.heap.size w0 w14));replace HK:=zh (yA (S:=(fun k_ => P0_ k_)) hg (by repeat (with_reducible first|exact HK.out|apply zr|apply zp|apply zq)) (fun k_ e_ => (HO_0.out.1 k_ e_)));replace HO_0:=zh (hp_);clear hg hw hp_;have p6 : 0≤(x5_1 : Int):=zy (by first|(with_reducible assumption)|assumption);have q6 : (x5_1 : Int)<((x0_1.length : Int) : Int):=zy (by first|(with_reducible assumption)|assumption);obtain ⟨ce6,hcl6,hM6,hcc6,hfr6⟩:=Kd.R_elem HO_0.out z44 (x5_1 : Int) p6 q6;obtain ⟨ve6_2,ve6_3,ve6_6,rfl,ge6_2,ge6_3,ge6_6⟩:=k44_openM hM6;have hx6_0 : w14.cell? ⟨go5,(x5_1 : Int).toNat * 7,none⟩=some (.int .i64 ((rd_T44 y589 x5_1).f0.f0)):=hcc6 0 _ rfl;have hx6_1 : w14.cell? ⟨go5,(x5_1 : Int).toNat * 7 + 1,none⟩=some (.int .i64 ((rd_T44 y589 x5_1).f0.f1)):=hcc6 1 _ rfl;have hx6_2 : w14.cell? ⟨go5,(x5_1 : Int).toNat * 7 + 2,none⟩=some (ve6_2):=hcc6 2 _ rfl;have hx6_3 : w14.cell? ⟨go5,(x5_1 : Int).toNat * 7 + 3,none⟩=some (ve6_3):=hcc6 3 _ rfl;have hx6_4 : w14.cell? ⟨go5,(x5_1 : Int).toNat * 7 + 4,none⟩=some (.bool ((rd_T44 y589 x5_1).f0.f4)):=hcc6 4 _ rfl;have hx6_5 : w14.cell? ⟨go5,(x5_1 : Int).toNat * 7 + 5,none⟩=some (.bool ((rd_T44 y589 x5_1).f0.f5)):=hcc6 5 _ rfl;have hx6_6 : w14.cell? ⟨go5,(x5_1 : Int).toNat * 7 + 6,none⟩=some (ve6_6):=hcc6 6 _ rfl;have hf6_0 : w14.frozen? ⟨go5,(x5_1 : Int).toNat * 7,none⟩=false:=hfr6 0;have hf6_1 : w14.frozen? ⟨go5,(x5_1 : Int).toNat * 7 + 1,none⟩=false:=hfr6 1;have hf6_2 : w14.frozen? ⟨go5,(x5_1 : Int).toNat * 7 + 2,none⟩=false:=hfr6 2;have hf6_3 : w14.frozen? ⟨go5,(x5_1 : Int).toNat * 7 + 3,none⟩=false:=hfr6 3;have hf6_4 : w14.frozen? ⟨go5,(x5_1 : Int).toNat * 7 + 4,none⟩=false:=hfr6 4;have hf6_5 : w14.frozen? ⟨go5,(x5_1 : Int).toNat * 7 + 5,none⟩=false:=hfr6 5;have hf6_6 : w14.frozen? ⟨go5,(x5_1 : Int).toNat * 7 + 6,none⟩=false:=hfr6 6;clear hcl6 hcc6 hfr6 hM6;replace p6:=eq_true p6;replace q6:=eq_true q6;have HX15:=zh (show Kd.R k44 44 w14 w0.heap.size (fun k_ => (P0_ k_∨w.heap.size≤k_)) (.slice (some ⟨go5,0,none⟩) x0_1.length co12) y589 from (by (with_reducible repeat (first|apply zm|apply zn|apply zo));exact HO_0.out));obtain ⟨ce15,hcl15,hM15,hcc15,hfr15⟩:=Kd.R_elem HX15.out z44 (x5_1 : Int) (zy (by first|(with_reducible assumption)|assumption)) (by have h_ : (x5_1 : Int)<((x0_1.length : Int) : Int):=zy (by first|(with_reducible assumption)|assumption);first|exact h_|(have e_:=(yh HO_0.out).1;omega)|simpa using h_);obtain ⟨ve15_2,ve15_3,ve15_6,rfl,ge15_2,ge15_3,ge15_6⟩:=k44_openM hM15;have HP15:=Kd.R_seg HX15.out (x5_1 : Int) (zy (by first|(with_reducible assumption)|assumption)) (by have h_ : (x5_1 : Int)<((x0_1.length : Int) : Int):=zy (by first|(with_reducible assumption)|assumption);first|exact h_|(have e_:=(yh HO_0.out).1;omega)|simpa using h_) (seg:=[.int .i64 (wrap64 (x1_1 + 1))]) (j:=1) hcl15 hcc15 (show 2≤7 from by decide) (x':=(⟨(⟨(rd_T44 y589 x5_1).f0.f0,wrap64 (x1_1 + 1),(rd_T44 y589 x5_1).f0.f2,(rd_T44 y589 x5_1).f0.f3,(rd_T44 y589 x5_1).f0.f4,(rd_T44 y589 x5_1).f0.f5⟩ : S41),(rd_T44 y589 x5_1).f1⟩ : S44)) (k44_mkM _ _ _ (⟨(⟨(rd_T44 y589 x5_1).f0.f0,wrap64 (x1_1 + 1),(rd_T44 y589 x5_1).f0.f2,(rd_T44 y589 x5_1).f0.f3,(rd_T44 y589 x5_1).f0.f4,(rd_T44 y589 x5_1).f0.f5⟩ : S41),(rd_T44 y589 x5_1).f1⟩ : S44) ge15_2 ge15_3 ge15_6) (fun _ hk => hk);have hx15_1:=hcc15 1 _ rfl;(try simp only [show (k44).sz=7 from rfl,Nat.mul_one,Nat.add_zero] at hx15_1);have hf15_1:=hfr15 1;(try simp only [show (k44).sz=7 from rfl,Nat.mul_one,Nat.add_zero] at hf15_1);clear hcl15 hcc15 hfr15 hM15)|((with_reducible refine gate_store (t:=3) (p:=25) rfl ?_);refine store_event (t:=3) (p:=25) (v:=?vo_w16) (w1:=(w14.setCell ⟨go5,(x5_1 : Int).toNat * 7 + 1,none⟩ (.int .i64 (wrap64 (x1_1 + 1))))) ?hg ?ho ?hn ?hr ?_;(case ho => rfl);(case hg => rfl);(case hn => rfl);(case hr => go_simp <;> rfl);intro w16 hw;have hg : w14.grownBy w16 (some go5):=(by rw [hw];exact HP15.2);have hp_ : Kd.R k44 44 w16 w0.heap.size (fun k_ => (P0_ k_∨w.heap.size≤k_)) (.slice (some ⟨go5,0,none⟩) x0_1.length co12) y590:=(by rw [hw,Ny590.out];exact HP15.1);clear HP15;replace HB:=zh ((by rw [hw];exact zd (HB.out) GB5.out : Below w0.heap.size w0 w16));replace HK:=zh (yA (S:=(fun k_ => P0_ k_)) hg (by repeat (with_reducible first|exact HK.out|apply zr|apply zp|apply zq)) (fun k_ e_ => (HO_0.out.1 k_ e_)));replace HO_0:=zh (hp_);clear hg hw hp_;have p591 : 0≤(x5_1 : Int):=zy (by first|(with_reducible assumption)|assumption);have q591 : x5_1<(y590.length : Int):=(by have h_ : (x5_1 : Int)<((x0_1.length : Int) : Int):=zy (by first|(with_reducible assumption)|assumption);first|(have e_:=(yh HO_0.out).1;omega)|simpa only [Ny589.out,Ny590.out,List.length_set] using h_);have ql591 : ((x5_1 : Int)<((x0_1.length : Int) : Int))=True:=eq_true (zy (by first|(with_reducible assumption)|assumption));obtain ⟨ad591,A591_2,c591_2,A591_3,c591_3,A591_6,c591_6,e591,hx591_0,hx591_1,hx591_2,hx591_3,hx591_4,hx591_5,hx591_6,hl591_2,hi591_2,hl591_3,hi591_3,hl591_6,hi591_6⟩:=at_T44 (yh HO_0.out).2.2 x5_1 p591 q591;obtain rfl : (⟨go5,0,none⟩ : Addr)=ad591:=(by injection e591);obtain ⟨ce591,hce591,hMe591,hcc591⟩:=Kd.R_get HO_0.out z44 x5_1 p591 (by first|exact q591|exact zy (by first|(with_reducible assumption)|assumption)|(have e_:=(yh HO_0.out).1;omega));obtain ⟨ve591_2,ve591_3,ve591_6,rfl,ge591_2,ge591_3,ge591_6⟩:=k44_openM hMe591;have hv591_2:=hcc591 2 _ rfl;rw [add_field _ _ 2 (by omega)] at hv591_2;replace hv591_2:=zU (hv591_2.symm.trans hx591_2);rw [hv591_2] at ge591_2;have HL591_2:=zh (show Kd.R k104 104 _ _ _ _ ((rd_T44 y590 x5_1).f0.f2) from ge591_2);clear hv591_2 ge591_2;have hv591_3:=hcc591 3 _ rfl;rw [add_field _ _ 3 (by omega)] at hv591_3;replace hv591_3:=zU (hv591_3.symm.trans hx591_3);rw [hv591_3] at ge591_3;have HL591_3:=zh (show Kd.R k109 109 _ _ _ _ ((rd_T44 y590 x5_1).f0.f3) from ge591_3);clear hv591_3 ge591_3;have hv591_6:=hcc591 6 _ rfl;rw [add_field _ _ 6 (by omega)] at hv591_6;replace hv591_6:=zU (hv591_6.symm.trans hx591_6);rw [hv591_6] at ge591_6;have HL591_6:=zh (show Kd.R k91 91 _ _ _ _ ((rd_T44 y590 x5_1).f1) from ge591_6);clear hv591_6 ge591_6 hcc591 hce591;(first|simp only [add_plain] at hx591_0|simp only [add_at] at hx591_0|simp only [Addr.add,Nat.zero_add] at hx591_0|skip);(first|simp only [add_plain] at hx591_1|simp only [add_at] at hx591_1|simp only [Addr.add,Nat.zero_add] at hx591_1|skip);(first|simp only [add_plain] at hx591_2|simp only [add_at] at hx591_2|simp only [Addr.add,Nat.zero_add] at hx591_2|skip);(first|simp only [add_plain] at hx591_3|simp only [add_at] at hx591_3|simp only [Addr.add,Nat.zero_add] at hx591_3|skip);(first|simp only [add_plain] at hx591_4|simp only [add_at] at hx591_4|simp only [Addr.add,Nat.zero_add] at hx591_4|skip);(first|simp only [add_plain] at hx591_5|simp only [add_at] at hx591_5|simp only [Addr.add,Nat.zero_add] at hx591_5|skip);(first|simp only [add_plain] at hx591_6|simp only [add_at] at hx591_6|simp only [Addr.add,Nat.zero_add] at hx591_6|skip);have HR591_2:=zh hi591_2;have HC591_2:=zh hl591_2;clear hi591_2 hl591_2;have HR591_3:=zh hi591_3;have HC591_3:=zh hl591_3;clear hi591_3 hl591_3;have HR591_6:=zh hi591_6;have HC591_6:=zh hl591_6;clear hi591_6 hl591_6;replace p591:=eq_true p591;replace q591:=eq_true q591)|((with_reducible refine zJ (f:=31) rfl ?_);refine yj (some 35) rfl rfl Tryz.func31 (by kernel_rfl) rfl #[.slice A591_2 ((rd_T44 y590 x5_1).f0.f2).length c591_2,.int .i64 (wrap64 ((wrap64 (x1_1 + 1)) + 1))] rfl (by (try simp only [zt,zu,zv]);first|done|rfl|(simp only [zw,zx];rfl)|(simp only [yr,ys,zV,zW];rfl)) ?_;(with_reducible refine (F00.calls k1  _ _ ((rd_T44 y590 x5_1).f0.f2) (wrap64 ((wrap64 (x1_1 + 1)) + 1)) t592 _ ?side1 ?side2 A7.out).mono ?_);(case side1 => repeat (first|exact (by repeat (first|(with_reducible exact HR591_2.out)|(with_reducible refine Kd.C_alloc ?_ _)|(with_reducible refine Kd.C_drewN ?_ _)|(with_reducible refine Kd.C_drew ?_)|exact HR591_2.out))|(with_reducible refine Kd.C_alloc ?_ _)|(with_reducible refine Kd.C_drewN ?_ _)|(with_reducible refine Kd.C_drew ?_)));(case side2 => exact HC591_2.out);rintro e w17 ⟨rfl,hb⟩;refine ⟨_,rfl,?_⟩;replace HO_0:=zh (yg (by (with_reducible repeat (first|apply zm|apply zn|apply zo));exact HO_0.out) hb);replace HL591_2:=zh (yg (by (with_reducible repeat (first|apply zm|apply zn|apply zo));exact HL591_2.out) hb);replace HL591_3:=zh (yg (by (with_reducible repeat (first|apply zm|apply zn|apply zo));exact HL591_3.out) hb);replace HL591_6:=zh (yg (by (with_reducible repeat (first|apply zm|apply zn|apply zo));exact HL591_6.out) hb);replace HR591_2:=zh (Kd.C_below (by repeat (first|(with_reducible exact HR591_2.out)|(with_reducible refine Kd.C_alloc ?_ _)|(with_reducible refine Kd.C_drewN ?_ _)|(with_reducible refine Kd.C_drew ?_)|exact HR591_2.out)) hb);replace HR591_3:=zh (Kd.C_below (by repeat (first|(with_reducible exact HR591_3.out)|(with_reducible refine Kd.C_alloc ?_ _)|(with_reducible refine Kd.C_drewN ?_ _)|(with_reducible refine Kd.C_drew ?_)|exact HR591_3.out)) hb);replace HR591_6:=zh (Kd.C_below (by repeat (first|(with_reducible exact HR591_6.out)|(with_reducible refine Kd.C_alloc ?_ _)|(with_reducible refine Kd.C_drewN ?_ _)|(with_reducible refine Kd.C_drew ?_)|exact HR591_6.out)) hb);replace HK:=zh (Kept.below (S:=(fun k_ => P0_ k_)) (by repeat (with_reducible first|exact HK.out|apply zr|apply zp|apply zq)) hb);replace HB:=zh (zC (by repeat (with_reducible first|exact HB.out|apply za|apply zb|apply zc)) hb);(try clear hb);(try clear hb2);(try clear hk);(try clear hi);have p593 : 0≤(x5_1 : Int):=zy (by first|(with_reducible assumption)|assumption);have q593 : x5_1<(y590.length : Int):=(by have h_ : (x5_1 : Int)<((x0_1.length : Int) : Int):=zy (by first|(with_reducible assumption)|assumption);first|(have e_:=(yh HO_0.out).1;omega)|simpa only [Ny589.out,Ny590.out,List.length_set] using h_);have ql593 : ((x5_1 : Int)<((x0_1.length : Int) : Int))=True:=eq_true (zy (by first|(with_reducible assumption)|assumption));obtain ⟨ad593,A593_2,c593_2,A593_3,c593_3,A593_6,c593_6,e593,hx593_0,hx593_1,hx593_2,hx593_3,hx593_4,hx593_5,hx593_6,hl593_2,hi593_2,hl593_3,hi593_3,hl593_6,hi593_6⟩:=at_T44 (yh HO_0.out).2.2 x5_1 p593 q593;obtain rfl : (⟨go5,0,none⟩ : Addr)=ad593:=(by injection e593);obtain ⟨ce593,hce593,hMe593,hcc593⟩:=Kd.R_get HO_0.out z44 x5_1 p593 (by first|exact q593|exact zy (by first|(with_reducible assumption)|assumption)|(have e_:=(yh HO_0.out).1;omega));obtain ⟨ve593_2,ve593_3,ve593_6,rfl,ge593_2,ge593_3,ge593_6⟩:=k44_openM hMe593;have hv593_2:=hcc593 2 _ rfl;rw [add_field _ _ 2 (by omega)] at hv593_2;replace hv593_2:=zU (hv593_2.symm.trans hx593_2);rw [hv593_2] at ge593_2;have HL593_2:=zh (show Kd.R k104 104 _ _ _ _ ((rd_T44 y590 x5_1).f0.f2) from ge593_2);clear hv593_2 ge593_2;have hv593_3:=hcc593 3 _ rfl;rw [add_field _ _ 3 (by omega)] at hv593_3;replace hv593_3:=zU (hv593_3.symm.trans hx593_3);rw [hv593_3] at ge593_3;have HL593_3:=zh (show Kd.R k109 109 _ _ _ _ ((rd_T44 y590 x5_1).f0.f3) from ge593_3);clear hv593_3 ge593_3;have hv593_6:=hcc593 6 _ rfl;rw [add_field _ _ 6 (by omega)] at hv593_6;replace hv593_6:=zU (hv593_6.symm.trans hx593_6);rw [hv593_6] at ge593_6;have HL593_6:=zh (show Kd.R k91 91 _ _ _ _ ((rd_T44 y590 x5_1).f1) from ge593_6);clear hv593_6 ge593_6 hcc593 hce593;(first|simp only [add_plain] at hx593_0|simp only [add_at] at hx593_0|simp only [Addr.add,Nat.zero_add] at hx593_0|skip);(first|simp only [add_plain] at hx593_1|simp only [add_at] at hx593_1|simp only [Addr.add,Nat.zero_add] at hx593_1|skip);(first|simp only [add_plain] at hx593_2|simp only [add_at] at hx593_2|simp only [Addr.add,Nat.zero_add] at hx593_2|skip);(first|simp only [add_plain] at hx593_3|simp only [add_at] at hx593_3|simp only [Addr.add,Nat.zero_add] at hx593_3|skip);(first|simp only [add_plain] at hx593_4|simp only [add_at] at hx593_4|simp only [Addr.add,Nat.zero_add] at hx593_4|skip);(first|simp only [add_plain] at hx593_5|simp only [add_at] at hx593_5|simp only [Addr.add,Nat.zero_add] at hx593_5|skip);(first|simp only [add_plain] at hx593_6|simp only [add_at] at hx593_6|simp only [Addr.add,Nat.zero_add] at hx593_6|skip);have HR593_2:=zh hi593_2;have HC593_2:=zh hl593_2;clear hi593_2 hl593_2;have HR593_3:=zh hi593_3;have HC593_3:=zh hl593_3;clear hi593_3 hl593_3;have HR593_6:=zh hi593_6;have HC593_6:=zh hl593_6;clear hi593_6 hl593_6;replace p593:=eq_true p593;replace q593:=eq_true q593)|((with_reducible refine zJ (f:=32) rfl ?_);refine yj (some 43) rfl rfl Tryz.func32 (by kernel_rfl) rfl #[.slice A593_3 ((rd_T44 y590 x5_1).f0.f3).length c593_3,.int .i64 t592] rfl (by (try simp only [zt,zu,zv]);first|done|rfl|(simp only [zw,zx];rfl)|(simp only [yr,ys,zV,zW];rfl)) ?_;(with_reducible refine (Fw.calls k1  _ _ ((rd_T44 y590 x5_1).f0.f3) t592 t594 _ ?side1 ?side2 A8.out).mono ?_);(case side1 => repeat (first|exact (by repeat (first|(with_reducible exact HR593_3.out)|(with_reducible refine Kd.C_alloc ?_ _)|(with_reducible refine Kd.C_drewN ?_ _)|(with_reducible refine Kd.C_drew ?_)|exact HR593_3.out))|(with_reducible refine Kd.C_alloc ?_ _)|(with_reducible refine Kd.C_drewN ?_ _)|(with_reducible refine Kd.C_drew ?_)));(case side2 => exact HC593_3.out);rintro e w18 ⟨rfl,hb⟩;refine ⟨_,rfl,?_⟩;replace HO_0:=zh (yg (by (with_reducible repeat (first|apply zm|apply zn|apply zo));exact HO_0.out) hb);replace HL591_2:=zh (yg (by (with_reducible repeat (first|apply zm|apply zn|apply zo));exact HL591_2.out) hb);replace HL591_3:=zh (yg (by (with_reducible repeat (first|apply zm|apply zn|apply zo));exact HL591_3.out) hb);replace HL591_6:=zh (yg (by (with_reducible repeat (first|apply zm|apply zn|apply zo));exact HL591_6.out) hb);replace HL593_2:=zh (yg (by (with_reducible repeat (first|apply zm|apply zn|apply zo));exact HL593_2.out) hb);replace HL593_3:=zh (yg (by (with_reducible repeat (first|apply zm|apply zn|apply zo));exact HL593_3.out) hb);replace HL593_6:=zh (yg (by (with_reducible repeat (first|apply zm|apply zn|apply zo));exact HL593_6.out) hb);replace HR591_2:=zh (Kd.C_below (by repeat (first|(with_reducible exact HR591_2.out)|(with_reducible refine Kd.C_alloc ?_ _)|(with_reducible refine Kd.C_drewN ?_ _)|(with_reducible refine Kd.C_drew ?_)|exact HR591_2.out)) hb);replace HR591_3:=zh (Kd.C_below (by repeat (first|(with_reducible exact HR591_3.out)|(with_reducible refine Kd.C_alloc ?_ _)|(with_reducible refine Kd.C_drewN ?_ _)|(with_reducible refine Kd.C_drew ?_)|exact HR591_3.out)) hb);replace HR591_6:=zh (Kd.C_below (by repeat (first|(with_reducible exact HR591_6.out)|(with_reducible refine Kd.C_alloc ?_ _)|(with_reducible refine Kd.C_drewN ?_ _)|(with_reducible refine Kd.C_drew ?_)|exact HR591_6.out)) hb);replace HR593_2:=zh (Kd.C_below (by repeat (first|(with_reducible exact HR593_2.out)|(with_reducible refine Kd.C_alloc ?_ _)|(with_reducible refine Kd.C_drewN ?_ _)|(with_reducible refine Kd.C_drew ?_)|exact HR593_2.out)) hb);replace HR593_3:=zh (Kd.C_below (by repeat (first|(with_reducible exact HR593_3.out)|(with_reducible refine Kd.C_alloc ?_ _)|(with_reducible refine Kd.C_drewN ?_ _)|(with_reducible refine Kd.C_drew ?_)|exact HR593_3.out)) hb);replace HR593_6:=zh (Kd.C_below (by repeat (first|(with_reducible exact HR593_6.out)|(with_reducible refine Kd.C_alloc ?_ _)|(with_reducible refine Kd.C_drewN ?_ _)|(with_reducible refine Kd.C_drew ?_)|exact HR593_6.out)) hb);replace HK:=zh (Kept.below (S:=(fun k_ => P0_ k_)) (by repeat (with_reducible first|exact HK.out|apply zr|apply zp|apply zq)) hb);replace HB:=zh (zC (by repeat (with_reducible first|exact HB.out|apply za|apply zb|apply zc)) hb);(try clear hb);(try clear hb2);(try clear hk);(try clear hi);have p9 : 0≤(x5_1 : Int):=zy (by first|(with_reducible assumption)|assumption);have q9 : (x5_1 : Int)<((x0_1.length : Int) : Int):=zy (by first|(with_reducible assumption)|assumption);obtain ⟨ce9,hcl9,hM9,hcc9,hfr9⟩:=Kd.R_elem HO_0.out z44 (x5_1 : Int) p9 q9;obtain ⟨ve9_2,ve9_3,ve9_6,rfl,ge9_2,ge9_3,ge9_6⟩:=k44_openM hM9;have hx9_0 : w18.cell? ⟨go5,(x5_1 : Int).toNat * 7,none⟩=some (.int .i64 ((rd_T44 y590 x5_1).f0.f0)):=hcc9 0 _ rfl;have hx9_1 : w18.cell? ⟨go5,(x5_1 : Int).toNat * 7 + 1,none⟩=some (.int .i64 ((rd_T44 y590 x5_1).f0.f1)):=hcc9 1 _ rfl;have hx9_2 : w18.cell? ⟨go5,(x5_1 : Int).toNat * 7 + 2,none⟩=some (ve9_2):=hcc9 2 _ rfl;have hx9_3 : w18.cell? ⟨go5,(x5_1 : Int).toNat * 7 + 3,none⟩=some (ve9_3):=hcc9 3 _ rfl;have hx9_4 : w18.cell? ⟨go5,(x5_1 : Int).toNat * 7 + 4,none⟩=some (.bool ((rd_T44 y590 x5_1).f0.f4)):=hcc9 4 _ rfl;have hx9_5 : w18.cell? ⟨go5,(x5_1 : Int).toNat * 7 + 5,none⟩=some (.bool ((rd_T44 y590 x5_1).f0.f5)):=hcc9 5 _ rfl;have hx9_6 : w18.cell? ⟨go5,(x5_1 : Int).toNat * 7 + 6,none⟩=some (ve9_6):=hcc9 6 _ rfl;have hf9_0 : w18.frozen? ⟨go5,(x5_1 : Int).toNat * 7,none⟩=false:=hfr9 0;have hf9_1 : w18.frozen? ⟨go5,(x5_1 : Int).toNat * 7 + 1,none⟩=false:=hfr9 1;have hf9_2 : w18.frozen? ⟨go5,(x5_1 : Int).toNat * 7 + 2,none⟩=false:=hfr9 2;have hf9_3 : w18.frozen? ⟨go5,(x5_1 : Int).toNat * 7 + 3,none⟩=false:=hfr9 3;have hf9_4 : w18.frozen? ⟨go5,(x5_1 : Int).toNat * 7 + 4,none⟩=false:=hfr9 4;have hf9_5 : w18.frozen? ⟨go5,(x5_1 : Int).toNat * 7 + 5,none⟩=false:=hfr9 5;have hf9_6 : w18.frozen? ⟨go5,(x5_1 : Int).toNat * 7 + 6,none⟩=false:=hfr9 6;clear hcl9 hcc9 hfr9 hM9;replace p9:=eq_true p9;replace q9:=eq_true q9;have HX19:=zh (show Kd.R k44 44 w18 w0.heap.size (fun k_ => (P0_ k_∨w.heap.size≤k_)) (.slice (some ⟨go5,0,none⟩) x0_1.length co12) y590 from (by (with_reducible repeat (first|apply zm|apply zn|apply zo));exact HO_0.out));obtain ⟨ce19,hcl19,hM19,hcc19,hfr19⟩:=Kd.R_elem HX19.out z44 (x5_1 : Int) (zy (by first|(with_reducible assumption)|assumption)) (by have h_ : (x5_1 : Int)<((x0_1.length : Int) : Int):=zy (by first|(with_reducible assumption)|assumption);first|exact h_|(have e_:=(yh HO_0.out).1;omega)|simpa using h_);obtain ⟨ve19_2,ve19_3,ve19_6,rfl,ge19_2,ge19_3,ge19_6⟩:=k44_openM hM19;have HP19:=Kd.R_seg HX19.out (x5_1 : Int) (zy (by first|(with_reducible assumption)|assumption)) (by have h_ : (x5_1 : Int)<((x0_1.length : Int) : Int):=zy (by first|(with_reducible assumption)|assumption);first|exact h_|(have e_:=(yh HO_0.out).1;omega)|simpa using h_) (seg:=[.bool ((Int.tmod t594 3) == 0)]) (j:=4) hcl19 hcc19 (show 5≤7 from by decide) (x':=(⟨(⟨(rd_T44 y590 x5_1).f0.f0,(rd_T44 y590 x5_1).f0.f1,(rd_T44 y590 x5_1).f0.f2,(rd_T44 y590 x5_1).f0.f3,((Int.tmod t594 3) == 0),(rd_T44 y590 x5_1).f0.f5⟩ : S41),(rd_T44 y590 x5_1).f1⟩ : S44)) (k44_mkM _ _ _ (⟨(⟨(rd_T44 y590 x5_1).f0.f0,(rd_T44 y590 x5_1).f0.f1,(rd_T44 y590 x5_1).f0.f2,(rd_T44 y590 x5_1).f0.f3,((Int.tmod t594 3) == 0),(rd_T44 y590 x5_1).f0.f5⟩ : S41),(rd_T44 y590 x5_1).f1⟩ : S44) ge19_2 ge19_3 ge19_6) (fun _ hk => hk);have hx19_4:=hcc19 4 _ rfl;(try simp only [show (k44).sz=7 from rfl,Nat.mul_one,Nat.add_zero] at hx19_4);have hf19_4:=hfr19 4;(try simp only [show (k44).sz=7 from rfl,Nat.mul_one,Nat.add_zero] at hf19_4);clear hcl19 hcc19 hfr19 hM19)|((with_reducible refine gate_store (t:=4) (p:=51) rfl ?_);refine store_event (t:=4) (p:=51) (v:=?vo_w20) (w1:=(w18.setCell ⟨go5,(x5_1 : Int).toNat * 7 + 4,none⟩ (.bool ((Int.tmod t594 3) == 0)))) ?hg ?ho ?hn ?hr ?_;(case ho => rfl);(case hg => rfl);(case hn => rfl);(case hr => go_simp <;> rfl);intro w20 hw;have hg : w18.grownBy w20 (some go5):=(by rw [hw];exact HP19.2);have hp_ : Kd.R k44 44 w20 w0.heap.size (fun k_ => (P0_ k_∨w.heap.size≤k_)) (.slice (some ⟨go5,0,none⟩) x0_1.length co12) y595:=(by rw [hw,Ny595.out];exact HP19.1);clear HP19;replace HL591_2:=zh (Kd.R_after (v:=(.slice (some ⟨go5,0,none⟩) x0_1.length co12)) (v1:=(.slice (some ⟨go5,0,none⟩) x0_1.length co12)) (ok:=(fun k_ => (P0_ k_∨w.heap.size≤k_))) (by (with_reducible repeat (first|apply zm|apply zn|apply zo));exact HL591_2.out) hg (.inl rfl));replace HL591_3:=zh (Kd.R_after (v:=(.slice (some ⟨go5,0,none⟩) x0_1.length co12)) (v1:=(.slice (some ⟨go5,0,none⟩) x0_1.length co12)) (ok:=(fun k_ => (P0_ k_∨w.heap.size≤k_))) (by (with_reducible repeat (first|apply zm|apply zn|apply zo));exact HL591_3.out) hg (.inl rfl));replace HL591_6:=zh (Kd.R_after (v:=(.slice (some ⟨go5,0,none⟩) x0_1.length co12)) (v1:=(.slice (some ⟨go5,0,none⟩) x0_1.length co12)) (ok:=(fun k_ => (P0_ k_∨w.heap.size≤k_))) (by (with_reducible repeat (first|apply zm|apply zn|apply zo));exact HL591_6.out) hg (.inl rfl));replace HL593_2:=zh (Kd.R_after (v:=(.slice (some ⟨go5,0,none⟩) x0_1.length co12)) (v1:=(.slice (some ⟨go5,0,none⟩) x0_1.length co12)) (ok:=(fun k_ => (P0_ k_∨w.heap.size≤k_))) (by (with_reducible repeat (first|apply zm|apply zn|apply zo));exact HL593_2.out) hg (.inl rfl));replace HL593_3:=zh (Kd.R_after (v:=(.slice (some ⟨go5,0,none⟩) x0_1.length co12)) (v1:=(.slice (some ⟨go5,0,none⟩) x0_1.length co12)) (ok:=(fun k_ => (P0_ k_∨w.heap.size≤k_))) (by (with_reducible repeat (first|apply zm|apply zn|apply zo));exact HL593_3.out) hg (.inl rfl));replace HL593_6:=zh (Kd.R_after (v:=(.slice (some ⟨go5,0,none⟩) x0_1.length co12)) (v1:=(.slice (some ⟨go5,0,none⟩) x0_1.length co12)) (ok:=(fun k_ => (P0_ k_∨w.heap.size≤k_))) (by (with_reducible repeat (first|apply zm|apply zn|apply zo));exact HL593_6.out) hg (.inl rfl));replace HB:=zh ((by rw [hw];exact zd (HB.out) GB5.out : Below w0.heap.size w0 w20));replace HK:=zh (yA (S:=(fun k_ => P0_ k_)) hg (by repeat (with_reducible first|exact HK.out|apply zr|apply zp|apply zq)) (fun k_ e_ => (HO_0.out.1 k_ e_)));replace HO_0:=zh (hp_);clear hg hw hp_;have p10 : 0≤(x5_1 : Int):=zy (by first|(with_reducible assumption)|assumption);have q10 : (x5_1 : Int)<((x0_1.length : Int) : Int):=zy (by first|(with_reducible assumption)|assumption);obtain ⟨ce10,hcl10,hM10,hcc10,hfr10⟩:=Kd.R_elem HO_0.out z44 (x5_1 : Int) p10 q10;obtain ⟨ve10_2,ve10_3,ve10_6,rfl,ge10_2,ge10_3,ge10_6⟩:=k44_openM hM10;have hx10_0 : w20.cell? ⟨go5,(x5_1 : Int).toNat * 7,none⟩=some (.int .i64 ((rd_T44 y595 x5_1).f0.f0)):=hcc10 0 _ rfl;have hx10_1 : w20.cell? ⟨go5,(x5_1 : Int).toNat * 7 + 1,none⟩=some (.int .i64 ((rd_T44 y595 x5_1).f0.f1)):=hcc10 1 _ rfl;have hx10_2 : w20.cell? ⟨go5,(x5_1 : Int).toNat * 7 + 2,none⟩=some (ve10_2):=hcc10 2 _ rfl;have hx10_3 : w20.cell? ⟨go5,(x5_1 : Int).toNat * 7 + 3,none⟩=some (ve10_3):=hcc10 3 _ rfl;have hx10_4 : w20.cell? ⟨go5,(x5_1 : Int).toNat * 7 + 4,none⟩=some (.bool ((rd_T44 y595 x5_1).f0.f4)):=hcc10 4 _ rfl;have hx10_5 : w20.cell? ⟨go5,(x5_1 : Int).toNat * 7 + 5,none⟩=some (.bool ((rd_T44 y595 x5_1).f0.f5)):=hcc10 5 _ rfl;have hx10_6 : w20.cell? ⟨go5,(x5_1 : Int).toNat * 7 + 6,none⟩=some (ve10_6):=hcc10 6 _ rfl;have hf10_0 : w20.frozen? ⟨go5,(x5_1 : Int).toNat * 7,none⟩=false:=hfr10 0;have hf10_1 : w20.frozen? ⟨go5,(x5_1 : Int).toNat * 7 + 1,none⟩=false:=hfr10 1;have hf10_2 : w20.frozen? ⟨go5,(x5_1 : Int).toNat * 7 + 2,none⟩=false:=hfr10 2;have hf10_3 : w20.frozen? ⟨go5,(x5_1 : Int).toNat * 7 + 3,none⟩=false:=hfr10 3;have hf10_4 : w20.frozen? ⟨go5,(x5_1 : Int).toNat * 7 + 4,none⟩=false:=hfr10 4;have hf10_5 : w20.frozen? ⟨go5,(x5_1 : Int).toNat * 7 + 5,none⟩=false:=hfr10 5;have hf10_6 : w20.frozen? ⟨go5,(x5_1 : Int).toNat * 7 + 6,none⟩=false:=hfr10 6;clear hcl10 hcc10 hfr10 hM10;replace p10:=eq_true p10;replace q10:=eq_true q10;have HX21:=zh (show Kd.R k44 44 w20 w0.heap.size (fun k_ => (P0_ k_∨w.heap.size≤k_)) (.slice (some ⟨go5,0,none⟩) x0_1.length co12) y595 from (by (with_reducible repeat (first|apply zm|apply zn|apply zo));exact HO_0.out));obtain ⟨ce21,hcl21,hM21,hcc21,hfr21⟩:=Kd.R_elem HX21.out z44 (x5_1 : Int) (zy (by first|(with_reducible assumption)|assumption)) (by have h_ : (x5_1 : Int)<((x0_1.length : Int) : Int):=zy (by first|(with_reducible assumption)|assumption);first|exact h_|(have e_:=(yh HO_0.out).1;omega)|simpa using h_);obtain ⟨ve21_2,ve21_3,ve21_6,rfl,ge21_2,ge21_3,ge21_6⟩:=k44_openM hM21;have HP21:=Kd.R_seg HX21.out (x5_1 : Int) (zy (by first|(with_reducible assumption)|assumption)) (by have h_ : (x5_1 : Int)<((x0_1.length : Int) : Int):=zy (by first|(with_reducible assumption)|assumption);first|exact h_|(have e_:=(yh HO_0.out).1;omega)|simpa using h_) (seg:=[.bool ((Int.tmod (wrap64 (t594 + 1)) 3) == 0)]) (j:=5) hcl21 hcc21 (show 6≤7 from by decide) (x':=(⟨(⟨(rd_T44 y595 x5_1).f0.f0,(rd_T44 y595 x5_1).f0.f1,(rd_T44 y595 x5_1).f0.f2,(rd_T44 y595 x5_1).f0.f3,(rd_T44 y595 x5_1).f0.f4,((Int.tmod (wrap64 (t594 + 1)) 3) == 0)⟩ : S41),(rd_T44 y595 x5_1).f1⟩ : S44)) (k44_mkM _ _ _ (⟨(⟨(rd_T44 y595 x5_1).f0.f0,(rd_T44 y595 x5_1).f0.f1,(rd_T44 y595 x5_1).f0.f2,(rd_T44 y595 x5_1).f0.f3,(rd_T44 y595 x5_1).f0.f4,((Int.tmod (wrap64 (t594 + 1)) 3) == 0)⟩ : S41),(rd_T44 y595 x5_1).f1⟩ : S44) ge21_2 ge21_3 ge21_6) (fun _ hk => hk);have hx21_5:=hcc21 5 _ rfl;(try simp only [show (k44).sz=7 from rfl,Nat.mul_one,Nat.add_zero] at hx21_5);have hf21_5:=hfr21 5;(try simp only [show (k44).sz=7 from rfl,Nat.mul_one,Nat.add_zero] at hf21_5);clear hcl21 hcc21 hfr21 hM21)|((with_reducible refine gate_store (t:=4) (p:=61) rfl ?_);refine store_event (t:=4) (p:=61) (v:=?vo_w22) (w1:=(w20.setCell ⟨go5,(x5_1 : Int).toNat * 7 + 5,none⟩ (.bool ((Int.tmod (wrap64 (t594 + 1)) 3) == 0)))) ?hg ?ho ?hn ?hr ?_;(case ho => rfl);(case hg => rfl);(case hn => rfl);(case hr => go_simp <;> rfl);intro w22 hw;have hg : w20.grownBy w22 (some go5):=(by rw [hw];exact HP21.2);have hp_ : Kd.R k44 44 w22 w0.heap.size (fun k_ => (P0_ k_∨w.heap.size≤k_)) (.slice (some ⟨go5,0,none⟩) x0_1.length co12) y596:=(by rw [hw,Ny596.out];exact HP21.1);clear HP21;replace HL591_2:=zh (Kd.R_after (v:=(.slice (some ⟨go5,0,none⟩) x0_1.length co12)) (v1:=(.slice (some ⟨go5,0,none⟩) x0_1.length co12)) (ok:=(fun k_ => (P0_ k_∨w.heap.size≤k_))) (by (with_reducible repeat (first|apply zm|apply zn|apply zo));exact HL591_2.out) hg (.inl rfl));replace HL591_3:=zh (Kd.R_after (v:=(.slice (some ⟨go5,0,none⟩) x0_1.length co12)) (v1:=(.slice (some ⟨go5,0,none⟩) x0_1.length co12)) (ok:=(fun k_ => (P0_ k_∨w.heap.size≤k_))) (by (with_reducible repeat (first|apply zm|apply zn|apply zo));exact HL591_3.out) hg (.inl rfl));replace HL591_6:=zh (Kd.R_after (v:=(.slice (some ⟨go5,0,none⟩) x0_1.length co12)) (v1:=(.slice (some ⟨go5,0,none⟩) x0_1.length co12)) (ok:=(fun k_ => (P0_ k_∨w.heap.size≤k_))) (by (with_reducible repeat (first|apply zm|apply zn|apply zo));exact HL591_6.out) hg (.inl rfl));replace HL593_2:=zh (Kd.R_after (v:=(.slice (some ⟨go5,0,none⟩) x0_1.length co12)) (v1:=(.slice (some ⟨go5,0,none⟩) x0_1.length co12)) (ok:=(fun k_ => (P0_ k_∨w.heap.size≤k_))) (by (with_reducible repeat (first|apply zm|apply zn|apply zo));exact HL593_2.out) hg (.inl rfl));replace HL593_3:=zh (Kd.R_after (v:=(.slice (some ⟨go5,0,none⟩) x0_1.length co12)) (v1:=(.slice (some ⟨go5,0,none⟩) x0_1.length co12)) (ok:=(fun k_ => (P0_ k_∨w.heap.size≤k_))) (by (with_reducible repeat (first|apply zm|apply zn|apply zo));exact HL593_3.out) hg (.inl rfl));replace HL593_6:=zh (Kd.R_after (v:=(.slice (some ⟨go5,0,none⟩) x0_1.length co12)) (v1:=(.slice (some ⟨go5,0,none⟩) x0_1.length co12)) (ok:=(fun k_ => (P0_ k_∨w.heap.size≤k_))) (by (with_reducible repeat (first|apply zm|apply zn|apply zo));exact HL593_6.out) hg (.inl rfl));replace HB:=zh ((by rw [hw];exact zd (HB.out) GB5.out : Below w0.heap.size w0 w22));replace HK:=zh (yA (S:=(fun k_ => P0_ k_)) hg (by repeat (with_reducible first|exact HK.out|apply zr|apply zp|apply zq)) (fun k_ e_ => (HO_0.out.1 k_ e_)));replace HO_0:=zh (hp_);clear hg hw hp_;have p597 : 0≤(x5_1 : Int):=zy (by first|(with_reducible assumption)|assumption);have q597 : x5_1<(y596.length : Int):=(by have h_ : (x5_1 : Int)<((x0_1.length : Int) : Int):=zy (by first|(with_reducible assumption)|assumption);first|(have e_:=(yh HO_0.out).1;omega)|simpa only [Ny589.out,Ny590.out,Ny595.out,Ny596.out,List.length_set] using h_);have ql597 : ((x5_1 : Int)<((x0_1.length : Int) : Int))=True:=eq_true (zy (by first|(with_reducible assumption)|assumption));obtain ⟨ad597,A597_2,c597_2,A597_3,c597_3,A597_6,c597_6,e597,hx597_0,hx597_1,hx597_2,hx597_3,hx597_4,hx597_5,hx597_6,hl597_2,hi597_2,hl597_3,hi597_3,hl597_6,hi597_6⟩:=at_T44 (yh HO_0.out).2.2 x5_1 p597 q597;obtain rfl : (⟨go5,0,none⟩ : Addr)=ad597:=(by injection e597);obtain ⟨ce597,hce597,hMe597,hcc597⟩:=Kd.R_get HO_0.out z44 x5_1 p597 (by first|exact q597|exact zy (by first|(with_reducible assumption)|assumption)|(have e_:=(yh HO_0.out).1;omega));obtain ⟨ve597_2,ve597_3,ve597_6,rfl,ge597_2,ge597_3,ge597_6⟩:=k44_openM hMe597;have hv597_2:=hcc597 2 _ rfl;rw [add_field _ _ 2 (by omega)] at hv597_2;replace hv597_2:=zU (hv597_2.symm.trans hx597_2);rw [hv597_2] at ge597_2;have HL597_2:=zh (show Kd.R k104 104 _ _ _ _ ((rd_T44 y596 x5_1).f0.f2) from ge597_2);clear hv597_2 ge597_2;have hv597_3:=hcc597 3 _ rfl;rw [add_field _ _ 3 (by omega)] at hv597_3;replace hv597_3:=zU (hv597_3.symm.trans hx597_3);rw [hv597_3] at ge597_3;have HL597_3:=zh (show Kd.R k109 109 _ _ _ _ ((rd_T44 y596 x5_1).f0.f3) from ge597_3);clear hv597_3 ge597_3;have hv597_6:=hcc597 6 _ rfl;rw [add_field _ _ 6 (by omega)] at hv597_6;replace hv597_6:=zU (hv597_6.symm.trans hx597_6);rw [hv597_6] at ge597_6;have HL597_6:=zh (show Kd.R k91 91 _ _ _ _ ((rd_T44 y596 x5_1).f1) from ge597_6);clear hv597_6 ge597_6 hcc597 hce597;(first|simp only [add_plain] at hx597_0|simp only [add_at] at hx597_0|simp only [Addr.add,Nat.zero_add] at hx597_0|skip);(first|simp only [add_plain] at hx597_1|simp only [add_at] at hx597_1|simp only [Addr.add,Nat.zero_add] at hx597_1|skip);(first|simp only [add_plain] at hx597_2|simp only [add_at] at hx597_2|simp only [Addr.add,Nat.zero_add] at hx597_2|skip);(first|simp only [add_plain] at hx597_3|simp only [add_at] at hx597_3|simp only [Addr.add,Nat.zero_add] at hx597_3|skip);(first|simp only [add_plain] at hx597_4|simp only [add_at] at hx597_4|simp only [Addr.add,Nat.zero_add] at hx597_4|skip);(first|simp only [add_plain] at hx597_5|simp only [add_at] at hx597_5|simp only [Addr.add,Nat.zero_add] at hx597_5|skip);(first|simp only [add_plain] at hx597_6|simp only [add_at] at hx597_6|simp only [Addr.add,Nat.zero_add] at hx597_6|skip);have HR597_2:=zh hi597_2;have HC597_2:=zh hl597_2;clear hi597_2 hl597_2;have HR597_3:=zh hi597_3;have HC597_3:=zh hl597_3;clear hi597_3 hl597_3;have HR597_6:=zh hi597_6;have HC597_6:=zh hl597_6;clear hi597_6 hl597_6;replace p597:=eq_true p597;replace q597:=eq_true q597)|((with_reducible refine zJ (f:=33) rfl ?_);refine yj (some 70) rfl rfl Tryz.func33 (by kernel_rfl) rfl #[.slice A597_6 ((rd_T44 y596 x5_1).f1).length c597_6,.int .i64 (wrap64 ((wrap64 (t594 + 1)) + 1))] rfl (by (try simp only [zt,zu,zv]);first|done|rfl|(simp only [zw,zx];rfl)|(simp only [yr,ys,zV,zW];rfl)) ?_;(with_reducible refine (Fi.calls k1  _ _ ((rd_T44 y596 x5_1).f1) (wrap64 ((wrap64 (t594 + 1)) + 1)) t598 _ ?side1 ?side2 A11.out).mono ?_);(case side1 => repeat (first|exact (by repeat (first|(with_reducible exact HR597_6.out)|(with_reducible refine Kd.C_alloc ?_ _)|(with_reducible refine Kd.C_drewN ?_ _)|(with_reducible refine Kd.C_drew ?_)|exact HR597_6.out))|(with_reducible refine Kd.C_alloc ?_ _)|(with_reducible refine Kd.C_drewN ?_ _)|(with_reducible refine Kd.C_drew ?_)));(case side2 => exact HC597_6.out);rintro e w23 ⟨rfl,hb⟩;refine ⟨_,rfl,?_⟩;replace HO_0:=zh (yg (by (with_reducible repeat (first|apply zm|apply zn|apply zo));exact HO_0.out) hb);replace HL591_2:=zh (yg (by (with_reducible repeat (first|apply zm|apply zn|apply zo));exact HL591_2.out) hb);replace HL591_3:=zh (yg (by (with_reducible repeat (first|apply zm|apply zn|apply zo));exact HL591_3.out) hb);replace HL591_6:=zh (yg (by (with_reducible repeat (first|apply zm|apply zn|apply zo));exact HL591_6.out) hb);replace HL593_2:=zh (yg (by (with_reducible repeat (first|apply zm|apply zn|apply zo));exact HL593_2.out) hb);replace HL593_3:=zh (yg (by (with_reducible repeat (first|apply zm|apply zn|apply zo));exact HL593_3.out) hb);replace HL593_6:=zh (yg (by (with_reducible repeat (first|apply zm|apply zn|apply zo));exact HL593_6.out) hb);replace HL597_2:=zh (yg (by (with_reducible repeat (first|apply zm|apply zn|apply zo));exact HL597_2.out) hb);replace HL597_3:=zh (yg (by (with_reducible repeat (first|apply zm|apply zn|apply zo));exact HL597_3.out) hb);replace HL597_6:=zh (yg (by (with_reducible repeat (first|apply zm|apply zn|apply zo));exact HL597_6.out) hb);replace HR597_2:=zh (Kd.C_below (by repeat (first|(with_reducible exact HR597_2.out)|(with_reducible refine Kd.C_alloc ?_ _)|(with_reducible refine Kd.C_drewN ?_ _)|(with_reducible refine Kd.C_drew ?_)|exact HR597_2.out)) hb);replace HR597_3:=zh (Kd.C_below (by repeat (first|(with_reducible exact HR597_3.out)|(with_reducible refine Kd.C_alloc ?_ _)|(with_reducible refine Kd.C_drewN ?_ _)|(with_reducible refine Kd.C_drew ?_)|exact HR597_3.out)) hb);replace HR597_6:=zh (Kd.C_below (by repeat (first|(with_reducible exact HR597_6.out)|(with_reducible refine Kd.C_alloc ?_ _)|(with_reducible refine Kd.C_drewN ?_ _)|(with_reducible refine Kd.C_drew ?_)|exact HR597_6.out)) hb);replace HK:=zh (Kept.below (S:=(fun k_ => P0_ k_)) (by repeat (with_reducible first|exact HK.out|apply zr|apply zp|apply zq)) hb);replace HB:=zh (zC (by repeat (with_reducible first|exact HB.out|apply za|apply zb|apply zc)) hb);(try clear hb);(try clear hb2);(try clear hk);(try clear hi)))
     go_roundg k1
     case measure => have:=HK1.out;omega
     case rel => exact ⟨(y596),(t598),(wrap64 (x5_1 + 1)),(by first|rfl|(simp;done)|(simp [*];done)),(by first|rfl|(simp;done)|(simp [*];done)),H',⟨by have:=HK1.out;omega⟩,⟨by (with_reducible repeat (first|apply zm|apply zn|apply zo));exact HO_0.out⟩,⟨by repeat (with_reducible first|exact HK.out|apply zr|apply zp|apply zq)⟩,⟨by repeat (with_reducible first|exact HB.out|apply za|apply zb|apply zc)⟩⟩
    rw [if_neg c4] at H;exact absurd H (by simp)
   rw [if_neg c3] at H;have c3b0 : decide (x5_1<(x0_1.length : Int))=false:=decide_eq_false c3;clear c3;simp only [Option.some.injEq,Prod.mk.injEq] at H;obtain ⟨rfl,rfl⟩:=H;obtain ⟨Ao24,co24,eo24⟩:=yk HO_0.out;subst eo24
   go_wp2
   go_ret
   exact ⟨by first|rfl|(simp [yt,yu] <;> rfl)|(simp [*,yt,yu] <;> rfl),by (with_reducible repeat (first|apply zm|apply zn|apply zo));exact HO_0.out,by repeat (with_reducible first|exact HB.out|apply za|apply zb|apply zc),by repeat (with_reducible first|exact HK.out|apply zr|apply zp|apply zq)⟩


def F0h.f (k : Nat) (l0_0 : List (S54)) (l0_1 : List (S71)) (l0_2 : List (S41)) (a0_3 : Int) (l0_4 : List (S44)) (l0_5 : List (S44)) (a1 : Int) : Option (Int×(List (S54))×(List (S44))×(List (S44))):=(F0d.f k l0_0 l0_1 l0_2 a0_3 a1).bind fun bt600 => ((Fe.f k l0_4 bt600.1).bind fun bt602 => ((Fe.f k l0_5 bt602.1).bind fun bt604 => (some (bt604.1,bt600.2,bt602.2,bt604.2))))
theorem F0h.mono : ∀ a0 a1 a2 a3 a4 a5 a6 k,LeO (F0h.f k a0 a1 a2 a3 a4 a5 a6) (F0h.f (k + 1) a0 a1 a2 a3 a4 a5 a6):=by
 intro a0 a1 a2 a3 a4 a5 a6 k;unfold F0h.f
 repeat' first|(with_reducible first|exact F0d.mono _ _ _ _ _ _|exact Fe.mono _ _ _|exact zQ _|exact zN _|refine zP ?_ ?_|refine zO ?_ (fun _ => ?_))|refine zP ?_ ?_|refine zO ?_ (fun _ => ?_)

def Fr.l0 : Nat→List (S116)→Int→Int→Option (Int)
 | 0,_,_,_ => none
 | k + 1,x0,x1,x5 => if x5<(x0.length : Int) then (none) else (some x1)
def Fr.f (k : Nat) (l0 : List (S116)) (a1 : Int) : Option (Int):=Fr.l0 k l0 a1 0
theorem Fr.mono_l : ∀ k,(∀ y0 y1 y2,LeO (Fr.l0 k y0 y1 y2) (Fr.l0 (k + 1) y0 y1 y2))
 | 0 => fun _ _ _ r h => by simp [Fr.l0] at h
 | k + 1 => by
  have ih0:=Fr.mono_l k;intro y0 y1 y2;unfold Fr.l0
  repeat' first|(with_reducible first|exact ih0 _ _ _|exact zQ _|exact zN _|refine zP ?_ ?_|refine zO ?_ (fun _ => ?_))|refine zP ?_ ?_|refine zO ?_ (fun _ => ?_)
theorem Fr.mono : ∀ a0 a1 k,LeO (Fr.f k a0 a1) (Fr.f (k + 1) a0 a1):=by
 intro a0 a1 k;have ih0:=Fr.mono_l k;unfold Fr.f
 repeat' first|(with_reducible first|exact ih0 _ _ _|exact zQ _|exact zN _|refine zP ?_ ?_|refine zO ?_ (fun _ => ?_))|refine zP ?_ ?_|refine zO ?_ (fun _ => ?_)
set_option maxHeartbeats 8000000 in
set_option maxRecDepth 100000 in
theorem Fr.calls (k : Nat) (A0 : Option Addr) (c0 : Nat) (l0 : List (S116)) (a1 : Int) (r : Int) (w : World) (hr0 : Kd.C k116 w A0 l0.length l0) (hc0 : l0.length≤c0) (h : Fr.f k l0 a1=some r) :
  Calls Tryz.prog 59 #[.slice A0 l0.length c0,.int .i64 a1] w fun e w' => e = .returned (.int .i64 r)∧Below w.heap.size w w':=by
 have HR0:=zh hr0;have HC0:=zh hc0;clear hr0 hc0;have HB:=zh (Below.refl w.heap.size w);have H : (Fr.l0 k l0 a1 0)=some r:=h;clear h;have H':=zh H;clear H
 go_enter Tryz.func59,Tryz.ntmps59
 go_wp2
 go_loopg [1,5] k (fun kq v1 v5 w' => ∃ (x1_1 : Int) (x5_1 : Int),v1 = .int .i64 x1_1∧v5 = .int .i64 x5_1∧Aside0 (Fr.l0 kq l0 x1_1 x5_1=some r)∧Aside0 (kq≤k)∧Aside0 (Below w.heap.size w w'))
 case atStart => exact ⟨(a1),(0),(by first|rfl|(simp;done)|(simp [*];done)),(by first|rfl|(simp;done)|(simp [*];done)),H',⟨ye _⟩,⟨by repeat (with_reducible first|exact HB.out|apply za|apply zb|apply zc)⟩⟩
 case round =>
  clear H'
  try clear p2
  obtain ⟨x1_1,x5_1,rfl,rfl,HA,HK1,HB⟩:=hrel
  cases gk with
  | zero => exact absurd HA.out (by simp [Fr.l0])
  | succ k1 =>
   have H:=HA.out;clear HA;simp only [Fr.l0] at H
   by_cases c3 : x5_1<(l0.length : Int)
   ·
    rw [if_pos c3] at H
    exact absurd H (by simp)
   rw [if_neg c3] at H;have c3b0 : decide (x5_1<(l0.length : Int))=false:=decide_eq_false c3;clear c3;obtain rfl:=zU H
   go_wp2
   go_ret
   exact ⟨by first|rfl|(simp [yt,yu] <;> rfl)|(simp [*,yt,yu] <;> rfl),by repeat (with_reducible first|exact HB.out|apply za|apply zb|apply zc)⟩


def Fs.l0 : Nat→List (S84)→Int→Int→Option (Int)
 | 0,_,_,_ => none
 | k + 1,x0,x1,x5 => if x5<(x0.length : Int) then (none) else (some x1)
def Fs.f (k : Nat) (l0 : List (S84)) (a1 : Int) : Option (Int):=Fs.l0 k l0 a1 0
theorem Fs.mono_l : ∀ k,(∀ y0 y1 y2,LeO (Fs.l0 k y0 y1 y2) (Fs.l0 (k + 1) y0 y1 y2))
 | 0 => fun _ _ _ r h => by simp [Fs.l0] at h
 | k + 1 => by
  have ih0:=Fs.mono_l k;intro y0 y1 y2;unfold Fs.l0
  repeat' first|(with_reducible first|exact ih0 _ _ _|exact zQ _|exact zN _|refine zP ?_ ?_|refine zO ?_ (fun _ => ?_))|refine zP ?_ ?_|refine zO ?_ (fun _ => ?_)
theorem Fs.mono : ∀ a0 a1 k,LeO (Fs.f k a0 a1) (Fs.f (k + 1) a0 a1):=by
 intro a0 a1 k;have ih0:=Fs.mono_l k;unfold Fs.f
 repeat' first|(with_reducible first|exact ih0 _ _ _|exact zQ _|exact zN _|refine zP ?_ ?_|refine zO ?_ (fun _ => ?_))|refine zP ?_ ?_|refine zO ?_ (fun _ => ?_)
set_option maxHeartbeats 8000000 in
set_option maxRecDepth 100000 in
theorem Fs.calls (k : Nat) (A0 : Option Addr) (c0 : Nat) (l0 : List (S84)) (a1 : Int) (r : Int) (w : World) (hr0 : Kd.C k84 w A0 l0.length l0) (hc0 : l0.length≤c0) (h : Fs.f k l0 a1=some r) :
  Calls Tryz.prog 60 #[.slice A0 l0.length c0,.int .i64 a1] w fun e w' => e = .returned (.int .i64 r)∧Below w.heap.size w w':=by
 have HR0:=zh hr0;have HC0:=zh hc0;clear hr0 hc0;have HB:=zh (Below.refl w.heap.size w);have H : (Fs.l0 k l0 a1 0)=some r:=h;clear h;have H':=zh H;clear H
 go_enter Tryz.func60,Tryz.ntmps60
 go_wp2
 go_loopg [1,5] k (fun kq v1 v5 w' => ∃ (x1_1 : Int) (x5_1 : Int),v1 = .int .i64 x1_1∧v5 = .int .i64 x5_1∧Aside0 (Fs.l0 kq l0 x1_1 x5_1=some r)∧Aside0 (kq≤k)∧Aside0 (Below w.heap.size w w'))
 case atStart => exact ⟨(a1),(0),(by first|rfl|(simp;done)|(simp [*];done)),(by first|rfl|(simp;done)|(simp [*];done)),H',⟨ye _⟩,⟨by repeat (with_reducible first|exact HB.out|apply za|apply zb|apply zc)⟩⟩
 case round =>
  clear H'
  try clear p2
  obtain ⟨x1_1,x5_1,rfl,rfl,HA,HK1,HB⟩:=hrel
  cases gk with
  | zero => exact absurd HA.out (by simp [Fs.l0])
  | succ k1 =>
   have H:=HA.out;clear HA;simp only [Fs.l0] at H
   by_cases c3 : x5_1<(l0.length : Int)
   ·
    rw [if_pos c3] at H
    exact absurd H (by simp)
   rw [if_neg c3] at H;have c3b0 : decide (x5_1<(l0.length : Int))=false:=decide_eq_false c3;clear c3;obtain rfl:=zU H
   go_wp2
   go_ret
   exact ⟨by first|rfl|(simp [yt,yu] <;> rfl)|(simp [*,yt,yu] <;> rfl),by repeat (with_reducible first|exact HB.out|apply za|apply zb|apply zc)⟩


def F4.l0 : Nat→List (S54)→Int→Int→Option (Int)
 | 0,_,_,_ => none
 | k + 1,x0,x1,x5 => if x5<(x0.length : Int) then (if 0≤x5 then ((Ff.f k x1).bind fun t616 => (if ((rd_T54 x0 x5).f0).toList=t616.toList then ((Fr.f k ((rd_T54 x0 x5).f1) (wrap64 (x1 + 1))).bind fun t618 => (if t618<0 then (some (-1)) else ((Fs.f k ((rd_T54 x0 x5).f2) t618).bind fun t620 => (if t620<0 then (some (-1)) else (F4.l0 k x0 t620 (wrap64 (x5 + 1))))))) else (some (-1)))) else (none)) else (some x1)
def F4.f (k : Nat) (l0 : List (S54)) (a1 : Int) : Option (Int):=F4.l0 k l0 a1 0
theorem F4.mono_l : ∀ k,(∀ y0 y1 y2,LeO (F4.l0 k y0 y1 y2) (F4.l0 (k + 1) y0 y1 y2))
 | 0 => fun _ _ _ r h => by simp [F4.l0] at h
 | k + 1 => by
  have ih0:=F4.mono_l k;intro y0 y1 y2;unfold F4.l0
  repeat' first|(with_reducible first|exact ih0 _ _ _|exact Ff.mono _ _|exact Fr.mono _ _ _|exact Fs.mono _ _ _|exact zQ _|exact zN _|refine zP ?_ ?_|refine zO ?_ (fun _ => ?_))|refine zP ?_ ?_|refine zO ?_ (fun _ => ?_)
theorem F4.mono : ∀ a0 a1 k,LeO (F4.f k a0 a1) (F4.f (k + 1) a0 a1):=by
 intro a0 a1 k;have ih0:=F4.mono_l k;unfold F4.f
 repeat' first|(with_reducible first|exact ih0 _ _ _|exact Ff.mono _ _|exact Fr.mono _ _ _|exact Fs.mono _ _ _|exact zQ _|exact zN _|refine zP ?_ ?_|refine zO ?_ (fun _ => ?_))|refine zP ?_ ?_|refine zO ?_ (fun _ => ?_)
def F4.T4 : Bool×List (List Nat×List Nat):=(true,[([],[]),([],[]),([0,1],[0,1]),([2],[2]),([3],[3]),([],[]),([5],[5]),([4,6],[4,6])])
def F4.B4 : List Nat:=[0,0,3,7,15,0,32,127]
theorem F4.tab4 : rtab .any (opsOf Tryz.f34 4)=F4.T4:=by kernel_rfl
theorem F4.bits4 : waitsOk F4.T4.2 F4.B4=true:=by kernel_rfl
set_option maxHeartbeats 8000000 in
set_option maxRecDepth 100000 in
theorem F4.calls (k : Nat) (A0 : Option Addr) (c0 : Nat) (l0 : List (S54)) (a1 : Int) (r : Int) (w : World) (hr0 : Kd.C k54 w A0 l0.length l0) (hc0 : l0.length≤c0) (h : F4.f k l0 a1=some r) :
  Calls Tryz.prog 34 #[.slice A0 l0.length c0,.int .i64 a1] w fun e w' => e = .returned (.int .i64 r)∧Below w.heap.size w w':=by
 have HR0:=zh hr0;have HC0:=zh hc0;clear hr0 hc0;have HB:=zh (Below.refl w.heap.size w);have H : (F4.l0 k l0 a1 0)=some r:=h;clear h;have H':=zh H;clear H
 go_enter Tryz.func34,Tryz.ntmps34
 go_wp2
 go_loopg [1,5] k (fun kq v1 v5 w' => ∃ (x1_1 : Int) (x5_1 : Int),v1 = .int .i64 x1_1∧v5 = .int .i64 x5_1∧Aside0 (F4.l0 kq l0 x1_1 x5_1=some r)∧Aside0 (kq≤k)∧Aside0 (Below w.heap.size w w'))
 case atStart => exact ⟨(a1),(0),(by first|rfl|(simp;done)|(simp [*];done)),(by first|rfl|(simp;done)|(simp [*];done)),H',⟨ye _⟩,⟨by repeat (with_reducible first|exact HB.out|apply za|apply zb|apply zc)⟩⟩
 case round =>
  clear H'
  try clear p2
  obtain ⟨x1_1,x5_1,rfl,rfl,HA,HK1,HB⟩:=hrel
  cases gk with
  | zero => exact absurd HA.out (by simp [F4.l0])
  | succ k1 =>
   have H:=HA.out;clear HA;simp only [F4.l0] at H
   by_cases c3 : x5_1<(l0.length : Int)
   ·
    rw [if_pos c3] at H
    have c3b0 : decide (x5_1<(l0.length : Int))=true:=decide_eq_true c3;clear c3
    by_cases c4 : 0≤x5_1
    ·
     rw [if_pos c4] at H
     have c4b0 : decide (0≤x5_1)=true:=decide_eq_true c4;clear c4;replace H:=zT.mp H;obtain ⟨t616,A50,H⟩:=H;replace H : (if ((rd_T54 l0 x5_1).f0).toList=t616.toList then ((Fr.f k1 ((rd_T54 l0 x5_1).f1) (wrap64 (x1_1 + 1))).bind fun t618 => (if t618<0 then (some (-1)) else ((Fs.f k1 ((rd_T54 l0 x5_1).f2) t618).bind fun t620 => (if t620<0 then (some (-1)) else (F4.l0 k1 l0 t620 (wrap64 (x5_1 + 1))))))) else (some (-1)))=some r:=H;have A5:=zh A50;clear A50
     by_cases c6 : ((rd_T54 l0 x5_1).f0).toList=t616.toList
     ·
      rw [if_pos c6] at H
      have c6b0 : (((rd_T54 l0 x5_1).f0).toList == t616.toList)=true:=ya.mpr c6;have c6b1 : (((rd_T54 l0 x5_1).f0).toList != t616.toList)=false:=zX.mpr c6;clear c6;replace H:=zT.mp H;obtain ⟨t618,A70,H⟩:=H;replace H : (if t618<0 then (some (-1)) else ((Fs.f k1 ((rd_T54 l0 x5_1).f2) t618).bind fun t620 => (if t620<0 then (some (-1)) else (F4.l0 k1 l0 t620 (wrap64 (x5_1 + 1))))))=some r:=H;have A7:=zh A70;clear A70
      by_cases c8 : t618<0
      ·
       rw [if_pos c8] at H
       have c8b0 : decide (t618<0)=true:=decide_eq_true c8;clear c8;obtain rfl:=zU H
       try go_wp2
       replace HB:=zh (zc HB.out);have p615 : 0≤(x5_1 : Int):=zy (by first|(with_reducible assumption)|assumption);have q615 : x5_1<(l0.length : Int):=zy (by first|(with_reducible assumption)|assumption);obtain ⟨ad615,A615_1,c615_1,A615_2,c615_2,e615,hx615_0,hx615_1,hx615_2,hl615_1,hi615_1,hl615_2,hi615_2⟩:=at_T54 HR0.out x5_1 p615 q615;have hw615_2:=hx615_2;have hw615_1:=hx615_1;have hw615_0:=hx615_0
       cases e615
       replace hx615_0:=(HB.out.cell (zl w _ hx615_0)).trans hx615_0;replace hx615_1:=(HB.out.cell (zl w _ hx615_1)).trans hx615_1;replace hx615_2:=(HB.out.cell (zl w _ hx615_2)).trans hx615_2;have HR615_1:=zh hi615_1;have HC615_1:=zh hl615_1;clear hi615_1 hl615_1;have HR615_2:=zh hi615_2;have HC615_2:=zh hl615_2;clear hi615_2 hl615_2;replace p615:=eq_true p615;replace q615:=eq_true q615;refine start_ (n:=8) (S:=fun w' => w'.cell? (ad615.add ((x5_1).toNat * 3))=some (.string ((rd_T54 l0 x5_1).f0))∧w'.cell? ⟨(ad615.add ((x5_1).toNat * 3)).block,(ad615.add ((x5_1).toNat * 3)).off + 1,none⟩=some (.slice A615_1 ((rd_T54 l0 x5_1).f1).length c615_1)∧w'.cell? ⟨(ad615.add ((x5_1).toNat * 3)).block,(ad615.add ((x5_1).toNat * 3)).off + 2,none⟩=some (.slice A615_2 ((rd_T54 l0 x5_1).f2).length c615_2)) (ds:=[]) (bm_ 0 8) (by kernel_rfl) rfl rfl ⟨((HB.out.cell (zl w _ hw615_0)).trans hw615_0),((HB.out.cell (zl w _ hw615_1)).trans hw615_1),((HB.out.cell (zl w _ hw615_2)).trans hw615_2)⟩ (fun hHeld => ?_);refine with_tabW F4.tab4 F4.bits4 (fun HT_ HW_ => ?_);generalize wr.drew=w9 at HB HR615_1 HR615_2 hx615_0 hx615_1 hx615_2 hHeld ⊢;refine pure_ (i:=0) (N:=some 12) (v:=?_) (a':=?_) (bm_ 1 8) rfl rfl (any_of HT_.out (by kernel_rfl)) (fun _ _ _ h => h) (Or.inl ⟨by rfl,?_⟩) ?_ ?_;rotate_left
       ·
        intro w'
        go_simp
        with_reducible rfl
       rotate_left
       ·
        simp only [Act.put,zi,zj,zk,zG,zH]
        rfl
       refine pure_ (i:=1) (N:=some 13) (v:=?_) (a':=?_) (bm_ 2 8) rfl rfl (any_of HT_.out (by kernel_rfl)) (fun _ _ _ h => h) (Or.inl ⟨by rfl,?_⟩) ?_ ?_;rotate_left
       ·
        intro w'
        go_simp
        with_reducible rfl
       rotate_left
       ·
        simp only [Act.put,zi,zj,zk,zG,zH]
        rfl
       refine pure_ (i:=2) (N:=some 14) (v:=?_) (a':=?_) (bm_ 3 8) rfl rfl (any_of HT_.out (by kernel_rfl)) (fun _ _ _ h => h) (Or.inl ⟨by rfl,?_⟩) ?_ ?_;rotate_left
       ·
        intro w'
        go_simp
        with_reducible rfl
       rotate_left
       ·
        simp only [Act.put,zi,zj,zk,zG,zH]
        rfl
       refine pure_ (i:=3) (N:=some 15) (v:=?_) (a':=?_) (bm_ 4 8) rfl rfl (any_of HT_.out (by kernel_rfl)) (fun _ _ _ h => h) (Or.inl ⟨by rfl,?_⟩) ?_ ?_;rotate_left
       ·
        intro w'
        go_simp
        with_reducible rfl
       rotate_left
       ·
        simp only [Act.put,zi,zj,zk,zG,zH]
        rfl
       refine pure_ (i:=5) (N:=some 17) (v:=?_) (a':=?_) #[true,true,true,true,false,true,false,false] rfl rfl (any_of HT_.out (by kernel_rfl)) (fun _ _ _ h => h) (Or.inl ⟨by rfl,?_⟩) ?_ ?_;rotate_left
       ·
        intro w'
        go_simp
        with_reducible rfl
       rotate_left
       ·
        simp only [Act.put,zi,zj,zk,zG,zH]
        rfl
       refine take_ (i:=4) (N:=some 16) (v:=?_) (a':=?_) (bm_ 6 8) rfl rfl (yo HT_.out HW_.out (by kernel_rfl)) (fun _ _ _ h => h) (Or.inl ⟨by rfl,?_⟩) hHeld ?_ ?_;rotate_left
       ·
        rintro w' ⟨s0,s1,s2⟩
        go_simp
        with_reducible rfl
       rotate_left
       ·
        simp only [Act.put,zi,zj,zk,zG,zH]
        rfl
       refine one_ (i:=6) (N:=some 18) (bm_ 7 8) rfl rfl (one_of HT_.out (by kernel_rfl)) (by decide) (fun K hK => ?_);refine goes_ Tryz.func50 (by kernel_rfl) rfl #[.int .i64 x1_1] (by rfl) rfl rfl (by (try simp only [zt,zu,zv]);first|done|rfl|(simp only [zw,zx];rfl)|(simp only [yr,ys,zV,zW];rfl)) ?_
       with_reducible refine (Ff.calls k1  x1_1 t616 _ A5.out).mono ?_
       rintro e w10 ⟨rfl,hb⟩;refine ⟨_,rfl,?_⟩;replace HB:=zh (zC (by repeat (with_reducible first|exact HB.out|apply za|apply zb|apply zc)) hb);(try clear hb);(try clear hb2);(try clear hk);(try clear hi);refine hK.out _ _ ⟨((HB.out.cell (zl w _ hw615_0)).trans hw615_0),((HB.out.cell (zl w _ hw615_1)).trans hw615_1),((HB.out.cell (zl w _ hw615_2)).trans hw615_2)⟩ (fun hHeld => ?_);clear hK K;refine norm_ (a':=?_) ?_ ?_;rotate_left
       ·
        show Act.put _ (some 18) _=_
        simp only [Act.put,zi,zj,zk,zG,zH]
        rfl
       refine pure_ (i:=7) (N:=some 19) (v:=?_) (a':=?_) (bm_ 8 8) rfl rfl (any_of HT_.out (by kernel_rfl)) (fun _ _ _ h => h) (Or.inl ⟨by rfl,?_⟩) ?_ ?_;rotate_left
       ·
        intro w'
        go_simp
        with_reducible rfl
       rotate_left
       ·
        simp only [Act.put,zi,zj,zk,zG,zH]
        rfl
       refine done_ (done_of HT_.out (by kernel_rfl)) ?_;have p617 : 0≤(x5_1 : Int):=zy (by first|(with_reducible assumption)|assumption);have q617 : x5_1<(l0.length : Int):=zy (by first|(with_reducible assumption)|assumption);obtain ⟨ad617,A617_1,c617_1,A617_2,c617_2,e617,hx617_0,hx617_1,hx617_2,hl617_1,hi617_1,hl617_2,hi617_2⟩:=at_T54 HR0.out x5_1 p617 q617;obtain rfl : ad615=ad617:=(by injection e617);replace hx617_0:=(HB.out.cell (zl w _ hx617_0)).trans hx617_0;replace hx617_1:=(HB.out.cell (zl w _ hx617_1)).trans hx617_1;replace hx617_2:=(HB.out.cell (zl w _ hx617_2)).trans hx617_2;have HR617_1:=zh hi617_1;have HC617_1:=zh hl617_1;clear hi617_1 hl617_1;have HR617_2:=zh hi617_2;have HC617_2:=zh hl617_2;clear hi617_2 hl617_2;replace p617:=eq_true p617;replace q617:=eq_true q617
       try go_wp2_with (first|((with_reducible refine zJ (f:=59) rfl ?_);refine yj (some 28) rfl rfl Tryz.func59 (by kernel_rfl) rfl #[.slice A615_1 ((rd_T54 l0 x5_1).f1).length c615_1,.int .i64 (wrap64 (x1_1 + 1))] rfl (by (try simp only [zt,zu,zv]);first|done|rfl|(simp only [zw,zx];rfl)|(simp only [yr,ys,zV,zW];rfl)) ?_;(with_reducible refine (Fr.calls k1  _ _ ((rd_T54 l0 x5_1).f1) (wrap64 (x1_1 + 1)) t618 _ ?side1 ?side2 A7.out).mono ?_);(case side1 => repeat (first|exact (Kd.C_below HR615_1.out HB.out)|(with_reducible refine Kd.C_alloc ?_ _)|(with_reducible refine Kd.C_drewN ?_ _)|(with_reducible refine Kd.C_drew ?_)));(case side2 => exact HC615_1.out);rintro e w11 ⟨rfl,hb⟩;refine ⟨_,rfl,?_⟩;replace HB:=zh (zC (by repeat (with_reducible first|exact HB.out|apply za|apply zb|apply zc)) hb);(try clear hb);(try clear hb2);(try clear hk);(try clear hi)))
       go_ret
       exact ⟨by first|rfl|(simp [yt,yu] <;> rfl)|(simp [*,yt,yu] <;> rfl),by repeat (with_reducible first|exact HB.out|apply za|apply zb|apply zc)⟩
      rw [if_neg c8] at H;have c8b0 : decide (t618<0)=false:=decide_eq_false c8;clear c8;replace H:=zT.mp H;obtain ⟨t620,A120,H⟩:=H;replace H : (if t620<0 then (some (-1)) else (F4.l0 k1 l0 t620 (wrap64 (x5_1 + 1))))=some r:=H;have A12:=zh A120;clear A120
      by_cases c13 : t620<0
      ·
       rw [if_pos c13] at H
       have c13b0 : decide (t620<0)=true:=decide_eq_true c13;clear c13;obtain rfl:=zU H
       try go_wp2
       replace HB:=zh (zc HB.out);have p615 : 0≤(x5_1 : Int):=zy (by first|(with_reducible assumption)|assumption);have q615 : x5_1<(l0.length : Int):=zy (by first|(with_reducible assumption)|assumption);obtain ⟨ad615,A615_1,c615_1,A615_2,c615_2,e615,hx615_0,hx615_1,hx615_2,hl615_1,hi615_1,hl615_2,hi615_2⟩:=at_T54 HR0.out x5_1 p615 q615;have hw615_2:=hx615_2;have hw615_1:=hx615_1;have hw615_0:=hx615_0
       cases e615
       replace hx615_0:=(HB.out.cell (zl w _ hx615_0)).trans hx615_0;replace hx615_1:=(HB.out.cell (zl w _ hx615_1)).trans hx615_1;replace hx615_2:=(HB.out.cell (zl w _ hx615_2)).trans hx615_2;have HR615_1:=zh hi615_1;have HC615_1:=zh hl615_1;clear hi615_1 hl615_1;have HR615_2:=zh hi615_2;have HC615_2:=zh hl615_2;clear hi615_2 hl615_2;replace p615:=eq_true p615;replace q615:=eq_true q615;refine start_ (n:=8) (S:=fun w' => w'.cell? (ad615.add ((x5_1).toNat * 3))=some (.string ((rd_T54 l0 x5_1).f0))∧w'.cell? ⟨(ad615.add ((x5_1).toNat * 3)).block,(ad615.add ((x5_1).toNat * 3)).off + 1,none⟩=some (.slice A615_1 ((rd_T54 l0 x5_1).f1).length c615_1)∧w'.cell? ⟨(ad615.add ((x5_1).toNat * 3)).block,(ad615.add ((x5_1).toNat * 3)).off + 2,none⟩=some (.slice A615_2 ((rd_T54 l0 x5_1).f2).length c615_2)) (ds:=[]) (bm_ 0 8) (by kernel_rfl) rfl rfl ⟨((HB.out.cell (zl w _ hw615_0)).trans hw615_0),((HB.out.cell (zl w _ hw615_1)).trans hw615_1),((HB.out.cell (zl w _ hw615_2)).trans hw615_2)⟩ (fun hHeld => ?_);refine with_tabW F4.tab4 F4.bits4 (fun HT_ HW_ => ?_);generalize wr.drew=w14 at HB HR615_1 HR615_2 hx615_0 hx615_1 hx615_2 hHeld ⊢;refine pure_ (i:=0) (N:=some 12) (v:=?_) (a':=?_) (bm_ 1 8) rfl rfl (any_of HT_.out (by kernel_rfl)) (fun _ _ _ h => h) (Or.inl ⟨by rfl,?_⟩) ?_ ?_;rotate_left
       ·
        intro w'
        go_simp
        with_reducible rfl
       rotate_left
       ·
        simp only [Act.put,zi,zj,zk,zG,zH]
        rfl
       refine pure_ (i:=1) (N:=some 13) (v:=?_) (a':=?_) (bm_ 2 8) rfl rfl (any_of HT_.out (by kernel_rfl)) (fun _ _ _ h => h) (Or.inl ⟨by rfl,?_⟩) ?_ ?_;rotate_left
       ·
        intro w'
        go_simp
        with_reducible rfl
       rotate_left
       ·
        simp only [Act.put,zi,zj,zk,zG,zH]
        rfl
       refine pure_ (i:=2) (N:=some 14) (v:=?_) (a':=?_) (bm_ 3 8) rfl rfl (any_of HT_.out (by kernel_rfl)) (fun _ _ _ h => h) (Or.inl ⟨by rfl,?_⟩) ?_ ?_;rotate_left
       ·
        intro w'
        go_simp
        with_reducible rfl
       rotate_left
       ·
        simp only [Act.put,zi,zj,zk,zG,zH]
        rfl
       refine pure_ (i:=3) (N:=some 15) (v:=?_) (a':=?_) (bm_ 4 8) rfl rfl (any_of HT_.out (by kernel_rfl)) (fun _ _ _ h => h) (Or.inl ⟨by rfl,?_⟩) ?_ ?_;rotate_left
       ·
        intro w'
        go_simp
        with_reducible rfl
       rotate_left
       ·
        simp only [Act.put,zi,zj,zk,zG,zH]
        rfl
       refine pure_ (i:=5) (N:=some 17) (v:=?_) (a':=?_) #[true,true,true,true,false,true,false,false] rfl rfl (any_of HT_.out (by kernel_rfl)) (fun _ _ _ h => h) (Or.inl ⟨by rfl,?_⟩) ?_ ?_;rotate_left
       ·
        intro w'
        go_simp
        with_reducible rfl
       rotate_left
       ·
        simp only [Act.put,zi,zj,zk,zG,zH]
        rfl
       refine take_ (i:=4) (N:=some 16) (v:=?_) (a':=?_) (bm_ 6 8) rfl rfl (yo HT_.out HW_.out (by kernel_rfl)) (fun _ _ _ h => h) (Or.inl ⟨by rfl,?_⟩) hHeld ?_ ?_;rotate_left
       ·
        rintro w' ⟨s0,s1,s2⟩
        go_simp
        with_reducible rfl
       rotate_left
       ·
        simp only [Act.put,zi,zj,zk,zG,zH]
        rfl
       refine one_ (i:=6) (N:=some 18) (bm_ 7 8) rfl rfl (one_of HT_.out (by kernel_rfl)) (by decide) (fun K hK => ?_);refine goes_ Tryz.func50 (by kernel_rfl) rfl #[.int .i64 x1_1] (by rfl) rfl rfl (by (try simp only [zt,zu,zv]);first|done|rfl|(simp only [zw,zx];rfl)|(simp only [yr,ys,zV,zW];rfl)) ?_
       with_reducible refine (Ff.calls k1  x1_1 t616 _ A5.out).mono ?_
       rintro e w15 ⟨rfl,hb⟩;refine ⟨_,rfl,?_⟩;replace HB:=zh (zC (by repeat (with_reducible first|exact HB.out|apply za|apply zb|apply zc)) hb);(try clear hb);(try clear hb2);(try clear hk);(try clear hi);refine hK.out _ _ ⟨((HB.out.cell (zl w _ hw615_0)).trans hw615_0),((HB.out.cell (zl w _ hw615_1)).trans hw615_1),((HB.out.cell (zl w _ hw615_2)).trans hw615_2)⟩ (fun hHeld => ?_);clear hK K;refine norm_ (a':=?_) ?_ ?_;rotate_left
       ·
        show Act.put _ (some 18) _=_
        simp only [Act.put,zi,zj,zk,zG,zH]
        rfl
       refine pure_ (i:=7) (N:=some 19) (v:=?_) (a':=?_) (bm_ 8 8) rfl rfl (any_of HT_.out (by kernel_rfl)) (fun _ _ _ h => h) (Or.inl ⟨by rfl,?_⟩) ?_ ?_;rotate_left
       ·
        intro w'
        go_simp
        with_reducible rfl
       rotate_left
       ·
        simp only [Act.put,zi,zj,zk,zG,zH]
        rfl
       refine done_ (done_of HT_.out (by kernel_rfl)) ?_;have p617 : 0≤(x5_1 : Int):=zy (by first|(with_reducible assumption)|assumption);have q617 : x5_1<(l0.length : Int):=zy (by first|(with_reducible assumption)|assumption);obtain ⟨ad617,A617_1,c617_1,A617_2,c617_2,e617,hx617_0,hx617_1,hx617_2,hl617_1,hi617_1,hl617_2,hi617_2⟩:=at_T54 HR0.out x5_1 p617 q617;obtain rfl : ad615=ad617:=(by injection e617);replace hx617_0:=(HB.out.cell (zl w _ hx617_0)).trans hx617_0;replace hx617_1:=(HB.out.cell (zl w _ hx617_1)).trans hx617_1;replace hx617_2:=(HB.out.cell (zl w _ hx617_2)).trans hx617_2;have HR617_1:=zh hi617_1;have HC617_1:=zh hl617_1;clear hi617_1 hl617_1;have HR617_2:=zh hi617_2;have HC617_2:=zh hl617_2;clear hi617_2 hl617_2;replace p617:=eq_true p617;replace q617:=eq_true q617
       try go_wp2_with (first|((with_reducible refine zJ (f:=59) rfl ?_);refine yj (some 28) rfl rfl Tryz.func59 (by kernel_rfl) rfl #[.slice A615_1 ((rd_T54 l0 x5_1).f1).length c615_1,.int .i64 (wrap64 (x1_1 + 1))] rfl (by (try simp only [zt,zu,zv]);first|done|rfl|(simp only [zw,zx];rfl)|(simp only [yr,ys,zV,zW];rfl)) ?_;(with_reducible refine (Fr.calls k1  _ _ ((rd_T54 l0 x5_1).f1) (wrap64 (x1_1 + 1)) t618 _ ?side1 ?side2 A7.out).mono ?_);(case side1 => repeat (first|exact (Kd.C_below HR615_1.out HB.out)|(with_reducible refine Kd.C_alloc ?_ _)|(with_reducible refine Kd.C_drewN ?_ _)|(with_reducible refine Kd.C_drew ?_)));(case side2 => exact HC615_1.out);rintro e w16 ⟨rfl,hb⟩;refine ⟨_,rfl,?_⟩;replace HB:=zh (zC (by repeat (with_reducible first|exact HB.out|apply za|apply zb|apply zc)) hb);(try clear hb);(try clear hb2);(try clear hk);(try clear hi);have p619 : 0≤(x5_1 : Int):=zy (by first|(with_reducible assumption)|assumption);have q619 : x5_1<(l0.length : Int):=zy (by first|(with_reducible assumption)|assumption);obtain ⟨ad619,A615_1,c615_1,A615_2,c615_2,e619,hx619_0,hx619_1,hx619_2,hl619_1,hi619_1,hl619_2,hi619_2⟩:=at_T54 HR0.out x5_1 p619 q619;obtain rfl : ad615=ad619:=(by injection e619);replace hx619_0:=(HB.out.cell (zl w _ hx619_0)).trans hx619_0;replace hx619_1:=(HB.out.cell (zl w _ hx619_1)).trans hx619_1;replace hx619_2:=(HB.out.cell (zl w _ hx619_2)).trans hx619_2;have HR615_1:=zh hi619_1;have HC615_1:=zh hl619_1;clear hi619_1 hl619_1;have HR615_2:=zh hi619_2;have HC615_2:=zh hl619_2;clear hi619_2 hl619_2;replace p619:=eq_true p619;replace q619:=eq_true q619)|((with_reducible refine zJ (f:=60) rfl ?_);refine yj (some 37) rfl rfl Tryz.func60 (by kernel_rfl) rfl #[.slice A615_2 ((rd_T54 l0 x5_1).f2).length c615_2,.int .i64 t618] rfl (by (try simp only [zt,zu,zv]);first|done|rfl|(simp only [zw,zx];rfl)|(simp only [yr,ys,zV,zW];rfl)) ?_;(with_reducible refine (Fs.calls k1  _ _ ((rd_T54 l0 x5_1).f2) t618 t620 _ ?side1 ?side2 A12.out).mono ?_);(case side1 => repeat (first|exact (Kd.C_below HR615_2.out HB.out)|(with_reducible refine Kd.C_alloc ?_ _)|(with_reducible refine Kd.C_drewN ?_ _)|(with_reducible refine Kd.C_drew ?_)));(case side2 => exact HC615_2.out);rintro e w17 ⟨rfl,hb⟩;refine ⟨_,rfl,?_⟩;replace HB:=zh (zC (by repeat (with_reducible first|exact HB.out|apply za|apply zb|apply zc)) hb);(try clear hb);(try clear hb2);(try clear hk);(try clear hi)))
       go_ret
       exact ⟨by first|rfl|(simp [yt,yu] <;> rfl)|(simp [*,yt,yu] <;> rfl),by repeat (with_reducible first|exact HB.out|apply za|apply zb|apply zc)⟩
      rw [if_neg c13] at H;have c13b0 : decide (t620<0)=false:=decide_eq_false c13;clear c13;have H':=zh H;clear H
      try go_wp2
      replace HB:=zh (zc HB.out);have p615 : 0≤(x5_1 : Int):=zy (by first|(with_reducible assumption)|assumption);have q615 : x5_1<(l0.length : Int):=zy (by first|(with_reducible assumption)|assumption);obtain ⟨ad615,A615_1,c615_1,A615_2,c615_2,e615,hx615_0,hx615_1,hx615_2,hl615_1,hi615_1,hl615_2,hi615_2⟩:=at_T54 HR0.out x5_1 p615 q615;have hw615_2:=hx615_2;have hw615_1:=hx615_1;have hw615_0:=hx615_0
      cases e615
      replace hx615_0:=(HB.out.cell (zl w _ hx615_0)).trans hx615_0;replace hx615_1:=(HB.out.cell (zl w _ hx615_1)).trans hx615_1;replace hx615_2:=(HB.out.cell (zl w _ hx615_2)).trans hx615_2;have HR615_1:=zh hi615_1;have HC615_1:=zh hl615_1;clear hi615_1 hl615_1;have HR615_2:=zh hi615_2;have HC615_2:=zh hl615_2;clear hi615_2 hl615_2;replace p615:=eq_true p615;replace q615:=eq_true q615;refine start_ (n:=8) (S:=fun w' => w'.cell? (ad615.add ((x5_1).toNat * 3))=some (.string ((rd_T54 l0 x5_1).f0))∧w'.cell? ⟨(ad615.add ((x5_1).toNat * 3)).block,(ad615.add ((x5_1).toNat * 3)).off + 1,none⟩=some (.slice A615_1 ((rd_T54 l0 x5_1).f1).length c615_1)∧w'.cell? ⟨(ad615.add ((x5_1).toNat * 3)).block,(ad615.add ((x5_1).toNat * 3)).off + 2,none⟩=some (.slice A615_2 ((rd_T54 l0 x5_1).f2).length c615_2)) (ds:=[]) (bm_ 0 8) (by kernel_rfl) rfl rfl ⟨((HB.out.cell (zl w _ hw615_0)).trans hw615_0),((HB.out.cell (zl w _ hw615_1)).trans hw615_1),((HB.out.cell (zl w _ hw615_2)).trans hw615_2)⟩ (fun hHeld => ?_);refine with_tabW F4.tab4 F4.bits4 (fun HT_ HW_ => ?_);generalize wr.drew=w18 at HB HR615_1 HR615_2 hx615_0 hx615_1 hx615_2 hHeld ⊢;refine pure_ (i:=0) (N:=some 12) (v:=?_) (a':=?_) (bm_ 1 8) rfl rfl (any_of HT_.out (by kernel_rfl)) (fun _ _ _ h => h) (Or.inl ⟨by rfl,?_⟩) ?_ ?_;rotate_left
      ·
       intro w'
       go_simp
       with_reducible rfl
      rotate_left
      ·
       simp only [Act.put,zi,zj,zk,zG,zH]
       rfl
      refine pure_ (i:=1) (N:=some 13) (v:=?_) (a':=?_) (bm_ 2 8) rfl rfl (any_of HT_.out (by kernel_rfl)) (fun _ _ _ h => h) (Or.inl ⟨by rfl,?_⟩) ?_ ?_;rotate_left
      ·
       intro w'
       go_simp
       with_reducible rfl
      rotate_left
      ·
       simp only [Act.put,zi,zj,zk,zG,zH]
       rfl
      refine pure_ (i:=2) (N:=some 14) (v:=?_) (a':=?_) (bm_ 3 8) rfl rfl (any_of HT_.out (by kernel_rfl)) (fun _ _ _ h => h) (Or.inl ⟨by rfl,?_⟩) ?_ ?_;rotate_left
      ·
       intro w'
       go_simp
       with_reducible rfl
      rotate_left
      ·
       simp only [Act.put,zi,zj,zk,zG,zH]
       rfl
      refine pure_ (i:=3) (N:=some 15) (v:=?_) (a':=?_) (bm_ 4 8) rfl rfl (any_of HT_.out (by kernel_rfl)) (fun _ _ _ h => h) (Or.inl ⟨by rfl,?_⟩) ?_ ?_;rotate_left
      ·
       intro w'
       go_simp
       with_reducible rfl
      rotate_left
      ·
       simp only [Act.put,zi,zj,zk,zG,zH]
       rfl
      refine pure_ (i:=5) (N:=some 17) (v:=?_) (a':=?_) #[true,true,true,true,false,true,false,false] rfl rfl (any_of HT_.out (by kernel_rfl)) (fun _ _ _ h => h) (Or.inl ⟨by rfl,?_⟩) ?_ ?_;rotate_left
      ·
       intro w'
       go_simp
       with_reducible rfl
      rotate_left
      ·
       simp only [Act.put,zi,zj,zk,zG,zH]
       rfl
      refine take_ (i:=4) (N:=some 16) (v:=?_) (a':=?_) (bm_ 6 8) rfl rfl (yo HT_.out HW_.out (by kernel_rfl)) (fun _ _ _ h => h) (Or.inl ⟨by rfl,?_⟩) hHeld ?_ ?_;rotate_left
      ·
       rintro w' ⟨s0,s1,s2⟩
       go_simp
       with_reducible rfl
      rotate_left
      ·
       simp only [Act.put,zi,zj,zk,zG,zH]
       rfl
      refine one_ (i:=6) (N:=some 18) (bm_ 7 8) rfl rfl (one_of HT_.out (by kernel_rfl)) (by decide) (fun K hK => ?_);refine goes_ Tryz.func50 (by kernel_rfl) rfl #[.int .i64 x1_1] (by rfl) rfl rfl (by (try simp only [zt,zu,zv]);first|done|rfl|(simp only [zw,zx];rfl)|(simp only [yr,ys,zV,zW];rfl)) ?_
      with_reducible refine (Ff.calls k1  x1_1 t616 _ A5.out).mono ?_
      rintro e w19 ⟨rfl,hb⟩;refine ⟨_,rfl,?_⟩;replace HB:=zh (zC (by repeat (with_reducible first|exact HB.out|apply za|apply zb|apply zc)) hb);(try clear hb);(try clear hb2);(try clear hk);(try clear hi);refine hK.out _ _ ⟨((HB.out.cell (zl w _ hw615_0)).trans hw615_0),((HB.out.cell (zl w _ hw615_1)).trans hw615_1),((HB.out.cell (zl w _ hw615_2)).trans hw615_2)⟩ (fun hHeld => ?_);clear hK K;refine norm_ (a':=?_) ?_ ?_;rotate_left
      ·
       show Act.put _ (some 18) _=_
       simp only [Act.put,zi,zj,zk,zG,zH]
       rfl
      refine pure_ (i:=7) (N:=some 19) (v:=?_) (a':=?_) (bm_ 8 8) rfl rfl (any_of HT_.out (by kernel_rfl)) (fun _ _ _ h => h) (Or.inl ⟨by rfl,?_⟩) ?_ ?_;rotate_left
      ·
       intro w'
       go_simp
       with_reducible rfl
      rotate_left
      ·
       simp only [Act.put,zi,zj,zk,zG,zH]
       rfl
      refine done_ (done_of HT_.out (by kernel_rfl)) ?_;have p617 : 0≤(x5_1 : Int):=zy (by first|(with_reducible assumption)|assumption);have q617 : x5_1<(l0.length : Int):=zy (by first|(with_reducible assumption)|assumption);obtain ⟨ad617,A617_1,c617_1,A617_2,c617_2,e617,hx617_0,hx617_1,hx617_2,hl617_1,hi617_1,hl617_2,hi617_2⟩:=at_T54 HR0.out x5_1 p617 q617;obtain rfl : ad615=ad617:=(by injection e617);replace hx617_0:=(HB.out.cell (zl w _ hx617_0)).trans hx617_0;replace hx617_1:=(HB.out.cell (zl w _ hx617_1)).trans hx617_1;replace hx617_2:=(HB.out.cell (zl w _ hx617_2)).trans hx617_2;have HR617_1:=zh hi617_1;have HC617_1:=zh hl617_1;clear hi617_1 hl617_1;have HR617_2:=zh hi617_2;have HC617_2:=zh hl617_2;clear hi617_2 hl617_2;replace p617:=eq_true p617;replace q617:=eq_true q617
      try go_wp2_with (first|((with_reducible refine zJ (f:=59) rfl ?_);refine yj (some 28) rfl rfl Tryz.func59 (by kernel_rfl) rfl #[.slice A615_1 ((rd_T54 l0 x5_1).f1).length c615_1,.int .i64 (wrap64 (x1_1 + 1))] rfl (by (try simp only [zt,zu,zv]);first|done|rfl|(simp only [zw,zx];rfl)|(simp only [yr,ys,zV,zW];rfl)) ?_;(with_reducible refine (Fr.calls k1  _ _ ((rd_T54 l0 x5_1).f1) (wrap64 (x1_1 + 1)) t618 _ ?side1 ?side2 A7.out).mono ?_);(case side1 => repeat (first|exact (Kd.C_below HR615_1.out HB.out)|(with_reducible refine Kd.C_alloc ?_ _)|(with_reducible refine Kd.C_drewN ?_ _)|(with_reducible refine Kd.C_drew ?_)));(case side2 => exact HC615_1.out);rintro e w20 ⟨rfl,hb⟩;refine ⟨_,rfl,?_⟩;replace HB:=zh (zC (by repeat (with_reducible first|exact HB.out|apply za|apply zb|apply zc)) hb);(try clear hb);(try clear hb2);(try clear hk);(try clear hi);have p619 : 0≤(x5_1 : Int):=zy (by first|(with_reducible assumption)|assumption);have q619 : x5_1<(l0.length : Int):=zy (by first|(with_reducible assumption)|assumption);obtain ⟨ad619,A615_1,c615_1,A615_2,c615_2,e619,hx619_0,hx619_1,hx619_2,hl619_1,hi619_1,hl619_2,hi619_2⟩:=at_T54 HR0.out x5_1 p619 q619;obtain rfl : ad615=ad619:=(by injection e619);replace hx619_0:=(HB.out.cell (zl w _ hx619_0)).trans hx619_0;replace hx619_1:=(HB.out.cell (zl w _ hx619_1)).trans hx619_1;replace hx619_2:=(HB.out.cell (zl w _ hx619_2)).trans hx619_2;have HR615_1:=zh hi619_1;have HC615_1:=zh hl619_1;clear hi619_1 hl619_1;have HR615_2:=zh hi619_2;have HC615_2:=zh hl619_2;clear hi619_2 hl619_2;replace p619:=eq_true p619;replace q619:=eq_true q619)|((with_reducible refine zJ (f:=60) rfl ?_);refine yj (some 37) rfl rfl Tryz.func60 (by kernel_rfl) rfl #[.slice A615_2 ((rd_T54 l0 x5_1).f2).length c615_2,.int .i64 t618] rfl (by (try simp only [zt,zu,zv]);first|done|rfl|(simp only [zw,zx];rfl)|(simp only [yr,ys,zV,zW];rfl)) ?_;(with_reducible refine (Fs.calls k1  _ _ ((rd_T54 l0 x5_1).f2) t618 t620 _ ?side1 ?side2 A12.out).mono ?_);(case side1 => repeat (first|exact (Kd.C_below HR615_2.out HB.out)|(with_reducible refine Kd.C_alloc ?_ _)|(with_reducible refine Kd.C_drewN ?_ _)|(with_reducible refine Kd.C_drew ?_)));(case side2 => exact HC615_2.out);rintro e w21 ⟨rfl,hb⟩;refine ⟨_,rfl,?_⟩;replace HB:=zh (zC (by repeat (with_reducible first|exact HB.out|apply za|apply zb|apply zc)) hb);(try clear hb);(try clear hb2);(try clear hk);(try clear hi)))
      go_roundg k1
      case measure => have:=HK1.out;omega
      case rel => exact ⟨(t620),(wrap64 (x5_1 + 1)),(by first|rfl|(simp;done)|(simp [*];done)),(by first|rfl|(simp;done)|(simp [*];done)),H',⟨by have:=HK1.out;omega⟩,⟨by repeat (with_reducible first|exact HB.out|apply za|apply zb|apply zc)⟩⟩
     rw [if_neg c6] at H;have c6b0 : (((rd_T54 l0 x5_1).f0).toList == t616.toList)=false:=zY.mpr c6;have c6b1 : (((rd_T54 l0 x5_1).f0).toList != t616.toList)=true:=zZ.mpr c6;obtain rfl:=zU H
     try go_wp2
     replace HB:=zh (zc HB.out);have p615 : 0≤(x5_1 : Int):=zy (by first|(with_reducible assumption)|assumption);have q615 : x5_1<(l0.length : Int):=zy (by first|(with_reducible assumption)|assumption);obtain ⟨ad615,A615_1,c615_1,A615_2,c615_2,e615,hx615_0,hx615_1,hx615_2,hl615_1,hi615_1,hl615_2,hi615_2⟩:=at_T54 HR0.out x5_1 p615 q615;have hw615_2:=hx615_2;have hw615_1:=hx615_1;have hw615_0:=hx615_0
     cases e615
     replace hx615_0:=(HB.out.cell (zl w _ hx615_0)).trans hx615_0;replace hx615_1:=(HB.out.cell (zl w _ hx615_1)).trans hx615_1;replace hx615_2:=(HB.out.cell (zl w _ hx615_2)).trans hx615_2;have HR615_1:=zh hi615_1;have HC615_1:=zh hl615_1;clear hi615_1 hl615_1;have HR615_2:=zh hi615_2;have HC615_2:=zh hl615_2;clear hi615_2 hl615_2;replace p615:=eq_true p615;replace q615:=eq_true q615;refine start_ (n:=8) (S:=fun w' => w'.cell? (ad615.add ((x5_1).toNat * 3))=some (.string ((rd_T54 l0 x5_1).f0))∧w'.cell? ⟨(ad615.add ((x5_1).toNat * 3)).block,(ad615.add ((x5_1).toNat * 3)).off + 1,none⟩=some (.slice A615_1 ((rd_T54 l0 x5_1).f1).length c615_1)∧w'.cell? ⟨(ad615.add ((x5_1).toNat * 3)).block,(ad615.add ((x5_1).toNat * 3)).off + 2,none⟩=some (.slice A615_2 ((rd_T54 l0 x5_1).f2).length c615_2)) (ds:=[]) (bm_ 0 8) (by kernel_rfl) rfl rfl ⟨((HB.out.cell (zl w _ hw615_0)).trans hw615_0),((HB.out.cell (zl w _ hw615_1)).trans hw615_1),((HB.out.cell (zl w _ hw615_2)).trans hw615_2)⟩ (fun hHeld => ?_);refine with_tabW F4.tab4 F4.bits4 (fun HT_ HW_ => ?_);generalize wr.drew=w22 at HB HR615_1 HR615_2 hx615_0 hx615_1 hx615_2 hHeld ⊢;refine pure_ (i:=0) (N:=some 12) (v:=?_) (a':=?_) (bm_ 1 8) rfl rfl (any_of HT_.out (by kernel_rfl)) (fun _ _ _ h => h) (Or.inl ⟨by rfl,?_⟩) ?_ ?_;rotate_left
     ·
      intro w'
      go_simp
      with_reducible rfl
     rotate_left
     ·
      simp only [Act.put,zi,zj,zk,zG,zH]
      rfl
     refine pure_ (i:=1) (N:=some 13) (v:=?_) (a':=?_) (bm_ 2 8) rfl rfl (any_of HT_.out (by kernel_rfl)) (fun _ _ _ h => h) (Or.inl ⟨by rfl,?_⟩) ?_ ?_;rotate_left
     ·
      intro w'
      go_simp
      with_reducible rfl
     rotate_left
     ·
      simp only [Act.put,zi,zj,zk,zG,zH]
      rfl
     refine pure_ (i:=2) (N:=some 14) (v:=?_) (a':=?_) (bm_ 3 8) rfl rfl (any_of HT_.out (by kernel_rfl)) (fun _ _ _ h => h) (Or.inl ⟨by rfl,?_⟩) ?_ ?_;rotate_left
     ·
      intro w'
      go_simp
      with_reducible rfl
     rotate_left
     ·
      simp only [Act.put,zi,zj,zk,zG,zH]
      rfl
     refine pure_ (i:=3) (N:=some 15) (v:=?_) (a':=?_) (bm_ 4 8) rfl rfl (any_of HT_.out (by kernel_rfl)) (fun _ _ _ h => h) (Or.inl ⟨by rfl,?_⟩) ?_ ?_;rotate_left
     ·
      intro w'
      go_simp
      with_reducible rfl
     rotate_left
     ·
      simp only [Act.put,zi,zj,zk,zG,zH]
      rfl
     refine pure_ (i:=5) (N:=some 17) (v:=?_) (a':=?_) #[true,true,true,true,false,true,false,false] rfl rfl (any_of HT_.out (by kernel_rfl)) (fun _ _ _ h => h) (Or.inl ⟨by rfl,?_⟩) ?_ ?_;rotate_left
     ·
      intro w'
      go_simp
      with_reducible rfl
     rotate_left
     ·
      simp only [Act.put,zi,zj,zk,zG,zH]
      rfl
     refine take_ (i:=4) (N:=some 16) (v:=?_) (a':=?_) (bm_ 6 8) rfl rfl (yo HT_.out HW_.out (by kernel_rfl)) (fun _ _ _ h => h) (Or.inl ⟨by rfl,?_⟩) hHeld ?_ ?_;rotate_left
     ·
      rintro w' ⟨s0,s1,s2⟩
      go_simp
      with_reducible rfl
     rotate_left
     ·
      simp only [Act.put,zi,zj,zk,zG,zH]
      rfl
     refine one_ (i:=6) (N:=some 18) (bm_ 7 8) rfl rfl (one_of HT_.out (by kernel_rfl)) (by decide) (fun K hK => ?_);refine goes_ Tryz.func50 (by kernel_rfl) rfl #[.int .i64 x1_1] (by rfl) rfl rfl (by (try simp only [zt,zu,zv]);first|done|rfl|(simp only [zw,zx];rfl)|(simp only [yr,ys,zV,zW];rfl)) ?_
     with_reducible refine (Ff.calls k1  x1_1 t616 _ A5.out).mono ?_
     rintro e w23 ⟨rfl,hb⟩;refine ⟨_,rfl,?_⟩;replace HB:=zh (zC (by repeat (with_reducible first|exact HB.out|apply za|apply zb|apply zc)) hb);(try clear hb);(try clear hb2);(try clear hk);(try clear hi);refine hK.out _ _ ⟨((HB.out.cell (zl w _ hw615_0)).trans hw615_0),((HB.out.cell (zl w _ hw615_1)).trans hw615_1),((HB.out.cell (zl w _ hw615_2)).trans hw615_2)⟩ (fun hHeld => ?_);clear hK K;refine norm_ (a':=?_) ?_ ?_;rotate_left
     ·
      show Act.put _ (some 18) _=_
      simp only [Act.put,zi,zj,zk,zG,zH]
      rfl
     refine pure_ (i:=7) (N:=some 19) (v:=?_) (a':=?_) (bm_ 8 8) rfl rfl (any_of HT_.out (by kernel_rfl)) (fun _ _ _ h => h) (Or.inl ⟨by rfl,?_⟩) ?_ ?_;rotate_left
     ·
      intro w'
      go_simp
      with_reducible rfl
     rotate_left
     ·
      simp only [Act.put,zi,zj,zk,zG,zH]
      rfl
     refine done_ (done_of HT_.out (by kernel_rfl)) ?_
     try go_wp2
     go_ret
     exact ⟨by first|rfl|(simp [yt,yu] <;> rfl)|(simp [*,yt,yu] <;> rfl),by repeat (with_reducible first|exact HB.out|apply za|apply zb|apply zc)⟩
    rw [if_neg c4] at H;exact absurd H (by simp)
   rw [if_neg c3] at H;have c3b0 : decide (x5_1<(l0.length : Int))=false:=decide_eq_false c3;clear c3;obtain rfl:=zU H
   go_wp2
   go_ret
   exact ⟨by first|rfl|(simp [yt,yu] <;> rfl)|(simp [*,yt,yu] <;> rfl),by repeat (with_reducible first|exact HB.out|apply za|apply zb|apply zc)⟩


def Fv.l0 : Nat→List (S71)→Int→Int→Option (Int)
 | 0,_,_,_ => none
 | k + 1,x0,x1,x5 => if x5<(x0.length : Int) then (none) else (some x1)
def Fv.f (k : Nat) (l0 : List (S71)) (a1 : Int) : Option (Int):=Fv.l0 k l0 a1 0
theorem Fv.mono_l : ∀ k,(∀ y0 y1 y2,LeO (Fv.l0 k y0 y1 y2) (Fv.l0 (k + 1) y0 y1 y2))
 | 0 => fun _ _ _ r h => by simp [Fv.l0] at h
 | k + 1 => by
  have ih0:=Fv.mono_l k;intro y0 y1 y2;unfold Fv.l0
  repeat' first|(with_reducible first|exact ih0 _ _ _|exact zQ _|exact zN _|refine zP ?_ ?_|refine zO ?_ (fun _ => ?_))|refine zP ?_ ?_|refine zO ?_ (fun _ => ?_)
theorem Fv.mono : ∀ a0 a1 k,LeO (Fv.f k a0 a1) (Fv.f (k + 1) a0 a1):=by
 intro a0 a1 k;have ih0:=Fv.mono_l k;unfold Fv.f
 repeat' first|(with_reducible first|exact ih0 _ _ _|exact zQ _|exact zN _|refine zP ?_ ?_|refine zO ?_ (fun _ => ?_))|refine zP ?_ ?_|refine zO ?_ (fun _ => ?_)
set_option maxHeartbeats 8000000 in
set_option maxRecDepth 100000 in
theorem Fv.calls (k : Nat) (A0 : Option Addr) (c0 : Nat) (l0 : List (S71)) (a1 : Int) (r : Int) (w : World) (hr0 : Kd.C k71 w A0 l0.length l0) (hc0 : l0.length≤c0) (h : Fv.f k l0 a1=some r) :
  Calls Tryz.prog 35 #[.slice A0 l0.length c0,.int .i64 a1] w fun e w' => e = .returned (.int .i64 r)∧Below w.heap.size w w':=by
 have HR0:=zh hr0;have HC0:=zh hc0;clear hr0 hc0;have HB:=zh (Below.refl w.heap.size w);have H : (Fv.l0 k l0 a1 0)=some r:=h;clear h;have H':=zh H;clear H
 go_enter Tryz.func35,Tryz.ntmps35
 go_wp2
 go_loopg [1,5] k (fun kq v1 v5 w' => ∃ (x1_1 : Int) (x5_1 : Int),v1 = .int .i64 x1_1∧v5 = .int .i64 x5_1∧Aside0 (Fv.l0 kq l0 x1_1 x5_1=some r)∧Aside0 (kq≤k)∧Aside0 (Below w.heap.size w w'))
 case atStart => exact ⟨(a1),(0),(by first|rfl|(simp;done)|(simp [*];done)),(by first|rfl|(simp;done)|(simp [*];done)),H',⟨ye _⟩,⟨by repeat (with_reducible first|exact HB.out|apply za|apply zb|apply zc)⟩⟩
 case round =>
  clear H'
  try clear p2
  obtain ⟨x1_1,x5_1,rfl,rfl,HA,HK1,HB⟩:=hrel
  cases gk with
  | zero => exact absurd HA.out (by simp [Fv.l0])
  | succ k1 =>
   have H:=HA.out;clear HA;simp only [Fv.l0] at H
   by_cases c3 : x5_1<(l0.length : Int)
   ·
    rw [if_pos c3] at H
    exact absurd H (by simp)
   rw [if_neg c3] at H;have c3b0 : decide (x5_1<(l0.length : Int))=false:=decide_eq_false c3;clear c3;obtain rfl:=zU H
   go_wp2
   go_ret
   exact ⟨by first|rfl|(simp [yt,yu] <;> rfl)|(simp [*,yt,yu] <;> rfl),by repeat (with_reducible first|exact HB.out|apply za|apply zb|apply zc)⟩


def Ft.l0 : Nat→List (S41)→Int→Int→Option (Int)
 | 0,_,_,_ => none
 | k + 1,x0,x1,x5 => if x5<(x0.length : Int) then (none) else (some x1)
def Ft.f (k : Nat) (l0 : List (S41)) (a1 : Int) : Option (Int):=Ft.l0 k l0 a1 0
theorem Ft.mono_l : ∀ k,(∀ y0 y1 y2,LeO (Ft.l0 k y0 y1 y2) (Ft.l0 (k + 1) y0 y1 y2))
 | 0 => fun _ _ _ r h => by simp [Ft.l0] at h
 | k + 1 => by
  have ih0:=Ft.mono_l k;intro y0 y1 y2;unfold Ft.l0
  repeat' first|(with_reducible first|exact ih0 _ _ _|exact zQ _|exact zN _|refine zP ?_ ?_|refine zO ?_ (fun _ => ?_))|refine zP ?_ ?_|refine zO ?_ (fun _ => ?_)
theorem Ft.mono : ∀ a0 a1 k,LeO (Ft.f k a0 a1) (Ft.f (k + 1) a0 a1):=by
 intro a0 a1 k;have ih0:=Ft.mono_l k;unfold Ft.f
 repeat' first|(with_reducible first|exact ih0 _ _ _|exact zQ _|exact zN _|refine zP ?_ ?_|refine zO ?_ (fun _ => ?_))|refine zP ?_ ?_|refine zO ?_ (fun _ => ?_)
set_option maxHeartbeats 8000000 in
set_option maxRecDepth 100000 in
theorem Ft.calls (k : Nat) (A0 : Option Addr) (c0 : Nat) (l0 : List (S41)) (a1 : Int) (r : Int) (w : World) (hr0 : Kd.C k41 w A0 l0.length l0) (hc0 : l0.length≤c0) (h : Ft.f k l0 a1=some r) :
  Calls Tryz.prog 36 #[.slice A0 l0.length c0,.int .i64 a1] w fun e w' => e = .returned (.int .i64 r)∧Below w.heap.size w w':=by
 have HR0:=zh hr0;have HC0:=zh hc0;clear hr0 hc0;have HB:=zh (Below.refl w.heap.size w);have H : (Ft.l0 k l0 a1 0)=some r:=h;clear h;have H':=zh H;clear H
 go_enter Tryz.func36,Tryz.ntmps36
 go_wp2
 go_loopg [1,5] k (fun kq v1 v5 w' => ∃ (x1_1 : Int) (x5_1 : Int),v1 = .int .i64 x1_1∧v5 = .int .i64 x5_1∧Aside0 (Ft.l0 kq l0 x1_1 x5_1=some r)∧Aside0 (kq≤k)∧Aside0 (Below w.heap.size w w'))
 case atStart => exact ⟨(a1),(0),(by first|rfl|(simp;done)|(simp [*];done)),(by first|rfl|(simp;done)|(simp [*];done)),H',⟨ye _⟩,⟨by repeat (with_reducible first|exact HB.out|apply za|apply zb|apply zc)⟩⟩
 case round =>
  clear H'
  try clear p2
  obtain ⟨x1_1,x5_1,rfl,rfl,HA,HK1,HB⟩:=hrel
  cases gk with
  | zero => exact absurd HA.out (by simp [Ft.l0])
  | succ k1 =>
   have H:=HA.out;clear HA;simp only [Ft.l0] at H
   by_cases c3 : x5_1<(l0.length : Int)
   ·
    rw [if_pos c3] at H
    exact absurd H (by simp)
   rw [if_neg c3] at H;have c3b0 : decide (x5_1<(l0.length : Int))=false:=decide_eq_false c3;clear c3;obtain rfl:=zU H
   go_wp2
   go_ret
   exact ⟨by first|rfl|(simp [yt,yu] <;> rfl)|(simp [*,yt,yu] <;> rfl),by repeat (with_reducible first|exact HB.out|apply za|apply zb|apply zc)⟩

end Go.Proofs.YtceggklknggfdaaGreat.Q
end

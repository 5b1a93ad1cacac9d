/- FnExactNewWorld: the law, which takes no argument, answers true. No condition. -/
import Derived.Test.YtceggklknggfdaaGreatKLawFnExactNewWorldp24
import Derived.Test.YtceggklknggfdaaGreatRows
import Derived.ProofKit
import Derived.OpenShut
import Derived.ShutString
import Derived.ChangeOld
import Derived.SizedLaws
import Derived.Carry
section
namespace Go.Proofs.YtceggklknggfdaaGreat.Q
open Go.RowKit Go.Proofs.YtceggklknggfdaaGreatW.PrintWords Go.Proofs.YtceggklknggfdaaGreatW.PrintLast Go.Proofs.YtceggklknggfdaaGreatW.PrintMore
attribute [local go_sem] max2_int min2_int max_two min_two max_three min_three max_four min_four max2_str min2_str str_geq str_gtr str_leq
set_option linter.unusedVariables false
set_option linter.unusedSimpArgs false

def F05.f (k : Nat) (l0_0 : List (S54)) (l0_1 : List (S71)) (l0_2 : List (S41)) (a0_3 : Int) (a1 : Int) : Option (Int):=(F4.f k l0_0 a1).bind fun t629 => (if t629<0 then (some (-1)) else ((Fv.f k l0_1 t629).bind fun t630 => (if t630<0 then (some (-1)) else ((Ft.f k l0_2 t630).bind fun t631 => (if t631<0 then (some (-1)) else (some t631))))))
theorem F05.mono : ∀ a0 a1 a2 a3 a4 k,LeO (F05.f k a0 a1 a2 a3 a4) (F05.f (k + 1) a0 a1 a2 a3 a4):=by
 intro a0 a1 a2 a3 a4 k;unfold F05.f
 repeat' first|(with_reducible first|exact F4.mono _ _ _|exact Fv.mono _ _ _|exact Ft.mono _ _ _|exact zQ _|exact zN _|refine zP ?_ ?_|refine zO ?_ (fun _ => ?_))|refine zP ?_ ?_|refine zO ?_ (fun _ => ?_)
set_option maxHeartbeats 8000000 in
set_option maxRecDepth 100000 in
theorem F05.calls (k : Nat) (A0_0 : Option Addr) (c0_0 : Nat) (l0_0 : List (S54)) (A0_1 : Option Addr) (c0_1 : Nat) (l0_1 : List (S71)) (A0_2 : Option Addr) (c0_2 : Nat) (l0_2 : List (S41)) (a0_3 : Int) (a1 : Int) (r : Int) (w : World) (hr0_0 : Kd.C k54 w A0_0 l0_0.length l0_0) (hc0_0 : l0_0.length≤c0_0) (hr0_1 : Kd.C k71 w A0_1 l0_1.length l0_1) (hc0_1 : l0_1.length≤c0_1) (hr0_2 : Kd.C k41 w A0_2 l0_2.length l0_2) (hc0_2 : l0_2.length≤c0_2) (h : F05.f k l0_0 l0_1 l0_2 a0_3 a1=some r) :
  Calls Tryz.prog 17 #[.agg #[.slice A0_0 l0_0.length c0_0,.slice A0_1 l0_1.length c0_1,.slice A0_2 l0_2.length c0_2,.int .i64 a0_3],.int .i64 a1] w fun e w' => e = .returned (.int .i64 r)∧Below w.heap.size w w':=by
 have hu26:=Tryz.underlying26;have HR0_0:=zh hr0_0;have HC0_0:=zh hc0_0;clear hr0_0 hc0_0;have HR0_1:=zh hr0_1;have HC0_1:=zh hc0_1;clear hr0_1 hc0_1;have HR0_2:=zh hr0_2;have HC0_2:=zh hc0_2;clear hr0_2 hc0_2;have HB:=zh (Below.refl w.heap.size w);have H : ((F4.f k l0_0 a1).bind fun t629 => (if t629<0 then (some (-1)) else ((Fv.f k l0_1 t629).bind fun t630 => (if t630<0 then (some (-1)) else ((Ft.f k l0_2 t630).bind fun t631 => (if t631<0 then (some (-1)) else (some t631)))))))=some r:=h;clear h;replace H:=zT.mp H;obtain ⟨t629,A30,H⟩:=H;replace H : (if t629<0 then (some (-1)) else ((Fv.f k l0_1 t629).bind fun t630 => (if t630<0 then (some (-1)) else ((Ft.f k l0_2 t630).bind fun t631 => (if t631<0 then (some (-1)) else (some t631))))))=some r:=H;have A3:=zh A30;clear A30
 by_cases c4 : t629<0
 ·
  rw [if_pos c4] at H
  have c4b0 : decide (t629<0)=true:=decide_eq_true c4;clear c4;obtain rfl:=zU H
  go_enter Tryz.func17,Tryz.ntmps17
  go_wp2_with (first|((with_reducible refine zK (N:=2) rfl ?_);refine zI ?hg (N:=2) ?hd (cs:=#[.slice A0_0 l0_0.length c0_0,.slice A0_1 l0_1.length c0_1,.slice A0_2 l0_2.length c0_2,.int .i64 a0_3]) (t:=26) ?hr ?_;(case hd|hg => rfl);(case hr => go_simp <;> rfl);intro gb628 hg w5 hbox hb;have BK628:=zh (hbox);have hH_:=cH (by repeat (with_reducible first|exact HB.out|apply za|apply zb|apply zc)) hb hg;have GW628:=zh hH_.1;have GE628:=GW628;replace HB:=zh hH_.2;clear hb hbox hg hH_;obtain ⟨hcz6_0,hcz6_1,hcz6_2,hcz6_3,hfz6_0,hfz6_1,hfz6_2,hfz6_3⟩:=cB4 BK628.out)|((with_reducible refine zJ (f:=34) rfl ?_);refine yj (some 8) rfl rfl Tryz.func34 (by kernel_rfl) rfl #[.slice A0_0 l0_0.length c0_0,.int .i64 a1] rfl (by (try simp only [zt,zu,zv]);first|done|rfl|(simp only [zw,zx];rfl)|(simp only [yr,ys,zV,zW];rfl)) ?_;(with_reducible refine (F4.calls k  _ _ l0_0 a1 t629 _ ?side1 ?side2 A3.out).mono ?_);(case side1 => repeat (first|exact (Kd.C_below HR0_0.out HB.out)|(with_reducible refine Kd.C_alloc ?_ _)|(with_reducible refine Kd.C_drewN ?_ _)|(with_reducible refine Kd.C_drew ?_)));(case side2 => exact HC0_0.out);rintro e w7 ⟨rfl,hb⟩;refine ⟨_,rfl,?_⟩;replace BK628:=zh (cD BK628.out (by (with_reducible repeat first|apply ze|apply zf|apply zg);exact BK628.out) hb);replace HB:=zh (zC (by repeat (with_reducible first|exact HB.out|apply za|apply zb|apply zc|refine zd ?_ GE628.out)) hb);(try clear hb);(try clear hb2);(try clear hk);(try clear hi)))
  go_ret
  exact ⟨by first|rfl|(simp [yt,yu] <;> rfl)|(simp [*,yt,yu] <;> rfl),by repeat (with_reducible first|exact HB.out|apply za|apply zb|apply zc|refine zd ?_ GE628.out)⟩
 rw [if_neg c4] at H;have c4b0 : decide (t629<0)=false:=decide_eq_false c4;clear c4;replace H:=zT.mp H;obtain ⟨t630,A80,H⟩:=H;replace H : (if t630<0 then (some (-1)) else ((Ft.f k l0_2 t630).bind fun t631 => (if t631<0 then (some (-1)) else (some t631))))=some r:=H;have A8:=zh A80;clear A80
 by_cases c9 : t630<0
 ·
  rw [if_pos c9] at H
  have c9b0 : decide (t630<0)=true:=decide_eq_true c9;clear c9;obtain rfl:=zU H
  go_enter Tryz.func17,Tryz.ntmps17
  go_wp2_with (first|((with_reducible refine zK (N:=2) rfl ?_);refine zI ?hg (N:=2) ?hd (cs:=#[.slice A0_0 l0_0.length c0_0,.slice A0_1 l0_1.length c0_1,.slice A0_2 l0_2.length c0_2,.int .i64 a0_3]) (t:=26) ?hr ?_;(case hd|hg => rfl);(case hr => go_simp <;> rfl);intro gb628 hg w10 hbox hb;have BK628:=zh (hbox);have hH_:=cH (by repeat (with_reducible first|exact HB.out|apply za|apply zb|apply zc)) hb hg;have GW628:=zh hH_.1;have GE628:=GW628;replace HB:=zh hH_.2;clear hb hbox hg hH_;obtain ⟨hcz11_0,hcz11_1,hcz11_2,hcz11_3,hfz11_0,hfz11_1,hfz11_2,hfz11_3⟩:=cB4 BK628.out)|((with_reducible refine zJ (f:=34) rfl ?_);refine yj (some 8) rfl rfl Tryz.func34 (by kernel_rfl) rfl #[.slice A0_0 l0_0.length c0_0,.int .i64 a1] rfl (by (try simp only [zt,zu,zv]);first|done|rfl|(simp only [zw,zx];rfl)|(simp only [yr,ys,zV,zW];rfl)) ?_;(with_reducible refine (F4.calls k  _ _ l0_0 a1 t629 _ ?side1 ?side2 A3.out).mono ?_);(case side1 => repeat (first|exact (Kd.C_below HR0_0.out HB.out)|(with_reducible refine Kd.C_alloc ?_ _)|(with_reducible refine Kd.C_drewN ?_ _)|(with_reducible refine Kd.C_drew ?_)));(case side2 => exact HC0_0.out);rintro e w12 ⟨rfl,hb⟩;refine ⟨_,rfl,?_⟩;replace BK628:=zh (cD BK628.out (by (with_reducible repeat first|apply ze|apply zf|apply zg);exact BK628.out) hb);replace HB:=zh (zC (by repeat (with_reducible first|exact HB.out|apply za|apply zb|apply zc|refine zd ?_ GE628.out)) hb);(try clear hb);(try clear hb2);(try clear hk);(try clear hi);obtain ⟨hcz13_0,hcz13_1,hcz13_2,hcz13_3,hfz13_0,hfz13_1,hfz13_2,hfz13_3⟩:=cB4 BK628.out)|((with_reducible refine zJ (f:=35) rfl ?_);refine yj (some 14) rfl rfl Tryz.func35 (by kernel_rfl) rfl #[.slice A0_1 l0_1.length c0_1,.int .i64 t629] rfl (by (try simp only [zt,zu,zv]);first|done|rfl|(simp only [zw,zx];rfl)|(simp only [yr,ys,zV,zW];rfl)) ?_;(with_reducible refine (Fv.calls k  _ _ l0_1 t629 t630 _ ?side1 ?side2 A8.out).mono ?_);(case side1 => repeat (first|exact (Kd.C_below HR0_1.out HB.out)|(with_reducible refine Kd.C_alloc ?_ _)|(with_reducible refine Kd.C_drewN ?_ _)|(with_reducible refine Kd.C_drew ?_)));(case side2 => exact HC0_1.out);rintro e w14 ⟨rfl,hb⟩;refine ⟨_,rfl,?_⟩;replace BK628:=zh (cD BK628.out (by (with_reducible repeat first|apply ze|apply zf|apply zg);exact BK628.out) hb);replace HB:=zh (zC (by repeat (with_reducible first|exact HB.out|apply za|apply zb|apply zc|refine zd ?_ GE628.out)) hb);(try clear hb);(try clear hb2);(try clear hk);(try clear hi)))
  go_ret
  exact ⟨by first|rfl|(simp [yt,yu] <;> rfl)|(simp [*,yt,yu] <;> rfl),by repeat (with_reducible first|exact HB.out|apply za|apply zb|apply zc|refine zd ?_ GE628.out)⟩
 rw [if_neg c9] at H;have c9b0 : decide (t630<0)=false:=decide_eq_false c9;clear c9;replace H:=zT.mp H;obtain ⟨t631,A150,H⟩:=H;replace H : (if t631<0 then (some (-1)) else (some t631))=some r:=H;have A15:=zh A150;clear A150
 by_cases c16 : t631<0
 ·
  rw [if_pos c16] at H
  have c16b0 : decide (t631<0)=true:=decide_eq_true c16;clear c16;obtain rfl:=zU H
  go_enter Tryz.func17,Tryz.ntmps17
  go_wp2_with (first|((with_reducible refine zK (N:=2) rfl ?_);refine zI ?hg (N:=2) ?hd (cs:=#[.slice A0_0 l0_0.length c0_0,.slice A0_1 l0_1.length c0_1,.slice A0_2 l0_2.length c0_2,.int .i64 a0_3]) (t:=26) ?hr ?_;(case hd|hg => rfl);(case hr => go_simp <;> rfl);intro gb628 hg w17 hbox hb;have BK628:=zh (hbox);have hH_:=cH (by repeat (with_reducible first|exact HB.out|apply za|apply zb|apply zc)) hb hg;have GW628:=zh hH_.1;have GE628:=GW628;replace HB:=zh hH_.2;clear hb hbox hg hH_;obtain ⟨hcz18_0,hcz18_1,hcz18_2,hcz18_3,hfz18_0,hfz18_1,hfz18_2,hfz18_3⟩:=cB4 BK628.out)|((with_reducible refine zJ (f:=34) rfl ?_);refine yj (some 8) rfl rfl Tryz.func34 (by kernel_rfl) rfl #[.slice A0_0 l0_0.length c0_0,.int .i64 a1] rfl (by (try simp only [zt,zu,zv]);first|done|rfl|(simp only [zw,zx];rfl)|(simp only [yr,ys,zV,zW];rfl)) ?_;(with_reducible refine (F4.calls k  _ _ l0_0 a1 t629 _ ?side1 ?side2 A3.out).mono ?_);(case side1 => repeat (first|exact (Kd.C_below HR0_0.out HB.out)|(with_reducible refine Kd.C_alloc ?_ _)|(with_reducible refine Kd.C_drewN ?_ _)|(with_reducible refine Kd.C_drew ?_)));(case side2 => exact HC0_0.out);rintro e w19 ⟨rfl,hb⟩;refine ⟨_,rfl,?_⟩;replace BK628:=zh (cD BK628.out (by (with_reducible repeat first|apply ze|apply zf|apply zg);exact BK628.out) hb);replace HB:=zh (zC (by repeat (with_reducible first|exact HB.out|apply za|apply zb|apply zc|refine zd ?_ GE628.out)) hb);(try clear hb);(try clear hb2);(try clear hk);(try clear hi);obtain ⟨hcz20_0,hcz20_1,hcz20_2,hcz20_3,hfz20_0,hfz20_1,hfz20_2,hfz20_3⟩:=cB4 BK628.out)|((with_reducible refine zJ (f:=35) rfl ?_);refine yj (some 14) rfl rfl Tryz.func35 (by kernel_rfl) rfl #[.slice A0_1 l0_1.length c0_1,.int .i64 t629] rfl (by (try simp only [zt,zu,zv]);first|done|rfl|(simp only [zw,zx];rfl)|(simp only [yr,ys,zV,zW];rfl)) ?_;(with_reducible refine (Fv.calls k  _ _ l0_1 t629 t630 _ ?side1 ?side2 A8.out).mono ?_);(case side1 => repeat (first|exact (Kd.C_below HR0_1.out HB.out)|(with_reducible refine Kd.C_alloc ?_ _)|(with_reducible refine Kd.C_drewN ?_ _)|(with_reducible refine Kd.C_drew ?_)));(case side2 => exact HC0_1.out);rintro e w21 ⟨rfl,hb⟩;refine ⟨_,rfl,?_⟩;replace BK628:=zh (cD BK628.out (by (with_reducible repeat first|apply ze|apply zf|apply zg);exact BK628.out) hb);replace HB:=zh (zC (by repeat (with_reducible first|exact HB.out|apply za|apply zb|apply zc|refine zd ?_ GE628.out)) hb);(try clear hb);(try clear hb2);(try clear hk);(try clear hi);obtain ⟨hcz22_0,hcz22_1,hcz22_2,hcz22_3,hfz22_0,hfz22_1,hfz22_2,hfz22_3⟩:=cB4 BK628.out)|((with_reducible refine zJ (f:=36) rfl ?_);refine yj (some 20) rfl rfl Tryz.func36 (by kernel_rfl) rfl #[.slice A0_2 l0_2.length c0_2,.int .i64 t630] rfl (by (try simp only [zt,zu,zv]);first|done|rfl|(simp only [zw,zx];rfl)|(simp only [yr,ys,zV,zW];rfl)) ?_;(with_reducible refine (Ft.calls k  _ _ l0_2 t630 t631 _ ?side1 ?side2 A15.out).mono ?_);(case side1 => repeat (first|exact (Kd.C_below HR0_2.out HB.out)|(with_reducible refine Kd.C_alloc ?_ _)|(with_reducible refine Kd.C_drewN ?_ _)|(with_reducible refine Kd.C_drew ?_)));(case side2 => exact HC0_2.out);rintro e w23 ⟨rfl,hb⟩;refine ⟨_,rfl,?_⟩;replace BK628:=zh (cD BK628.out (by (with_reducible repeat first|apply ze|apply zf|apply zg);exact BK628.out) hb);replace HB:=zh (zC (by repeat (with_reducible first|exact HB.out|apply za|apply zb|apply zc|refine zd ?_ GE628.out)) hb);(try clear hb);(try clear hb2);(try clear hk);(try clear hi)))
  go_ret
  exact ⟨by first|rfl|(simp [yt,yu] <;> rfl)|(simp [*,yt,yu] <;> rfl),by repeat (with_reducible first|exact HB.out|apply za|apply zb|apply zc|refine zd ?_ GE628.out)⟩
 rw [if_neg c16] at H;have c16b0 : decide (t631<0)=false:=decide_eq_false c16;clear c16;obtain rfl:=zU H
 go_enter Tryz.func17,Tryz.ntmps17
 go_wp2_with (first|((with_reducible refine zK (N:=2) rfl ?_);refine zI ?hg (N:=2) ?hd (cs:=#[.slice A0_0 l0_0.length c0_0,.slice A0_1 l0_1.length c0_1,.slice A0_2 l0_2.length c0_2,.int .i64 a0_3]) (t:=26) ?hr ?_;(case hd|hg => rfl);(case hr => go_simp <;> rfl);intro gb628 hg w24 hbox hb;have BK628:=zh (hbox);have hH_:=cH (by repeat (with_reducible first|exact HB.out|apply za|apply zb|apply zc)) hb hg;have GW628:=zh hH_.1;have GE628:=GW628;replace HB:=zh hH_.2;clear hb hbox hg hH_;obtain ⟨hcz25_0,hcz25_1,hcz25_2,hcz25_3,hfz25_0,hfz25_1,hfz25_2,hfz25_3⟩:=cB4 BK628.out)|((with_reducible refine zJ (f:=34) rfl ?_);refine yj (some 8) rfl rfl Tryz.func34 (by kernel_rfl) rfl #[.slice A0_0 l0_0.length c0_0,.int .i64 a1] rfl (by (try simp only [zt,zu,zv]);first|done|rfl|(simp only [zw,zx];rfl)|(simp only [yr,ys,zV,zW];rfl)) ?_;(with_reducible refine (F4.calls k  _ _ l0_0 a1 t629 _ ?side1 ?side2 A3.out).mono ?_);(case side1 => repeat (first|exact (Kd.C_below HR0_0.out HB.out)|(with_reducible refine Kd.C_alloc ?_ _)|(with_reducible refine Kd.C_drewN ?_ _)|(with_reducible refine Kd.C_drew ?_)));(case side2 => exact HC0_0.out);rintro e w26 ⟨rfl,hb⟩;refine ⟨_,rfl,?_⟩;replace BK628:=zh (cD BK628.out (by (with_reducible repeat first|apply ze|apply zf|apply zg);exact BK628.out) hb);replace HB:=zh (zC (by repeat (with_reducible first|exact HB.out|apply za|apply zb|apply zc|refine zd ?_ GE628.out)) hb);(try clear hb);(try clear hb2);(try clear hk);(try clear hi);obtain ⟨hcz27_0,hcz27_1,hcz27_2,hcz27_3,hfz27_0,hfz27_1,hfz27_2,hfz27_3⟩:=cB4 BK628.out)|((with_reducible refine zJ (f:=35) rfl ?_);refine yj (some 14) rfl rfl Tryz.func35 (by kernel_rfl) rfl #[.slice A0_1 l0_1.length c0_1,.int .i64 t629] rfl (by (try simp only [zt,zu,zv]);first|done|rfl|(simp only [zw,zx];rfl)|(simp only [yr,ys,zV,zW];rfl)) ?_;(with_reducible refine (Fv.calls k  _ _ l0_1 t629 t630 _ ?side1 ?side2 A8.out).mono ?_);(case side1 => repeat (first|exact (Kd.C_below HR0_1.out HB.out)|(with_reducible refine Kd.C_alloc ?_ _)|(with_reducible refine Kd.C_drewN ?_ _)|(with_reducible refine Kd.C_drew ?_)));(case side2 => exact HC0_1.out);rintro e w28 ⟨rfl,hb⟩;refine ⟨_,rfl,?_⟩;replace BK628:=zh (cD BK628.out (by (with_reducible repeat first|apply ze|apply zf|apply zg);exact BK628.out) hb);replace HB:=zh (zC (by repeat (with_reducible first|exact HB.out|apply za|apply zb|apply zc|refine zd ?_ GE628.out)) hb);(try clear hb);(try clear hb2);(try clear hk);(try clear hi);obtain ⟨hcz29_0,hcz29_1,hcz29_2,hcz29_3,hfz29_0,hfz29_1,hfz29_2,hfz29_3⟩:=cB4 BK628.out)|((with_reducible refine zJ (f:=36) rfl ?_);refine yj (some 20) rfl rfl Tryz.func36 (by kernel_rfl) rfl #[.slice A0_2 l0_2.length c0_2,.int .i64 t630] rfl (by (try simp only [zt,zu,zv]);first|done|rfl|(simp only [zw,zx];rfl)|(simp only [yr,ys,zV,zW];rfl)) ?_;(with_reducible refine (Ft.calls k  _ _ l0_2 t630 t631 _ ?side1 ?side2 A15.out).mono ?_);(case side1 => repeat (first|exact (Kd.C_below HR0_2.out HB.out)|(with_reducible refine Kd.C_alloc ?_ _)|(with_reducible refine Kd.C_drewN ?_ _)|(with_reducible refine Kd.C_drew ?_)));(case side2 => exact HC0_2.out);rintro e w30 ⟨rfl,hb⟩;refine ⟨_,rfl,?_⟩;replace BK628:=zh (cD BK628.out (by (with_reducible repeat first|apply ze|apply zf|apply zg);exact BK628.out) hb);replace HB:=zh (zC (by repeat (with_reducible first|exact HB.out|apply za|apply zb|apply zc|refine zd ?_ GE628.out)) hb);(try clear hb);(try clear hb2);(try clear hk);(try clear hi)))
 go_ret
 exact ⟨by first|rfl|(simp [yt,yu] <;> rfl)|(simp [*,yt,yu] <;> rfl),by repeat (with_reducible first|exact HB.out|apply za|apply zb|apply zc|refine zd ?_ GE628.out)⟩


def Fm.l0 : Nat→List (S104)→Int→Int→Option (Int)
 | 0,_,_,_ => none
 | k + 1,x0,x1,x5 => if x5<(x0.length : Int) then (none) else (some x1)
def Fm.f (k : Nat) (l0 : List (S104)) (a1 : Int) : Option (Int):=Fm.l0 k l0 a1 0
theorem Fm.mono_l : ∀ k,(∀ y0 y1 y2,LeO (Fm.l0 k y0 y1 y2) (Fm.l0 (k + 1) y0 y1 y2))
 | 0 => fun _ _ _ r h => by simp [Fm.l0] at h
 | k + 1 => by
  have ih0:=Fm.mono_l k;intro y0 y1 y2;unfold Fm.l0
  repeat' first|(with_reducible first|exact ih0 _ _ _|exact zQ _|exact zN _|refine zP ?_ ?_|refine zO ?_ (fun _ => ?_))|refine zP ?_ ?_|refine zO ?_ (fun _ => ?_)
theorem Fm.mono : ∀ a0 a1 k,LeO (Fm.f k a0 a1) (Fm.f (k + 1) a0 a1):=by
 intro a0 a1 k;have ih0:=Fm.mono_l k;unfold Fm.f
 repeat' first|(with_reducible first|exact ih0 _ _ _|exact zQ _|exact zN _|refine zP ?_ ?_|refine zO ?_ (fun _ => ?_))|refine zP ?_ ?_|refine zO ?_ (fun _ => ?_)
set_option maxHeartbeats 8000000 in
set_option maxRecDepth 100000 in
theorem Fm.calls (k : Nat) (A0 : Option Addr) (c0 : Nat) (l0 : List (S104)) (a1 : Int) (r : Int) (w : World) (hr0 : Kd.C k104 w A0 l0.length l0) (hc0 : l0.length≤c0) (h : Fm.f k l0 a1=some r) :
  Calls Tryz.prog 37 #[.slice A0 l0.length c0,.int .i64 a1] w fun e w' => e = .returned (.int .i64 r)∧Below w.heap.size w w':=by
 have HR0:=zh hr0;have HC0:=zh hc0;clear hr0 hc0;have HB:=zh (Below.refl w.heap.size w);have H : (Fm.l0 k l0 a1 0)=some r:=h;clear h;have H':=zh H;clear H
 go_enter Tryz.func37,Tryz.ntmps37
 go_wp2
 go_loopg [1,5] k (fun kq v1 v5 w' => ∃ (x1_1 : Int) (x5_1 : Int),v1 = .int .i64 x1_1∧v5 = .int .i64 x5_1∧Aside0 (Fm.l0 kq l0 x1_1 x5_1=some r)∧Aside0 (kq≤k)∧Aside0 (Below w.heap.size w w'))
 case atStart => exact ⟨(a1),(0),(by first|rfl|(simp;done)|(simp [*];done)),(by first|rfl|(simp;done)|(simp [*];done)),H',⟨ye _⟩,⟨by repeat (with_reducible first|exact HB.out|apply za|apply zb|apply zc)⟩⟩
 case round =>
  clear H'
  try clear p2
  obtain ⟨x1_1,x5_1,rfl,rfl,HA,HK1,HB⟩:=hrel
  cases gk with
  | zero => exact absurd HA.out (by simp [Fm.l0])
  | succ k1 =>
   have H:=HA.out;clear HA;simp only [Fm.l0] at H
   by_cases c3 : x5_1<(l0.length : Int)
   ·
    rw [if_pos c3] at H
    exact absurd H (by simp)
   rw [if_neg c3] at H;have c3b0 : decide (x5_1<(l0.length : Int))=false:=decide_eq_false c3;clear c3;obtain rfl:=zU H
   go_wp2
   go_ret
   exact ⟨by first|rfl|(simp [yt,yu] <;> rfl)|(simp [*,yt,yu] <;> rfl),by repeat (with_reducible first|exact HB.out|apply za|apply zb|apply zc)⟩


def Fl.l0 : Nat→List (S109)→Int→Int→Option (Int)
 | 0,_,_,_ => none
 | k + 1,x0,x1,x5 => if x5<(x0.length : Int) then (none) else (some x1)
def Fl.f (k : Nat) (l0 : List (S109)) (a1 : Int) : Option (Int):=Fl.l0 k l0 a1 0
theorem Fl.mono_l : ∀ k,(∀ y0 y1 y2,LeO (Fl.l0 k y0 y1 y2) (Fl.l0 (k + 1) y0 y1 y2))
 | 0 => fun _ _ _ r h => by simp [Fl.l0] at h
 | k + 1 => by
  have ih0:=Fl.mono_l k;intro y0 y1 y2;unfold Fl.l0
  repeat' first|(with_reducible first|exact ih0 _ _ _|exact zQ _|exact zN _|refine zP ?_ ?_|refine zO ?_ (fun _ => ?_))|refine zP ?_ ?_|refine zO ?_ (fun _ => ?_)
theorem Fl.mono : ∀ a0 a1 k,LeO (Fl.f k a0 a1) (Fl.f (k + 1) a0 a1):=by
 intro a0 a1 k;have ih0:=Fl.mono_l k;unfold Fl.f
 repeat' first|(with_reducible first|exact ih0 _ _ _|exact zQ _|exact zN _|refine zP ?_ ?_|refine zO ?_ (fun _ => ?_))|refine zP ?_ ?_|refine zO ?_ (fun _ => ?_)
set_option maxHeartbeats 8000000 in
set_option maxRecDepth 100000 in
theorem Fl.calls (k : Nat) (A0 : Option Addr) (c0 : Nat) (l0 : List (S109)) (a1 : Int) (r : Int) (w : World) (hr0 : Kd.C k109 w A0 l0.length l0) (hc0 : l0.length≤c0) (h : Fl.f k l0 a1=some r) :
  Calls Tryz.prog 38 #[.slice A0 l0.length c0,.int .i64 a1] w fun e w' => e = .returned (.int .i64 r)∧Below w.heap.size w w':=by
 have HR0:=zh hr0;have HC0:=zh hc0;clear hr0 hc0;have HB:=zh (Below.refl w.heap.size w);have H : (Fl.l0 k l0 a1 0)=some r:=h;clear h;have H':=zh H;clear H
 go_enter Tryz.func38,Tryz.ntmps38
 go_wp2
 go_loopg [1,5] k (fun kq v1 v5 w' => ∃ (x1_1 : Int) (x5_1 : Int),v1 = .int .i64 x1_1∧v5 = .int .i64 x5_1∧Aside0 (Fl.l0 kq l0 x1_1 x5_1=some r)∧Aside0 (kq≤k)∧Aside0 (Below w.heap.size w w'))
 case atStart => exact ⟨(a1),(0),(by first|rfl|(simp;done)|(simp [*];done)),(by first|rfl|(simp;done)|(simp [*];done)),H',⟨ye _⟩,⟨by repeat (with_reducible first|exact HB.out|apply za|apply zb|apply zc)⟩⟩
 case round =>
  clear H'
  try clear p2
  obtain ⟨x1_1,x5_1,rfl,rfl,HA,HK1,HB⟩:=hrel
  cases gk with
  | zero => exact absurd HA.out (by simp [Fl.l0])
  | succ k1 =>
   have H:=HA.out;clear HA;simp only [Fl.l0] at H
   by_cases c3 : x5_1<(l0.length : Int)
   ·
    rw [if_pos c3] at H
    exact absurd H (by simp)
   rw [if_neg c3] at H;have c3b0 : decide (x5_1<(l0.length : Int))=false:=decide_eq_false c3;clear c3;obtain rfl:=zU H
   go_wp2
   go_ret
   exact ⟨by first|rfl|(simp [yt,yu] <;> rfl)|(simp [*,yt,yu] <;> rfl),by repeat (with_reducible first|exact HB.out|apply za|apply zb|apply zc)⟩


def Fu.l0 : Nat→List (S91)→Int→Int→Option (Int)
 | 0,_,_,_ => none
 | k + 1,x0,x1,x5 => if x5<(x0.length : Int) then (none) else (some x1)
def Fu.f (k : Nat) (l0 : List (S91)) (a1 : Int) : Option (Int):=Fu.l0 k l0 a1 0
theorem Fu.mono_l : ∀ k,(∀ y0 y1 y2,LeO (Fu.l0 k y0 y1 y2) (Fu.l0 (k + 1) y0 y1 y2))
 | 0 => fun _ _ _ r h => by simp [Fu.l0] at h
 | k + 1 => by
  have ih0:=Fu.mono_l k;intro y0 y1 y2;unfold Fu.l0
  repeat' first|(with_reducible first|exact ih0 _ _ _|exact zQ _|exact zN _|refine zP ?_ ?_|refine zO ?_ (fun _ => ?_))|refine zP ?_ ?_|refine zO ?_ (fun _ => ?_)
theorem Fu.mono : ∀ a0 a1 k,LeO (Fu.f k a0 a1) (Fu.f (k + 1) a0 a1):=by
 intro a0 a1 k;have ih0:=Fu.mono_l k;unfold Fu.f
 repeat' first|(with_reducible first|exact ih0 _ _ _|exact zQ _|exact zN _|refine zP ?_ ?_|refine zO ?_ (fun _ => ?_))|refine zP ?_ ?_|refine zO ?_ (fun _ => ?_)
set_option maxHeartbeats 8000000 in
set_option maxRecDepth 100000 in
theorem Fu.calls (k : Nat) (A0 : Option Addr) (c0 : Nat) (l0 : List (S91)) (a1 : Int) (r : Int) (w : World) (hr0 : Kd.C k91 w A0 l0.length l0) (hc0 : l0.length≤c0) (h : Fu.f k l0 a1=some r) :
  Calls Tryz.prog 39 #[.slice A0 l0.length c0,.int .i64 a1] w fun e w' => e = .returned (.int .i64 r)∧Below w.heap.size w w':=by
 have HR0:=zh hr0;have HC0:=zh hc0;clear hr0 hc0;have HB:=zh (Below.refl w.heap.size w);have H : (Fu.l0 k l0 a1 0)=some r:=h;clear h;have H':=zh H;clear H
 go_enter Tryz.func39,Tryz.ntmps39
 go_wp2
 go_loopg [1,5] k (fun kq v1 v5 w' => ∃ (x1_1 : Int) (x5_1 : Int),v1 = .int .i64 x1_1∧v5 = .int .i64 x5_1∧Aside0 (Fu.l0 kq l0 x1_1 x5_1=some r)∧Aside0 (kq≤k)∧Aside0 (Below w.heap.size w w'))
 case atStart => exact ⟨(a1),(0),(by first|rfl|(simp;done)|(simp [*];done)),(by first|rfl|(simp;done)|(simp [*];done)),H',⟨ye _⟩,⟨by repeat (with_reducible first|exact HB.out|apply za|apply zb|apply zc)⟩⟩
 case round =>
  clear H'
  try clear p2
  obtain ⟨x1_1,x5_1,rfl,rfl,HA,HK1,HB⟩:=hrel
  cases gk with
  | zero => exact absurd HA.out (by simp [Fu.l0])
  | succ k1 =>
   have H:=HA.out;clear HA;simp only [Fu.l0] at H
   by_cases c3 : x5_1<(l0.length : Int)
   ·
    rw [if_pos c3] at H
    exact absurd H (by simp)
   rw [if_neg c3] at H;have c3b0 : decide (x5_1<(l0.length : Int))=false:=decide_eq_false c3;clear c3;obtain rfl:=zU H
   go_wp2
   go_ret
   exact ⟨by first|rfl|(simp [yt,yu] <;> rfl)|(simp [*,yt,yu] <;> rfl),by repeat (with_reducible first|exact HB.out|apply za|apply zb|apply zc)⟩


def Fb.l0 : Nat→List (S44)→Int→Int→Option (Int)
 | 0,_,_,_ => none
 | k + 1,x0,x1,x5 => if x5<(x0.length : Int) then (if 0≤x5 then (if ((rd_T44 x0 x5).f0.f0)=x1 then (if ((rd_T44 x0 x5).f0.f1)=(wrap64 (x1 + 1)) then ((Fm.f k ((rd_T44 x0 x5).f0.f2) (wrap64 ((wrap64 (x1 + 1)) + 1))).bind fun t648 => (if t648<0 then (some (-1)) else ((Fl.f k ((rd_T44 x0 x5).f0.f3) t648).bind fun t650 => (if t650<0 then (some (-1)) else (if (((rd_T44 x0 x5).f0.f4) != ((Int.tmod t650 3) == 0))=true then (some (-1)) else (if (((rd_T44 x0 x5).f0.f5) != ((Int.tmod (wrap64 (t650 + 1)) 3) == 0))=true then (some (-1)) else ((Fu.f k ((rd_T44 x0 x5).f1) (wrap64 ((wrap64 (t650 + 1)) + 1))).bind fun t654 => (if t654<0 then (some (-1)) else (Fb.l0 k x0 t654 (wrap64 (x5 + 1))))))))))) else (some (-1))) else (some (-1))) else (none)) else (some x1)
def Fb.f (k : Nat) (l0 : List (S44)) (a1 : Int) : Option (Int):=Fb.l0 k l0 a1 0
theorem Fb.mono_l : ∀ k,(∀ y0 y1 y2,LeO (Fb.l0 k y0 y1 y2) (Fb.l0 (k + 1) y0 y1 y2))
 | 0 => fun _ _ _ r h => by simp [Fb.l0] at h
 | k + 1 => by
  have ih0:=Fb.mono_l k;intro y0 y1 y2;unfold Fb.l0
  repeat' first|(with_reducible first|exact ih0 _ _ _|exact Fm.mono _ _ _|exact Fl.mono _ _ _|exact Fu.mono _ _ _|exact zQ _|exact zN _|refine zP ?_ ?_|refine zO ?_ (fun _ => ?_))|refine zP ?_ ?_|refine zO ?_ (fun _ => ?_)
theorem Fb.mono : ∀ a0 a1 k,LeO (Fb.f k a0 a1) (Fb.f (k + 1) a0 a1):=by
 intro a0 a1 k;have ih0:=Fb.mono_l k;unfold Fb.f
 repeat' first|(with_reducible first|exact ih0 _ _ _|exact Fm.mono _ _ _|exact Fl.mono _ _ _|exact Fu.mono _ _ _|exact zQ _|exact zN _|refine zP ?_ ?_|refine zO ?_ (fun _ => ?_))|refine zP ?_ ?_|refine zO ?_ (fun _ => ?_)
set_option maxHeartbeats 8000000 in
set_option maxRecDepth 100000 in
theorem Fb.calls (k : Nat) (A0 : Option Addr) (c0 : Nat) (l0 : List (S44)) (a1 : Int) (r : Int) (w : World) (hr0 : Kd.C k44 w A0 l0.length l0) (hc0 : l0.length≤c0) (h : Fb.f k l0 a1=some r) :
  Calls Tryz.prog 18 #[.slice A0 l0.length c0,.int .i64 a1] w fun e w' => e = .returned (.int .i64 r)∧Below w.heap.size w w':=by
 have HR0:=zh hr0;have HC0:=zh hc0;clear hr0 hc0;have HB:=zh (Below.refl w.heap.size w);have H : (Fb.l0 k l0 a1 0)=some r:=h;clear h;have H':=zh H;clear H
 go_enter Tryz.func18,Tryz.ntmps18
 go_wp2
 go_loopg [1,5] k (fun kq v1 v5 w' => ∃ (x1_1 : Int) (x5_1 : Int),v1 = .int .i64 x1_1∧v5 = .int .i64 x5_1∧Aside0 (Fb.l0 kq l0 x1_1 x5_1=some r)∧Aside0 (kq≤k)∧Aside0 (Below w.heap.size w w'))
 case atStart => exact ⟨(a1),(0),(by first|rfl|(simp;done)|(simp [*];done)),(by first|rfl|(simp;done)|(simp [*];done)),H',⟨ye _⟩,⟨by repeat (with_reducible first|exact HB.out|apply za|apply zb|apply zc)⟩⟩
 case round =>
  clear H'
  try clear c1
  try clear p2
  obtain ⟨x1_1,x5_1,rfl,rfl,HA,HK1,HB⟩:=hrel
  cases gk with
  | zero => exact absurd HA.out (by simp [Fb.l0])
  | succ k1 =>
   have H:=HA.out;clear HA;simp only [Fb.l0] at H
   by_cases c3 : x5_1<(l0.length : Int)
   ·
    rw [if_pos c3] at H
    have c3b0 : decide (x5_1<(l0.length : Int))=true:=decide_eq_true c3;clear c3
    by_cases c4 : 0≤x5_1
    ·
     rw [if_pos c4] at H
     have c4b0 : decide (0≤x5_1)=true:=decide_eq_true c4;clear c4
     by_cases c5 : ((rd_T44 l0 x5_1).f0.f0)=x1_1
     ·
      rw [if_pos c5] at H
      have c5b0 : (((rd_T44 l0 x5_1).f0.f0) == x1_1)=true:=ya.mpr c5;have c5b1 : (((rd_T44 l0 x5_1).f0.f0) != x1_1)=false:=zX.mpr c5;clear c5
      by_cases c6 : ((rd_T44 l0 x5_1).f0.f1)=(wrap64 (x1_1 + 1))
      ·
       rw [if_pos c6] at H
       have c6b0 : (((rd_T44 l0 x5_1).f0.f1) == (wrap64 (x1_1 + 1)))=true:=ya.mpr c6;have c6b1 : (((rd_T44 l0 x5_1).f0.f1) != (wrap64 (x1_1 + 1)))=false:=zX.mpr c6;clear c6;replace H:=zT.mp H;obtain ⟨t648,A70,H⟩:=H;replace H : (if t648<0 then (some (-1)) else ((Fl.f k1 ((rd_T44 l0 x5_1).f0.f3) t648).bind fun t650 => (if t650<0 then (some (-1)) else (if (((rd_T44 l0 x5_1).f0.f4) != ((Int.tmod t650 3) == 0))=true then (some (-1)) else (if (((rd_T44 l0 x5_1).f0.f5) != ((Int.tmod (wrap64 (t650 + 1)) 3) == 0))=true then (some (-1)) else ((Fu.f k1 ((rd_T44 l0 x5_1).f1) (wrap64 ((wrap64 (t650 + 1)) + 1))).bind fun t654 => (if t654<0 then (some (-1)) else (Fb.l0 k1 l0 t654 (wrap64 (x5_1 + 1))))))))))=some r:=H;have A7:=zh A70;clear A70
       by_cases c8 : t648<0
       ·
        rw [if_pos c8] at H
        have c8b0 : decide (t648<0)=true:=decide_eq_true c8;clear c8;obtain rfl:=zU H;have p645 : 0≤(x5_1 : Int):=zy (by first|(with_reducible assumption)|assumption);have q645 : x5_1<(l0.length : Int):=zy (by first|(with_reducible assumption)|assumption);obtain ⟨ad645,A645_2,c645_2,A645_3,c645_3,A645_6,c645_6,e645,hx645_0,hx645_1,hx645_2,hx645_3,hx645_4,hx645_5,hx645_6,hl645_2,hi645_2,hl645_3,hi645_3,hl645_6,hi645_6⟩:=at_T44 HR0.out x5_1 p645 q645
        cases e645
        replace hx645_0:=(HB.out.cell (zl w _ hx645_0)).trans hx645_0;replace hx645_1:=(HB.out.cell (zl w _ hx645_1)).trans hx645_1;replace hx645_2:=(HB.out.cell (zl w _ hx645_2)).trans hx645_2;replace hx645_3:=(HB.out.cell (zl w _ hx645_3)).trans hx645_3;replace hx645_4:=(HB.out.cell (zl w _ hx645_4)).trans hx645_4;replace hx645_5:=(HB.out.cell (zl w _ hx645_5)).trans hx645_5;replace hx645_6:=(HB.out.cell (zl w _ hx645_6)).trans hx645_6;have HR645_2:=zh hi645_2;have HC645_2:=zh hl645_2;clear hi645_2 hl645_2;have HR645_3:=zh hi645_3;have HC645_3:=zh hl645_3;clear hi645_3 hl645_3;have HR645_6:=zh hi645_6;have HC645_6:=zh hl645_6;clear hi645_6 hl645_6;replace p645:=eq_true p645;replace q645:=eq_true q645;have p646 : 0≤(x5_1 : Int):=zy (by first|(with_reducible assumption)|assumption);have q646 : x5_1<(l0.length : Int):=zy (by first|(with_reducible assumption)|assumption);obtain ⟨ad646,A646_2,c646_2,A646_3,c646_3,A646_6,c646_6,e646,hx646_0,hx646_1,hx646_2,hx646_3,hx646_4,hx646_5,hx646_6,hl646_2,hi646_2,hl646_3,hi646_3,hl646_6,hi646_6⟩:=at_T44 HR0.out x5_1 p646 q646;obtain rfl : ad645=ad646:=(by injection e646);replace hx646_0:=(HB.out.cell (zl w _ hx646_0)).trans hx646_0;replace hx646_1:=(HB.out.cell (zl w _ hx646_1)).trans hx646_1;replace hx646_2:=(HB.out.cell (zl w _ hx646_2)).trans hx646_2;replace hx646_3:=(HB.out.cell (zl w _ hx646_3)).trans hx646_3;replace hx646_4:=(HB.out.cell (zl w _ hx646_4)).trans hx646_4;replace hx646_5:=(HB.out.cell (zl w _ hx646_5)).trans hx646_5;replace hx646_6:=(HB.out.cell (zl w _ hx646_6)).trans hx646_6;have HR646_2:=zh hi646_2;have HC646_2:=zh hl646_2;clear hi646_2 hl646_2;have HR646_3:=zh hi646_3;have HC646_3:=zh hl646_3;clear hi646_3 hl646_3;have HR646_6:=zh hi646_6;have HC646_6:=zh hl646_6;clear hi646_6 hl646_6;replace p646:=eq_true p646;replace q646:=eq_true q646;have ea_:=zU (hx645_2.symm.trans hx646_2);injection ea_ with ea_ en_ ec_;subst ea_;subst ec_;clear en_;have ea_:=zU (hx645_3.symm.trans hx646_3);injection ea_ with ea_ en_ ec_;subst ea_;subst ec_;clear en_;have ea_:=zU (hx645_6.symm.trans hx646_6);injection ea_ with ea_ en_ ec_;subst ea_;subst ec_;clear en_;have p647 : 0≤(x5_1 : Int):=zy (by first|(with_reducible assumption)|assumption);have q647 : x5_1<(l0.length : Int):=zy (by first|(with_reducible assumption)|assumption);obtain ⟨ad647,A647_2,c647_2,A647_3,c647_3,A647_6,c647_6,e647,hx647_0,hx647_1,hx647_2,hx647_3,hx647_4,hx647_5,hx647_6,hl647_2,hi647_2,hl647_3,hi647_3,hl647_6,hi647_6⟩:=at_T44 HR0.out x5_1 p647 q647;obtain rfl : ad645=ad647:=(by injection e647);replace hx647_0:=(HB.out.cell (zl w _ hx647_0)).trans hx647_0;replace hx647_1:=(HB.out.cell (zl w _ hx647_1)).trans hx647_1;replace hx647_2:=(HB.out.cell (zl w _ hx647_2)).trans hx647_2;replace hx647_3:=(HB.out.cell (zl w _ hx647_3)).trans hx647_3;replace hx647_4:=(HB.out.cell (zl w _ hx647_4)).trans hx647_4;replace hx647_5:=(HB.out.cell (zl w _ hx647_5)).trans hx647_5;replace hx647_6:=(HB.out.cell (zl w _ hx647_6)).trans hx647_6;have HR647_2:=zh hi647_2;have HC647_2:=zh hl647_2;clear hi647_2 hl647_2;have HR647_3:=zh hi647_3;have HC647_3:=zh hl647_3;clear hi647_3 hl647_3;have HR647_6:=zh hi647_6;have HC647_6:=zh hl647_6;clear hi647_6 hl647_6;replace p647:=eq_true p647;replace q647:=eq_true q647;have ea_:=zU (hx645_2.symm.trans hx647_2);injection ea_ with ea_ en_ ec_;subst ea_;subst ec_;clear en_;have ea_:=zU (hx645_3.symm.trans hx647_3);injection ea_ with ea_ en_ ec_;subst ea_;subst ec_;clear en_;have ea_:=zU (hx645_6.symm.trans hx647_6);injection ea_ with ea_ en_ ec_;subst ea_;subst ec_;clear en_
        go_wp2_with (first|((with_reducible refine zJ (f:=37) rfl ?_);refine yj (some 39) rfl rfl Tryz.func37 (by kernel_rfl) rfl #[.slice A645_2 ((rd_T44 l0 x5_1).f0.f2).length c645_2,.int .i64 (wrap64 ((wrap64 (x1_1 + 1)) + 1))] rfl (by (try simp only [zt,zu,zv]);first|done|rfl|(simp only [zw,zx];rfl)|(simp only [yr,ys,zV,zW];rfl)) ?_;(with_reducible refine (Fm.calls k1  _ _ ((rd_T44 l0 x5_1).f0.f2) (wrap64 ((wrap64 (x1_1 + 1)) + 1)) t648 _ ?side1 ?side2 A7.out).mono ?_);(case side1 => repeat (first|exact (Kd.C_below HR647_2.out HB.out)|(with_reducible refine Kd.C_alloc ?_ _)|(with_reducible refine Kd.C_drewN ?_ _)|(with_reducible refine Kd.C_drew ?_)));(case side2 => exact HC647_2.out);rintro e w9 ⟨rfl,hb⟩;refine ⟨_,rfl,?_⟩;replace HB:=zh (zC (by repeat (with_reducible first|exact HB.out|apply za|apply zb|apply zc)) hb);(try clear hb);(try clear hb2);(try clear hk);(try clear hi)))
        go_ret
        exact ⟨by first|rfl|(simp [yt,yu] <;> rfl)|(simp [*,yt,yu] <;> rfl),by repeat (with_reducible first|exact HB.out|apply za|apply zb|apply zc)⟩
       rw [if_neg c8] at H;have c8b0 : decide (t648<0)=false:=decide_eq_false c8;clear c8;replace H:=zT.mp H;obtain ⟨t650,A100,H⟩:=H;replace H : (if t650<0 then (some (-1)) else (if (((rd_T44 l0 x5_1).f0.f4) != ((Int.tmod t650 3) == 0))=true then (some (-1)) else (if (((rd_T44 l0 x5_1).f0.f5) != ((Int.tmod (wrap64 (t650 + 1)) 3) == 0))=true then (some (-1)) else ((Fu.f k1 ((rd_T44 l0 x5_1).f1) (wrap64 ((wrap64 (t650 + 1)) + 1))).bind fun t654 => (if t654<0 then (some (-1)) else (Fb.l0 k1 l0 t654 (wrap64 (x5_1 + 1))))))))=some r:=H;have A10:=zh A100;clear A100
       by_cases c11 : t650<0
       ·
        rw [if_pos c11] at H
        have c11b0 : decide (t650<0)=true:=decide_eq_true c11;clear c11;obtain rfl:=zU H;have p645 : 0≤(x5_1 : Int):=zy (by first|(with_reducible assumption)|assumption);have q645 : x5_1<(l0.length : Int):=zy (by first|(with_reducible assumption)|assumption);obtain ⟨ad645,A645_2,c645_2,A645_3,c645_3,A645_6,c645_6,e645,hx645_0,hx645_1,hx645_2,hx645_3,hx645_4,hx645_5,hx645_6,hl645_2,hi645_2,hl645_3,hi645_3,hl645_6,hi645_6⟩:=at_T44 HR0.out x5_1 p645 q645
        cases e645
        replace hx645_0:=(HB.out.cell (zl w _ hx645_0)).trans hx645_0;replace hx645_1:=(HB.out.cell (zl w _ hx645_1)).trans hx645_1;replace hx645_2:=(HB.out.cell (zl w _ hx645_2)).trans hx645_2;replace hx645_3:=(HB.out.cell (zl w _ hx645_3)).trans hx645_3;replace hx645_4:=(HB.out.cell (zl w _ hx645_4)).trans hx645_4;replace hx645_5:=(HB.out.cell (zl w _ hx645_5)).trans hx645_5;replace hx645_6:=(HB.out.cell (zl w _ hx645_6)).trans hx645_6;have HR645_2:=zh hi645_2;have HC645_2:=zh hl645_2;clear hi645_2 hl645_2;have HR645_3:=zh hi645_3;have HC645_3:=zh hl645_3;clear hi645_3 hl645_3;have HR645_6:=zh hi645_6;have HC645_6:=zh hl645_6;clear hi645_6 hl645_6;replace p645:=eq_true p645;replace q645:=eq_true q645;have p646 : 0≤(x5_1 : Int):=zy (by first|(with_reducible assumption)|assumption);have q646 : x5_1<(l0.length : Int):=zy (by first|(with_reducible assumption)|assumption);obtain ⟨ad646,A646_2,c646_2,A646_3,c646_3,A646_6,c646_6,e646,hx646_0,hx646_1,hx646_2,hx646_3,hx646_4,hx646_5,hx646_6,hl646_2,hi646_2,hl646_3,hi646_3,hl646_6,hi646_6⟩:=at_T44 HR0.out x5_1 p646 q646;obtain rfl : ad645=ad646:=(by injection e646);replace hx646_0:=(HB.out.cell (zl w _ hx646_0)).trans hx646_0;replace hx646_1:=(HB.out.cell (zl w _ hx646_1)).trans hx646_1;replace hx646_2:=(HB.out.cell (zl w _ hx646_2)).trans hx646_2;replace hx646_3:=(HB.out.cell (zl w _ hx646_3)).trans hx646_3;replace hx646_4:=(HB.out.cell (zl w _ hx646_4)).trans hx646_4;replace hx646_5:=(HB.out.cell (zl w _ hx646_5)).trans hx646_5;replace hx646_6:=(HB.out.cell (zl w _ hx646_6)).trans hx646_6;have HR646_2:=zh hi646_2;have HC646_2:=zh hl646_2;clear hi646_2 hl646_2;have HR646_3:=zh hi646_3;have HC646_3:=zh hl646_3;clear hi646_3 hl646_3;have HR646_6:=zh hi646_6;have HC646_6:=zh hl646_6;clear hi646_6 hl646_6;replace p646:=eq_true p646;replace q646:=eq_true q646;have ea_:=zU (hx645_2.symm.trans hx646_2);injection ea_ with ea_ en_ ec_;subst ea_;subst ec_;clear en_;have ea_:=zU (hx645_3.symm.trans hx646_3);injection ea_ with ea_ en_ ec_;subst ea_;subst ec_;clear en_;have ea_:=zU (hx645_6.symm.trans hx646_6);injection ea_ with ea_ en_ ec_;subst ea_;subst ec_;clear en_;have p647 : 0≤(x5_1 : Int):=zy (by first|(with_reducible assumption)|assumption);have q647 : x5_1<(l0.length : Int):=zy (by first|(with_reducible assumption)|assumption);obtain ⟨ad647,A647_2,c647_2,A647_3,c647_3,A647_6,c647_6,e647,hx647_0,hx647_1,hx647_2,hx647_3,hx647_4,hx647_5,hx647_6,hl647_2,hi647_2,hl647_3,hi647_3,hl647_6,hi647_6⟩:=at_T44 HR0.out x5_1 p647 q647;obtain rfl : ad645=ad647:=(by injection e647);replace hx647_0:=(HB.out.cell (zl w _ hx647_0)).trans hx647_0;replace hx647_1:=(HB.out.cell (zl w _ hx647_1)).trans hx647_1;replace hx647_2:=(HB.out.cell (zl w _ hx647_2)).trans hx647_2;replace hx647_3:=(HB.out.cell (zl w _ hx647_3)).trans hx647_3;replace hx647_4:=(HB.out.cell (zl w _ hx647_4)).trans hx647_4;replace hx647_5:=(HB.out.cell (zl w _ hx647_5)).trans hx647_5;replace hx647_6:=(HB.out.cell (zl w _ hx647_6)).trans hx647_6;have HR647_2:=zh hi647_2;have HC647_2:=zh hl647_2;clear hi647_2 hl647_2;have HR647_3:=zh hi647_3;have HC647_3:=zh hl647_3;clear hi647_3 hl647_3;have HR647_6:=zh hi647_6;have HC647_6:=zh hl647_6;clear hi647_6 hl647_6;replace p647:=eq_true p647;replace q647:=eq_true q647;have ea_:=zU (hx645_2.symm.trans hx647_2);injection ea_ with ea_ en_ ec_;subst ea_;subst ec_;clear en_;have ea_:=zU (hx645_3.symm.trans hx647_3);injection ea_ with ea_ en_ ec_;subst ea_;subst ec_;clear en_;have ea_:=zU (hx645_6.symm.trans hx647_6);injection ea_ with ea_ en_ ec_;subst ea_;subst ec_;clear en_
        go_wp2_with (first|((with_reducible refine zJ (f:=37) rfl ?_);refine yj (some 39) rfl rfl Tryz.func37 (by kernel_rfl) rfl #[.slice A645_2 ((rd_T44 l0 x5_1).f0.f2).length c645_2,.int .i64 (wrap64 ((wrap64 (x1_1 + 1)) + 1))] rfl (by (try simp only [zt,zu,zv]);first|done|rfl|(simp only [zw,zx];rfl)|(simp only [yr,ys,zV,zW];rfl)) ?_;(with_reducible refine (Fm.calls k1  _ _ ((rd_T44 l0 x5_1).f0.f2) (wrap64 ((wrap64 (x1_1 + 1)) + 1)) t648 _ ?side1 ?side2 A7.out).mono ?_);(case side1 => repeat (first|exact (Kd.C_below HR647_2.out HB.out)|(with_reducible refine Kd.C_alloc ?_ _)|(with_reducible refine Kd.C_drewN ?_ _)|(with_reducible refine Kd.C_drew ?_)));(case side2 => exact HC647_2.out);rintro e w12 ⟨rfl,hb⟩;refine ⟨_,rfl,?_⟩;replace HB:=zh (zC (by repeat (with_reducible first|exact HB.out|apply za|apply zb|apply zc)) hb);(try clear hb);(try clear hb2);(try clear hk);(try clear hi);have p649 : 0≤(x5_1 : Int):=zy (by first|(with_reducible assumption)|assumption);have q649 : x5_1<(l0.length : Int):=zy (by first|(with_reducible assumption)|assumption);obtain ⟨ad649,A649_2,c649_2,A649_3,c649_3,A649_6,c649_6,e649,hx649_0,hx649_1,hx649_2,hx649_3,hx649_4,hx649_5,hx649_6,hl649_2,hi649_2,hl649_3,hi649_3,hl649_6,hi649_6⟩:=at_T44 HR0.out x5_1 p649 q649;obtain rfl : ad645=ad649:=(by injection e649);replace hx649_0:=(HB.out.cell (zl w _ hx649_0)).trans hx649_0;replace hx649_1:=(HB.out.cell (zl w _ hx649_1)).trans hx649_1;replace hx649_2:=(HB.out.cell (zl w _ hx649_2)).trans hx649_2;replace hx649_3:=(HB.out.cell (zl w _ hx649_3)).trans hx649_3;replace hx649_4:=(HB.out.cell (zl w _ hx649_4)).trans hx649_4;replace hx649_5:=(HB.out.cell (zl w _ hx649_5)).trans hx649_5;replace hx649_6:=(HB.out.cell (zl w _ hx649_6)).trans hx649_6;have HR649_2:=zh hi649_2;have HC649_2:=zh hl649_2;clear hi649_2 hl649_2;have HR649_3:=zh hi649_3;have HC649_3:=zh hl649_3;clear hi649_3 hl649_3;have HR649_6:=zh hi649_6;have HC649_6:=zh hl649_6;clear hi649_6 hl649_6;replace p649:=eq_true p649;replace q649:=eq_true q649)|((with_reducible refine zJ (f:=38) rfl ?_);refine yj (some 49) rfl rfl Tryz.func38 (by kernel_rfl) rfl #[.slice A649_3 ((rd_T44 l0 x5_1).f0.f3).length c649_3,.int .i64 t648] rfl (by (try simp only [zt,zu,zv]);first|done|rfl|(simp only [zw,zx];rfl)|(simp only [yr,ys,zV,zW];rfl)) ?_;(with_reducible refine (Fl.calls k1  _ _ ((rd_T44 l0 x5_1).f0.f3) t648 t650 _ ?side1 ?side2 A10.out).mono ?_);(case side1 => repeat (first|exact (Kd.C_below HR649_3.out HB.out)|(with_reducible refine Kd.C_alloc ?_ _)|(with_reducible refine Kd.C_drewN ?_ _)|(with_reducible refine Kd.C_drew ?_)));(case side2 => exact HC649_3.out);rintro e w13 ⟨rfl,hb⟩;refine ⟨_,rfl,?_⟩;replace HB:=zh (zC (by repeat (with_reducible first|exact HB.out|apply za|apply zb|apply zc)) hb);(try clear hb);(try clear hb2);(try clear hk);(try clear hi)))
        go_ret
        exact ⟨by first|rfl|(simp [yt,yu] <;> rfl)|(simp [*,yt,yu] <;> rfl),by repeat (with_reducible first|exact HB.out|apply za|apply zb|apply zc)⟩
       rw [if_neg c11] at H;have c11b0 : decide (t650<0)=false:=decide_eq_false c11;clear c11
       by_cases c14 : (((rd_T44 l0 x5_1).f0.f4) != ((Int.tmod t650 3) == 0))=true
       ·
        rw [if_pos c14] at H
        have c14b0 : (((rd_T44 l0 x5_1).f0.f4) != ((Int.tmod t650 3) == 0))=true:=c14;(try (have c14b1 : decide (((rd_T44 l0 x5_1).f0.f4)=((Int.tmod t650 3) == 0))=false:=by simpa using c14));(try (have c14b2 : (((rd_T44 l0 x5_1).f0.f4) == ((Int.tmod t650 3) == 0))=false:=by simpa using c14));(try (have c14b3 : ¬ (((rd_T44 l0 x5_1).f0.f4)=((Int.tmod t650 3) == 0)):=by simpa using c14));clear c14;obtain rfl:=zU H;have p645 : 0≤(x5_1 : Int):=zy (by first|(with_reducible assumption)|assumption);have q645 : x5_1<(l0.length : Int):=zy (by first|(with_reducible assumption)|assumption);obtain ⟨ad645,A645_2,c645_2,A645_3,c645_3,A645_6,c645_6,e645,hx645_0,hx645_1,hx645_2,hx645_3,hx645_4,hx645_5,hx645_6,hl645_2,hi645_2,hl645_3,hi645_3,hl645_6,hi645_6⟩:=at_T44 HR0.out x5_1 p645 q645
        cases e645
        replace hx645_0:=(HB.out.cell (zl w _ hx645_0)).trans hx645_0;replace hx645_1:=(HB.out.cell (zl w _ hx645_1)).trans hx645_1;replace hx645_2:=(HB.out.cell (zl w _ hx645_2)).trans hx645_2;replace hx645_3:=(HB.out.cell (zl w _ hx645_3)).trans hx645_3;replace hx645_4:=(HB.out.cell (zl w _ hx645_4)).trans hx645_4;replace hx645_5:=(HB.out.cell (zl w _ hx645_5)).trans hx645_5;replace hx645_6:=(HB.out.cell (zl w _ hx645_6)).trans hx645_6;have HR645_2:=zh hi645_2;have HC645_2:=zh hl645_2;clear hi645_2 hl645_2;have HR645_3:=zh hi645_3;have HC645_3:=zh hl645_3;clear hi645_3 hl645_3;have HR645_6:=zh hi645_6;have HC645_6:=zh hl645_6;clear hi645_6 hl645_6;replace p645:=eq_true p645;replace q645:=eq_true q645;have p646 : 0≤(x5_1 : Int):=zy (by first|(with_reducible assumption)|assumption);have q646 : x5_1<(l0.length : Int):=zy (by first|(with_reducible assumption)|assumption);obtain ⟨ad646,A646_2,c646_2,A646_3,c646_3,A646_6,c646_6,e646,hx646_0,hx646_1,hx646_2,hx646_3,hx646_4,hx646_5,hx646_6,hl646_2,hi646_2,hl646_3,hi646_3,hl646_6,hi646_6⟩:=at_T44 HR0.out x5_1 p646 q646;obtain rfl : ad645=ad646:=(by injection e646);replace hx646_0:=(HB.out.cell (zl w _ hx646_0)).trans hx646_0;replace hx646_1:=(HB.out.cell (zl w _ hx646_1)).trans hx646_1;replace hx646_2:=(HB.out.cell (zl w _ hx646_2)).trans hx646_2;replace hx646_3:=(HB.out.cell (zl w _ hx646_3)).trans hx646_3;replace hx646_4:=(HB.out.cell (zl w _ hx646_4)).trans hx646_4;replace hx646_5:=(HB.out.cell (zl w _ hx646_5)).trans hx646_5;replace hx646_6:=(HB.out.cell (zl w _ hx646_6)).trans hx646_6;have HR646_2:=zh hi646_2;have HC646_2:=zh hl646_2;clear hi646_2 hl646_2;have HR646_3:=zh hi646_3;have HC646_3:=zh hl646_3;clear hi646_3 hl646_3;have HR646_6:=zh hi646_6;have HC646_6:=zh hl646_6;clear hi646_6 hl646_6;replace p646:=eq_true p646;replace q646:=eq_true q646;have ea_:=zU (hx645_2.symm.trans hx646_2);injection ea_ with ea_ en_ ec_;subst ea_;subst ec_;clear en_;have ea_:=zU (hx645_3.symm.trans hx646_3);injection ea_ with ea_ en_ ec_;subst ea_;subst ec_;clear en_;have ea_:=zU (hx645_6.symm.trans hx646_6);injection ea_ with ea_ en_ ec_;subst ea_;subst ec_;clear en_;have p647 : 0≤(x5_1 : Int):=zy (by first|(with_reducible assumption)|assumption);have q647 : x5_1<(l0.length : Int):=zy (by first|(with_reducible assumption)|assumption);obtain ⟨ad647,A647_2,c647_2,A647_3,c647_3,A647_6,c647_6,e647,hx647_0,hx647_1,hx647_2,hx647_3,hx647_4,hx647_5,hx647_6,hl647_2,hi647_2,hl647_3,hi647_3,hl647_6,hi647_6⟩:=at_T44 HR0.out x5_1 p647 q647;obtain rfl : ad645=ad647:=(by injection e647);replace hx647_0:=(HB.out.cell (zl w _ hx647_0)).trans hx647_0;replace hx647_1:=(HB.out.cell (zl w _ hx647_1)).trans hx647_1;replace hx647_2:=(HB.out.cell (zl w _ hx647_2)).trans hx647_2;replace hx647_3:=(HB.out.cell (zl w _ hx647_3)).trans hx647_3;replace hx647_4:=(HB.out.cell (zl w _ hx647_4)).trans hx647_4;replace hx647_5:=(HB.out.cell (zl w _ hx647_5)).trans hx647_5;replace hx647_6:=(HB.out.cell (zl w _ hx647_6)).trans hx647_6;have HR647_2:=zh hi647_2;have HC647_2:=zh hl647_2;clear hi647_2 hl647_2;have HR647_3:=zh hi647_3;have HC647_3:=zh hl647_3;clear hi647_3 hl647_3;have HR647_6:=zh hi647_6;have HC647_6:=zh hl647_6;clear hi647_6 hl647_6;replace p647:=eq_true p647;replace q647:=eq_true q647;have ea_:=zU (hx645_2.symm.trans hx647_2);injection ea_ with ea_ en_ ec_;subst ea_;subst ec_;clear en_;have ea_:=zU (hx645_3.symm.trans hx647_3);injection ea_ with ea_ en_ ec_;subst ea_;subst ec_;clear en_;have ea_:=zU (hx645_6.symm.trans hx647_6);injection ea_ with ea_ en_ ec_;subst ea_;subst ec_;clear en_
        go_wp2_with (first|((with_reducible refine zJ (f:=37) rfl ?_);refine yj (some 39) rfl rfl Tryz.func37 (by kernel_rfl) rfl #[.slice A645_2 ((rd_T44 l0 x5_1).f0.f2).length c645_2,.int .i64 (wrap64 ((wrap64 (x1_1 + 1)) + 1))] rfl (by (try simp only [zt,zu,zv]);first|done|rfl|(simp only [zw,zx];rfl)|(simp only [yr,ys,zV,zW];rfl)) ?_;(with_reducible refine (Fm.calls k1  _ _ ((rd_T44 l0 x5_1).f0.f2) (wrap64 ((wrap64 (x1_1 + 1)) + 1)) t648 _ ?side1 ?side2 A7.out).mono ?_);(case side1 => repeat (first|exact (Kd.C_below HR647_2.out HB.out)|(with_reducible refine Kd.C_alloc ?_ _)|(with_reducible refine Kd.C_drewN ?_ _)|(with_reducible refine Kd.C_drew ?_)));(case side2 => exact HC647_2.out);rintro e w15 ⟨rfl,hb⟩;refine ⟨_,rfl,?_⟩;replace HB:=zh (zC (by repeat (with_reducible first|exact HB.out|apply za|apply zb|apply zc)) hb);(try clear hb);(try clear hb2);(try clear hk);(try clear hi);have p649 : 0≤(x5_1 : Int):=zy (by first|(with_reducible assumption)|assumption);have q649 : x5_1<(l0.length : Int):=zy (by first|(with_reducible assumption)|assumption);obtain ⟨ad649,A649_2,c649_2,A649_3,c649_3,A649_6,c649_6,e649,hx649_0,hx649_1,hx649_2,hx649_3,hx649_4,hx649_5,hx649_6,hl649_2,hi649_2,hl649_3,hi649_3,hl649_6,hi649_6⟩:=at_T44 HR0.out x5_1 p649 q649;obtain rfl : ad645=ad649:=(by injection e649);replace hx649_0:=(HB.out.cell (zl w _ hx649_0)).trans hx649_0;replace hx649_1:=(HB.out.cell (zl w _ hx649_1)).trans hx649_1;replace hx649_2:=(HB.out.cell (zl w _ hx649_2)).trans hx649_2;replace hx649_3:=(HB.out.cell (zl w _ hx649_3)).trans hx649_3;replace hx649_4:=(HB.out.cell (zl w _ hx649_4)).trans hx649_4;replace hx649_5:=(HB.out.cell (zl w _ hx649_5)).trans hx649_5;replace hx649_6:=(HB.out.cell (zl w _ hx649_6)).trans hx649_6;have HR649_2:=zh hi649_2;have HC649_2:=zh hl649_2;clear hi649_2 hl649_2;have HR649_3:=zh hi649_3;have HC649_3:=zh hl649_3;clear hi649_3 hl649_3;have HR649_6:=zh hi649_6;have HC649_6:=zh hl649_6;clear hi649_6 hl649_6;replace p649:=eq_true p649;replace q649:=eq_true q649)|((with_reducible refine zJ (f:=38) rfl ?_);refine yj (some 49) rfl rfl Tryz.func38 (by kernel_rfl) rfl #[.slice A649_3 ((rd_T44 l0 x5_1).f0.f3).length c649_3,.int .i64 t648] rfl (by (try simp only [zt,zu,zv]);first|done|rfl|(simp only [zw,zx];rfl)|(simp only [yr,ys,zV,zW];rfl)) ?_;(with_reducible refine (Fl.calls k1  _ _ ((rd_T44 l0 x5_1).f0.f3) t648 t650 _ ?side1 ?side2 A10.out).mono ?_);(case side1 => repeat (first|exact (Kd.C_below HR649_3.out HB.out)|(with_reducible refine Kd.C_alloc ?_ _)|(with_reducible refine Kd.C_drewN ?_ _)|(with_reducible refine Kd.C_drew ?_)));(case side2 => exact HC649_3.out);rintro e w16 ⟨rfl,hb⟩;refine ⟨_,rfl,?_⟩;replace HB:=zh (zC (by repeat (with_reducible first|exact HB.out|apply za|apply zb|apply zc)) hb);(try clear hb);(try clear hb2);(try clear hk);(try clear hi);have p651 : 0≤(x5_1 : Int):=zy (by first|(with_reducible assumption)|assumption);have q651 : x5_1<(l0.length : Int):=zy (by first|(with_reducible assumption)|assumption);obtain ⟨ad651,A651_2,c651_2,A651_3,c651_3,A651_6,c651_6,e651,hx651_0,hx651_1,hx651_2,hx651_3,hx651_4,hx651_5,hx651_6,hl651_2,hi651_2,hl651_3,hi651_3,hl651_6,hi651_6⟩:=at_T44 HR0.out x5_1 p651 q651;obtain rfl : ad645=ad651:=(by injection e651);replace hx651_0:=(HB.out.cell (zl w _ hx651_0)).trans hx651_0;replace hx651_1:=(HB.out.cell (zl w _ hx651_1)).trans hx651_1;replace hx651_2:=(HB.out.cell (zl w _ hx651_2)).trans hx651_2;replace hx651_3:=(HB.out.cell (zl w _ hx651_3)).trans hx651_3;replace hx651_4:=(HB.out.cell (zl w _ hx651_4)).trans hx651_4;replace hx651_5:=(HB.out.cell (zl w _ hx651_5)).trans hx651_5;replace hx651_6:=(HB.out.cell (zl w _ hx651_6)).trans hx651_6;have HR651_2:=zh hi651_2;have HC651_2:=zh hl651_2;clear hi651_2 hl651_2;have HR651_3:=zh hi651_3;have HC651_3:=zh hl651_3;clear hi651_3 hl651_3;have HR651_6:=zh hi651_6;have HC651_6:=zh hl651_6;clear hi651_6 hl651_6;replace p651:=eq_true p651;replace q651:=eq_true q651))
        go_ret
        exact ⟨by first|rfl|(simp [yt,yu] <;> rfl)|(simp [*,yt,yu] <;> rfl),by repeat (with_reducible first|exact HB.out|apply za|apply zb|apply zc)⟩
       rw [if_neg c14] at H;have c14b0 : (((rd_T44 l0 x5_1).f0.f4) != ((Int.tmod t650 3) == 0))=false:=by simpa using c14
       (try (have c14b1 : decide (((rd_T44 l0 x5_1).f0.f4)=((Int.tmod t650 3) == 0))=true:=by simpa using c14));(try (have c14b2 : (((rd_T44 l0 x5_1).f0.f4) == ((Int.tmod t650 3) == 0))=true:=by simpa using c14));clear c14
       by_cases c17 : (((rd_T44 l0 x5_1).f0.f5) != ((Int.tmod (wrap64 (t650 + 1)) 3) == 0))=true
       ·
        rw [if_pos c17] at H
        have c17b0 : (((rd_T44 l0 x5_1).f0.f5) != ((Int.tmod (wrap64 (t650 + 1)) 3) == 0))=true:=c17;(try (have c17b1 : decide (((rd_T44 l0 x5_1).f0.f5)=((Int.tmod (wrap64 (t650 + 1)) 3) == 0))=false:=by simpa using c17));(try (have c17b2 : (((rd_T44 l0 x5_1).f0.f5) == ((Int.tmod (wrap64 (t650 + 1)) 3) == 0))=false:=by simpa using c17));(try (have c17b3 : ¬ (((rd_T44 l0 x5_1).f0.f5)=((Int.tmod (wrap64 (t650 + 1)) 3) == 0)):=by simpa using c17));clear c17;obtain rfl:=zU H;have p645 : 0≤(x5_1 : Int):=zy (by first|(with_reducible assumption)|assumption);have q645 : x5_1<(l0.length : Int):=zy (by first|(with_reducible assumption)|assumption);obtain ⟨ad645,A645_2,c645_2,A645_3,c645_3,A645_6,c645_6,e645,hx645_0,hx645_1,hx645_2,hx645_3,hx645_4,hx645_5,hx645_6,hl645_2,hi645_2,hl645_3,hi645_3,hl645_6,hi645_6⟩:=at_T44 HR0.out x5_1 p645 q645
        cases e645
        replace hx645_0:=(HB.out.cell (zl w _ hx645_0)).trans hx645_0;replace hx645_1:=(HB.out.cell (zl w _ hx645_1)).trans hx645_1;replace hx645_2:=(HB.out.cell (zl w _ hx645_2)).trans hx645_2;replace hx645_3:=(HB.out.cell (zl w _ hx645_3)).trans hx645_3;replace hx645_4:=(HB.out.cell (zl w _ hx645_4)).trans hx645_4;replace hx645_5:=(HB.out.cell (zl w _ hx645_5)).trans hx645_5;replace hx645_6:=(HB.out.cell (zl w _ hx645_6)).trans hx645_6;have HR645_2:=zh hi645_2;have HC645_2:=zh hl645_2;clear hi645_2 hl645_2;have HR645_3:=zh hi645_3;have HC645_3:=zh hl645_3;clear hi645_3 hl645_3;have HR645_6:=zh hi645_6;have HC645_6:=zh hl645_6;clear hi645_6 hl645_6;replace p645:=eq_true p645;replace q645:=eq_true q645;have p646 : 0≤(x5_1 : Int):=zy (by first|(with_reducible assumption)|assumption);have q646 : x5_1<(l0.length : Int):=zy (by first|(with_reducible assumption)|assumption);obtain ⟨ad646,A646_2,c646_2,A646_3,c646_3,A646_6,c646_6,e646,hx646_0,hx646_1,hx646_2,hx646_3,hx646_4,hx646_5,hx646_6,hl646_2,hi646_2,hl646_3,hi646_3,hl646_6,hi646_6⟩:=at_T44 HR0.out x5_1 p646 q646;obtain rfl : ad645=ad646:=(by injection e646);replace hx646_0:=(HB.out.cell (zl w _ hx646_0)).trans hx646_0;replace hx646_1:=(HB.out.cell (zl w _ hx646_1)).trans hx646_1;replace hx646_2:=(HB.out.cell (zl w _ hx646_2)).trans hx646_2;replace hx646_3:=(HB.out.cell (zl w _ hx646_3)).trans hx646_3;replace hx646_4:=(HB.out.cell (zl w _ hx646_4)).trans hx646_4;replace hx646_5:=(HB.out.cell (zl w _ hx646_5)).trans hx646_5;replace hx646_6:=(HB.out.cell (zl w _ hx646_6)).trans hx646_6;have HR646_2:=zh hi646_2;have HC646_2:=zh hl646_2;clear hi646_2 hl646_2;have HR646_3:=zh hi646_3;have HC646_3:=zh hl646_3;clear hi646_3 hl646_3;have HR646_6:=zh hi646_6;have HC646_6:=zh hl646_6;clear hi646_6 hl646_6;replace p646:=eq_true p646;replace q646:=eq_true q646;have ea_:=zU (hx645_2.symm.trans hx646_2);injection ea_ with ea_ en_ ec_;subst ea_;subst ec_;clear en_;have ea_:=zU (hx645_3.symm.trans hx646_3);injection ea_ with ea_ en_ ec_;subst ea_;subst ec_;clear en_;have ea_:=zU (hx645_6.symm.trans hx646_6);injection ea_ with ea_ en_ ec_;subst ea_;subst ec_;clear en_;have p647 : 0≤(x5_1 : Int):=zy (by first|(with_reducible assumption)|assumption);have q647 : x5_1<(l0.length : Int):=zy (by first|(with_reducible assumption)|assumption);obtain ⟨ad647,A647_2,c647_2,A647_3,c647_3,A647_6,c647_6,e647,hx647_0,hx647_1,hx647_2,hx647_3,hx647_4,hx647_5,hx647_6,hl647_2,hi647_2,hl647_3,hi647_3,hl647_6,hi647_6⟩:=at_T44 HR0.out x5_1 p647 q647;obtain rfl : ad645=ad647:=(by injection e647);replace hx647_0:=(HB.out.cell (zl w _ hx647_0)).trans hx647_0;replace hx647_1:=(HB.out.cell (zl w _ hx647_1)).trans hx647_1;replace hx647_2:=(HB.out.cell (zl w _ hx647_2)).trans hx647_2;replace hx647_3:=(HB.out.cell (zl w _ hx647_3)).trans hx647_3;replace hx647_4:=(HB.out.cell (zl w _ hx647_4)).trans hx647_4;replace hx647_5:=(HB.out.cell (zl w _ hx647_5)).trans hx647_5;replace hx647_6:=(HB.out.cell (zl w _ hx647_6)).trans hx647_6;have HR647_2:=zh hi647_2;have HC647_2:=zh hl647_2;clear hi647_2 hl647_2;have HR647_3:=zh hi647_3;have HC647_3:=zh hl647_3;clear hi647_3 hl647_3;have HR647_6:=zh hi647_6;have HC647_6:=zh hl647_6;clear hi647_6 hl647_6;replace p647:=eq_true p647;replace q647:=eq_true q647;have ea_:=zU (hx645_2.symm.trans hx647_2);injection ea_ with ea_ en_ ec_;subst ea_;subst ec_;clear en_;have ea_:=zU (hx645_3.symm.trans hx647_3);injection ea_ with ea_ en_ ec_;subst ea_;subst ec_;clear en_;have ea_:=zU (hx645_6.symm.trans hx647_6);injection ea_ with ea_ en_ ec_;subst ea_;subst ec_;clear en_
        go_wp2_with (first|((with_reducible refine zJ (f:=37) rfl ?_);refine yj (some 39) rfl rfl Tryz.func37 (by kernel_rfl) rfl #[.slice A645_2 ((rd_T44 l0 x5_1).f0.f2).length c645_2,.int .i64 (wrap64 ((wrap64 (x1_1 + 1)) + 1))] rfl (by (try simp only [zt,zu,zv]);first|done|rfl|(simp only [zw,zx];rfl)|(simp only [yr,ys,zV,zW];rfl)) ?_;(with_reducible refine (Fm.calls k1  _ _ ((rd_T44 l0 x5_1).f0.f2) (wrap64 ((wrap64 (x1_1 + 1)) + 1)) t648 _ ?side1 ?side2 A7.out).mono ?_);(case side1 => repeat (first|exact (Kd.C_below HR647_2.out HB.out)|(with_reducible refine Kd.C_alloc ?_ _)|(with_reducible refine Kd.C_drewN ?_ _)|(with_reducible refine Kd.C_drew ?_)));(case side2 => exact HC647_2.out);rintro e w18 ⟨rfl,hb⟩;refine ⟨_,rfl,?_⟩;replace HB:=zh (zC (by repeat (with_reducible first|exact HB.out|apply za|apply zb|apply zc)) hb);(try clear hb);(try clear hb2);(try clear hk);(try clear hi);have p649 : 0≤(x5_1 : Int):=zy (by first|(with_reducible assumption)|assumption);have q649 : x5_1<(l0.length : Int):=zy (by first|(with_reducible assumption)|assumption);obtain ⟨ad649,A649_2,c649_2,A649_3,c649_3,A649_6,c649_6,e649,hx649_0,hx649_1,hx649_2,hx649_3,hx649_4,hx649_5,hx649_6,hl649_2,hi649_2,hl649_3,hi649_3,hl649_6,hi649_6⟩:=at_T44 HR0.out x5_1 p649 q649;obtain rfl : ad645=ad649:=(by injection e649);replace hx649_0:=(HB.out.cell (zl w _ hx649_0)).trans hx649_0;replace hx649_1:=(HB.out.cell (zl w _ hx649_1)).trans hx649_1;replace hx649_2:=(HB.out.cell (zl w _ hx649_2)).trans hx649_2;replace hx649_3:=(HB.out.cell (zl w _ hx649_3)).trans hx649_3;replace hx649_4:=(HB.out.cell (zl w _ hx649_4)).trans hx649_4;replace hx649_5:=(HB.out.cell (zl w _ hx649_5)).trans hx649_5;replace hx649_6:=(HB.out.cell (zl w _ hx649_6)).trans hx649_6;have HR649_2:=zh hi649_2;have HC649_2:=zh hl649_2;clear hi649_2 hl649_2;have HR649_3:=zh hi649_3;have HC649_3:=zh hl649_3;clear hi649_3 hl649_3;have HR649_6:=zh hi649_6;have HC649_6:=zh hl649_6;clear hi649_6 hl649_6;replace p649:=eq_true p649;replace q649:=eq_true q649)|((with_reducible refine zJ (f:=38) rfl ?_);refine yj (some 49) rfl rfl Tryz.func38 (by kernel_rfl) rfl #[.slice A649_3 ((rd_T44 l0 x5_1).f0.f3).length c649_3,.int .i64 t648] rfl (by (try simp only [zt,zu,zv]);first|done|rfl|(simp only [zw,zx];rfl)|(simp only [yr,ys,zV,zW];rfl)) ?_;(with_reducible refine (Fl.calls k1  _ _ ((rd_T44 l0 x5_1).f0.f3) t648 t650 _ ?side1 ?side2 A10.out).mono ?_);(case side1 => repeat (first|exact (Kd.C_below HR649_3.out HB.out)|(with_reducible refine Kd.C_alloc ?_ _)|(with_reducible refine Kd.C_drewN ?_ _)|(with_reducible refine Kd.C_drew ?_)));(case side2 => exact HC649_3.out);rintro e w19 ⟨rfl,hb⟩;refine ⟨_,rfl,?_⟩;replace HB:=zh (zC (by repeat (with_reducible first|exact HB.out|apply za|apply zb|apply zc)) hb);(try clear hb);(try clear hb2);(try clear hk);(try clear hi);have p651 : 0≤(x5_1 : Int):=zy (by first|(with_reducible assumption)|assumption);have q651 : x5_1<(l0.length : Int):=zy (by first|(with_reducible assumption)|assumption);obtain ⟨ad651,A651_2,c651_2,A651_3,c651_3,A651_6,c651_6,e651,hx651_0,hx651_1,hx651_2,hx651_3,hx651_4,hx651_5,hx651_6,hl651_2,hi651_2,hl651_3,hi651_3,hl651_6,hi651_6⟩:=at_T44 HR0.out x5_1 p651 q651;obtain rfl : ad645=ad651:=(by injection e651);replace hx651_0:=(HB.out.cell (zl w _ hx651_0)).trans hx651_0;replace hx651_1:=(HB.out.cell (zl w _ hx651_1)).trans hx651_1;replace hx651_2:=(HB.out.cell (zl w _ hx651_2)).trans hx651_2;replace hx651_3:=(HB.out.cell (zl w _ hx651_3)).trans hx651_3;replace hx651_4:=(HB.out.cell (zl w _ hx651_4)).trans hx651_4;replace hx651_5:=(HB.out.cell (zl w _ hx651_5)).trans hx651_5;replace hx651_6:=(HB.out.cell (zl w _ hx651_6)).trans hx651_6;have HR651_2:=zh hi651_2;have HC651_2:=zh hl651_2;clear hi651_2 hl651_2;have HR651_3:=zh hi651_3;have HC651_3:=zh hl651_3;clear hi651_3 hl651_3;have HR651_6:=zh hi651_6;have HC651_6:=zh hl651_6;clear hi651_6 hl651_6;replace p651:=eq_true p651;replace q651:=eq_true q651;have p652 : 0≤(x5_1 : Int):=zy (by first|(with_reducible assumption)|assumption);have q652 : x5_1<(l0.length : Int):=zy (by first|(with_reducible assumption)|assumption);obtain ⟨ad652,A652_2,c652_2,A652_3,c652_3,A652_6,c652_6,e652,hx652_0,hx652_1,hx652_2,hx652_3,hx652_4,hx652_5,hx652_6,hl652_2,hi652_2,hl652_3,hi652_3,hl652_6,hi652_6⟩:=at_T44 HR0.out x5_1 p652 q652;obtain rfl : ad645=ad652:=(by injection e652);replace hx652_0:=(HB.out.cell (zl w _ hx652_0)).trans hx652_0;replace hx652_1:=(HB.out.cell (zl w _ hx652_1)).trans hx652_1;replace hx652_2:=(HB.out.cell (zl w _ hx652_2)).trans hx652_2;replace hx652_3:=(HB.out.cell (zl w _ hx652_3)).trans hx652_3;replace hx652_4:=(HB.out.cell (zl w _ hx652_4)).trans hx652_4;replace hx652_5:=(HB.out.cell (zl w _ hx652_5)).trans hx652_5;replace hx652_6:=(HB.out.cell (zl w _ hx652_6)).trans hx652_6;have HR652_2:=zh hi652_2;have HC652_2:=zh hl652_2;clear hi652_2 hl652_2;have HR652_3:=zh hi652_3;have HC652_3:=zh hl652_3;clear hi652_3 hl652_3;have HR652_6:=zh hi652_6;have HC652_6:=zh hl652_6;clear hi652_6 hl652_6;replace p652:=eq_true p652;replace q652:=eq_true q652;have ea_:=zU (hx651_2.symm.trans hx652_2);injection ea_ with ea_ en_ ec_;subst ea_;subst ec_;clear en_;have ea_:=zU (hx651_3.symm.trans hx652_3);injection ea_ with ea_ en_ ec_;subst ea_;subst ec_;clear en_;have ea_:=zU (hx651_6.symm.trans hx652_6);injection ea_ with ea_ en_ ec_;subst ea_;subst ec_;clear en_))
        go_ret
        exact ⟨by first|rfl|(simp [yt,yu] <;> rfl)|(simp [*,yt,yu] <;> rfl),by repeat (with_reducible first|exact HB.out|apply za|apply zb|apply zc)⟩
       rw [if_neg c17] at H;have c17b0 : (((rd_T44 l0 x5_1).f0.f5) != ((Int.tmod (wrap64 (t650 + 1)) 3) == 0))=false:=by simpa using c17
       (try (have c17b1 : decide (((rd_T44 l0 x5_1).f0.f5)=((Int.tmod (wrap64 (t650 + 1)) 3) == 0))=true:=by simpa using c17));(try (have c17b2 : (((rd_T44 l0 x5_1).f0.f5) == ((Int.tmod (wrap64 (t650 + 1)) 3) == 0))=true:=by simpa using c17));clear c17;replace H:=zT.mp H;obtain ⟨t654,A200,H⟩:=H;replace H : (if t654<0 then (some (-1)) else (Fb.l0 k1 l0 t654 (wrap64 (x5_1 + 1))))=some r:=H;have A20:=zh A200;clear A200
       by_cases c21 : t654<0
       ·
        rw [if_pos c21] at H
        have c21b0 : decide (t654<0)=true:=decide_eq_true c21;clear c21;obtain rfl:=zU H;have p645 : 0≤(x5_1 : Int):=zy (by first|(with_reducible assumption)|assumption);have q645 : x5_1<(l0.length : Int):=zy (by first|(with_reducible assumption)|assumption);obtain ⟨ad645,A645_2,c645_2,A645_3,c645_3,A645_6,c645_6,e645,hx645_0,hx645_1,hx645_2,hx645_3,hx645_4,hx645_5,hx645_6,hl645_2,hi645_2,hl645_3,hi645_3,hl645_6,hi645_6⟩:=at_T44 HR0.out x5_1 p645 q645
        cases e645
        replace hx645_0:=(HB.out.cell (zl w _ hx645_0)).trans hx645_0;replace hx645_1:=(HB.out.cell (zl w _ hx645_1)).trans hx645_1;replace hx645_2:=(HB.out.cell (zl w _ hx645_2)).trans hx645_2;replace hx645_3:=(HB.out.cell (zl w _ hx645_3)).trans hx645_3;replace hx645_4:=(HB.out.cell (zl w _ hx645_4)).trans hx645_4;replace hx645_5:=(HB.out.cell (zl w _ hx645_5)).trans hx645_5;replace hx645_6:=(HB.out.cell (zl w _ hx645_6)).trans hx645_6;have HR645_2:=zh hi645_2;have HC645_2:=zh hl645_2;clear hi645_2 hl645_2;have HR645_3:=zh hi645_3;have HC645_3:=zh hl645_3;clear hi645_3 hl645_3;have HR645_6:=zh hi645_6;have HC645_6:=zh hl645_6;clear hi645_6 hl645_6;replace p645:=eq_true p645;replace q645:=eq_true q645;have p646 : 0≤(x5_1 : Int):=zy (by first|(with_reducible assumption)|assumption);have q646 : x5_1<(l0.length : Int):=zy (by first|(with_reducible assumption)|assumption);obtain ⟨ad646,A646_2,c646_2,A646_3,c646_3,A646_6,c646_6,e646,hx646_0,hx646_1,hx646_2,hx646_3,hx646_4,hx646_5,hx646_6,hl646_2,hi646_2,hl646_3,hi646_3,hl646_6,hi646_6⟩:=at_T44 HR0.out x5_1 p646 q646;obtain rfl : ad645=ad646:=(by injection e646);replace hx646_0:=(HB.out.cell (zl w _ hx646_0)).trans hx646_0;replace hx646_1:=(HB.out.cell (zl w _ hx646_1)).trans hx646_1;replace hx646_2:=(HB.out.cell (zl w _ hx646_2)).trans hx646_2;replace hx646_3:=(HB.out.cell (zl w _ hx646_3)).trans hx646_3;replace hx646_4:=(HB.out.cell (zl w _ hx646_4)).trans hx646_4;replace hx646_5:=(HB.out.cell (zl w _ hx646_5)).trans hx646_5;replace hx646_6:=(HB.out.cell (zl w _ hx646_6)).trans hx646_6;have HR646_2:=zh hi646_2;have HC646_2:=zh hl646_2;clear hi646_2 hl646_2;have HR646_3:=zh hi646_3;have HC646_3:=zh hl646_3;clear hi646_3 hl646_3;have HR646_6:=zh hi646_6;have HC646_6:=zh hl646_6;clear hi646_6 hl646_6;replace p646:=eq_true p646;replace q646:=eq_true q646;have ea_:=zU (hx645_2.symm.trans hx646_2);injection ea_ with ea_ en_ ec_;subst ea_;subst ec_;clear en_;have ea_:=zU (hx645_3.symm.trans hx646_3);injection ea_ with ea_ en_ ec_;subst ea_;subst ec_;clear en_;have ea_:=zU (hx645_6.symm.trans hx646_6);injection ea_ with ea_ en_ ec_;subst ea_;subst ec_;clear en_;have p647 : 0≤(x5_1 : Int):=zy (by first|(with_reducible assumption)|assumption);have q647 : x5_1<(l0.length : Int):=zy (by first|(with_reducible assumption)|assumption);obtain ⟨ad647,A647_2,c647_2,A647_3,c647_3,A647_6,c647_6,e647,hx647_0,hx647_1,hx647_2,hx647_3,hx647_4,hx647_5,hx647_6,hl647_2,hi647_2,hl647_3,hi647_3,hl647_6,hi647_6⟩:=at_T44 HR0.out x5_1 p647 q647;obtain rfl : ad645=ad647:=(by injection e647);replace hx647_0:=(HB.out.cell (zl w _ hx647_0)).trans hx647_0;replace hx647_1:=(HB.out.cell (zl w _ hx647_1)).trans hx647_1;replace hx647_2:=(HB.out.cell (zl w _ hx647_2)).trans hx647_2;replace hx647_3:=(HB.out.cell (zl w _ hx647_3)).trans hx647_3;replace hx647_4:=(HB.out.cell (zl w _ hx647_4)).trans hx647_4;replace hx647_5:=(HB.out.cell (zl w _ hx647_5)).trans hx647_5;replace hx647_6:=(HB.out.cell (zl w _ hx647_6)).trans hx647_6;have HR647_2:=zh hi647_2;have HC647_2:=zh hl647_2;clear hi647_2 hl647_2;have HR647_3:=zh hi647_3;have HC647_3:=zh hl647_3;clear hi647_3 hl647_3;have HR647_6:=zh hi647_6;have HC647_6:=zh hl647_6;clear hi647_6 hl647_6;replace p647:=eq_true p647;replace q647:=eq_true q647;have ea_:=zU (hx645_2.symm.trans hx647_2);injection ea_ with ea_ en_ ec_;subst ea_;subst ec_;clear en_;have ea_:=zU (hx645_3.symm.trans hx647_3);injection ea_ with ea_ en_ ec_;subst ea_;subst ec_;clear en_;have ea_:=zU (hx645_6.symm.trans hx647_6);injection ea_ with ea_ en_ ec_;subst ea_;subst ec_;clear en_
        go_wp2_with (first|((with_reducible refine zJ (f:=37) rfl ?_);refine yj (some 39) rfl rfl Tryz.func37 (by kernel_rfl) rfl #[.slice A645_2 ((rd_T44 l0 x5_1).f0.f2).length c645_2,.int .i64 (wrap64 ((wrap64 (x1_1 + 1)) + 1))] rfl (by (try simp only [zt,zu,zv]);first|done|rfl|(simp only [zw,zx];rfl)|(simp only [yr,ys,zV,zW];rfl)) ?_;(with_reducible refine (Fm.calls k1  _ _ ((rd_T44 l0 x5_1).f0.f2) (wrap64 ((wrap64 (x1_1 + 1)) + 1)) t648 _ ?side1 ?side2 A7.out).mono ?_);(case side1 => repeat (first|exact (Kd.C_below HR647_2.out HB.out)|(with_reducible refine Kd.C_alloc ?_ _)|(with_reducible refine Kd.C_drewN ?_ _)|(with_reducible refine Kd.C_drew ?_)));(case side2 => exact HC647_2.out);rintro e w22 ⟨rfl,hb⟩;refine ⟨_,rfl,?_⟩;replace HB:=zh (zC (by repeat (with_reducible first|exact HB.out|apply za|apply zb|apply zc)) hb);(try clear hb);(try clear hb2);(try clear hk);(try clear hi);have p649 : 0≤(x5_1 : Int):=zy (by first|(with_reducible assumption)|assumption);have q649 : x5_1<(l0.length : Int):=zy (by first|(with_reducible assumption)|assumption);obtain ⟨ad649,A649_2,c649_2,A649_3,c649_3,A649_6,c649_6,e649,hx649_0,hx649_1,hx649_2,hx649_3,hx649_4,hx649_5,hx649_6,hl649_2,hi649_2,hl649_3,hi649_3,hl649_6,hi649_6⟩:=at_T44 HR0.out x5_1 p649 q649;obtain rfl : ad645=ad649:=(by injection e649);replace hx649_0:=(HB.out.cell (zl w _ hx649_0)).trans hx649_0;replace hx649_1:=(HB.out.cell (zl w _ hx649_1)).trans hx649_1;replace hx649_2:=(HB.out.cell (zl w _ hx649_2)).trans hx649_2;replace hx649_3:=(HB.out.cell (zl w _ hx649_3)).trans hx649_3;replace hx649_4:=(HB.out.cell (zl w _ hx649_4)).trans hx649_4;replace hx649_5:=(HB.out.cell (zl w _ hx649_5)).trans hx649_5;replace hx649_6:=(HB.out.cell (zl w _ hx649_6)).trans hx649_6;have HR649_2:=zh hi649_2;have HC649_2:=zh hl649_2;clear hi649_2 hl649_2;have HR649_3:=zh hi649_3;have HC649_3:=zh hl649_3;clear hi649_3 hl649_3;have HR649_6:=zh hi649_6;have HC649_6:=zh hl649_6;clear hi649_6 hl649_6;replace p649:=eq_true p649;replace q649:=eq_true q649)|((with_reducible refine zJ (f:=38) rfl ?_);refine yj (some 49) rfl rfl Tryz.func38 (by kernel_rfl) rfl #[.slice A649_3 ((rd_T44 l0 x5_1).f0.f3).length c649_3,.int .i64 t648] rfl (by (try simp only [zt,zu,zv]);first|done|rfl|(simp only [zw,zx];rfl)|(simp only [yr,ys,zV,zW];rfl)) ?_;(with_reducible refine (Fl.calls k1  _ _ ((rd_T44 l0 x5_1).f0.f3) t648 t650 _ ?side1 ?side2 A10.out).mono ?_);(case side1 => repeat (first|exact (Kd.C_below HR649_3.out HB.out)|(with_reducible refine Kd.C_alloc ?_ _)|(with_reducible refine Kd.C_drewN ?_ _)|(with_reducible refine Kd.C_drew ?_)));(case side2 => exact HC649_3.out);rintro e w23 ⟨rfl,hb⟩;refine ⟨_,rfl,?_⟩;replace HB:=zh (zC (by repeat (with_reducible first|exact HB.out|apply za|apply zb|apply zc)) hb);(try clear hb);(try clear hb2);(try clear hk);(try clear hi);have p651 : 0≤(x5_1 : Int):=zy (by first|(with_reducible assumption)|assumption);have q651 : x5_1<(l0.length : Int):=zy (by first|(with_reducible assumption)|assumption);obtain ⟨ad651,A651_2,c651_2,A651_3,c651_3,A651_6,c651_6,e651,hx651_0,hx651_1,hx651_2,hx651_3,hx651_4,hx651_5,hx651_6,hl651_2,hi651_2,hl651_3,hi651_3,hl651_6,hi651_6⟩:=at_T44 HR0.out x5_1 p651 q651;obtain rfl : ad645=ad651:=(by injection e651);replace hx651_0:=(HB.out.cell (zl w _ hx651_0)).trans hx651_0;replace hx651_1:=(HB.out.cell (zl w _ hx651_1)).trans hx651_1;replace hx651_2:=(HB.out.cell (zl w _ hx651_2)).trans hx651_2;replace hx651_3:=(HB.out.cell (zl w _ hx651_3)).trans hx651_3;replace hx651_4:=(HB.out.cell (zl w _ hx651_4)).trans hx651_4;replace hx651_5:=(HB.out.cell (zl w _ hx651_5)).trans hx651_5;replace hx651_6:=(HB.out.cell (zl w _ hx651_6)).trans hx651_6;have HR651_2:=zh hi651_2;have HC651_2:=zh hl651_2;clear hi651_2 hl651_2;have HR651_3:=zh hi651_3;have HC651_3:=zh hl651_3;clear hi651_3 hl651_3;have HR651_6:=zh hi651_6;have HC651_6:=zh hl651_6;clear hi651_6 hl651_6;replace p651:=eq_true p651;replace q651:=eq_true q651;have p652 : 0≤(x5_1 : Int):=zy (by first|(with_reducible assumption)|assumption);have q652 : x5_1<(l0.length : Int):=zy (by first|(with_reducible assumption)|assumption);obtain ⟨ad652,A652_2,c652_2,A652_3,c652_3,A652_6,c652_6,e652,hx652_0,hx652_1,hx652_2,hx652_3,hx652_4,hx652_5,hx652_6,hl652_2,hi652_2,hl652_3,hi652_3,hl652_6,hi652_6⟩:=at_T44 HR0.out x5_1 p652 q652;obtain rfl : ad645=ad652:=(by injection e652);replace hx652_0:=(HB.out.cell (zl w _ hx652_0)).trans hx652_0;replace hx652_1:=(HB.out.cell (zl w _ hx652_1)).trans hx652_1;replace hx652_2:=(HB.out.cell (zl w _ hx652_2)).trans hx652_2;replace hx652_3:=(HB.out.cell (zl w _ hx652_3)).trans hx652_3;replace hx652_4:=(HB.out.cell (zl w _ hx652_4)).trans hx652_4;replace hx652_5:=(HB.out.cell (zl w _ hx652_5)).trans hx652_5;replace hx652_6:=(HB.out.cell (zl w _ hx652_6)).trans hx652_6;have HR652_2:=zh hi652_2;have HC652_2:=zh hl652_2;clear hi652_2 hl652_2;have HR652_3:=zh hi652_3;have HC652_3:=zh hl652_3;clear hi652_3 hl652_3;have HR652_6:=zh hi652_6;have HC652_6:=zh hl652_6;clear hi652_6 hl652_6;replace p652:=eq_true p652;replace q652:=eq_true q652;have ea_:=zU (hx651_2.symm.trans hx652_2);injection ea_ with ea_ en_ ec_;subst ea_;subst ec_;clear en_;have ea_:=zU (hx651_3.symm.trans hx652_3);injection ea_ with ea_ en_ ec_;subst ea_;subst ec_;clear en_;have ea_:=zU (hx651_6.symm.trans hx652_6);injection ea_ with ea_ en_ ec_;subst ea_;subst ec_;clear en_;have p653 : 0≤(x5_1 : Int):=zy (by first|(with_reducible assumption)|assumption);have q653 : x5_1<(l0.length : Int):=zy (by first|(with_reducible assumption)|assumption);obtain ⟨ad653,A653_2,c653_2,A653_3,c653_3,A653_6,c653_6,e653,hx653_0,hx653_1,hx653_2,hx653_3,hx653_4,hx653_5,hx653_6,hl653_2,hi653_2,hl653_3,hi653_3,hl653_6,hi653_6⟩:=at_T44 HR0.out x5_1 p653 q653;obtain rfl : ad645=ad653:=(by injection e653);replace hx653_0:=(HB.out.cell (zl w _ hx653_0)).trans hx653_0;replace hx653_1:=(HB.out.cell (zl w _ hx653_1)).trans hx653_1;replace hx653_2:=(HB.out.cell (zl w _ hx653_2)).trans hx653_2;replace hx653_3:=(HB.out.cell (zl w _ hx653_3)).trans hx653_3;replace hx653_4:=(HB.out.cell (zl w _ hx653_4)).trans hx653_4;replace hx653_5:=(HB.out.cell (zl w _ hx653_5)).trans hx653_5;replace hx653_6:=(HB.out.cell (zl w _ hx653_6)).trans hx653_6;have HR653_2:=zh hi653_2;have HC653_2:=zh hl653_2;clear hi653_2 hl653_2;have HR653_3:=zh hi653_3;have HC653_3:=zh hl653_3;clear hi653_3 hl653_3;have HR653_6:=zh hi653_6;have HC653_6:=zh hl653_6;clear hi653_6 hl653_6;replace p653:=eq_true p653;replace q653:=eq_true q653;have ea_:=zU (hx651_2.symm.trans hx653_2);injection ea_ with ea_ en_ ec_;subst ea_;subst ec_;clear en_;have ea_:=zU (hx651_3.symm.trans hx653_3);injection ea_ with ea_ en_ ec_;subst ea_;subst ec_;clear en_;have ea_:=zU (hx651_6.symm.trans hx653_6);injection ea_ with ea_ en_ ec_;subst ea_;subst ec_;clear en_)|((with_reducible refine zJ (f:=39) rfl ?_);refine yj (some 82) rfl rfl Tryz.func39 (by kernel_rfl) rfl #[.slice A651_6 ((rd_T44 l0 x5_1).f1).length c651_6,.int .i64 (wrap64 ((wrap64 (t650 + 1)) + 1))] rfl (by (try simp only [zt,zu,zv]);first|done|rfl|(simp only [zw,zx];rfl)|(simp only [yr,ys,zV,zW];rfl)) ?_;(with_reducible refine (Fu.calls k1  _ _ ((rd_T44 l0 x5_1).f1) (wrap64 ((wrap64 (t650 + 1)) + 1)) t654 _ ?side1 ?side2 A20.out).mono ?_);(case side1 => repeat (first|exact (Kd.C_below HR653_6.out HB.out)|(with_reducible refine Kd.C_alloc ?_ _)|(with_reducible refine Kd.C_drewN ?_ _)|(with_reducible refine Kd.C_drew ?_)));(case side2 => exact HC653_6.out);rintro e w24 ⟨rfl,hb⟩;refine ⟨_,rfl,?_⟩;replace HB:=zh (zC (by repeat (with_reducible first|exact HB.out|apply za|apply zb|apply zc)) hb);(try clear hb);(try clear hb2);(try clear hk);(try clear hi)))
        go_ret
        exact ⟨by first|rfl|(simp [yt,yu] <;> rfl)|(simp [*,yt,yu] <;> rfl),by repeat (with_reducible first|exact HB.out|apply za|apply zb|apply zc)⟩
       rw [if_neg c21] at H;have c21b0 : decide (t654<0)=false:=decide_eq_false c21;clear c21;have H':=zh H;clear H;have p645 : 0≤(x5_1 : Int):=zy (by first|(with_reducible assumption)|assumption);have q645 : x5_1<(l0.length : Int):=zy (by first|(with_reducible assumption)|assumption);obtain ⟨ad645,A645_2,c645_2,A645_3,c645_3,A645_6,c645_6,e645,hx645_0,hx645_1,hx645_2,hx645_3,hx645_4,hx645_5,hx645_6,hl645_2,hi645_2,hl645_3,hi645_3,hl645_6,hi645_6⟩:=at_T44 HR0.out x5_1 p645 q645
       cases e645
       replace hx645_0:=(HB.out.cell (zl w _ hx645_0)).trans hx645_0;replace hx645_1:=(HB.out.cell (zl w _ hx645_1)).trans hx645_1;replace hx645_2:=(HB.out.cell (zl w _ hx645_2)).trans hx645_2;replace hx645_3:=(HB.out.cell (zl w _ hx645_3)).trans hx645_3;replace hx645_4:=(HB.out.cell (zl w _ hx645_4)).trans hx645_4;replace hx645_5:=(HB.out.cell (zl w _ hx645_5)).trans hx645_5;replace hx645_6:=(HB.out.cell (zl w _ hx645_6)).trans hx645_6;have HR645_2:=zh hi645_2;have HC645_2:=zh hl645_2;clear hi645_2 hl645_2;have HR645_3:=zh hi645_3;have HC645_3:=zh hl645_3;clear hi645_3 hl645_3;have HR645_6:=zh hi645_6;have HC645_6:=zh hl645_6;clear hi645_6 hl645_6;replace p645:=eq_true p645;replace q645:=eq_true q645;have p646 : 0≤(x5_1 : Int):=zy (by first|(with_reducible assumption)|assumption);have q646 : x5_1<(l0.length : Int):=zy (by first|(with_reducible assumption)|assumption);obtain ⟨ad646,A646_2,c646_2,A646_3,c646_3,A646_6,c646_6,e646,hx646_0,hx646_1,hx646_2,hx646_3,hx646_4,hx646_5,hx646_6,hl646_2,hi646_2,hl646_3,hi646_3,hl646_6,hi646_6⟩:=at_T44 HR0.out x5_1 p646 q646;obtain rfl : ad645=ad646:=(by injection e646);replace hx646_0:=(HB.out.cell (zl w _ hx646_0)).trans hx646_0;replace hx646_1:=(HB.out.cell (zl w _ hx646_1)).trans hx646_1;replace hx646_2:=(HB.out.cell (zl w _ hx646_2)).trans hx646_2;replace hx646_3:=(HB.out.cell (zl w _ hx646_3)).trans hx646_3;replace hx646_4:=(HB.out.cell (zl w _ hx646_4)).trans hx646_4;replace hx646_5:=(HB.out.cell (zl w _ hx646_5)).trans hx646_5;replace hx646_6:=(HB.out.cell (zl w _ hx646_6)).trans hx646_6;have HR646_2:=zh hi646_2;have HC646_2:=zh hl646_2;clear hi646_2 hl646_2;have HR646_3:=zh hi646_3;have HC646_3:=zh hl646_3;clear hi646_3 hl646_3;have HR646_6:=zh hi646_6;have HC646_6:=zh hl646_6;clear hi646_6 hl646_6;replace p646:=eq_true p646;replace q646:=eq_true q646;have ea_:=zU (hx645_2.symm.trans hx646_2);injection ea_ with ea_ en_ ec_;subst ea_;subst ec_;clear en_;have ea_:=zU (hx645_3.symm.trans hx646_3);injection ea_ with ea_ en_ ec_;subst ea_;subst ec_;clear en_;have ea_:=zU (hx645_6.symm.trans hx646_6);injection ea_ with ea_ en_ ec_;subst ea_;subst ec_;clear en_;have p647 : 0≤(x5_1 : Int):=zy (by first|(with_reducible assumption)|assumption);have q647 : x5_1<(l0.length : Int):=zy (by first|(with_reducible assumption)|assumption);obtain ⟨ad647,A647_2,c647_2,A647_3,c647_3,A647_6,c647_6,e647,hx647_0,hx647_1,hx647_2,hx647_3,hx647_4,hx647_5,hx647_6,hl647_2,hi647_2,hl647_3,hi647_3,hl647_6,hi647_6⟩:=at_T44 HR0.out x5_1 p647 q647;obtain rfl : ad645=ad647:=(by injection e647);replace hx647_0:=(HB.out.cell (zl w _ hx647_0)).trans hx647_0;replace hx647_1:=(HB.out.cell (zl w _ hx647_1)).trans hx647_1;replace hx647_2:=(HB.out.cell (zl w _ hx647_2)).trans hx647_2;replace hx647_3:=(HB.out.cell (zl w _ hx647_3)).trans hx647_3;replace hx647_4:=(HB.out.cell (zl w _ hx647_4)).trans hx647_4;replace hx647_5:=(HB.out.cell (zl w _ hx647_5)).trans hx647_5;replace hx647_6:=(HB.out.cell (zl w _ hx647_6)).trans hx647_6;have HR647_2:=zh hi647_2;have HC647_2:=zh hl647_2;clear hi647_2 hl647_2;have HR647_3:=zh hi647_3;have HC647_3:=zh hl647_3;clear hi647_3 hl647_3;have HR647_6:=zh hi647_6;have HC647_6:=zh hl647_6;clear hi647_6 hl647_6;replace p647:=eq_true p647;replace q647:=eq_true q647;have ea_:=zU (hx645_2.symm.trans hx647_2);injection ea_ with ea_ en_ ec_;subst ea_;subst ec_;clear en_;have ea_:=zU (hx645_3.symm.trans hx647_3);injection ea_ with ea_ en_ ec_;subst ea_;subst ec_;clear en_;have ea_:=zU (hx645_6.symm.trans hx647_6);injection ea_ with ea_ en_ ec_;subst ea_;subst ec_;clear en_
       go_wp2_with (first|((with_reducible refine zJ (f:=37) rfl ?_);refine yj (some 39) rfl rfl Tryz.func37 (by kernel_rfl) rfl #[.slice A645_2 ((rd_T44 l0 x5_1).f0.f2).length c645_2,.int .i64 (wrap64 ((wrap64 (x1_1 + 1)) + 1))] rfl (by (try simp only [zt,zu,zv]);first|done|rfl|(simp only [zw,zx];rfl)|(simp only [yr,ys,zV,zW];rfl)) ?_;(with_reducible refine (Fm.calls k1  _ _ ((rd_T44 l0 x5_1).f0.f2) (wrap64 ((wrap64 (x1_1 + 1)) + 1)) t648 _ ?side1 ?side2 A7.out).mono ?_);(case side1 => repeat (first|exact (Kd.C_below HR647_2.out HB.out)|(with_reducible refine Kd.C_alloc ?_ _)|(with_reducible refine Kd.C_drewN ?_ _)|(with_reducible refine Kd.C_drew ?_)));(case side2 => exact HC647_2.out);rintro e w25 ⟨rfl,hb⟩;refine ⟨_,rfl,?_⟩;replace HB:=zh (zC (by repeat (with_reducible first|exact HB.out|apply za|apply zb|apply zc)) hb);(try clear hb);(try clear hb2);(try clear hk);(try clear hi);have p649 : 0≤(x5_1 : Int):=zy (by first|(with_reducible assumption)|assumption);have q649 : x5_1<(l0.length : Int):=zy (by first|(with_reducible assumption)|assumption);obtain ⟨ad649,A649_2,c649_2,A649_3,c649_3,A649_6,c649_6,e649,hx649_0,hx649_1,hx649_2,hx649_3,hx649_4,hx649_5,hx649_6,hl649_2,hi649_2,hl649_3,hi649_3,hl649_6,hi649_6⟩:=at_T44 HR0.out x5_1 p649 q649;obtain rfl : ad645=ad649:=(by injection e649);replace hx649_0:=(HB.out.cell (zl w _ hx649_0)).trans hx649_0;replace hx649_1:=(HB.out.cell (zl w _ hx649_1)).trans hx649_1;replace hx649_2:=(HB.out.cell (zl w _ hx649_2)).trans hx649_2;replace hx649_3:=(HB.out.cell (zl w _ hx649_3)).trans hx649_3;replace hx649_4:=(HB.out.cell (zl w _ hx649_4)).trans hx649_4;replace hx649_5:=(HB.out.cell (zl w _ hx649_5)).trans hx649_5;replace hx649_6:=(HB.out.cell (zl w _ hx649_6)).trans hx649_6;have HR649_2:=zh hi649_2;have HC649_2:=zh hl649_2;clear hi649_2 hl649_2;have HR649_3:=zh hi649_3;have HC649_3:=zh hl649_3;clear hi649_3 hl649_3;have HR649_6:=zh hi649_6;have HC649_6:=zh hl649_6;clear hi649_6 hl649_6;replace p649:=eq_true p649;replace q649:=eq_true q649)|((with_reducible refine zJ (f:=38) rfl ?_);refine yj (some 49) rfl rfl Tryz.func38 (by kernel_rfl) rfl #[.slice A649_3 ((rd_T44 l0 x5_1).f0.f3).length c649_3,.int .i64 t648] rfl (by (try simp only [zt,zu,zv]);first|done|rfl|(simp only [zw,zx];rfl)|(simp only [yr,ys,zV,zW];rfl)) ?_;(with_reducible refine (Fl.calls k1  _ _ ((rd_T44 l0 x5_1).f0.f3) t648 t650 _ ?side1 ?side2 A10.out).mono ?_);(case side1 => repeat (first|exact (Kd.C_below HR649_3.out HB.out)|(with_reducible refine Kd.C_alloc ?_ _)|(with_reducible refine Kd.C_drewN ?_ _)|(with_reducible refine Kd.C_drew ?_)));(case side2 => exact HC649_3.out);rintro e w26 ⟨rfl,hb⟩;refine ⟨_,rfl,?_⟩;replace HB:=zh (zC (by repeat (with_reducible first|exact HB.out|apply za|apply zb|apply zc)) hb);(try clear hb);(try clear hb2);(try clear hk);(try clear hi);have p651 : 0≤(x5_1 : Int):=zy (by first|(with_reducible assumption)|assumption);have q651 : x5_1<(l0.length : Int):=zy (by first|(with_reducible assumption)|assumption);obtain ⟨ad651,A651_2,c651_2,A651_3,c651_3,A651_6,c651_6,e651,hx651_0,hx651_1,hx651_2,hx651_3,hx651_4,hx651_5,hx651_6,hl651_2,hi651_2,hl651_3,hi651_3,hl651_6,hi651_6⟩:=at_T44 HR0.out x5_1 p651 q651;obtain rfl : ad645=ad651:=(by injection e651);replace hx651_0:=(HB.out.cell (zl w _ hx651_0)).trans hx651_0;replace hx651_1:=(HB.out.cell (zl w _ hx651_1)).trans hx651_1;replace hx651_2:=(HB.out.cell (zl w _ hx651_2)).trans hx651_2;replace hx651_3:=(HB.out.cell (zl w _ hx651_3)).trans hx651_3;replace hx651_4:=(HB.out.cell (zl w _ hx651_4)).trans hx651_4;replace hx651_5:=(HB.out.cell (zl w _ hx651_5)).trans hx651_5;replace hx651_6:=(HB.out.cell (zl w _ hx651_6)).trans hx651_6;have HR651_2:=zh hi651_2;have HC651_2:=zh hl651_2;clear hi651_2 hl651_2;have HR651_3:=zh hi651_3;have HC651_3:=zh hl651_3;clear hi651_3 hl651_3;have HR651_6:=zh hi651_6;have HC651_6:=zh hl651_6;clear hi651_6 hl651_6;replace p651:=eq_true p651;replace q651:=eq_true q651;have p652 : 0≤(x5_1 : Int):=zy (by first|(with_reducible assumption)|assumption);have q652 : x5_1<(l0.length : Int):=zy (by first|(with_reducible assumption)|assumption);obtain ⟨ad652,A652_2,c652_2,A652_3,c652_3,A652_6,c652_6,e652,hx652_0,hx652_1,hx652_2,hx652_3,hx652_4,hx652_5,hx652_6,hl652_2,hi652_2,hl652_3,hi652_3,hl652_6,hi652_6⟩:=at_T44 HR0.out x5_1 p652 q652;obtain rfl : ad645=ad652:=(by injection e652);replace hx652_0:=(HB.out.cell (zl w _ hx652_0)).trans hx652_0;replace hx652_1:=(HB.out.cell (zl w _ hx652_1)).trans hx652_1;replace hx652_2:=(HB.out.cell (zl w _ hx652_2)).trans hx652_2;replace hx652_3:=(HB.out.cell (zl w _ hx652_3)).trans hx652_3;replace hx652_4:=(HB.out.cell (zl w _ hx652_4)).trans hx652_4;replace hx652_5:=(HB.out.cell (zl w _ hx652_5)).trans hx652_5;replace hx652_6:=(HB.out.cell (zl w _ hx652_6)).trans hx652_6;have HR652_2:=zh hi652_2;have HC652_2:=zh hl652_2;clear hi652_2 hl652_2;have HR652_3:=zh hi652_3;have HC652_3:=zh hl652_3;clear hi652_3 hl652_3;have HR652_6:=zh hi652_6;have HC652_6:=zh hl652_6;clear hi652_6 hl652_6;replace p652:=eq_true p652;replace q652:=eq_true q652;have ea_:=zU (hx651_2.symm.trans hx652_2);injection ea_ with ea_ en_ ec_;subst ea_;subst ec_;clear en_;have ea_:=zU (hx651_3.symm.trans hx652_3);injection ea_ with ea_ en_ ec_;subst ea_;subst ec_;clear en_;have ea_:=zU (hx651_6.symm.trans hx652_6);injection ea_ with ea_ en_ ec_;subst ea_;subst ec_;clear en_;have p653 : 0≤(x5_1 : Int):=zy (by first|(with_reducible assumption)|assumption);have q653 : x5_1<(l0.length : Int):=zy (by first|(with_reducible assumption)|assumption);obtain ⟨ad653,A653_2,c653_2,A653_3,c653_3,A653_6,c653_6,e653,hx653_0,hx653_1,hx653_2,hx653_3,hx653_4,hx653_5,hx653_6,hl653_2,hi653_2,hl653_3,hi653_3,hl653_6,hi653_6⟩:=at_T44 HR0.out x5_1 p653 q653;obtain rfl : ad645=ad653:=(by injection e653);replace hx653_0:=(HB.out.cell (zl w _ hx653_0)).trans hx653_0;replace hx653_1:=(HB.out.cell (zl w _ hx653_1)).trans hx653_1;replace hx653_2:=(HB.out.cell (zl w _ hx653_2)).trans hx653_2;replace hx653_3:=(HB.out.cell (zl w _ hx653_3)).trans hx653_3;replace hx653_4:=(HB.out.cell (zl w _ hx653_4)).trans hx653_4;replace hx653_5:=(HB.out.cell (zl w _ hx653_5)).trans hx653_5;replace hx653_6:=(HB.out.cell (zl w _ hx653_6)).trans hx653_6;have HR653_2:=zh hi653_2;have HC653_2:=zh hl653_2;clear hi653_2 hl653_2;have HR653_3:=zh hi653_3;have HC653_3:=zh hl653_3;clear hi653_3 hl653_3;have HR653_6:=zh hi653_6;have HC653_6:=zh hl653_6;clear hi653_6 hl653_6;replace p653:=eq_true p653;replace q653:=eq_true q653;have ea_:=zU (hx651_2.symm.trans hx653_2);injection ea_ with ea_ en_ ec_;subst ea_;subst ec_;clear en_;have ea_:=zU (hx651_3.symm.trans hx653_3);injection ea_ with ea_ en_ ec_;subst ea_;subst ec_;clear en_;have ea_:=zU (hx651_6.symm.trans hx653_6);injection ea_ with ea_ en_ ec_;subst ea_;subst ec_;clear en_)|((with_reducible refine zJ (f:=39) rfl ?_);refine yj (some 82) rfl rfl Tryz.func39 (by kernel_rfl) rfl #[.slice A651_6 ((rd_T44 l0 x5_1).f1).length c651_6,.int .i64 (wrap64 ((wrap64 (t650 + 1)) + 1))] rfl (by (try simp only [zt,zu,zv]);first|done|rfl|(simp only [zw,zx];rfl)|(simp only [yr,ys,zV,zW];rfl)) ?_;(with_reducible refine (Fu.calls k1  _ _ ((rd_T44 l0 x5_1).f1) (wrap64 ((wrap64 (t650 + 1)) + 1)) t654 _ ?side1 ?side2 A20.out).mono ?_);(case side1 => repeat (first|exact (Kd.C_below HR653_6.out HB.out)|(with_reducible refine Kd.C_alloc ?_ _)|(with_reducible refine Kd.C_drewN ?_ _)|(with_reducible refine Kd.C_drew ?_)));(case side2 => exact HC653_6.out);rintro e w27 ⟨rfl,hb⟩;refine ⟨_,rfl,?_⟩;replace HB:=zh (zC (by repeat (with_reducible first|exact HB.out|apply za|apply zb|apply zc)) hb);(try clear hb);(try clear hb2);(try clear hk);(try clear hi)))
       go_roundg k1
       case measure => have:=HK1.out;omega
       case rel => exact ⟨(t654),(wrap64 (x5_1 + 1)),(by first|rfl|(simp;done)|(simp [*];done)),(by first|rfl|(simp;done)|(simp [*];done)),H',⟨by have:=HK1.out;omega⟩,⟨by repeat (with_reducible first|exact HB.out|apply za|apply zb|apply zc)⟩⟩
      rw [if_neg c6] at H;have c6b0 : (((rd_T44 l0 x5_1).f0.f1) == (wrap64 (x1_1 + 1)))=false:=zY.mpr c6;have c6b1 : (((rd_T44 l0 x5_1).f0.f1) != (wrap64 (x1_1 + 1)))=true:=zZ.mpr c6;obtain rfl:=zU H;have p645 : 0≤(x5_1 : Int):=zy (by first|(with_reducible assumption)|assumption);have q645 : x5_1<(l0.length : Int):=zy (by first|(with_reducible assumption)|assumption);obtain ⟨ad645,A645_2,c645_2,A645_3,c645_3,A645_6,c645_6,e645,hx645_0,hx645_1,hx645_2,hx645_3,hx645_4,hx645_5,hx645_6,hl645_2,hi645_2,hl645_3,hi645_3,hl645_6,hi645_6⟩:=at_T44 HR0.out x5_1 p645 q645
      cases e645
      replace hx645_0:=(HB.out.cell (zl w _ hx645_0)).trans hx645_0;replace hx645_1:=(HB.out.cell (zl w _ hx645_1)).trans hx645_1;replace hx645_2:=(HB.out.cell (zl w _ hx645_2)).trans hx645_2;replace hx645_3:=(HB.out.cell (zl w _ hx645_3)).trans hx645_3;replace hx645_4:=(HB.out.cell (zl w _ hx645_4)).trans hx645_4;replace hx645_5:=(HB.out.cell (zl w _ hx645_5)).trans hx645_5;replace hx645_6:=(HB.out.cell (zl w _ hx645_6)).trans hx645_6;have HR645_2:=zh hi645_2;have HC645_2:=zh hl645_2;clear hi645_2 hl645_2;have HR645_3:=zh hi645_3;have HC645_3:=zh hl645_3;clear hi645_3 hl645_3;have HR645_6:=zh hi645_6;have HC645_6:=zh hl645_6;clear hi645_6 hl645_6;replace p645:=eq_true p645;replace q645:=eq_true q645;have p646 : 0≤(x5_1 : Int):=zy (by first|(with_reducible assumption)|assumption);have q646 : x5_1<(l0.length : Int):=zy (by first|(with_reducible assumption)|assumption);obtain ⟨ad646,A646_2,c646_2,A646_3,c646_3,A646_6,c646_6,e646,hx646_0,hx646_1,hx646_2,hx646_3,hx646_4,hx646_5,hx646_6,hl646_2,hi646_2,hl646_3,hi646_3,hl646_6,hi646_6⟩:=at_T44 HR0.out x5_1 p646 q646;obtain rfl : ad645=ad646:=(by injection e646);replace hx646_0:=(HB.out.cell (zl w _ hx646_0)).trans hx646_0;replace hx646_1:=(HB.out.cell (zl w _ hx646_1)).trans hx646_1;replace hx646_2:=(HB.out.cell (zl w _ hx646_2)).trans hx646_2;replace hx646_3:=(HB.out.cell (zl w _ hx646_3)).trans hx646_3;replace hx646_4:=(HB.out.cell (zl w _ hx646_4)).trans hx646_4;replace hx646_5:=(HB.out.cell (zl w _ hx646_5)).trans hx646_5;replace hx646_6:=(HB.out.cell (zl w _ hx646_6)).trans hx646_6;have HR646_2:=zh hi646_2;have HC646_2:=zh hl646_2;clear hi646_2 hl646_2;have HR646_3:=zh hi646_3;have HC646_3:=zh hl646_3;clear hi646_3 hl646_3;have HR646_6:=zh hi646_6;have HC646_6:=zh hl646_6;clear hi646_6 hl646_6;replace p646:=eq_true p646;replace q646:=eq_true q646;have ea_:=zU (hx645_2.symm.trans hx646_2);injection ea_ with ea_ en_ ec_;subst ea_;subst ec_;clear en_;have ea_:=zU (hx645_3.symm.trans hx646_3);injection ea_ with ea_ en_ ec_;subst ea_;subst ec_;clear en_;have ea_:=zU (hx645_6.symm.trans hx646_6);injection ea_ with ea_ en_ ec_;subst ea_;subst ec_;clear en_
      go_wp2
      go_ret
      exact ⟨by first|rfl|(simp [yt,yu] <;> rfl)|(simp [*,yt,yu] <;> rfl),by repeat (with_reducible first|exact HB.out|apply za|apply zb|apply zc)⟩
     rw [if_neg c5] at H;have c5b0 : (((rd_T44 l0 x5_1).f0.f0) == x1_1)=false:=zY.mpr c5;have c5b1 : (((rd_T44 l0 x5_1).f0.f0) != x1_1)=true:=zZ.mpr c5;obtain rfl:=zU H;have p645 : 0≤(x5_1 : Int):=zy (by first|(with_reducible assumption)|assumption);have q645 : x5_1<(l0.length : Int):=zy (by first|(with_reducible assumption)|assumption);obtain ⟨ad645,A645_2,c645_2,A645_3,c645_3,A645_6,c645_6,e645,hx645_0,hx645_1,hx645_2,hx645_3,hx645_4,hx645_5,hx645_6,hl645_2,hi645_2,hl645_3,hi645_3,hl645_6,hi645_6⟩:=at_T44 HR0.out x5_1 p645 q645
     cases e645
     replace hx645_0:=(HB.out.cell (zl w _ hx645_0)).trans hx645_0;replace hx645_1:=(HB.out.cell (zl w _ hx645_1)).trans hx645_1;replace hx645_2:=(HB.out.cell (zl w _ hx645_2)).trans hx645_2;replace hx645_3:=(HB.out.cell (zl w _ hx645_3)).trans hx645_3;replace hx645_4:=(HB.out.cell (zl w _ hx645_4)).trans hx645_4;replace hx645_5:=(HB.out.cell (zl w _ hx645_5)).trans hx645_5;replace hx645_6:=(HB.out.cell (zl w _ hx645_6)).trans hx645_6;have HR645_2:=zh hi645_2;have HC645_2:=zh hl645_2;clear hi645_2 hl645_2;have HR645_3:=zh hi645_3;have HC645_3:=zh hl645_3;clear hi645_3 hl645_3;have HR645_6:=zh hi645_6;have HC645_6:=zh hl645_6;clear hi645_6 hl645_6;replace p645:=eq_true p645;replace q645:=eq_true q645
     go_wp2
     go_ret
     exact ⟨by first|rfl|(simp [yt,yu] <;> rfl)|(simp [*,yt,yu] <;> rfl),by repeat (with_reducible first|exact HB.out|apply za|apply zb|apply zc)⟩
    rw [if_neg c4] at H;exact absurd H (by simp)
   rw [if_neg c3] at H;have c3b0 : decide (x5_1<(l0.length : Int))=false:=decide_eq_false c3;clear c3;obtain rfl:=zU H
   go_wp2
   go_ret
   exact ⟨by first|rfl|(simp [yt,yu] <;> rfl)|(simp [*,yt,yu] <;> rfl),by repeat (with_reducible first|exact HB.out|apply za|apply zb|apply zc)⟩


def F0c.f (k : Nat) (l0_0 : List (S54)) (l0_1 : List (S71)) (l0_2 : List (S41)) (a0_3 : Int) (l0_4 : List (S44)) (l0_5 : List (S44)) (a1 : Int) : Option (Int):=(F05.f k l0_0 l0_1 l0_2 a0_3 a1).bind fun t656 => (if t656<0 then (some (-1)) else ((Fb.f k l0_4 t656).bind fun t657 => (if t657<0 then (some (-1)) else ((Fb.f k l0_5 t657).bind fun t658 => (if t658<0 then (some (-1)) else (some t658))))))
theorem F0c.mono : ∀ a0 a1 a2 a3 a4 a5 a6 k,LeO (F0c.f k a0 a1 a2 a3 a4 a5 a6) (F0c.f (k + 1) a0 a1 a2 a3 a4 a5 a6):=by
 intro a0 a1 a2 a3 a4 a5 a6 k;unfold F0c.f
 repeat' first|(with_reducible first|exact F05.mono _ _ _ _ _ _|exact Fb.mono _ _ _|exact zQ _|exact zN _|refine zP ?_ ?_|refine zO ?_ (fun _ => ?_))|refine zP ?_ ?_|refine zO ?_ (fun _ => ?_)
set_option maxHeartbeats 8000000 in
set_option maxRecDepth 100000 in
theorem F0c.calls (k : Nat) (A0_0 : Option Addr) (c0_0 : Nat) (l0_0 : List (S54)) (A0_1 : Option Addr) (c0_1 : Nat) (l0_1 : List (S71)) (A0_2 : Option Addr) (c0_2 : Nat) (l0_2 : List (S41)) (a0_3 : Int) (A0_4 : Option Addr) (c0_4 : Nat) (l0_4 : List (S44)) (A0_5 : Option Addr) (c0_5 : Nat) (l0_5 : List (S44)) (a1 : Int) (r : Int) (w : World) (hr0_0 : Kd.C k54 w A0_0 l0_0.length l0_0) (hc0_0 : l0_0.length≤c0_0) (hr0_1 : Kd.C k71 w A0_1 l0_1.length l0_1) (hc0_1 : l0_1.length≤c0_1) (hr0_2 : Kd.C k41 w A0_2 l0_2.length l0_2) (hc0_2 : l0_2.length≤c0_2) (hr0_4 : Kd.C k44 w A0_4 l0_4.length l0_4) (hc0_4 : l0_4.length≤c0_4) (hr0_5 : Kd.C k44 w A0_5 l0_5.length l0_5) (hc0_5 : l0_5.length≤c0_5) (h : F0c.f k l0_0 l0_1 l0_2 a0_3 l0_4 l0_5 a1=some r) :
  Calls Tryz.prog 8 #[.agg #[.slice A0_0 l0_0.length c0_0,.slice A0_1 l0_1.length c0_1,.slice A0_2 l0_2.length c0_2,.int .i64 a0_3,.slice A0_4 l0_4.length c0_4,.slice A0_5 l0_5.length c0_5],.int .i64 a1] w fun e w' => e = .returned (.int .i64 r)∧Below w.heap.size w w':=by
 have hu29:=Tryz.underlying29;have hu26:=Tryz.underlying26;have HR0_0:=zh hr0_0;have HC0_0:=zh hc0_0;clear hr0_0 hc0_0;have HR0_1:=zh hr0_1;have HC0_1:=zh hc0_1;clear hr0_1 hc0_1;have HR0_2:=zh hr0_2;have HC0_2:=zh hc0_2;clear hr0_2 hc0_2;have HR0_4:=zh hr0_4;have HC0_4:=zh hc0_4;clear hr0_4 hc0_4;have HR0_5:=zh hr0_5;have HC0_5:=zh hc0_5;clear hr0_5 hc0_5;have HB:=zh (Below.refl w.heap.size w);have H : ((F05.f k l0_0 l0_1 l0_2 a0_3 a1).bind fun t656 => (if t656<0 then (some (-1)) else ((Fb.f k l0_4 t656).bind fun t657 => (if t657<0 then (some (-1)) else ((Fb.f k l0_5 t657).bind fun t658 => (if t658<0 then (some (-1)) else (some t658)))))))=some r:=h;clear h;replace H:=zT.mp H;obtain ⟨t656,A30,H⟩:=H;replace H : (if t656<0 then (some (-1)) else ((Fb.f k l0_4 t656).bind fun t657 => (if t657<0 then (some (-1)) else ((Fb.f k l0_5 t657).bind fun t658 => (if t658<0 then (some (-1)) else (some t658))))))=some r:=H;have A3:=zh A30;clear A30
 by_cases c4 : t656<0
 ·
  rw [if_pos c4] at H
  have c4b0 : decide (t656<0)=true:=decide_eq_true c4;clear c4;obtain rfl:=zU H
  go_enter Tryz.func8,Tryz.ntmps8
  go_wp2_with (first|((with_reducible refine zK (N:=2) rfl ?_);refine zI ?hg (N:=2) ?hd (cs:=#[.slice A0_0 l0_0.length c0_0,.slice A0_1 l0_1.length c0_1,.slice A0_2 l0_2.length c0_2,.int .i64 a0_3,.slice A0_4 l0_4.length c0_4,.slice A0_5 l0_5.length c0_5]) (t:=29) ?hr ?_;(case hd|hg => rfl);(case hr => go_simp <;> rfl);intro gb655 hg w5 hbox hb;have BK655:=zh (hbox);have hH_:=cH (by repeat (with_reducible first|exact HB.out|apply za|apply zb|apply zc)) hb hg;have GW655:=zh hH_.1;have GE655:=GW655;replace HB:=zh hH_.2;clear hb hbox hg hH_;obtain ⟨hcz6_0,hcz6_1,hcz6_2,hcz6_3,hcz6_4,hcz6_5,hfz6_0,hfz6_1,hfz6_2,hfz6_3,hfz6_4,hfz6_5⟩:=cB6 BK655.out)|((with_reducible refine zJ (f:=17) rfl ?_);refine yj (some 8) rfl rfl Tryz.func17 (by kernel_rfl) rfl #[.agg #[.slice A0_0 l0_0.length c0_0,.slice A0_1 l0_1.length c0_1,.slice A0_2 l0_2.length c0_2,.int .i64 a0_3],.int .i64 a1] rfl (by (try simp only [zt,zu,zv]);first|done|rfl|(simp only [zw,zx];rfl)|(simp only [yr,ys,zV,zW];rfl)) ?_;(with_reducible refine (F05.calls k  _ _ l0_0 _ _ l0_1 _ _ l0_2 a0_3 a1 t656 _ ?side1 ?side2 ?side3 ?side4 ?side5 ?side6 A3.out).mono ?_);(case side1 => repeat (first|exact (Kd.C_below HR0_0.out HB.out)|(with_reducible refine Kd.C_alloc ?_ _)|(with_reducible refine Kd.C_drewN ?_ _)|(with_reducible refine Kd.C_drew ?_)));(case side2 => exact HC0_0.out);(case side3 => repeat (first|exact (Kd.C_below HR0_1.out HB.out)|(with_reducible refine Kd.C_alloc ?_ _)|(with_reducible refine Kd.C_drewN ?_ _)|(with_reducible refine Kd.C_drew ?_)));(case side4 => exact HC0_1.out);(case side5 => repeat (first|exact (Kd.C_below HR0_2.out HB.out)|(with_reducible refine Kd.C_alloc ?_ _)|(with_reducible refine Kd.C_drewN ?_ _)|(with_reducible refine Kd.C_drew ?_)));(case side6 => exact HC0_2.out);rintro e w7 ⟨rfl,hb⟩;refine ⟨_,rfl,?_⟩;replace BK655:=zh (cD BK655.out (by (with_reducible repeat first|apply ze|apply zf|apply zg);exact BK655.out) hb);replace HB:=zh (zC (by repeat (with_reducible first|exact HB.out|apply za|apply zb|apply zc|refine zd ?_ GE655.out)) hb);(try clear hb);(try clear hb2);(try clear hk);(try clear hi)))
  go_ret
  exact ⟨by first|rfl|(simp [yt,yu] <;> rfl)|(simp [*,yt,yu] <;> rfl),by repeat (with_reducible first|exact HB.out|apply za|apply zb|apply zc|refine zd ?_ GE655.out)⟩
 rw [if_neg c4] at H;have c4b0 : decide (t656<0)=false:=decide_eq_false c4;clear c4;replace H:=zT.mp H;obtain ⟨t657,A80,H⟩:=H;replace H : (if t657<0 then (some (-1)) else ((Fb.f k l0_5 t657).bind fun t658 => (if t658<0 then (some (-1)) else (some t658))))=some r:=H;have A8:=zh A80;clear A80
 by_cases c9 : t657<0
 ·
  rw [if_pos c9] at H
  have c9b0 : decide (t657<0)=true:=decide_eq_true c9;clear c9;obtain rfl:=zU H
  go_enter Tryz.func8,Tryz.ntmps8
  go_wp2_with (first|((with_reducible refine zK (N:=2) rfl ?_);refine zI ?hg (N:=2) ?hd (cs:=#[.slice A0_0 l0_0.length c0_0,.slice A0_1 l0_1.length c0_1,.slice A0_2 l0_2.length c0_2,.int .i64 a0_3,.slice A0_4 l0_4.length c0_4,.slice A0_5 l0_5.length c0_5]) (t:=29) ?hr ?_;(case hd|hg => rfl);(case hr => go_simp <;> rfl);intro gb655 hg w10 hbox hb;have BK655:=zh (hbox);have hH_:=cH (by repeat (with_reducible first|exact HB.out|apply za|apply zb|apply zc)) hb hg;have GW655:=zh hH_.1;have GE655:=GW655;replace HB:=zh hH_.2;clear hb hbox hg hH_;obtain ⟨hcz11_0,hcz11_1,hcz11_2,hcz11_3,hcz11_4,hcz11_5,hfz11_0,hfz11_1,hfz11_2,hfz11_3,hfz11_4,hfz11_5⟩:=cB6 BK655.out)|((with_reducible refine zJ (f:=17) rfl ?_);refine yj (some 8) rfl rfl Tryz.func17 (by kernel_rfl) rfl #[.agg #[.slice A0_0 l0_0.length c0_0,.slice A0_1 l0_1.length c0_1,.slice A0_2 l0_2.length c0_2,.int .i64 a0_3],.int .i64 a1] rfl (by (try simp only [zt,zu,zv]);first|done|rfl|(simp only [zw,zx];rfl)|(simp only [yr,ys,zV,zW];rfl)) ?_;(with_reducible refine (F05.calls k  _ _ l0_0 _ _ l0_1 _ _ l0_2 a0_3 a1 t656 _ ?side1 ?side2 ?side3 ?side4 ?side5 ?side6 A3.out).mono ?_);(case side1 => repeat (first|exact (Kd.C_below HR0_0.out HB.out)|(with_reducible refine Kd.C_alloc ?_ _)|(with_reducible refine Kd.C_drewN ?_ _)|(with_reducible refine Kd.C_drew ?_)));(case side2 => exact HC0_0.out);(case side3 => repeat (first|exact (Kd.C_below HR0_1.out HB.out)|(with_reducible refine Kd.C_alloc ?_ _)|(with_reducible refine Kd.C_drewN ?_ _)|(with_reducible refine Kd.C_drew ?_)));(case side4 => exact HC0_1.out);(case side5 => repeat (first|exact (Kd.C_below HR0_2.out HB.out)|(with_reducible refine Kd.C_alloc ?_ _)|(with_reducible refine Kd.C_drewN ?_ _)|(with_reducible refine Kd.C_drew ?_)));(case side6 => exact HC0_2.out);rintro e w12 ⟨rfl,hb⟩;refine ⟨_,rfl,?_⟩;replace BK655:=zh (cD BK655.out (by (with_reducible repeat first|apply ze|apply zf|apply zg);exact BK655.out) hb);replace HB:=zh (zC (by repeat (with_reducible first|exact HB.out|apply za|apply zb|apply zc|refine zd ?_ GE655.out)) hb);(try clear hb);(try clear hb2);(try clear hk);(try clear hi);obtain ⟨hcz13_0,hcz13_1,hcz13_2,hcz13_3,hcz13_4,hcz13_5,hfz13_0,hfz13_1,hfz13_2,hfz13_3,hfz13_4,hfz13_5⟩:=cB6 BK655.out)|((with_reducible refine zJ (f:=18) rfl ?_);refine yj (some 14) rfl rfl Tryz.func18 (by kernel_rfl) rfl #[.slice A0_4 l0_4.length c0_4,.int .i64 t656] rfl (by (try simp only [zt,zu,zv]);first|done|rfl|(simp only [zw,zx];rfl)|(simp only [yr,ys,zV,zW];rfl)) ?_;(with_reducible refine (Fb.calls k  _ _ l0_4 t656 t657 _ ?side1 ?side2 A8.out).mono ?_);(case side1 => repeat (first|exact (Kd.C_below HR0_4.out HB.out)|(with_reducible refine Kd.C_alloc ?_ _)|(with_reducible refine Kd.C_drewN ?_ _)|(with_reducible refine Kd.C_drew ?_)));(case side2 => exact HC0_4.out);rintro e w14 ⟨rfl,hb⟩;refine ⟨_,rfl,?_⟩;replace BK655:=zh (cD BK655.out (by (with_reducible repeat first|apply ze|apply zf|apply zg);exact BK655.out) hb);replace HB:=zh (zC (by repeat (with_reducible first|exact HB.out|apply za|apply zb|apply zc|refine zd ?_ GE655.out)) hb);(try clear hb);(try clear hb2);(try clear hk);(try clear hi)))
  go_ret
  exact ⟨by first|rfl|(simp [yt,yu] <;> rfl)|(simp [*,yt,yu] <;> rfl),by repeat (with_reducible first|exact HB.out|apply za|apply zb|apply zc|refine zd ?_ GE655.out)⟩
 rw [if_neg c9] at H;have c9b0 : decide (t657<0)=false:=decide_eq_false c9;clear c9;replace H:=zT.mp H;obtain ⟨t658,A150,H⟩:=H;replace H : (if t658<0 then (some (-1)) else (some t658))=some r:=H;have A15:=zh A150;clear A150
 by_cases c16 : t658<0
 ·
  rw [if_pos c16] at H
  have c16b0 : decide (t658<0)=true:=decide_eq_true c16;clear c16;obtain rfl:=zU H
  go_enter Tryz.func8,Tryz.ntmps8
  go_wp2_with (first|((with_reducible refine zK (N:=2) rfl ?_);refine zI ?hg (N:=2) ?hd (cs:=#[.slice A0_0 l0_0.length c0_0,.slice A0_1 l0_1.length c0_1,.slice A0_2 l0_2.length c0_2,.int .i64 a0_3,.slice A0_4 l0_4.length c0_4,.slice A0_5 l0_5.length c0_5]) (t:=29) ?hr ?_;(case hd|hg => rfl);(case hr => go_simp <;> rfl);intro gb655 hg w17 hbox hb;have BK655:=zh (hbox);have hH_:=cH (by repeat (with_reducible first|exact HB.out|apply za|apply zb|apply zc)) hb hg;have GW655:=zh hH_.1;have GE655:=GW655;replace HB:=zh hH_.2;clear hb hbox hg hH_;obtain ⟨hcz18_0,hcz18_1,hcz18_2,hcz18_3,hcz18_4,hcz18_5,hfz18_0,hfz18_1,hfz18_2,hfz18_3,hfz18_4,hfz18_5⟩:=cB6 BK655.out)|((with_reducible refine zJ (f:=17) rfl ?_);refine yj (some 8) rfl rfl Tryz.func17 (by kernel_rfl) rfl #[.agg #[.slice A0_0 l0_0.length c0_0,.slice A0_1 l0_1.length c0_1,.slice A0_2 l0_2.length c0_2,.int .i64 a0_3],.int .i64 a1] rfl (by (try simp only [zt,zu,zv]);first|done|rfl|(simp only [zw,zx];rfl)|(simp only [yr,ys,zV,zW];rfl)) ?_;(with_reducible refine (F05.calls k  _ _ l0_0 _ _ l0_1 _ _ l0_2 a0_3 a1 t656 _ ?side1 ?side2 ?side3 ?side4 ?side5 ?side6 A3.out).mono ?_);(case side1 => repeat (first|exact (Kd.C_below HR0_0.out HB.out)|(with_reducible refine Kd.C_alloc ?_ _)|(with_reducible refine Kd.C_drewN ?_ _)|(with_reducible refine Kd.C_drew ?_)));(case side2 => exact HC0_0.out);(case side3 => repeat (first|exact (Kd.C_below HR0_1.out HB.out)|(with_reducible refine Kd.C_alloc ?_ _)|(with_reducible refine Kd.C_drewN ?_ _)|(with_reducible refine Kd.C_drew ?_)));(case side4 => exact HC0_1.out);(case side5 => repeat (first|exact (Kd.C_below HR0_2.out HB.out)|(with_reducible refine Kd.C_alloc ?_ _)|(with_reducible refine Kd.C_drewN ?_ _)|(with_reducible refine Kd.C_drew ?_)));(case side6 => exact HC0_2.out);rintro e w19 ⟨rfl,hb⟩;refine ⟨_,rfl,?_⟩;replace BK655:=zh (cD BK655.out (by (with_reducible repeat first|apply ze|apply zf|apply zg);exact BK655.out) hb);replace HB:=zh (zC (by repeat (with_reducible first|exact HB.out|apply za|apply zb|apply zc|refine zd ?_ GE655.out)) hb);(try clear hb);(try clear hb2);(try clear hk);(try clear hi);obtain ⟨hcz20_0,hcz20_1,hcz20_2,hcz20_3,hcz20_4,hcz20_5,hfz20_0,hfz20_1,hfz20_2,hfz20_3,hfz20_4,hfz20_5⟩:=cB6 BK655.out)|((with_reducible refine zJ (f:=18) rfl ?_);refine yj (some 14) rfl rfl Tryz.func18 (by kernel_rfl) rfl #[.slice A0_4 l0_4.length c0_4,.int .i64 t656] rfl (by (try simp only [zt,zu,zv]);first|done|rfl|(simp only [zw,zx];rfl)|(simp only [yr,ys,zV,zW];rfl)) ?_;(with_reducible refine (Fb.calls k  _ _ l0_4 t656 t657 _ ?side1 ?side2 A8.out).mono ?_);(case side1 => repeat (first|exact (Kd.C_below HR0_4.out HB.out)|(with_reducible refine Kd.C_alloc ?_ _)|(with_reducible refine Kd.C_drewN ?_ _)|(with_reducible refine Kd.C_drew ?_)));(case side2 => exact HC0_4.out);rintro e w21 ⟨rfl,hb⟩;refine ⟨_,rfl,?_⟩;replace BK655:=zh (cD BK655.out (by (with_reducible repeat first|apply ze|apply zf|apply zg);exact BK655.out) hb);replace HB:=zh (zC (by repeat (with_reducible first|exact HB.out|apply za|apply zb|apply zc|refine zd ?_ GE655.out)) hb);(try clear hb);(try clear hb2);(try clear hk);(try clear hi);obtain ⟨hcz22_0,hcz22_1,hcz22_2,hcz22_3,hcz22_4,hcz22_5,hfz22_0,hfz22_1,hfz22_2,hfz22_3,hfz22_4,hfz22_5⟩:=cB6 BK655.out)|((with_reducible refine zJ (f:=18) rfl ?_);refine yj (some 20) rfl rfl Tryz.func18 (by kernel_rfl) rfl #[.slice A0_5 l0_5.length c0_5,.int .i64 t657] rfl (by (try simp only [zt,zu,zv]);first|done|rfl|(simp only [zw,zx];rfl)|(simp only [yr,ys,zV,zW];rfl)) ?_;(with_reducible refine (Fb.calls k  _ _ l0_5 t657 t658 _ ?side1 ?side2 A15.out).mono ?_);(case side1 => repeat (first|exact (Kd.C_below HR0_5.out HB.out)|(with_reducible refine Kd.C_alloc ?_ _)|(with_reducible refine Kd.C_drewN ?_ _)|(with_reducible refine Kd.C_drew ?_)));(case side2 => exact HC0_5.out);rintro e w23 ⟨rfl,hb⟩;refine ⟨_,rfl,?_⟩;replace BK655:=zh (cD BK655.out (by (with_reducible repeat first|apply ze|apply zf|apply zg);exact BK655.out) hb);replace HB:=zh (zC (by repeat (with_reducible first|exact HB.out|apply za|apply zb|apply zc|refine zd ?_ GE655.out)) hb);(try clear hb);(try clear hb2);(try clear hk);(try clear hi)))
  go_ret
  exact ⟨by first|rfl|(simp [yt,yu] <;> rfl)|(simp [*,yt,yu] <;> rfl),by repeat (with_reducible first|exact HB.out|apply za|apply zb|apply zc|refine zd ?_ GE655.out)⟩
 rw [if_neg c16] at H;have c16b0 : decide (t658<0)=false:=decide_eq_false c16;clear c16;obtain rfl:=zU H
 go_enter Tryz.func8,Tryz.ntmps8
 go_wp2_with (first|((with_reducible refine zK (N:=2) rfl ?_);refine zI ?hg (N:=2) ?hd (cs:=#[.slice A0_0 l0_0.length c0_0,.slice A0_1 l0_1.length c0_1,.slice A0_2 l0_2.length c0_2,.int .i64 a0_3,.slice A0_4 l0_4.length c0_4,.slice A0_5 l0_5.length c0_5]) (t:=29) ?hr ?_;(case hd|hg => rfl);(case hr => go_simp <;> rfl);intro gb655 hg w24 hbox hb;have BK655:=zh (hbox);have hH_:=cH (by repeat (with_reducible first|exact HB.out|apply za|apply zb|apply zc)) hb hg;have GW655:=zh hH_.1;have GE655:=GW655;replace HB:=zh hH_.2;clear hb hbox hg hH_;obtain ⟨hcz25_0,hcz25_1,hcz25_2,hcz25_3,hcz25_4,hcz25_5,hfz25_0,hfz25_1,hfz25_2,hfz25_3,hfz25_4,hfz25_5⟩:=cB6 BK655.out)|((with_reducible refine zJ (f:=17) rfl ?_);refine yj (some 8) rfl rfl Tryz.func17 (by kernel_rfl) rfl #[.agg #[.slice A0_0 l0_0.length c0_0,.slice A0_1 l0_1.length c0_1,.slice A0_2 l0_2.length c0_2,.int .i64 a0_3],.int .i64 a1] rfl (by (try simp only [zt,zu,zv]);first|done|rfl|(simp only [zw,zx];rfl)|(simp only [yr,ys,zV,zW];rfl)) ?_;(with_reducible refine (F05.calls k  _ _ l0_0 _ _ l0_1 _ _ l0_2 a0_3 a1 t656 _ ?side1 ?side2 ?side3 ?side4 ?side5 ?side6 A3.out).mono ?_);(case side1 => repeat (first|exact (Kd.C_below HR0_0.out HB.out)|(with_reducible refine Kd.C_alloc ?_ _)|(with_reducible refine Kd.C_drewN ?_ _)|(with_reducible refine Kd.C_drew ?_)));(case side2 => exact HC0_0.out);(case side3 => repeat (first|exact (Kd.C_below HR0_1.out HB.out)|(with_reducible refine Kd.C_alloc ?_ _)|(with_reducible refine Kd.C_drewN ?_ _)|(with_reducible refine Kd.C_drew ?_)));(case side4 => exact HC0_1.out);(case side5 => repeat (first|exact (Kd.C_below HR0_2.out HB.out)|(with_reducible refine Kd.C_alloc ?_ _)|(with_reducible refine Kd.C_drewN ?_ _)|(with_reducible refine Kd.C_drew ?_)));(case side6 => exact HC0_2.out);rintro e w26 ⟨rfl,hb⟩;refine ⟨_,rfl,?_⟩;replace BK655:=zh (cD BK655.out (by (with_reducible repeat first|apply ze|apply zf|apply zg);exact BK655.out) hb);replace HB:=zh (zC (by repeat (with_reducible first|exact HB.out|apply za|apply zb|apply zc|refine zd ?_ GE655.out)) hb);(try clear hb);(try clear hb2);(try clear hk);(try clear hi);obtain ⟨hcz27_0,hcz27_1,hcz27_2,hcz27_3,hcz27_4,hcz27_5,hfz27_0,hfz27_1,hfz27_2,hfz27_3,hfz27_4,hfz27_5⟩:=cB6 BK655.out)|((with_reducible refine zJ (f:=18) rfl ?_);refine yj (some 14) rfl rfl Tryz.func18 (by kernel_rfl) rfl #[.slice A0_4 l0_4.length c0_4,.int .i64 t656] rfl (by (try simp only [zt,zu,zv]);first|done|rfl|(simp only [zw,zx];rfl)|(simp only [yr,ys,zV,zW];rfl)) ?_;(with_reducible refine (Fb.calls k  _ _ l0_4 t656 t657 _ ?side1 ?side2 A8.out).mono ?_);(case side1 => repeat (first|exact (Kd.C_below HR0_4.out HB.out)|(with_reducible refine Kd.C_alloc ?_ _)|(with_reducible refine Kd.C_drewN ?_ _)|(with_reducible refine Kd.C_drew ?_)));(case side2 => exact HC0_4.out);rintro e w28 ⟨rfl,hb⟩;refine ⟨_,rfl,?_⟩;replace BK655:=zh (cD BK655.out (by (with_reducible repeat first|apply ze|apply zf|apply zg);exact BK655.out) hb);replace HB:=zh (zC (by repeat (with_reducible first|exact HB.out|apply za|apply zb|apply zc|refine zd ?_ GE655.out)) hb);(try clear hb);(try clear hb2);(try clear hk);(try clear hi);obtain ⟨hcz29_0,hcz29_1,hcz29_2,hcz29_3,hcz29_4,hcz29_5,hfz29_0,hfz29_1,hfz29_2,hfz29_3,hfz29_4,hfz29_5⟩:=cB6 BK655.out)|((with_reducible refine zJ (f:=18) rfl ?_);refine yj (some 20) rfl rfl Tryz.func18 (by kernel_rfl) rfl #[.slice A0_5 l0_5.length c0_5,.int .i64 t657] rfl (by (try simp only [zt,zu,zv]);first|done|rfl|(simp only [zw,zx];rfl)|(simp only [yr,ys,zV,zW];rfl)) ?_;(with_reducible refine (Fb.calls k  _ _ l0_5 t657 t658 _ ?side1 ?side2 A15.out).mono ?_);(case side1 => repeat (first|exact (Kd.C_below HR0_5.out HB.out)|(with_reducible refine Kd.C_alloc ?_ _)|(with_reducible refine Kd.C_drewN ?_ _)|(with_reducible refine Kd.C_drew ?_)));(case side2 => exact HC0_5.out);rintro e w30 ⟨rfl,hb⟩;refine ⟨_,rfl,?_⟩;replace BK655:=zh (cD BK655.out (by (with_reducible repeat first|apply ze|apply zf|apply zg);exact BK655.out) hb);replace HB:=zh (zC (by repeat (with_reducible first|exact HB.out|apply za|apply zb|apply zc|refine zd ?_ GE655.out)) hb);(try clear hb);(try clear hb2);(try clear hk);(try clear hi)))
 go_ret
 exact ⟨by first|rfl|(simp [yt,yu] <;> rfl)|(simp [*,yt,yu] <;> rfl),by repeat (with_reducible first|exact HB.out|apply za|apply zb|apply zc|refine zd ?_ GE655.out)⟩

end Go.Proofs.YtceggklknggfdaaGreat.Q
end
section
namespace Go.Proofs.YtceggklknggfdaaGreat.Q
open Go.RowKit Go.Proofs.YtceggklknggfdaaGreatW.PrintWords Go.Proofs.YtceggklknggfdaaGreatW.PrintLast Go.Proofs.YtceggklknggfdaaGreatW.PrintMore
set_option linter.unusedVariables false
set_option linter.unusedSimpArgs false
theorem C_empty {α : Type} (d : Kd α) (w : World) (A : Option Addr) : d.C w A ([] : List α).length []:=⟨rfl,by simp,fun h => absurd h (by simp)⟩
theorem R_refine {α : Type} {d : Kd α} {e : Nat} {w : World} {base : Nat} {ok ok' : Nat→Prop} {v : Value} {xs : List α} (h : d.R e w base ok v xs) (hown : ∀ k,v.ownBlock=some k→ok' k)
  (hM : ∀ x ∈ xs,∀ cs,d.M w base (fun k => ok k∧some k≠v.ownBlock) x cs→d.M w base (fun k => ok' k∧some k≠v.ownBlock) x cs) : d.R e w base ok' v xs:=by
 obtain ⟨_,inner,ho,hr⟩:=h
 exact ⟨hown,inner,ho,hr.1,fun j q hj => hM q (List.mem_of_getElem? hj) _ (hr.2 j q hj)⟩
def Ty (w : World) (l : List Nat) (k : Nat) : Prop:=k<w.heap.size ∧ ∃ q,q ∈ l ∧ ∃ cells,w.heap[k]? = some (.cells cells q (0,0))
theorem Ty.apart {w : World} {l l' : List Nat} {k : Nat} (h : Ty w l k) (h' : Ty w l' k) (hd : ∀ q,q ∈ l → ¬ q ∈ l') : False:=by
 obtain ⟨_,q,hq,cs,hc⟩:=h
 obtain ⟨_,q',hq',cs',hc'⟩:=h'
 rw [hc] at hc'
 injection hc' with hc'
 injection hc' with _ hc'
 subst hc'
 exact hd q hq hq'
theorem own_ty {α : Type} {d : Kd α} {e : Nat} {w : World} {base : Nat} {ok : Nat→Prop} {v : Value} {xs : List α} {l : List Nat} (h : d.R e w base ok v xs) (he : e ∈ l) : ∀ k,v.ownBlock=some k→Ty w l k:=fun k hk => by
 obtain ⟨_,inner,ho,_⟩:=h
 exact ⟨own_lt ho k hk,e,he,own_typed ho k hk⟩
theorem nil_ty {α : Type} {d : Kd α} {e : Nat} {w : World} {base : Nat} {ok : Nat→Prop} {v : Value} {l : List Nat} (h : d.R e w base ok v []) (he : e ∈ l) : d.R e w base (fun k => ok k∧Ty w l k) v [] :=
 R_refine h (fun k hk => ⟨h.1 k hk,own_ty h he k hk⟩) (fun x hx => by simp at hx)
theorem nil_own {α : Type} {d : Kd α} {e : Nat} {w : World} {base : Nat} {ok : Nat→Prop} {v : Value} {l : List Nat} (h : d.R e w base ok v []) (he : e ∈ l) : d.R e w base (fun k => some k=v.ownBlock∧Ty w l k) v [] :=
 R_refine h (fun k hk => ⟨hk.symm,own_ty h he k hk⟩) (fun x hx => by simp at hx)
theorem ty54 {w : World} {base : Nat} {ok : Nat→Prop} {v : Value} {xs : List S54} (h : k54.R 54 w base ok v xs) (hx : ∀ x ∈ xs,x.f1=[]∧x.f2=[]) : k54.R 54 w base (fun k => ok k∧Ty w [54,116,84] k) v xs :=
 R_refine h (fun k hk => ⟨h.1 k hk,own_ty h (by simp) k hk⟩) (fun x hx' cs hM => by
  obtain ⟨v1,v2,rfl,g1,g2⟩:=k54_openM hM
  have m1 : k116.R 116 w base (fun k => (ok k∧Ty w [54,116,84] k)∧some k≠v.ownBlock) v1 x.f1:=by
   rw [(hx x hx').1] at g1 ⊢
   exact Kd.R_mono (nil_ty g1 (by simp)) (fun k hk => ⟨⟨hk.1.1,hk.2⟩,hk.1.2⟩)
  have m2 : k84.R 84 w base (fun k => (ok k∧Ty w [54,116,84] k)∧some k≠v.ownBlock) v2 x.f2:=by
   rw [(hx x hx').2] at g2 ⊢
   exact Kd.R_mono (nil_ty g2 (by simp)) (fun k hk => ⟨⟨hk.1.1,hk.2⟩,hk.1.2⟩)
  exact k54_mkM _ _ _ x m1 m2)
theorem ty44 {w : World} {base : Nat} {ok : Nat→Prop} {v : Value} {xs : List S44} (h : k44.R 44 w base ok v xs) (hx : ∀ x ∈ xs,x.f0.f2=[]∧x.f0.f3=[]∧x.f1=[]) : k44.R 44 w base (fun k => ok k∧Ty w [44,104,109,91] k) v xs :=
 R_refine h (fun k hk => ⟨h.1 k hk,own_ty h (by simp) k hk⟩) (fun x hx' cs hM => by
  obtain ⟨v2,v3,v6,rfl,g2,g3,g6⟩:=k44_openM hM
  have m2 : k104.R 104 w base (fun k => (ok k∧Ty w [44,104,109,91] k)∧some k≠v.ownBlock) v2 x.f0.f2:=by
   rw [(hx x hx').1] at g2 ⊢
   exact Kd.R_mono (nil_ty g2 (by simp)) (fun k hk => ⟨⟨hk.1.1,hk.2⟩,hk.1.2⟩)
  have m3 : k109.R 109 w base (fun k => (ok k∧Ty w [44,104,109,91] k)∧some k≠v.ownBlock) v3 x.f0.f3:=by
   rw [(hx x hx').2.1] at g3 ⊢
   exact Kd.R_mono (nil_ty g3 (by simp)) (fun k hk => ⟨⟨hk.1.1,hk.2⟩,hk.1.2⟩)
  have m6 : k91.R 91 w base (fun k => (ok k∧Ty w [44,104,109,91] k)∧some k≠v.ownBlock) v6 x.f1:=by
   rw [(hx x hx').2.2] at g6 ⊢
   exact Kd.R_mono (nil_ty g6 (by simp)) (fun k hk => ⟨⟨hk.1.1,hk.2⟩,hk.1.2⟩)
  exact k44_mkM _ _ _ x m2 m3 m6)
theorem cellB {w : World} {g : Nat} {t : TypeId} {cs : Array Value} (h : w.heap[g]? = some (.cells cs t (0,0))) (o : Obj) (i : Nat) : (w.alloc o).cell? ⟨g,i,none⟩=cs[i]?:=blk_cell (blk_alloc h o) i
set_option maxHeartbeats 8000000 in
set_option maxRecDepth 100000 in
theorem mark_calls (k : Nat) (P0 : Nat→Prop) (u0 : Value) (l0 : List S54) (A1 : Option Addr) (c1 : Nat) (A2 : Option Addr) (c2 : Nat) (a3 : Int) (P4 : Nat→Prop) (u4 : Value) (l4 : List S44) (P5 : Nat→Prop) (u5 : Value) (a1 : Int) (r1 : Int) (r2 : List S54) (r3 : List S44) (r4 : List S44) (w0 w : World)
  (hB : Below w0.heap.size w0 w) (h0 : Kd.R k54 54 w w0.heap.size P0 u0 l0) (h4 : Kd.R k44 44 w w0.heap.size P4 u4 l4) (h5 : Kd.R k44 44 w w0.heap.size P5 u5 [])
  (s0 : ∀ j,P0 j→j<w.heap.size) (s4 : ∀ j,P4 j→j<w.heap.size) (s5 : ∀ j,P5 j→j<w.heap.size) (d04 : ∀ j,P0 j → ¬ P4 j) (d05 : ∀ j,P0 j → ¬ P5 j) (d45 : ∀ j,P4 j → ¬ P5 j)
  (h : F0h.f k l0 [] [] a3 l4 [] a1=some (r1,r2,r3,r4)) :
  Calls Tryz.prog 7 #[.agg #[u0,.slice A1 0 c1,.slice A2 0 c2,.int .i64 a3,u4,u5],.int .i64 a1] w fun e w' => e = .returned (.int .i64 r1)∧Kd.R k54 54 w' w0.heap.size (fun j => P0 j∨w.heap.size≤j) u0 r2∧Kd.R k44 44 w' w0.heap.size (fun j => P4 j∨w.heap.size≤j) u4 r3∧Below w0.heap.size w0 w' ∧ Kept w w' (fun j => P0 j∨P4 j∨P5 j):=by
 have hu29:=Tryz.underlying29
 have hu26:=Tryz.underlying26
 unfold F0h.f at h
 obtain ⟨⟨t0,t1⟩,A3,h⟩:=Option.bind_eq_some_iff.mp h
 obtain ⟨⟨t2,t3⟩,A4,h⟩:=Option.bind_eq_some_iff.mp h
 obtain ⟨⟨t4,t5⟩,A5,h⟩:=Option.bind_eq_some_iff.mp h
 simp only [Option.some.injEq,Prod.mk.injEq] at h
 obtain ⟨rfl,rfl,rfl,rfl⟩:=h
 obtain ⟨B0,b0,rfl⟩:=Kd.R_slice h0
 obtain ⟨B4,b4,rfl⟩:=Kd.R_slice h4
 obtain ⟨B5,b5,rfl⟩:=Kd.R_slice h5
 go_enter Tryz.func7,Tryz.ntmps7
 go_wp2_with fail
 go_at_call 15
 refine (F0d.calls k P0 _ l0 A1 c1 [] A2 c2 [] a3 a1 t0 t1 w0 _ (below_alloc hB _) (Kd.R_alloc h0 _) (fun _ _ => C_empty _ _ _) (Nat.zero_le _) (fun _ _ => C_empty _ _ _) (Nat.zero_le _) A3).mono ?_
 rintro e w1 ⟨rfl,hR1,hB1,hK1⟩
 have z1 : (w.alloc (.cells #[.slice B0 l0.length b0,.slice A1 0 c1,.slice A2 0 c2,.int .i64 a3,.slice B4 l4.length b4,.slice B5 0 b5] 29)).heap.size=w.heap.size + 1:=by simp
 have C1:=blk_kept (blk_new w (.cells #[.slice B0 l0.length b0,.slice A1 0 c1,.slice A2 0 c2,.int .i64 a3,.slice B4 l4.length b4,.slice B5 0 b5] 29)) hK1 (fun hk => by have:=s0 _ hk;omega)
 have h41:=Kd.R_kept (Kd.R_alloc h4 (.cells #[.slice B0 l0.length b0,.slice A1 0 c1,.slice A2 0 c2,.int .i64 a3,.slice B4 l4.length b4,.slice B5 0 b5] 29)) hK1 (fun j hj hj0 => d04 j hj0 hj)
 have h51:=Kd.R_kept (Kd.R_alloc h5 (.cells #[.slice B0 l0.length b0,.slice A1 0 c1,.slice A2 0 c2,.int .i64 a3,.slice B4 l4.length b4,.slice B5 0 b5] 29)) hK1 (fun j hj hj0 => d05 j hj0 hj)
 have lt1 : w.heap.size + 1≤w1.heap.size:=by have:=hK1.1;omega
 have q0:=blk_cell C1 0
 have q1:=blk_cell C1 1
 have q2:=blk_cell C1 2
 have q3:=blk_cell C1 3
 have q4:=blk_cell C1 4
 have q5:=blk_cell C1 5
 go_wp2_with fail
 go_at_call 16
 refine (Fe.calls k P4 _ l4 t0 t2 t3 w0 _ hB1 h41 A4).mono ?_
 rintro e w2 ⟨rfl,hR2,hB2,hK2⟩
 have C2:=blk_kept C1 hK2 (fun hk => by have:=s4 _ hk;omega)
 have hR12:=Kd.R_kept hR1 hK2 (fun j hj hj4 => by
  rcases hj with hj|hj
  ·
   exact d04 j hj hj4
  ·
   have:=s4 j hj4;omega)
 have h52:=Kd.R_kept h51 hK2 (fun j hj hj4 => d45 j hj4 hj)
 have lt2 : w1.heap.size≤w2.heap.size:=hK2.1
 clear q0 q1 q2 q3 q4 q5
 have q0:=blk_cell C2 0
 have q1:=blk_cell C2 1
 have q2:=blk_cell C2 2
 have q3:=blk_cell C2 3
 have q4:=blk_cell C2 4
 have q5:=blk_cell C2 5
 go_wp2_with fail
 go_at_call 16
 refine (Fe.calls k P5 _ [] t2 t4 t5 w0 _ hB2 h52 A5).mono ?_
 rintro e w3 ⟨rfl,hR3,hB3,hK3⟩
 have hR13:=Kd.R_kept hR12 hK3 (fun j hj hj5 => by
  rcases hj with hj|hj
  ·
   exact d05 j hj hj5
  ·
   have:=s5 j hj5;omega)
 have hR23:=Kd.R_kept hR2 hK3 (fun j hj hj5 => by
  rcases hj with hj|hj
  ·
   exact d45 j hj hj5
  ·
   have:=s5 j hj5;omega)
 go_wp2
 go_ret
 refine ⟨rfl,Kd.R_mono hR13 (fun j hj => ?_),Kd.R_mono hR23 (fun j hj => ?_),hB3,?_⟩
 ·
  rcases hj with hj|hj
  ·
   exact .inl hj
  ·
   right;omega
 ·
  rcases hj with hj|hj
  ·
   exact .inl hj
  ·
   right;omega
 ·
  refine ((((Kept.refl w _).alloc _).then_ hK1 (fun j hj => .inl (.inl hj))).then_ hK2 (fun j hj => .inl (.inr (.inl hj)))).then_ hK3 (fun j hj => .inl (.inr (.inr hj)))
set_option maxHeartbeats 8000000 in
set_option maxRecDepth 100000 in
theorem world_law (k : Nat) (W : World) (c cc : List S54) (p pp : List S44) (p3 : List S44) (n mm : Int)
  (hc : ∀ x ∈ c,x.f1=[]∧x.f2=[]) (hp : ∀ x ∈ p,x.f0.f2=[]∧x.f0.f3=[]∧x.f1=[])
  (h3 : F0e.f k=some (c,[],[],n,p,[])) (h4 : F09.f k=some (c,[],[],n,p,[]))
  (h5 : F0b.f k c [] [] n p [] c [] [] n p []=some true)
  (h8 : F0h.f k c [] [] n p [] 1=some (mm,cc,pp,[])) (h9 : F0c.f k cc [] [] n pp [] 1=some mm) (hmm : ¬ mm<0) :
  Calls Tryz.prog 3 #[] W fun e w' => e = .returned (.bool true)∧Below W.heap.size W w':=by
 have hu29:=Tryz.underlying29
 have hmm' : decide (mm<0)=false:=decide_eq_false hmm
 go_enter Tryz.func3,Tryz.ntmps3
 go_wp2_with fail
 go_at_call 4
 refine (F0e.calls k c [] [] n p [] _ h3).mono ?_
 rintro e w1 ⟨vs0,vs1,vs2,vs4,vs5,rfl,hS0,hS1,hS2,hS4,hS5,hb1⟩
 obtain ⟨As0,cs0,rfl,hcs0,_⟩:=Kd.N_reads hS0
 obtain ⟨As1,cs1,rfl,hcs1,_⟩:=Kd.N_reads hS1
 obtain ⟨As2,cs2,rfl,hcs2,_⟩:=Kd.N_reads hS2
 obtain ⟨As4,cs4,rfl,hcs4,_⟩:=Kd.N_reads hS4
 obtain ⟨As5,cs5,rfl,hcs5,_⟩:=Kd.N_reads hS5
 go_wp2_with fail
 go_at_call 5
 refine (F09.calls k c [] [] n p [] _ h4).mono ?_
 rintro e w2 ⟨vg0,vg1,vg2,vg4,vg5,rfl,hG0,hG1,hG2,hG4,hG5,hb2⟩
 have hg0:=ty54 hG0 hc
 have hg4:=ty44 hG4 hp
 have hg5:=nil_own (l:=[44]) hG5 (by simp)
 obtain ⟨Ag0,cg0,rfl,hcg0,_⟩:=Kd.R_reads hG0
 obtain ⟨Ag1,cg1,rfl,hcg1,_⟩:=Kd.R_reads hG1
 obtain ⟨Ag2,cg2,rfl,hcg2,_⟩:=Kd.R_reads hG2
 obtain ⟨Ag4,cg4,rfl,hcg4,_⟩:=Kd.R_reads hG4
 obtain ⟨Ag5,cg5,rfl,hcg5,_⟩:=Kd.R_reads hG5
 have hS0b:=Kd.N_below (Kd.N_alloc hS0 (.cells #[.slice As0 c.length cs0,.slice As1 0 cs1,.slice As2 0 cs2,.int .i64 n,.slice As4 p.length cs4,.slice As5 0 cs5] 29)) hb2
 have hS4b:=Kd.N_below (Kd.N_alloc hS4 (.cells #[.slice As0 c.length cs0,.slice As1 0 cs1,.slice As2 0 cs2,.int .i64 n,.slice As4 p.length cs4,.slice As5 0 cs5] 29)) hb2
 have B2 : w2.heap[w1.heap.size]? = some (.cells #[.slice As0 c.length cs0,.slice As1 0 cs1,.slice As2 0 cs2,.int .i64 n,.slice As4 p.length cs4,.slice As5 0 cs5] 29 (0,0)):=blk_below (blk_new w1 _) hb2
 have lt2 : w1.heap.size<w2.heap.size:=blk_lt B2
 have q0:=cellB B2 (.cells #[.slice Ag0 c.length cg0,.slice Ag1 0 cg1,.slice Ag2 0 cg2,.int .i64 n,.slice Ag4 p.length cg4,.slice Ag5 0 cg5] 29) 0
 have q1:=cellB B2 (.cells #[.slice Ag0 c.length cg0,.slice Ag1 0 cg1,.slice Ag2 0 cg2,.int .i64 n,.slice Ag4 p.length cg4,.slice Ag5 0 cg5] 29) 1
 have q2:=cellB B2 (.cells #[.slice Ag0 c.length cg0,.slice Ag1 0 cg1,.slice Ag2 0 cg2,.int .i64 n,.slice Ag4 p.length cg4,.slice Ag5 0 cg5] 29) 2
 have q3:=cellB B2 (.cells #[.slice Ag0 c.length cg0,.slice Ag1 0 cg1,.slice Ag2 0 cg2,.int .i64 n,.slice Ag4 p.length cg4,.slice Ag5 0 cg5] 29) 3
 have q4:=cellB B2 (.cells #[.slice Ag0 c.length cg0,.slice Ag1 0 cg1,.slice Ag2 0 cg2,.int .i64 n,.slice Ag4 p.length cg4,.slice Ag5 0 cg5] 29) 4
 have q5:=cellB B2 (.cells #[.slice Ag0 c.length cg0,.slice Ag1 0 cg1,.slice Ag2 0 cg2,.int .i64 n,.slice Ag4 p.length cg4,.slice Ag5 0 cg5] 29) 5
 have hS0r:=Kd.N_alloc hS0b (.cells #[.slice Ag0 c.length cg0,.slice Ag1 0 cg1,.slice Ag2 0 cg2,.int .i64 n,.slice Ag4 p.length cg4,.slice Ag5 0 cg5] 29)
 have hS4r:=Kd.N_alloc hS4b (.cells #[.slice Ag0 c.length cg0,.slice Ag1 0 cg1,.slice Ag2 0 cg2,.int .i64 n,.slice Ag4 p.length cg4,.slice Ag5 0 cg5] 29)
 have hg0r:=Kd.R_alloc hg0 (.cells #[.slice Ag0 c.length cg0,.slice Ag1 0 cg1,.slice Ag2 0 cg2,.int .i64 n,.slice Ag4 p.length cg4,.slice Ag5 0 cg5] 29)
 have hg4r:=Kd.R_alloc hg4 (.cells #[.slice Ag0 c.length cg0,.slice Ag1 0 cg1,.slice Ag2 0 cg2,.int .i64 n,.slice Ag4 p.length cg4,.slice Ag5 0 cg5] 29)
 have hg5r:=Kd.R_alloc hg5 (.cells #[.slice Ag0 c.length cg0,.slice Ag1 0 cg1,.slice Ag2 0 cg2,.int .i64 n,.slice Ag4 p.length cg4,.slice Ag5 0 cg5] 29)
 go_wp2_with fail
 go_at_call 6
 refine (F0b.calls k Ag0 cg0 c Ag1 cg1 [] Ag2 cg2 [] n Ag4 cg4 p Ag5 cg5 [] As0 cs0 c As1 cs1 [] As2 cs2 [] n As4 cs4 p As5 cs5 [] true _ (Kd.R_reads' hg0r).2.2 hcg0 (C_empty _ _ _) (Nat.zero_le _) (C_empty _ _ _) (Nat.zero_le _) (Kd.R_reads' hg4r).2.2 hcg4 (C_empty _ _ _) (Nat.zero_le _)
  (Kd.N_reads' hS0r).2.2 hcs0 (C_empty _ _ _) (Nat.zero_le _) (C_empty _ _ _) (Nat.zero_le _) (Kd.N_reads' hS4r).2.2 hcs4 (C_empty _ _ _) (Nat.zero_le _) h5).mono ?_
 rintro e w3 ⟨rfl,hb3⟩
 have hg03:=Kd.R_below hg0r hb3
 have hg43:=Kd.R_below hg4r hb3
 have hg53:=Kd.R_below hg5r hb3
 have D3 : w3.heap[w2.heap.size]? = some (.cells #[.slice Ag0 c.length cg0,.slice Ag1 0 cg1,.slice Ag2 0 cg2,.int .i64 n,.slice Ag4 p.length cg4,.slice Ag5 0 cg5] 29 (0,0)):=blk_below (blk_new w2 _) hb3
 have lt3 : w2.heap.size<w3.heap.size:=blk_lt D3
 have HB3 : Below (w1.alloc (.cells #[.slice As0 c.length cs0,.slice As1 0 cs1,.slice As2 0 cs2,.int .i64 n,.slice As4 p.length cs4,.slice As5 0 cs5] 29)).heap.size (w1.alloc (.cells #[.slice As0 c.length cs0,.slice As1 0 cs1,.slice As2 0 cs2,.int .i64 n,.slice As4 p.length cs4,.slice As5 0 cs5] 29)) w3:=below_step (below_step hb2 (below_alloc (Below.refl _ _) (.cells #[.slice Ag0 c.length cg0,.slice Ag1 0 cg1,.slice Ag2 0 cg2,.int .i64 n,.slice Ag4 p.length cg4,.slice Ag5 0 cg5] 29))) hb3
 have d0:=blk_cell D3 0
 have d1:=blk_cell D3 1
 have d2:=blk_cell D3 2
 have d3:=blk_cell D3 3
 have d4:=blk_cell D3 4
 have d5:=blk_cell D3 5
 go_wp2_with fail
 go_at_call 7
 have z1 : (w1.alloc (.cells #[.slice As0 c.length cs0,.slice As1 0 cs1,.slice As2 0 cs2,.int .i64 n,.slice As4 p.length cs4,.slice As5 0 cs5] 29)).heap.size=w1.heap.size + 1:=by simp
 refine (mark_calls k _ _ c Ag1 cg1 Ag2 cg2 n _ _ p _ _ 1 mm cc pp [] (w1.alloc (.cells #[.slice As0 c.length cs0,.slice As1 0 cs1,.slice As2 0 cs2,.int .i64 n,.slice As4 p.length cs4,.slice As5 0 cs5] 29)) w3 HB3 hg03 hg43 hg53 (fun j hj => by have:=hj.2.1;omega) (fun j hj => by have:=hj.2.1;omega) (fun j hj => by have:=hj.2.1;omega)
  (fun j hj hj4 => Ty.apart hj.2 hj4.2 (by decide)) (fun j hj hj5 => Ty.apart hj.2 hj5.2 (by decide)) (fun j hj hj5 => hj.1 hj5.1) h8).mono ?_
 rintro e w4 ⟨rfl,hm0,hm4,HB4,hK4⟩
 have hlen : cc.length=c.length:=((Kd.R_reads' hm0).1).symm
 have hlen4 : pp.length=p.length:=((Kd.R_reads' hm4).1).symm
 have D4:=blk_kept D3 hK4 (fun hj => by rcases hj with hj|hj|hj <;> (have:=hj.2.1;omega))
 have hS04:=Kd.N_below (Kd.N_alloc hS0 (.cells #[.slice As0 c.length cs0,.slice As1 0 cs1,.slice As2 0 cs2,.int .i64 n,.slice As4 p.length cs4,.slice As5 0 cs5] 29)) HB4
 have hS44:=Kd.N_below (Kd.N_alloc hS4 (.cells #[.slice As0 c.length cs0,.slice As1 0 cs1,.slice As2 0 cs2,.int .i64 n,.slice As4 p.length cs4,.slice As5 0 cs5] 29)) HB4
 have B4:=blk_below (blk_new w1 (.cells #[.slice As0 c.length cs0,.slice As1 0 cs1,.slice As2 0 cs2,.int .i64 n,.slice As4 p.length cs4,.slice As5 0 cs5] 29)) HB4
 have hW4 : Below W.heap.size W w4:=below_step (below_step hb1 (below_alloc (Below.refl _ _) (.cells #[.slice As0 c.length cs0,.slice As1 0 cs1,.slice As2 0 cs2,.int .i64 n,.slice As4 p.length cs4,.slice As5 0 cs5] 29))) HB4
 have lt4 : w3.heap.size≤w4.heap.size:=hK4.1
 clear q0 q1 q2 q3 q4 q5 d0 d1 d2 d3 d4 d5
 have d0:=blk_cell D4 0
 have d1:=blk_cell D4 1
 have d2:=blk_cell D4 2
 have d3:=blk_cell D4 3
 have d4:=blk_cell D4 4
 have d5:=blk_cell D4 5
 go_wp2_with fail
 go_at_call 8
 have hcg0':=hcg0
 have hcg4':=hcg4
 rw [← hlen] at hm0 hcg0'
 rw [← hlen4] at hm4 hcg4'
 rw [← hlen,← hlen4]
 refine (F0c.calls k Ag0 cg0 cc Ag1 cg1 [] Ag2 cg2 [] n Ag4 cg4 pp Ag5 cg5 [] 1 mm _ (Kd.R_reads' hm0).2.2 hcg0' (C_empty _ _ _) (Nat.zero_le _) (C_empty _ _ _) (Nat.zero_le _) (Kd.R_reads' hm4).2.2 hcg4' (C_empty _ _ _) (Nat.zero_le _) h9).mono ?_
 rintro e w5 ⟨rfl,hb5⟩
 have hS05:=Kd.N_below hS04 hb5
 have hS45:=Kd.N_below hS44 hb5
 have B5:=blk_below B4 hb5
 have D5:=blk_below D4 hb5
 have hm05:=Kd.R_below hm0 hb5
 have hm45:=Kd.R_below hm4 hb5
 have lt5 : w4.heap.size≤w5.heap.size:=hb5.size
 go_wp2_with fail
 go_at_call 5
 refine (F09.calls k c [] [] n p [] _ h4).mono ?_
 rintro e w6 ⟨vh0,vh1,vh2,vh4,vh5,rfl,hH0,hH1,hH2,hH4,hH5,hb6⟩
 obtain ⟨Ah0,ch0,rfl,hch0,hCh0⟩:=Kd.R_reads hH0
 obtain ⟨Ah1,ch1,rfl,hch1,_⟩:=Kd.R_reads hH1
 obtain ⟨Ah2,ch2,rfl,hch2,_⟩:=Kd.R_reads hH2
 obtain ⟨Ah4,ch4,rfl,hch4,hCh4⟩:=Kd.R_reads hH4
 obtain ⟨Ah5,ch5,rfl,hch5,_⟩:=Kd.R_reads hH5
 have hS06:=Kd.N_alloc (Kd.N_below hS05 hb6) (.cells #[.slice Ah0 c.length ch0,.slice Ah1 0 ch1,.slice Ah2 0 ch2,.int .i64 n,.slice Ah4 p.length ch4,.slice Ah5 0 ch5] 29)
 have hS46:=Kd.N_alloc (Kd.N_below hS45 hb6) (.cells #[.slice Ah0 c.length ch0,.slice Ah1 0 ch1,.slice Ah2 0 ch2,.int .i64 n,.slice Ah4 p.length ch4,.slice Ah5 0 ch5] 29)
 have B6:=blk_below B5 hb6
 have D6:=blk_below D5 hb6
 have hm06:=Kd.R_alloc (Kd.R_below hm05 hb6) (.cells #[.slice Ah0 c.length ch0,.slice Ah1 0 ch1,.slice Ah2 0 ch2,.int .i64 n,.slice Ah4 p.length ch4,.slice Ah5 0 ch5] 29)
 have hm46:=Kd.R_alloc (Kd.R_below hm45 hb6) (.cells #[.slice Ah0 c.length ch0,.slice Ah1 0 ch1,.slice Ah2 0 ch2,.int .i64 n,.slice Ah4 p.length ch4,.slice Ah5 0 ch5] 29)
 have lt6 : w5.heap.size≤w6.heap.size:=hb6.size
 clear d0 d1 d2 d3 d4 d5
 have e0:=cellB B6 (.cells #[.slice Ah0 c.length ch0,.slice Ah1 0 ch1,.slice Ah2 0 ch2,.int .i64 n,.slice Ah4 p.length ch4,.slice Ah5 0 ch5] 29) 0
 have e1:=cellB B6 (.cells #[.slice Ah0 c.length ch0,.slice Ah1 0 ch1,.slice Ah2 0 ch2,.int .i64 n,.slice Ah4 p.length ch4,.slice Ah5 0 ch5] 29) 1
 have e2:=cellB B6 (.cells #[.slice Ah0 c.length ch0,.slice Ah1 0 ch1,.slice Ah2 0 ch2,.int .i64 n,.slice Ah4 p.length ch4,.slice Ah5 0 ch5] 29) 2
 have e3:=cellB B6 (.cells #[.slice Ah0 c.length ch0,.slice Ah1 0 ch1,.slice Ah2 0 ch2,.int .i64 n,.slice Ah4 p.length ch4,.slice Ah5 0 ch5] 29) 3
 have e4:=cellB B6 (.cells #[.slice Ah0 c.length ch0,.slice Ah1 0 ch1,.slice Ah2 0 ch2,.int .i64 n,.slice Ah4 p.length ch4,.slice Ah5 0 ch5] 29) 4
 have e5:=cellB B6 (.cells #[.slice Ah0 c.length ch0,.slice Ah1 0 ch1,.slice Ah2 0 ch2,.int .i64 n,.slice Ah4 p.length ch4,.slice Ah5 0 ch5] 29) 5
 go_wp2_with fail
 go_at_call 6
 refine (F0b.calls k Ah0 ch0 c Ah1 ch1 [] Ah2 ch2 [] n Ah4 ch4 p Ah5 ch5 [] As0 cs0 c As1 cs1 [] As2 cs2 [] n As4 cs4 p As5 cs5 [] true _ (Kd.C_alloc hCh0 _) hch0 (C_empty _ _ _) (Nat.zero_le _) (C_empty _ _ _) (Nat.zero_le _) (Kd.C_alloc hCh4 _) hch4 (C_empty _ _ _) (Nat.zero_le _)
  (Kd.N_reads' hS06).2.2 hcs0 (C_empty _ _ _) (Nat.zero_le _) (C_empty _ _ _) (Nat.zero_le _) (Kd.N_reads' hS46).2.2 hcs4 (C_empty _ _ _) (Nat.zero_le _) h5).mono ?_
 rintro e w7 ⟨rfl,hb7⟩
 have D7:=blk_below (blk_alloc D6 (.cells #[.slice Ah0 c.length ch0,.slice Ah1 0 ch1,.slice Ah2 0 ch2,.int .i64 n,.slice Ah4 p.length ch4,.slice Ah5 0 ch5] 29)) hb7
 have hm07:=Kd.R_below hm06 hb7
 have hm47:=Kd.R_below hm46 hb7
 clear e0 e1 e2 e3 e4 e5
 have d0:=blk_cell D7 0
 have d1:=blk_cell D7 1
 have d2:=blk_cell D7 2
 have d3:=blk_cell D7 3
 have d4:=blk_cell D7 4
 have d5:=blk_cell D7 5
 go_wp2_with fail
 go_at_call 8
 rw [← hlen,← hlen4]
 refine (F0c.calls k Ag0 cg0 cc Ag1 cg1 [] Ag2 cg2 [] n Ag4 cg4 pp Ag5 cg5 [] 1 mm _ (Kd.R_reads' hm07).2.2 hcg0' (C_empty _ _ _) (Nat.zero_le _) (C_empty _ _ _) (Nat.zero_le _) (Kd.R_reads' hm47).2.2 hcg4' (C_empty _ _ _) (Nat.zero_le _) h9).mono ?_
 rintro e w8 ⟨rfl,hb8⟩
 go_wp2
 go_ret
 exact ⟨rfl,below_step (below_step (below_step (below_step (below_step hW4 hb5) hb6) (below_alloc (Below.refl _ _) _)) hb7) hb8⟩

def c0 : List S54:=[⟨⟨#[100,111,99,115]⟩,[],[]⟩,⟨⟨#[109,111,114,101]⟩,[],[]⟩]
def p0 : List S44:=[z44,z44,z44,z44]
set_option maxRecDepth 100000 in
theorem v_impl : F09.f 100=some (c0,[],[],0,p0,[]):=by kernel_rfl
set_option maxRecDepth 100000 in
theorem v_spec : F0e.f 100=some (c0,[],[],0,p0,[]):=by kernel_rfl
set_option maxRecDepth 100000 in
theorem v_eq : F0b.f 100 c0 [] [] 0 p0 [] c0 [] [] 0 p0 []=some true:=by kernel_rfl
def markHeld (o : Option (Int×List S54×List S44×List S44)) : Bool:=match o with
 | some (mm,cc,pp,[]) => (match F0c.f 100 cc [] [] 0 pp [] 1 with|some r => decide (r=mm) && decide (0≤mm)|none => false)
 | _ => false
set_option maxRecDepth 100000 in
theorem v_mark : markHeld (F0h.f 100 c0 [] [] 0 p0 [] 1)=true:=by kernel_rfl
theorem w_law (W : World) : Calls Tryz.prog 3 #[] W fun e w' => e = .returned (.bool true)∧Below W.heap.size W w':=by
 have h:=v_mark
 unfold markHeld at h
 split at h
 ·
  rename_i o mm cc pp hm
  split at h
  ·
   rename_i r hr
   rw [Bool.and_eq_true,decide_eq_true_eq,decide_eq_true_eq] at h
   obtain ⟨rfl,hp⟩:=h
   exact world_law 100 W c0 cc p0 pp [] 0 r (by decide) (by decide) v_spec v_impl v_eq hm hr (by omega)
  ·
   cases h
 ·
  cases h
end Go.Proofs.YtceggklknggfdaaGreat.Q
end
section
namespace Go.Proofs.YtceggklknggfdaaGreat.fnExactNewWorld
open Go.ChangeShapes Go.WideShapes Go.ChangeAt Go.RowKit Go.Proofs.YtceggklknggfdaaGreatW.PrintWords Go.Proofs.YtceggklknggfdaaGreat.Q
open Go.ChangeMaps (open_string shut_string)
set_option linter.unusedVariables false
theorem own : ownKnob Tryz.prog.godebug=none:=by kernel_rfl
theorem laidOut : laidOutB Tryz.prog=true:=by kernel_rfl
set_option maxRecDepth 100000 in
theorem lifted (os : Os) (started : os.Started) (H : Type) (enc : TypeId×Value→H) :
  ReturnsInHanded {} Tryz.checked os 3 .any (Rows.fnExactNewWorldSpec.pre6 enc Tryz.prog Tryz.f3 Rows.fnExactNewWorldRow.domain false) (Rows.fnExactNewWorldSpec.post enc Tryz.prog Tryz.f3 false true false false):=by
 refine returnsInHanded_of_change_sized (C:=Tryz.checked) own started (by kernel_rfl) Tryz.func3
  (ChangeSpec.witness6 (enc:=enc) (C:=Tryz.checked) false ⟨#[],#[],[]⟩ 8 (by kernel_rfl) (by kernel_rfl) (by kernel_rfl) (by kernel_rfl)) ?_
 intro W base args ds gs before hval0 hW hcnd hsz0 _
 have hval : ∀ (j : Nat) t v,Tryz.f3.params[j]? = some t→args[j]? = some v→Value.okWide Tryz.prog W .any base t v:=hval0
 have hW':=hW
 obtain ⟨p,q,hA0,hV,rfl,hfz,hnd⟩:=hW
 have hA : DataW.TrodAll enc Tryz.prog W 0 (fun _ => true) true Tryz.f3.params.toList args.toList ds p:=hA0
 rw [Tryz.params3] at hA hval
 obtain ⟨rfl,rfl,rfl⟩:=trodAll_none hA
 obtain ⟨rfl,rfl⟩:=trodVars_none hV
 clear hA0 hval0 hsz0
 refine (w_law W).mono fun e W' ⟨he,bel⟩ => ?_
 subst he
 exact ⟨_,rfl,_,_,_,[],_,[],hW',trodAll_mk1 (shut_bool Tryz.underlying4 _),trodAll_mk0,rfl,bel.frame _,fun h => by cases h⟩
theorem over : Rows.fnExactNewWorldRow.holds Tryz.pinned (OpenSpec.ofChange Rows.fnExactNewWorldSpec) :=
 OpenClaim.holds_of_wide 3 Tryz.f3 rfl rfl rfl rfl rfl rfl rfl ⟨rfl,rfl,rfl,rfl,rfl⟩ rfl rfl rfl rfl rfl (by kernel_rfl) Tryz.func3 (by kernel_rfl)
  (of_decide_eq_true (by kernel_rfl)) (by unfold Func.isWrapper;first|(rw [if_pos (by decide +kernel)];kernel_rfl)|(rw [if_neg (by decide +kernel)];exact ⟨rfl,rfl⟩))
  (fun os started H enc _ => lifted os started H enc)
theorem proved : Rows.FnExactNewWorldSaid:=over
#print axioms proved
end Go.Proofs.YtceggklknggfdaaGreat.fnExactNewWorld
namespace Go.Proofs.YtceggklknggfdaaGreat
theorem fnExactNewWorld_holds : Rows.FnExactNewWorldSaid:=fnExactNewWorld.proved
end Go.Proofs.YtceggklknggfdaaGreat
end

/- Texts of this claim, merged by a program of this session. -/
import Derived.Test.YtaoihmompioncaaKLawFnExactKeepFieldsp23
section
namespace Go.Proofs.Ytaoihmompioncaa.Q
open Go.RowKit Go.Proofs.YtaoihmompioncaaW.PrintWords Go.Proofs.YtaoihmompioncaaW.PrintLast Go.Proofs.YtaoihmompioncaaW.PrintMore
attribute [local go_sem] max2_int min2_int max_two min_two max_three min_three max_four min_four max2_str min2_str str_geq str_gtr str_leq
set_option linter.unusedVariables false
set_option linter.unusedSimpArgs false

def Fj.l0 : Nat→List ByteArray→Int→Int→Int→ByteArray→Option (Int×Int×ByteArray×Int)
 | 0,_,_,_,_,_ => none
 | k + 1,x1,x6,x449000,x449001,x449002 => if x6<(x1.length : Int) then (if 0≤x6 then ((Fy.f k (rdOf ByteArray.empty x1 x6)).bind fun t452 => (if t452=true then (Fj.l0 k x1 (wrap64 (x6 + 1)) x449000 x449001 x449002) else (some (0,0,(⟨#[]⟩ : ByteArray),11)))) else (none)) else ((F9.f k x449000 x449001 x449002 x1).bind fun bt453 => (some (bt453.1,bt453.2.1,bt453.2.2,0)))
def Fj.f (k : Nat) (a0_0 : Int) (a0_1 : Int) (a0_2 : ByteArray) (l1 : List ByteArray) : Option (Int×Int×ByteArray×Int):=if (l1.length : Int) > 4096 then (some (0,0,(⟨#[]⟩ : ByteArray),2)) else ((F08.f k a0_0 a0_1 a0_2).bind fun t450 => (if t450=true then (Fj.l0 k l1 0 a0_0 a0_1 a0_2) else (some (0,0,(⟨#[]⟩ : ByteArray),1))))
theorem Fj.mono_l : ∀ k,(∀ y0 y1 y2 y3 y4,LeO (Fj.l0 k y0 y1 y2 y3 y4) (Fj.l0 (k + 1) y0 y1 y2 y3 y4))
 | 0 => fun _ _ _ _ _ r h => by simp [Fj.l0] at h
 | k + 1 => by
  have ih0:=Fj.mono_l k;intro y0 y1 y2 y3 y4;unfold Fj.l0
  repeat' first|(with_reducible first|exact ih0 _ _ _ _ _|exact F08.mono _ _ _ _|exact Fy.mono _ _|exact F9.mono _ _ _ _ _|exact zQ _|exact zN _|refine zP ?_ ?_|refine zO ?_ (fun _ => ?_))|refine zP ?_ ?_|refine zO ?_ (fun _ => ?_)
theorem Fj.mono : ∀ a0 a1 a2 a3 k,LeO (Fj.f k a0 a1 a2 a3) (Fj.f (k + 1) a0 a1 a2 a3):=by
 intro a0 a1 a2 a3 k;have ih0:=Fj.mono_l k;unfold Fj.f
 repeat' first|(with_reducible first|exact ih0 _ _ _ _ _|exact F08.mono _ _ _ _|exact Fy.mono _ _|exact F9.mono _ _ _ _ _|exact zQ _|exact zN _|refine zP ?_ ?_|refine zO ?_ (fun _ => ?_))|refine zP ?_ ?_|refine zO ?_ (fun _ => ?_)
set_option maxHeartbeats 8000000 in
set_option maxRecDepth 100000 in
theorem Fj.calls (k : Nat) (a0_0 : Int) (a0_1 : Int) (a0_2 : ByteArray) (A1 : Option Addr) (c1 : Nat) (l1 : List ByteArray) (r1 : Int) (r2 : Int) (r3 : ByteArray) (r4 : Int) (w : World) (hr1 : Kd.C Kd.string w A1 l1.length l1) (hc1 : l1.length≤c1) (h : Fj.f k a0_0 a0_1 a0_2 l1=some (r1,r2,r3,r4)) :
  Calls Try.prog 11 #[.agg #[.int .i64 a0_0,.int .i64 a0_1,.string a0_2],.slice A1 l1.length c1] w fun e w' => e = .returned (.tuple #[.agg #[.int .i64 r1,.int .i64 r2,.string r3],.int .i64 r4])∧Below w.heap.size w w':=by
 have hu27:=Try.underlying27;have HR1:=zh hr1;have HC1:=zh hc1;clear hr1 hc1;have HB:=zh (Below.refl w.heap.size w);have H : (if (l1.length : Int) > 4096 then (some (0,0,(⟨#[]⟩ : ByteArray),2)) else ((F08.f k a0_0 a0_1 a0_2).bind fun t450 => (if t450=true then (Fj.l0 k l1 0 a0_0 a0_1 a0_2) else (some (0,0,(⟨#[]⟩ : ByteArray),1)))))=some (r1,r2,r3,r4):=h;clear h
 by_cases c3 : (l1.length : Int) > 4096
 ·
  rw [if_pos c3] at H
  have c3b0 : decide (4096<(l1.length : Int))=true:=decide_eq_true c3;have c3b1 : decide (4096<l1.length)=true:=decide_eq_true (by omega);clear c3;simp only [Option.some.injEq,Prod.mk.injEq] at H;obtain ⟨rfl,rfl,rfl,rfl⟩:=H
  go_enter Try.func11,Try.ntmps11
  go_wp2_with (first|((with_reducible refine zK (N:=2) rfl ?_);refine zI ?hg (N:=2) ?hd (cs:=#[.int .i64 a0_0,.int .i64 a0_1,.string a0_2]) (t:=27) ?hr ?_;(case hd|hg => rfl);(case hr => go_simp <;> rfl);intro gb448 hg w4 hbox hb;have BK448:=zh (hbox);have hH_:=cH (by repeat (with_reducible first|exact HB.out|apply za|apply zb|apply zc)) hb hg;have GW448:=zh hH_.1;have GE448:=GW448;replace HB:=zh hH_.2;clear hb hbox hg hH_)|((with_reducible refine zK (N:=4) rfl ?_);refine zI ?hg (N:=4) ?hd (cs:=#[.int .i64 0,.int .i64 0,.string (⟨#[]⟩ : ByteArray)]) (t:=27) ?hr ?_;(case hd|hg => rfl);(case hr => go_simp <;> rfl);intro gb449 hg w5 hbox hb;have BK449:=zh (hbox);have hH_:=cH (by repeat (with_reducible first|exact HB.out|apply za|apply zb|apply zc|refine zd ?_ GE448.out)) hb hg;have GW449:=zh hH_.1;have GE449:=GW449;replace HB:=zh hH_.2;have NB448_449:=zh ((by rw [hg];exact yc (yi (g:=gb448) (o:=.cells #[.int .i64 a0_0,.int .i64 a0_1,.string a0_2] 27 (0,0)) (by (with_reducible repeat first|apply ze|apply zf|apply zg);exact BK448.out)) : gb448≠gb449));have NB449_448:=zh NB448_449.out.symm;replace BK448:=zh (cD BK448.out (by (with_reducible repeat first|apply ze|apply zf|apply zg);exact BK448.out) hb);clear hb hbox hg hH_;have hnb6:=NB449_448.out;have hnc6:=NB448_449.out;obtain ⟨hcz7_0,hcz7_1,hcz7_2,hfz7_0,hfz7_1,hfz7_2⟩:=cB3 BK449.out))
  refine bodyPost_ret (results_ct rfl _ _ gb449 27 #[.int .i64 0,.int .i64 0,.string (⟨#[]⟩ : ByteArray)] (0,0) _ rfl (by (with_reducible repeat first|apply ze|apply zf|apply zg);refine zL (cs:=#[.int .i64 0,.int .i64 0,.string (⟨#[]⟩ : ByteArray)]) ?_ 2 _ rfl;(with_reducible repeat first|apply ze|apply zf|apply zg);refine zL (cs:=#[.int .i64 0,.int .i64 0,.string (⟨#[]⟩ : ByteArray)]) ?_ 1 _ rfl;(with_reducible repeat first|apply ze|apply zf|apply zg);refine zL (cs:=#[.int .i64 0,.int .i64 0,.string (⟨#[]⟩ : ByteArray)]) ?_ 0 _ rfl;(with_reducible repeat first|apply ze|apply zf|apply zg);exact BK449.out) Try.underlying27 rfl (by kernel_rfl)) rfl ?_;exact ⟨by first|rfl|(simp [yt,yu] <;> rfl)|(simp [*,yt,yu] <;> rfl),by repeat (with_reducible first|exact HB.out|apply za|apply zb|apply zc|refine zd ?_ GE448.out|refine zd ?_ GE449.out)⟩
 rw [if_neg c3] at H;have c3b0 : decide (4096<(l1.length : Int))=false:=decide_eq_false c3;have c3b1 : decide (4096<l1.length)=false:=decide_eq_false (by omega);clear c3;replace H:=zT.mp H;obtain ⟨t450,A80,H⟩:=H;replace H : (if t450=true then (Fj.l0 k l1 0 a0_0 a0_1 a0_2) else (some (0,0,(⟨#[]⟩ : ByteArray),1)))=some (r1,r2,r3,r4):=H;have A8:=zh A80;clear A80
 by_cases c9 : t450=true
 ·
  subst c9
  have H1 : (Fj.l0 k l1 0 a0_0 a0_1 a0_2)=some (r1,r2,r3,r4):=by rw [if_pos rfl] at H;exact H
  clear H;have H:=H1;clear H1;have H':=zh H;clear H
  go_enter Try.func11,Try.ntmps11
  go_wp2_with (first|((with_reducible refine zK (N:=2) rfl ?_);refine zI ?hg (N:=2) ?hd (cs:=#[.int .i64 a0_0,.int .i64 a0_1,.string a0_2]) (t:=27) ?hr ?_;(case hd|hg => rfl);(case hr => go_simp <;> rfl);intro gb448 hg w10 hbox hb;have BK448:=zh (hbox);have hH_:=cH (by repeat (with_reducible first|exact HB.out|apply za|apply zb|apply zc)) hb hg;have GW448:=zh hH_.1;have GE448:=GW448;replace HB:=zh hH_.2;clear hb hbox hg hH_)|((with_reducible refine zK (N:=4) rfl ?_);refine zI ?hg (N:=4) ?hd (cs:=#[.int .i64 0,.int .i64 0,.string (⟨#[]⟩ : ByteArray)]) (t:=27) ?hr ?_;(case hd|hg => rfl);(case hr => go_simp <;> rfl);intro gb449 hg w11 hbox hb;have BK449:=zh (hbox);have hH_:=cH (by repeat (with_reducible first|exact HB.out|apply za|apply zb|apply zc|refine zd ?_ GE448.out)) hb hg;have GW449:=zh hH_.1;have GE449:=GW449;replace HB:=zh hH_.2;have NB448_449:=zh ((by rw [hg];exact yc (yi (g:=gb448) (o:=.cells #[.int .i64 a0_0,.int .i64 a0_1,.string a0_2] 27 (0,0)) (by (with_reducible repeat first|apply ze|apply zf|apply zg);exact BK448.out)) : gb448≠gb449));have NB449_448:=zh NB448_449.out.symm;replace BK448:=zh (cD BK448.out (by (with_reducible repeat first|apply ze|apply zf|apply zg);exact BK448.out) hb);clear hb hbox hg hH_;have hnb12:=NB448_449.out;have hnc12:=NB449_448.out;obtain ⟨hcz13_0,hcz13_1,hcz13_2,hfz13_0,hfz13_1,hfz13_2⟩:=cB3 BK448.out)|((with_reducible refine zJ (f:=25) rfl ?_);refine yj (some 12) rfl rfl Try.func25 (by kernel_rfl) rfl #[.agg #[.int .i64 a0_0,.int .i64 a0_1,.string a0_2]] rfl (by (try simp only [zt,zu,zv]);first|done|rfl|(simp only [zw,zx];rfl)|(simp only [yr,ys,zV,zW];rfl)) ?_;(with_reducible refine (F08.calls k  a0_0 a0_1 a0_2 true _ A8.out).mono ?_);rintro e w14 ⟨rfl,hb⟩;refine ⟨_,rfl,?_⟩;replace BK448:=zh (cD BK448.out (by (with_reducible repeat first|apply ze|apply zf|apply zg);exact BK448.out) hb);replace BK449:=zh (cD BK449.out (by (with_reducible repeat first|apply ze|apply zf|apply zg);exact BK449.out) hb);replace HB:=zh (zC (by repeat (with_reducible first|exact HB.out|apply za|apply zb|apply zc|refine zd ?_ GE448.out|refine zd ?_ GE449.out)) hb);(try clear hb);(try clear hb2);(try clear hk);(try clear hi)))
  go_loopg [6] k (fun kq v6 w' => ∃ (x6_1 : Int) (x450000_1 : Int) (x450001_1 : Int) (x450002_1 : ByteArray),v6 = .int .i64 x6_1∧Aside0 (Fj.l0 kq l1 x6_1 a0_0 a0_1 a0_2=some (r1,r2,r3,r4))∧Aside0 (kq≤k)∧Aside0 (w'.heap[gb448]? = some (.cells #[.int .i64 a0_0,.int .i64 a0_1,.string a0_2] 27 (0,0)))∧Aside0 (w'.heap[gb449]? = some (.cells #[.int .i64 x450000_1,.int .i64 x450001_1,.string x450002_1] 27 (0,0)))∧Aside0 (Below w.heap.size w w'))
  case atStart => exact ⟨(0),(0),(0),((⟨#[]⟩ : ByteArray)),(by first|rfl|(simp;done)|(simp [*];done)),H',⟨ye _⟩,⟨by (with_reducible repeat first|apply ze|apply zf|apply zg);exact BK448.out⟩,⟨by (with_reducible repeat first|apply ze|apply zf|apply zg);exact BK449.out⟩,⟨by repeat (with_reducible first|exact HB.out|apply za|apply zb|apply zc|refine zd ?_ GE448.out|refine zd ?_ GE449.out)⟩⟩
  case round =>
   clear H'
   try clear c1 c2
   try clear p2
   try clear c3 c3b0 c3b1 c6 c9 c11 c12
   try clear hcz13_0 hcz13_1 hcz13_2
   try clear hcz7_0 hcz7_1 hcz7_2
   try clear hfz13_0 hfz13_1 hfz13_2
   try clear hfz7_0 hfz7_1 hfz7_2
   obtain ⟨x6_1,x450000_1,x450001_1,x450002_1,rfl,HA,HK1,BK448,BK449,HB⟩:=hrel
   cases gk with
   | zero => exact absurd HA.out (by simp [Fj.l0])
   | succ k1 =>
    have H:=HA.out;clear HA;simp only [Fj.l0] at H
    by_cases c15 : x6_1<(l1.length : Int)
    ·
     rw [if_pos c15] at H
     have c15b0 : decide (x6_1<(l1.length : Int))=true:=decide_eq_true c15;clear c15
     by_cases c16 : 0≤x6_1
     ·
      rw [if_pos c16] at H
      have c16b0 : decide (0≤x6_1)=true:=decide_eq_true c16;clear c16;replace H:=zT.mp H;obtain ⟨t452,A170,H⟩:=H;replace H : (if t452=true then (Fj.l0 k1 l1 (wrap64 (x6_1 + 1)) a0_0 a0_1 a0_2) else (some (0,0,(⟨#[]⟩ : ByteArray),11)))=some (r1,r2,r3,r4):=H;have A17:=zh A170;clear A170
      by_cases c18 : t452=true
      ·
       subst c18
       have H1 : (Fj.l0 k1 l1 (wrap64 (x6_1 + 1)) a0_0 a0_1 a0_2)=some (r1,r2,r3,r4):=by rw [if_pos rfl] at H;exact H
       clear H;have H:=H1;clear H1;have H':=zh H;clear H;have p451 : 0≤(x6_1 : Int):=zy (by first|(with_reducible assumption)|assumption);have q451 : x6_1<(l1.length : Int):=zy (by first|(with_reducible assumption)|assumption);obtain ⟨ad451,e451,hx451_0⟩:=Kd.at_string HR1.out x6_1 p451 q451
       cases e451
       replace hx451_0:=(HB.out.cell (zl w _ hx451_0)).trans hx451_0;replace p451:=eq_true p451;replace q451:=eq_true q451
       go_wp2_with (first|((with_reducible refine zJ (f:=26) rfl ?_);refine yj (some 25) rfl rfl Try.func26 (by kernel_rfl) rfl #[.string (rdOf ByteArray.empty l1 x6_1)] rfl (by (try simp only [zt,zu,zv]);first|done|rfl|(simp only [zw,zx];rfl)|(simp only [yr,ys,zV,zW];rfl)) ?_;(with_reducible refine (Fy.calls k1  (rdOf ByteArray.empty l1 x6_1) true _ A17.out).mono ?_);rintro e w' ⟨rfl,⟨nd,rfl⟩⟩;refine ⟨_,rfl,?_⟩))
       go_roundg k1
       case measure => have:=HK1.out;omega
       case rel => exact ⟨(wrap64 (x6_1 + 1)),(x450000_1),(x450001_1),(x450002_1),(by first|rfl|(simp;done)|(simp [*];done)),H',⟨by have:=HK1.out;omega⟩,⟨by (with_reducible repeat first|apply ze|apply zf|apply zg);exact BK448.out⟩,⟨by (with_reducible repeat first|apply ze|apply zf|apply zg);exact BK449.out⟩,⟨by repeat (with_reducible first|exact HB.out|apply za|apply zb|apply zc|refine zd ?_ GE448.out|refine zd ?_ GE449.out)⟩⟩
      replace c18:=yb.mpr c18;subst c18;have H1 : (some (0,0,(⟨#[]⟩ : ByteArray),11))=some (r1,r2,r3,r4):=by rw [if_neg (show ¬ (false=true) by decide)] at H;exact H
      clear H;have H:=H1;clear H1;simp only [Option.some.injEq,Prod.mk.injEq] at H;obtain ⟨rfl,rfl,rfl,rfl⟩:=H;have p451 : 0≤(x6_1 : Int):=zy (by first|(with_reducible assumption)|assumption);have q451 : x6_1<(l1.length : Int):=zy (by first|(with_reducible assumption)|assumption);obtain ⟨ad451,e451,hx451_0⟩:=Kd.at_string HR1.out x6_1 p451 q451
      cases e451
      replace hx451_0:=(HB.out.cell (zl w _ hx451_0)).trans hx451_0;replace p451:=eq_true p451;replace q451:=eq_true q451
      go_wp2_with (first|((with_reducible refine zJ (f:=26) rfl ?_);refine yj (some 25) rfl rfl Try.func26 (by kernel_rfl) rfl #[.string (rdOf ByteArray.empty l1 x6_1)] rfl (by (try simp only [zt,zu,zv]);first|done|rfl|(simp only [zw,zx];rfl)|(simp only [yr,ys,zV,zW];rfl)) ?_;(with_reducible refine (Fy.calls k1  (rdOf ByteArray.empty l1 x6_1) false _ A17.out).mono ?_);rintro e w' ⟨rfl,⟨nd,rfl⟩⟩;refine ⟨_,rfl,?_⟩;(try (rw [drewN_self wr];generalize hq_ : World.drewN wr _=wr;replace BK448 : Aside0 (wr.heap[gb448]? = some (.cells #[.int .i64 a0_0,.int .i64 a0_1,.string a0_2] 27 (0,0))):=⟨by rw [← hq_];exact (by (with_reducible repeat first|apply ze|apply zf|apply zg);exact BK448.out)⟩;replace BK449 : Aside0 (wr.heap[gb449]? = some (.cells #[.int .i64 x450000_1,.int .i64 x450001_1,.string x450002_1] 27 (0,0))):=⟨by rw [← hq_];exact (by (with_reducible repeat first|apply ze|apply zf|apply zg);exact BK449.out)⟩;replace HB : Aside0 (Below w.heap.size w wr):=⟨by rw [← hq_];exact (by repeat (with_reducible first|exact HB.out|apply za|apply zb|apply zc|refine zd ?_ GE448.out|refine zd ?_ GE449.out))⟩;clear hq_));have hnb19:=NB449_448.out;have hnc19:=NB448_449.out;obtain ⟨hcz20_0,hcz20_1,hcz20_2,hfz20_0,hfz20_1,hfz20_2⟩:=cB3 BK449.out))
      refine bodyPost_ret (results_ct rfl _ _ gb449 27 #[.int .i64 0,.int .i64 0,.string (⟨#[]⟩ : ByteArray)] (0,0) _ rfl (by (with_reducible repeat first|apply ze|apply zf|apply zg);refine zL (cs:=#[.int .i64 0,.int .i64 0,.string x450002_1]) ?_ 2 _ rfl;(with_reducible repeat first|apply ze|apply zf|apply zg);refine zL (cs:=#[.int .i64 0,.int .i64 x450001_1,.string x450002_1]) ?_ 1 _ rfl;(with_reducible repeat first|apply ze|apply zf|apply zg);refine zL (cs:=#[.int .i64 x450000_1,.int .i64 x450001_1,.string x450002_1]) ?_ 0 _ rfl;(with_reducible repeat first|apply ze|apply zf|apply zg);exact BK449.out) Try.underlying27 rfl (by kernel_rfl)) rfl ?_;exact ⟨by first|rfl|(simp [yt,yu] <;> rfl)|(simp [*,yt,yu] <;> rfl),by repeat (with_reducible first|exact HB.out|apply za|apply zb|apply zc|refine zd ?_ GE448.out|refine zd ?_ GE449.out)⟩
     rw [if_neg c16] at H;exact absurd H (by simp)
    rw [if_neg c15] at H;have c15b0 : decide (x6_1<(l1.length : Int))=false:=decide_eq_false c15;clear c15;replace H:=zT.mp H;obtain ⟨⟨t453,t454,t455⟩,A210,H⟩:=H;replace H : (some (t453,t454,t455,0))=some (r1,r2,r3,r4):=H;have A21:=zh A210;clear A210;simp only [Option.some.injEq,Prod.mk.injEq] at H;obtain ⟨rfl,rfl,rfl,rfl⟩:=H;have hnb22:=NB448_449.out;have hnc22:=NB449_448.out;obtain ⟨hcz23_0,hcz23_1,hcz23_2,hfz23_0,hfz23_1,hfz23_2⟩:=cB3 BK448.out
    go_wp2_with (first|((with_reducible refine zJ (f:=27) rfl ?_);refine yj (some 30) rfl rfl Try.func27 (by kernel_rfl) rfl #[.agg #[.int .i64 a0_0,.int .i64 a0_1,.string a0_2],.slice A1 l1.length c1] rfl (by (try simp only [zt,zu,zv]);first|done|rfl|(simp only [zw,zx];rfl)|(simp only [yr,ys,zV,zW];rfl)) ?_;(with_reducible refine (F9.calls k1  a0_0 a0_1 a0_2 _ _ l1 t453 t454 t455 _ ?side1 ?side2 A21.out).mono ?_);(case side1 => repeat (first|exact (Kd.C_below HR1.out HB.out)|(with_reducible refine Kd.C_alloc ?_ _)|(with_reducible refine Kd.C_drewN ?_ _)|(with_reducible refine Kd.C_drew ?_)));(case side2 => exact HC1.out);rintro e w24 ⟨rfl,hb⟩;refine ⟨_,rfl,?_⟩;replace BK448:=zh (cD BK448.out (by (with_reducible repeat first|apply ze|apply zf|apply zg);exact BK448.out) hb);replace BK449:=zh (cD BK449.out (by (with_reducible repeat first|apply ze|apply zf|apply zg);exact BK449.out) hb);replace HB:=zh (zC (by repeat (with_reducible first|exact HB.out|apply za|apply zb|apply zc|refine zd ?_ GE448.out|refine zd ?_ GE449.out)) hb);(try clear hb);(try clear hb2);(try clear hk);(try clear hi);obtain ⟨hcz25_0,hcz25_1,hcz25_2,hfz25_0,hfz25_1,hfz25_2⟩:=cB3 BK449.out))
    refine bodyPost_ret (results_ct rfl _ _ gb449 27 #[.int .i64 t453,.int .i64 t454,.string t455] (0,0) _ rfl (by (with_reducible repeat first|apply ze|apply zf|apply zg);refine zL (cs:=#[.int .i64 t453,.int .i64 t454,.string x450002_1]) ?_ 2 _ rfl;(with_reducible repeat first|apply ze|apply zf|apply zg);refine zL (cs:=#[.int .i64 t453,.int .i64 x450001_1,.string x450002_1]) ?_ 1 _ rfl;(with_reducible repeat first|apply ze|apply zf|apply zg);refine zL (cs:=#[.int .i64 x450000_1,.int .i64 x450001_1,.string x450002_1]) ?_ 0 _ rfl;(with_reducible repeat first|apply ze|apply zf|apply zg);exact BK449.out) Try.underlying27 rfl (by kernel_rfl)) rfl ?_;exact ⟨by first|rfl|(simp [yt,yu] <;> rfl)|(simp [*,yt,yu] <;> rfl),by repeat (with_reducible first|exact HB.out|apply za|apply zb|apply zc|refine zd ?_ GE448.out|refine zd ?_ GE449.out)⟩
 replace c9:=yb.mpr c9;subst c9;have H1 : (some (0,0,(⟨#[]⟩ : ByteArray),1))=some (r1,r2,r3,r4):=by rw [if_neg (show ¬ (false=true) by decide)] at H;exact H
 clear H;have H:=H1;clear H1;simp only [Option.some.injEq,Prod.mk.injEq] at H;obtain ⟨rfl,rfl,rfl,rfl⟩:=H
 go_enter Try.func11,Try.ntmps11
 go_wp2_with (first|((with_reducible refine zK (N:=2) rfl ?_);refine zI ?hg (N:=2) ?hd (cs:=#[.int .i64 a0_0,.int .i64 a0_1,.string a0_2]) (t:=27) ?hr ?_;(case hd|hg => rfl);(case hr => go_simp <;> rfl);intro gb448 hg w26 hbox hb;have BK448:=zh (hbox);have hH_:=cH (by repeat (with_reducible first|exact HB.out|apply za|apply zb|apply zc)) hb hg;have GW448:=zh hH_.1;have GE448:=GW448;replace HB:=zh hH_.2;clear hb hbox hg hH_)|((with_reducible refine zK (N:=4) rfl ?_);refine zI ?hg (N:=4) ?hd (cs:=#[.int .i64 0,.int .i64 0,.string (⟨#[]⟩ : ByteArray)]) (t:=27) ?hr ?_;(case hd|hg => rfl);(case hr => go_simp <;> rfl);intro gb449 hg w27 hbox hb;have BK449:=zh (hbox);have hH_:=cH (by repeat (with_reducible first|exact HB.out|apply za|apply zb|apply zc|refine zd ?_ GE448.out)) hb hg;have GW449:=zh hH_.1;have GE449:=GW449;replace HB:=zh hH_.2;have NB448_449:=zh ((by rw [hg];exact yc (yi (g:=gb448) (o:=.cells #[.int .i64 a0_0,.int .i64 a0_1,.string a0_2] 27 (0,0)) (by (with_reducible repeat first|apply ze|apply zf|apply zg);exact BK448.out)) : gb448≠gb449));have NB449_448:=zh NB448_449.out.symm;replace BK448:=zh (cD BK448.out (by (with_reducible repeat first|apply ze|apply zf|apply zg);exact BK448.out) hb);clear hb hbox hg hH_;have hnb28:=NB448_449.out;have hnc28:=NB449_448.out;obtain ⟨hcz29_0,hcz29_1,hcz29_2,hfz29_0,hfz29_1,hfz29_2⟩:=cB3 BK448.out)|((with_reducible refine zJ (f:=25) rfl ?_);refine yj (some 12) rfl rfl Try.func25 (by kernel_rfl) rfl #[.agg #[.int .i64 a0_0,.int .i64 a0_1,.string a0_2]] rfl (by (try simp only [zt,zu,zv]);first|done|rfl|(simp only [zw,zx];rfl)|(simp only [yr,ys,zV,zW];rfl)) ?_;(with_reducible refine (F08.calls k  a0_0 a0_1 a0_2 false _ A8.out).mono ?_);rintro e w30 ⟨rfl,hb⟩;refine ⟨_,rfl,?_⟩;replace BK448:=zh (cD BK448.out (by (with_reducible repeat first|apply ze|apply zf|apply zg);exact BK448.out) hb);replace BK449:=zh (cD BK449.out (by (with_reducible repeat first|apply ze|apply zf|apply zg);exact BK449.out) hb);replace HB:=zh (zC (by repeat (with_reducible first|exact HB.out|apply za|apply zb|apply zc|refine zd ?_ GE448.out|refine zd ?_ GE449.out)) hb);(try clear hb);(try clear hb2);(try clear hk);(try clear hi);obtain ⟨hcz31_0,hcz31_1,hcz31_2,hfz31_0,hfz31_1,hfz31_2⟩:=cB3 BK449.out))
 refine bodyPost_ret (results_ct rfl _ _ gb449 27 #[.int .i64 0,.int .i64 0,.string (⟨#[]⟩ : ByteArray)] (0,0) _ rfl (by (with_reducible repeat first|apply ze|apply zf|apply zg);refine zL (cs:=#[.int .i64 0,.int .i64 0,.string (⟨#[]⟩ : ByteArray)]) ?_ 2 _ rfl;(with_reducible repeat first|apply ze|apply zf|apply zg);refine zL (cs:=#[.int .i64 0,.int .i64 0,.string (⟨#[]⟩ : ByteArray)]) ?_ 1 _ rfl;(with_reducible repeat first|apply ze|apply zf|apply zg);refine zL (cs:=#[.int .i64 0,.int .i64 0,.string (⟨#[]⟩ : ByteArray)]) ?_ 0 _ rfl;(with_reducible repeat first|apply ze|apply zf|apply zg);exact BK449.out) Try.underlying27 rfl (by kernel_rfl)) rfl ?_;exact ⟨by first|rfl|(simp [yt,yu] <;> rfl)|(simp [*,yt,yu] <;> rfl),by repeat (with_reducible first|exact HB.out|apply za|apply zb|apply zc|refine zd ?_ GE448.out|refine zd ?_ GE449.out)⟩


def Fe.l0 : Nat→List ByteArray→List ByteArray→Int→Option (List ByteArray)
 | 0,_,_,_ => none
 | k + 1,x0,x3,x4 => if x4<(x0.length : Int) then (if 0≤x4 then (if x4<(x3.length : Int) then (Fe.l0 k x0 (x3.set (x4 : Int).toNat (rdOf ByteArray.empty x0 x4)) (wrap64 (x4 + 1))) else (none)) else (none)) else (some x3)
def Fe.f (k : Nat) (l0 : List ByteArray) : Option (List ByteArray):=if 0≤(l0.length : Int) then (if ((l0.length : Int) : Int).toNat≤17592186044416 then (Fe.l0 k l0 (List.replicate ((l0.length : Int) : Int).toNat (⟨#[]⟩ : ByteArray)) 0) else (none)) else (none)
theorem Fe.mono_l : ∀ k,(∀ y0 y1 y2,LeO (Fe.l0 k y0 y1 y2) (Fe.l0 (k + 1) y0 y1 y2))
 | 0 => fun _ _ _ r h => by simp [Fe.l0] at h
 | k + 1 => by
  have ih0:=Fe.mono_l k;intro y0 y1 y2;unfold Fe.l0
  repeat' first|(with_reducible first|exact ih0 _ _ _|exact zQ _|exact zN _|refine zP ?_ ?_|refine zO ?_ (fun _ => ?_))|refine zP ?_ ?_|refine zO ?_ (fun _ => ?_)
theorem Fe.mono : ∀ a0 k,LeO (Fe.f k a0) (Fe.f (k + 1) a0):=by
 intro a0 k;have ih0:=Fe.mono_l k;unfold Fe.f
 repeat' first|(with_reducible first|exact ih0 _ _ _|exact zQ _|exact zN _|refine zP ?_ ?_|refine zO ?_ (fun _ => ?_))|refine zP ?_ ?_|refine zO ?_ (fun _ => ?_)
set_option maxHeartbeats 8000000 in
set_option maxRecDepth 100000 in
theorem Fe.calls (k : Nat) (A0 : Option Addr) (c0 : Nat) (l0 : List ByteArray) (r : List ByteArray) (w : World) (hr0 : Kd.C Kd.string w A0 l0.length l0) (hc0 : l0.length≤c0) (h : Fe.f k l0=some r) :
  Calls Try.prog 12 #[.slice A0 l0.length c0] w fun e w' => ∃ v0_ : Value,e = .returned (v0_)∧Kd.R Kd.string 9 w' w.heap.size (fun _ => True) v0_ r∧Below w.heap.size w w':=by
 have HR0:=zh hr0;have HC0:=zh hc0;clear hr0 hc0;have HB:=zh (Below.refl w.heap.size w);have H : (if 0≤(l0.length : Int) then (if ((l0.length : Int) : Int).toNat≤17592186044416 then (Fe.l0 k l0 (List.replicate ((l0.length : Int) : Int).toNat (⟨#[]⟩ : ByteArray)) 0) else (none)) else (none))=some r:=h;clear h
 by_cases c2 : 0≤(l0.length : Int)
 ·
  rw [if_pos c2] at H
  have c2b0:=eq_true c2;have c2b1 : decide (0≤(l0.length : Int))=true:=decide_eq_true c2;clear c2
  by_cases c3 : ((l0.length : Int) : Int).toNat≤17592186044416
  ·
   rw [if_pos c3] at H
   have c3b0:=eq_true c3;have c3b1 : decide (((l0.length : Int) : Int).toNat≤17592186044416)=true:=decide_eq_true c3;clear c3;obtain ⟨y456,hy456⟩ : ∃ y_ : List ByteArray,y_=(List.replicate ((l0.length : Int) : Int).toNat (⟨#[]⟩ : ByteArray)):=⟨_,rfl⟩;replace H : (Fe.l0 k l0 y456 0)=some r:=by first|(rw [hy456];with_reducible exact H)|(have H2_:=(Option.bind_some _ _).symm.trans H;rw [hy456];with_reducible exact H2_)|(have H2_:=(Option.bind_some _ _).symm.trans H;with_reducible exact H2_)|with_reducible exact H|(rw [hy456];exact H)|exact H
   have Ny456:=zh hy456;clear hy456;have H':=zh H;clear H
   go_enter Try.func12,Try.ntmps12
   go_wp2_with (first|((with_reducible refine zK (N:=7) rfl ?_);refine Kd.R_make Kd.string _ 9 rfl (N:=7) rfl 30 _ _ rfl (l0.length : Int) rfl rfl Try.underlying30 (.string ⟨#[]⟩) 16 info9 rfl (by decide) (by omega) (⟨#[]⟩ : ByteArray) (ok:=fun _ => True) (okp:=fun _ => True) rfl (fun _ hk => hk) trivial (zy (by first|(with_reducible assumption)|assumption)) (Nat.le_trans (Nat.mul_le_mul_right _ (zy (by first|(with_reducible assumption)|assumption) : (l0.length : Int).toNat≤17592186044416)) (by omega)) (Below.refl _ _) (ye _) ?_;intro v457 w4 ho5 hb hg_ hnew_;clear hg_ hnew_;(first|rw [← Ny456.out] at ho5|(simp only [Int.reduceToNat] at ho5;rw [← Ny456.out] at ho5));have HO458:=zh (yy ho5 (zB (by repeat (with_reducible first|exact HB.out|apply za|apply zb|apply zc))));replace HB:=zh (zC (by repeat (with_reducible first|exact HB.out|apply za|apply zb|apply zc)) hb);clear hb ho5))
   go_loopg [4] k (fun kq v4 w' => ∃ (x3_1 : List ByteArray) (x4_1 : Int),v4 = .int .i64 x4_1∧Aside0 (Fe.l0 kq l0 x3_1 x4_1=some r)∧Aside0 (kq≤k)∧Aside0 (Kd.R Kd.string 9 w' w.heap.size (fun _ => True) v457 x3_1)∧Aside0 (Below w.heap.size w w'))
   case atStart => exact ⟨(y456),(0),(by first|rfl|(simp;done)|(simp [*];done)),H',⟨ye _⟩,⟨by (with_reducible repeat (first|apply zm|apply zn|apply zo));exact HO458.out⟩,⟨by repeat (with_reducible first|exact HB.out|apply za|apply zb|apply zc)⟩⟩
   case round =>
    clear H'
    try clear c1 c2 c2b0 c2b1
    try clear p2
    try clear c3 c3b0 c3b1
    obtain ⟨x3_1,x4_1,rfl,HA,HK1,HO_3,HB⟩:=hrel
    cases gk with
    | zero => exact absurd HA.out (by simp [Fe.l0])
    | succ k1 =>
     have H:=HA.out;clear HA;simp only [Fe.l0] at H
     by_cases c6 : x4_1<(l0.length : Int)
     ·
      rw [if_pos c6] at H
      have c6b0 : decide (x4_1<(l0.length : Int))=true:=decide_eq_true c6;clear c6
      by_cases c7 : 0≤x4_1
      ·
       rw [if_pos c7] at H
       have c7b0 : decide (0≤x4_1)=true:=decide_eq_true c7;clear c7
       by_cases c8 : x4_1<(x3_1.length : Int)
       ·
        rw [if_pos c8] at H
        have c8b0 : decide (x4_1<(x3_1.length : Int))=true:=decide_eq_true c8;clear c8;obtain ⟨y460,hy460⟩ : ∃ y_ : List ByteArray,y_=(x3_1.set (x4_1 : Int).toNat (rdOf ByteArray.empty l0 x4_1)):=⟨_,rfl⟩;replace H : (Fe.l0 k1 l0 y460 (wrap64 (x4_1 + 1)))=some r:=by first|(rw [hy460];with_reducible exact H)|(have H2_:=(Option.bind_some _ _).symm.trans H;rw [hy460];with_reducible exact H2_)|(have H2_:=(Option.bind_some _ _).symm.trans H;with_reducible exact H2_)|with_reducible exact H|(rw [hy460];exact H)|exact H
        have Ny460:=zh hy460;clear hy460;have H':=zh H;clear H;have p459 : 0≤(x4_1 : Int):=zy (by first|(with_reducible assumption)|assumption);have q459 : x4_1<(l0.length : Int):=zy (by first|(with_reducible assumption)|assumption);obtain ⟨ad459,e459,hx459_0⟩:=Kd.at_string HR0.out x4_1 p459 q459
        cases e459
        replace hx459_0:=(HB.out.cell (zl w _ hx459_0)).trans hx459_0;replace p459:=eq_true p459;replace q459:=eq_true q459;have p9 : 0≤(x4_1 : Int):=zy (by first|(with_reducible assumption)|assumption);have q9 : (x4_1 : Int)<((x3_1.length : Int) : Int):=zy (by first|(with_reducible assumption)|assumption);obtain ⟨go9,co9,eo9,gb9,gl9,cl9,HG9⟩:=Kd.R_form HO_3.out (by omega);(first|cases eo9|(injection eo9 with ea_ en_ ec_;(first|subst ea_|(injection ea_ with ea_;subst ea_));subst ec_;clear en_));have GB9:=zh gb9;have GG9:=zh HG9;clear gb9 gl9 HG9;obtain ⟨hx9_0,hf9_0⟩:=Kd.R_celln (⟨#[]⟩ : ByteArray) HO_3.out (x4_1 : Int) p9 q9;replace p9:=eq_true p9;replace q9:=eq_true q9;have HP10:=Kd.R_putg HO_3.out (x4_1 : Int) (rdOf ByteArray.empty l0 x4_1)
        go_wp2_with (first|((with_reducible refine gate_store (t:=9) (p:=20) rfl ?_);refine store_event (t:=9) (p:=20) (v:=?vo_w11) (w1:=(wr.setCell ⟨go9,(x4_1 : Int).toNat,none⟩ (.string (rdOf ByteArray.empty l0 x4_1)))) ?hg ?ho ?hn ?hr ?_;(case ho => rfl);(case hg => rfl);(case hn => rfl);(case hr => go_simp <;> rfl);intro w11 hw;have hg : wr.grownBy w11 (some go9):=(by rw [hw];exact HP10.2);have hp_ : Kd.R Kd.string 9 w11 w.heap.size (fun _ => True) (.slice (some ⟨go9,0,none⟩) x3_1.length co9) y460:=(by rw [hw,Ny460.out];exact HP10.1);clear HP10;replace HO_3:=zh (hp_);replace HB:=zh ((by rw [hw];exact zd (HB.out) GB9.out : Below w.heap.size w w11));clear hg hw hp_))
        go_roundg k1
        case measure => have:=HK1.out;omega
        case rel => exact ⟨(y460),(wrap64 (x4_1 + 1)),(by first|rfl|(simp;done)|(simp [*];done)),H',⟨by have:=HK1.out;omega⟩,⟨by (with_reducible repeat (first|apply zm|apply zn|apply zo));exact HO_3.out⟩,⟨by repeat (with_reducible first|exact HB.out|apply za|apply zb|apply zc)⟩⟩
       rw [if_neg c8] at H;exact absurd H (by simp)
      rw [if_neg c7] at H;exact absurd H (by simp)
     rw [if_neg c6] at H;have c6b0 : decide (x4_1<(l0.length : Int))=false:=decide_eq_false c6;clear c6;obtain rfl:=zU H
     go_wp2
     go_ret
     exact ⟨_,by first|rfl|(simp [yt,yu] <;> rfl)|(simp [*,yt,yu] <;> rfl),by (with_reducible repeat (first|apply zm|apply zn|apply zo));exact HO_3.out,by repeat (with_reducible first|exact HB.out|apply za|apply zb|apply zc)⟩
  rw [if_neg c3] at H;exact absurd H (by simp)
 rw [if_neg c2] at H;exact absurd H (by simp)


def F05.f (a0 : Int) (a1 : Int) (a2 : Int) : Option (Bool):=if a1≤a0 then (some (decide (a0≤a2))) else (some false)
set_option maxHeartbeats 8000000 in
set_option maxRecDepth 100000 in
theorem F05.calls (a0 : Int) (a1 : Int) (a2 : Int) (r : Bool) (w : World) (h : F05.f a0 a1 a2=some r) :
  Calls Try.prog 67 #[.int .i64 a0,.int .i64 a1,.int .i64 a2] w fun e w' => e = .returned (.bool r)∧Drawn0 w w':=by
 have H : (if a1≤a0 then (some (decide (a0≤a2))) else (some false))=some r:=h;clear h
 by_cases c4 : a1≤a0
 ·
  rw [if_pos c4] at H
  have c4b0 : decide (a1≤a0)=true:=decide_eq_true c4;clear c4;obtain rfl:=zU H
  go_enter Try.func67,Try.ntmps67
  go_wp2
  go_ret
  exact ⟨by first|rfl|(simp;done)|(simp [*];done),by repeat (first|exact yp _|apply yq)⟩
 rw [if_neg c4] at H;have c4b0 : decide (a1≤a0)=false:=decide_eq_false c4;clear c4;obtain rfl:=zU H
 go_enter Try.func67,Try.ntmps67
 go_wp2
 go_ret
 exact ⟨by first|rfl|(simp;done)|(simp [*];done),by repeat (first|exact yp _|apply yq)⟩


def F0k.f (a0 : Int) : Option (Bool):=(F05.f a0 (-1000000000000) 1000000000000).bind fun t223 => (some t223)
set_option maxHeartbeats 8000000 in
set_option maxRecDepth 100000 in
theorem F0k.calls (a0 : Int) (r : Bool) (w : World) (h : F0k.f a0=some r) :
  Calls Try.prog 68 #[.int .i64 a0] w fun e w' => e = .returned (.bool r)∧Drawn0 w w':=by
 have H : ((F05.f a0 (-1000000000000) 1000000000000).bind fun t223 => (some t223))=some r:=h;clear h;replace H:=zT.mp H;obtain ⟨t223,A20,H⟩:=H;replace H : (some t223)=some r:=H;have A2:=zh A20;clear A20;obtain rfl:=zU H
 go_enter Try.func68,Try.ntmps68
 go_wp2_with (first|((with_reducible refine zJ (f:=67) rfl ?_);refine yj (some 4) rfl rfl Try.func67 (by kernel_rfl) rfl #[.int .i64 a0,.int .i64 (-1000000000000),.int .i64 1000000000000] rfl (by (try simp only [zt,zu,zv]);first|done|rfl|(simp only [zw,zx];rfl)|(simp only [yr,ys,zV,zW];rfl)) ?_;(with_reducible refine (F05.calls  a0 (-1000000000000) 1000000000000 t223 _ A2.out).mono ?_);rintro e w' ⟨rfl,⟨nd,rfl⟩⟩;refine ⟨_,rfl,?_⟩))
 go_ret
 exact ⟨by first|rfl|(simp;done)|(simp [*];done),by repeat (first|exact yp _|apply yq)⟩


def F0h.f (a0 : Int) : Option (Bool):=if a0 ≥ 97 then (if a0≤122 then (some true) else (if a0 ≥ 65 then (if a0≤90 then (some true) else (some (a0 == 95))) else (some (a0 == 95)))) else (if a0 ≥ 65 then (if a0≤90 then (some true) else (some (a0 == 95))) else (some (a0 == 95)))
set_option maxHeartbeats 8000000 in
set_option maxRecDepth 100000 in
theorem F0h.calls (a0 : Int) (r : Bool) (w : World) (h : F0h.f a0=some r) :
  Calls Try.prog 84 #[.int .u8 a0] w fun e w' => e = .returned (.bool r)∧Drawn0 w w':=by
 have H : (if a0 ≥ 97 then (if a0≤122 then (some true) else (if a0 ≥ 65 then (if a0≤90 then (some true) else (some (a0 == 95))) else (some (a0 == 95)))) else (if a0 ≥ 65 then (if a0≤90 then (some true) else (some (a0 == 95))) else (some (a0 == 95))))=some r:=h;clear h
 by_cases c2 : a0 ≥ 97
 ·
  rw [if_pos c2] at H
  have c2b0 : decide (97≤a0)=true:=decide_eq_true c2;clear c2
  by_cases c3 : a0≤122
  ·
   rw [if_pos c3] at H
   have c3b0 : decide (a0≤122)=true:=decide_eq_true c3;clear c3;obtain rfl:=zU H
   go_enter Try.func84,Try.ntmps84
   go_wp2
   go_ret
   exact ⟨by first|rfl|(simp;done)|(simp [*];done),by repeat (first|exact yp _|apply yq)⟩
  rw [if_neg c3] at H;have c3b0 : decide (a0≤122)=false:=decide_eq_false c3;clear c3
  by_cases c4 : a0 ≥ 65
  ·
   rw [if_pos c4] at H
   have c4b0 : decide (65≤a0)=true:=decide_eq_true c4;clear c4
   by_cases c5 : a0≤90
   ·
    rw [if_pos c5] at H
    have c5b0 : decide (a0≤90)=true:=decide_eq_true c5;clear c5;obtain rfl:=zU H
    go_enter Try.func84,Try.ntmps84
    go_wp2
    go_ret
    exact ⟨by first|rfl|(simp;done)|(simp [*];done),by repeat (first|exact yp _|apply yq)⟩
   rw [if_neg c5] at H;have c5b0 : decide (a0≤90)=false:=decide_eq_false c5;clear c5;obtain rfl:=zU H
   go_enter Try.func84,Try.ntmps84
   go_wp2
   go_ret
   exact ⟨by first|rfl|(simp;done)|(simp [*];done),by repeat (first|exact yp _|apply yq)⟩
  rw [if_neg c4] at H;have c4b0 : decide (65≤a0)=false:=decide_eq_false c4;clear c4;obtain rfl:=zU H
  go_enter Try.func84,Try.ntmps84
  go_wp2
  go_ret
  exact ⟨by first|rfl|(simp;done)|(simp [*];done),by repeat (first|exact yp _|apply yq)⟩
 rw [if_neg c2] at H;have c2b0 : decide (97≤a0)=false:=decide_eq_false c2;clear c2
 by_cases c6 : a0 ≥ 65
 ·
  rw [if_pos c6] at H
  have c6b0 : decide (65≤a0)=true:=decide_eq_true c6;clear c6
  by_cases c7 : a0≤90
  ·
   rw [if_pos c7] at H
   have c7b0 : decide (a0≤90)=true:=decide_eq_true c7;clear c7;obtain rfl:=zU H
   go_enter Try.func84,Try.ntmps84
   go_wp2
   go_ret
   exact ⟨by first|rfl|(simp;done)|(simp [*];done),by repeat (first|exact yp _|apply yq)⟩
  rw [if_neg c7] at H;have c7b0 : decide (a0≤90)=false:=decide_eq_false c7;clear c7;obtain rfl:=zU H
  go_enter Try.func84,Try.ntmps84
  go_wp2
  go_ret
  exact ⟨by first|rfl|(simp;done)|(simp [*];done),by repeat (first|exact yp _|apply yq)⟩
 rw [if_neg c6] at H;have c6b0 : decide (65≤a0)=false:=decide_eq_false c6;clear c6;obtain rfl:=zU H
 go_enter Try.func84,Try.ntmps84
 go_wp2
 go_ret
 exact ⟨by first|rfl|(simp;done)|(simp [*];done),by repeat (first|exact yp _|apply yq)⟩


def F0g.f (a0 : Int) : Option (Bool):=if a0 ≥ 48 then (some (decide (a0≤57))) else (some false)
set_option maxHeartbeats 8000000 in
set_option maxRecDepth 100000 in
theorem F0g.calls (a0 : Int) (r : Bool) (w : World) (h : F0g.f a0=some r) :
  Calls Try.prog 85 #[.int .u8 a0] w fun e w' => e = .returned (.bool r)∧Drawn0 w w':=by
 have H : (if a0 ≥ 48 then (some (decide (a0≤57))) else (some false))=some r:=h;clear h
 by_cases c2 : a0 ≥ 48
 ·
  rw [if_pos c2] at H
  have c2b0 : decide (48≤a0)=true:=decide_eq_true c2;clear c2;obtain rfl:=zU H
  go_enter Try.func85,Try.ntmps85
  go_wp2
  go_ret
  exact ⟨by first|rfl|(simp;done)|(simp [*];done),by repeat (first|exact yp _|apply yq)⟩
 rw [if_neg c2] at H;have c2b0 : decide (48≤a0)=false:=decide_eq_false c2;clear c2;obtain rfl:=zU H
 go_enter Try.func85,Try.ntmps85
 go_wp2
 go_ret
 exact ⟨by first|rfl|(simp;done)|(simp [*];done),by repeat (first|exact yp _|apply yq)⟩


def Fl.l0 : Nat→ByteArray→Int→Int→Option (Bool)
 | 0,_,_,_ => none
 | k + 1,x0,x5,x6 => if x6<x5 then (if 0≤x6 then (if x6<(x0.size : Int) then ((F0h.f (bt x0 x6)).bind fun t225 => (if t225=true then (Fl.l0 k x0 x5 (wrap64 (x6 + 1))) else ((F0g.f (bt x0 x6)).bind fun t226 => (if t226=true then (if x6=0 then (some false) else (Fl.l0 k x0 x5 (wrap64 (x6 + 1)))) else (some false))))) else (none)) else (none)) else ((F05.f (x0.size : Int) 1 40).bind fun t224 => (some t224))
def Fl.f (k : Nat) (a0 : ByteArray) : Option (Bool):=Fl.l0 k a0 (a0.size : Int) 0
theorem Fl.mono_l : ∀ k,(∀ y0 y1 y2,LeO (Fl.l0 k y0 y1 y2) (Fl.l0 (k + 1) y0 y1 y2))
 | 0 => fun _ _ _ r h => by simp [Fl.l0] at h
 | k + 1 => by
  have ih0:=Fl.mono_l k;intro y0 y1 y2;unfold Fl.l0
  repeat' first|(with_reducible first|exact ih0 _ _ _|exact zQ _|exact zN _|refine zP ?_ ?_|refine zO ?_ (fun _ => ?_))|refine zP ?_ ?_|refine zO ?_ (fun _ => ?_)
theorem Fl.mono : ∀ a0 k,LeO (Fl.f k a0) (Fl.f (k + 1) a0):=by
 intro a0 k;have ih0:=Fl.mono_l k;unfold Fl.f
 repeat' first|(with_reducible first|exact ih0 _ _ _|exact zQ _|exact zN _|refine zP ?_ ?_|refine zO ?_ (fun _ => ?_))|refine zP ?_ ?_|refine zO ?_ (fun _ => ?_)
set_option maxHeartbeats 8000000 in
set_option maxRecDepth 100000 in
theorem Fl.calls (k : Nat) (a0 : ByteArray) (r : Bool) (w : World) (h : Fl.f k a0=some r) :
  Calls Try.prog 60 #[.string a0] w fun e w' => e = .returned (.bool r)∧Drawn0 w w':=by
 have H : (Fl.l0 k a0 (a0.size : Int) 0)=some r:=h;clear h;have H':=zh H;clear H
 go_enter Try.func60,Try.ntmps60
 go_wp2
 go_loopg [6] k (fun kq v6 w' => ∃ (x6_1 : Int),v6 = .int .i64 x6_1∧Aside0 (Fl.l0 kq a0 (a0.size : Int) x6_1=some r)∧Aside0 (kq≤k)∧Drawn0 w w')
 case atStart => exact ⟨(0),(by first|rfl|(simp;done)|(simp [*];done)),H',⟨ye _⟩,by repeat (first|exact yp _|apply yq)⟩
 case round =>
  clear H';obtain ⟨x6_1,rfl,HA,HK1,⟨m1,rfl⟩⟩:=hrel
  cases gk with
  | zero => exact absurd HA.out (by simp [Fl.l0])
  | succ k1 =>
   have H:=HA.out;clear HA;simp only [Fl.l0] at H
   by_cases c2 : x6_1<(a0.size : Int)
   ·
    rw [if_pos c2] at H
    have c2b0 : decide (x6_1<(a0.size : Int))=true:=decide_eq_true c2;clear c2
    by_cases c3 : 0≤x6_1
    ·
     rw [if_pos c3] at H
     have c3b0 : decide (0≤x6_1)=true:=decide_eq_true c3;clear c3
     by_cases c4 : x6_1<(a0.size : Int)
     ·
      rw [if_pos c4] at H
      have c4b0 : decide (x6_1<(a0.size : Int))=true:=decide_eq_true c4;clear c4;replace H:=zT.mp H;obtain ⟨t225,A60,H⟩:=H;replace H : (if t225=true then (Fl.l0 k1 a0 (a0.size : Int) (wrap64 (x6_1 + 1))) else ((F0g.f (bt a0 x6_1)).bind fun t226 => (if t226=true then (if x6_1=0 then (some false) else (Fl.l0 k1 a0 (a0.size : Int) (wrap64 (x6_1 + 1)))) else (some false))))=some r:=H;have A6:=zh A60;clear A60
      by_cases c7 : t225=true
      ·
       subst c7
       have H1 : (Fl.l0 k1 a0 (a0.size : Int) (wrap64 (x6_1 + 1)))=some r:=by rw [if_pos rfl] at H;exact H
       clear H;have H:=H1;clear H1;have H':=zh H;clear H;have p5 : 0≤(x6_1 : Int):=zy (by first|(with_reducible assumption)|assumption);have q5 : x6_1<(a0.size : Int):=zy (by first|(with_reducible assumption)|assumption);have hx5:=bt_at a0 x6_1;replace p5:=eq_true p5;replace q5:=eq_true q5
       go_wp2_with (first|((with_reducible refine zJ (f:=84) rfl ?_);refine yj (some 12) rfl rfl Try.func84 (by kernel_rfl) rfl #[.int .u8 (bt a0 x6_1)] rfl (by (try simp only [zt,zu,zv]);first|done|rfl|(simp only [zw,zx];rfl)|(simp only [yr,ys,zV,zW];rfl)) ?_;(with_reducible refine (F0h.calls  (bt a0 x6_1) true _ A6.out).mono ?_);rintro e w' ⟨rfl,⟨nd,rfl⟩⟩;refine ⟨_,rfl,?_⟩))
       go_roundg k1
       case measure => have:=HK1.out;omega
       case rel => exact ⟨(wrap64 (x6_1 + 1)),(by first|rfl|(simp;done)|(simp [*];done)),H',⟨by have:=HK1.out;omega⟩,by repeat (first|exact yp _|apply yq)⟩
      replace c7:=yb.mpr c7;subst c7;have H1 : ((F0g.f (bt a0 x6_1)).bind fun t226 => (if t226=true then (if x6_1=0 then (some false) else (Fl.l0 k1 a0 (a0.size : Int) (wrap64 (x6_1 + 1)))) else (some false)))=some r:=by rw [if_neg (show ¬ (false=true) by decide)] at H;exact H
      clear H;have H:=H1;clear H1;replace H:=zT.mp H;obtain ⟨t226,A90,H⟩:=H;replace H : (if t226=true then (if x6_1=0 then (some false) else (Fl.l0 k1 a0 (a0.size : Int) (wrap64 (x6_1 + 1)))) else (some false))=some r:=H;have A9:=zh A90;clear A90
      by_cases c10 : t226=true
      ·
       subst c10
       have H1 : (if x6_1=0 then (some false) else (Fl.l0 k1 a0 (a0.size : Int) (wrap64 (x6_1 + 1))))=some r:=by rw [if_pos rfl] at H;exact H
       clear H;have H:=H1;clear H1
       by_cases c11 : x6_1=0
       ·
        rw [if_pos c11] at H
        have c11b0 : (x6_1 == 0)=true:=ya.mpr c11;have c11b1 : (x6_1 != 0)=false:=zX.mpr c11;clear c11;obtain rfl:=zU H;have p5 : 0≤(x6_1 : Int):=zy (by first|(with_reducible assumption)|assumption);have q5 : x6_1<(a0.size : Int):=zy (by first|(with_reducible assumption)|assumption);have hx5:=bt_at a0 x6_1;replace p5:=eq_true p5;replace q5:=eq_true q5
        go_wp2_with (first|((with_reducible refine zJ (f:=84) rfl ?_);refine yj (some 12) rfl rfl Try.func84 (by kernel_rfl) rfl #[.int .u8 (bt a0 x6_1)] rfl (by (try simp only [zt,zu,zv]);first|done|rfl|(simp only [zw,zx];rfl)|(simp only [yr,ys,zV,zW];rfl)) ?_;(with_reducible refine (F0h.calls  (bt a0 x6_1) false _ A6.out).mono ?_);rintro e w' ⟨rfl,⟨nd,rfl⟩⟩;refine ⟨_,rfl,?_⟩;have p8 : 0≤(x6_1 : Int):=zy (by first|(with_reducible assumption)|assumption);have q8 : x6_1<(a0.size : Int):=zy (by first|(with_reducible assumption)|assumption);have hx8:=bt_at a0 x6_1;replace p8:=eq_true p8;replace q8:=eq_true q8)|(go_at_call 85;(with_reducible refine (F0g.calls  (bt a0 x6_1) true _ A9.out).mono ?_);rintro e w' ⟨rfl,⟨nd,rfl⟩⟩))
        go_ret
        exact ⟨by first|rfl|(simp;done)|(simp [*];done),by repeat (first|exact yp _|apply yq)⟩
       rw [if_neg c11] at H;have c11b0 : (x6_1 == 0)=false:=zY.mpr c11;have c11b1 : (x6_1 != 0)=true:=zZ.mpr c11;have H':=zh H;clear H;have p5 : 0≤(x6_1 : Int):=zy (by first|(with_reducible assumption)|assumption);have q5 : x6_1<(a0.size : Int):=zy (by first|(with_reducible assumption)|assumption);have hx5:=bt_at a0 x6_1;replace p5:=eq_true p5;replace q5:=eq_true q5
       go_wp2_with (first|((with_reducible refine zJ (f:=84) rfl ?_);refine yj (some 12) rfl rfl Try.func84 (by kernel_rfl) rfl #[.int .u8 (bt a0 x6_1)] rfl (by (try simp only [zt,zu,zv]);first|done|rfl|(simp only [zw,zx];rfl)|(simp only [yr,ys,zV,zW];rfl)) ?_;(with_reducible refine (F0h.calls  (bt a0 x6_1) false _ A6.out).mono ?_);rintro e w' ⟨rfl,⟨nd,rfl⟩⟩;refine ⟨_,rfl,?_⟩;have p8 : 0≤(x6_1 : Int):=zy (by first|(with_reducible assumption)|assumption);have q8 : x6_1<(a0.size : Int):=zy (by first|(with_reducible assumption)|assumption);have hx8:=bt_at a0 x6_1;replace p8:=eq_true p8;replace q8:=eq_true q8)|(go_at_call 85;(with_reducible refine (F0g.calls  (bt a0 x6_1) true _ A9.out).mono ?_);rintro e w' ⟨rfl,⟨nd,rfl⟩⟩))
       go_roundg k1
       case measure => have:=HK1.out;omega
       case rel => exact ⟨(wrap64 (x6_1 + 1)),(by first|rfl|(simp;done)|(simp [*];done)),H',⟨by have:=HK1.out;omega⟩,by repeat (first|exact yp _|apply yq)⟩
      replace c10:=yb.mpr c10;subst c10;have H1 : (some false)=some r:=by rw [if_neg (show ¬ (false=true) by decide)] at H;exact H
      clear H;have H:=H1;clear H1;obtain rfl:=zU H;have p5 : 0≤(x6_1 : Int):=zy (by first|(with_reducible assumption)|assumption);have q5 : x6_1<(a0.size : Int):=zy (by first|(with_reducible assumption)|assumption);have hx5:=bt_at a0 x6_1;replace p5:=eq_true p5;replace q5:=eq_true q5
      go_wp2_with (first|((with_reducible refine zJ (f:=84) rfl ?_);refine yj (some 12) rfl rfl Try.func84 (by kernel_rfl) rfl #[.int .u8 (bt a0 x6_1)] rfl (by (try simp only [zt,zu,zv]);first|done|rfl|(simp only [zw,zx];rfl)|(simp only [yr,ys,zV,zW];rfl)) ?_;(with_reducible refine (F0h.calls  (bt a0 x6_1) false _ A6.out).mono ?_);rintro e w' ⟨rfl,⟨nd,rfl⟩⟩;refine ⟨_,rfl,?_⟩;have p8 : 0≤(x6_1 : Int):=zy (by first|(with_reducible assumption)|assumption);have q8 : x6_1<(a0.size : Int):=zy (by first|(with_reducible assumption)|assumption);have hx8:=bt_at a0 x6_1;replace p8:=eq_true p8;replace q8:=eq_true q8)|(go_at_call 85;(with_reducible refine (F0g.calls  (bt a0 x6_1) false _ A9.out).mono ?_);rintro e w' ⟨rfl,⟨nd,rfl⟩⟩))
      go_ret
      exact ⟨by first|rfl|(simp;done)|(simp [*];done),by repeat (first|exact yp _|apply yq)⟩
     rw [if_neg c4] at H;exact absurd H (by simp)
    rw [if_neg c3] at H;exact absurd H (by simp)
   rw [if_neg c2] at H;have c2b0 : decide (x6_1<(a0.size : Int))=false:=decide_eq_false c2;clear c2;replace H:=zT.mp H;obtain ⟨t224,A120,H⟩:=H;replace H : (some t224)=some r:=H;have A12:=zh A120;clear A120;obtain rfl:=zU H
   go_wp2_with (first|((with_reducible refine zJ (f:=67) rfl ?_);refine yj (some 28) rfl rfl Try.func67 (by kernel_rfl) rfl #[.int .i64 (a0.size : Int),.int .i64 1,.int .i64 40] rfl (by (try simp only [zt,zu,zv]);first|done|rfl|(simp only [zw,zx];rfl)|(simp only [yr,ys,zV,zW];rfl)) ?_;(with_reducible refine (F05.calls  (a0.size : Int) 1 40 t224 _ A12.out).mono ?_);rintro e w' ⟨rfl,⟨nd,rfl⟩⟩;refine ⟨_,rfl,?_⟩))
   go_ret
   exact ⟨by first|rfl|(simp;done)|(simp [*];done),by repeat (first|exact yp _|apply yq)⟩


def Fx.f (k : Nat) (a0 : ByteArray) : Option (Bool):=if (a0.size : Int)≤12 then ((Fl.f k a0).bind fun t227 => (some t227)) else (some false)
theorem Fx.mono : ∀ a0 k,LeO (Fx.f k a0) (Fx.f (k + 1) a0):=by
 intro a0 k;unfold Fx.f
 repeat' first|(with_reducible first|exact Fl.mono _ _|exact zQ _|exact zN _|refine zP ?_ ?_|refine zO ?_ (fun _ => ?_))|refine zP ?_ ?_|refine zO ?_ (fun _ => ?_)
set_option maxHeartbeats 8000000 in
set_option maxRecDepth 100000 in
theorem Fx.calls (k : Nat) (a0 : ByteArray) (r : Bool) (w : World) (h : Fx.f k a0=some r) :
  Calls Try.prog 36 #[.string a0] w fun e w' => e = .returned (.bool r)∧Drawn0 w w':=by
 have H : (if (a0.size : Int)≤12 then ((Fl.f k a0).bind fun t227 => (some t227)) else (some false))=some r:=h;clear h
 by_cases c2 : (a0.size : Int)≤12
 ·
  rw [if_pos c2] at H
  have c2b0 : decide ((a0.size : Int)≤12)=true:=decide_eq_true c2;have c2b1 : decide (a0.size≤12)=true:=decide_eq_true (by omega);clear c2;replace H:=zT.mp H;obtain ⟨t227,A30,H⟩:=H;replace H : (some t227)=some r:=H;have A3:=zh A30;clear A30;obtain rfl:=zU H
  go_enter Try.func36,Try.ntmps36
  go_wp2_with (first|(go_at_call 60;(with_reducible refine (Fl.calls k  a0 t227 _ A3.out).mono ?_);rintro e w' ⟨rfl,⟨nd,rfl⟩⟩))
  go_ret
  exact ⟨by first|rfl|(simp;done)|(simp [*];done),by repeat (first|exact yp _|apply yq)⟩
 rw [if_neg c2] at H;have c2b0 : decide ((a0.size : Int)≤12)=false:=decide_eq_false c2;have c2b1 : decide (a0.size≤12)=false:=decide_eq_false (by omega);clear c2;obtain rfl:=zU H
 go_enter Try.func36,Try.ntmps36
 go_wp2
 go_ret
 exact ⟨by first|rfl|(simp;done)|(simp [*];done),by repeat (first|exact yp _|apply yq)⟩


def strings_Repeat.f (a0 : ByteArray) (a1 : Int) : Option (ByteArray):=if 0≤a1 then (if a0.size * a1.toNat≤140737488355328 then (if a1≤9223372036854775807 then (some ⟨(Lib.repeatL a0.data.toList a1.toNat).toArray⟩) else (none)) else (none)) else (none)
theorem strings_Repeat.calls (a0 : ByteArray) (a1 : Int) (r : ByteArray) (w : World) (h : strings_Repeat.f a0 a1=some r) :
  Calls Try.prog 92 #[.string a0,.int .i64 a1] w fun e w' => e = .returned (.string r)∧Below w.heap.size w w':=by
 unfold strings_Repeat.f at h
 by_cases h0 : 0≤a1
 ·
  rw [if_pos h0] at h
  by_cases h1 : a0.size * a1.toNat≤140737488355328
  ·
   rw [if_pos h1] at h
   by_cases h2 : a1≤9223372036854775807
   ·
    rw [if_pos h2] at h
    obtain rfl:=zU h;have:=Try.strings_Repeat a0 a1.toNat w (by omega) h1;rw [Int.toNat_of_nonneg h0] at this;exact this
   rw [if_neg h2] at h;exact absurd h (by simp)
  rw [if_neg h1] at h;exact absurd h (by simp)
 rw [if_neg h0] at h;exact absurd h (by simp)


def IsS95 (w0 W : World) (g : Nat) (f0 : ByteArray) (f1 : Bool) : Prop:=W.heap[g]? = some (.cells #[.string f0,.bool f1] 95 (0,0))∧w0.heap.size≤g
theorem IsS95.grown {w0 W : World} {g : Nat} {f0 : ByteArray} {f1 : Bool} {W1 : World} {row : Option Nat} (h : IsS95 w0 W g f0 f1) (hw : W.grownBy W1 row) (hne : some g≠row) : IsS95 w0 W1 g f0 f1:=by
 obtain ⟨hb,hg⟩:=h;exact ⟨yw hb hw hne,hg⟩
theorem IsS95.fresh {w0 W : World} {g : Nat} {f0 : ByteArray} {f1 : Bool} (h : IsS95 w0 W g f0 f1) : ∀ k,W.heap.size≤k→k≠g:=by
 obtain ⟨hb,hg⟩:=h;exact Kd.freshB hb
theorem IsS95.kept {w0 W : World} {g : Nat} {f0 : ByteArray} {f1 : Bool} {W1 : World} {S : Nat→Prop} (h : IsS95 w0 W g f0 f1) (hk : Kept W W1 S) (hne : ¬ S g) : IsS95 w0 W1 g f0 f1:=by
 obtain ⟨hb,hg⟩:=h;exact ⟨blk_kept hb hk hne,hg⟩
theorem IsS95.below {w0 W : World} {g : Nat} {f0 : ByteArray} {f1 : Bool} {W1 : World} (h : IsS95 w0 W g f0 f1) (hw : Below W.heap.size W W1) : IsS95 w0 W1 g f0 f1:=h.grown (grown_of_below hw none) (by simp)
theorem IsS95.alloc {w0 W : World} {g : Nat} {f0 : ByteArray} {f1 : Bool} (h : IsS95 w0 W g f0 f1) (o : Obj) : IsS95 w0 (W.alloc o) g f0 f1:=h.below (za (Below.refl _ _) o)
theorem IsS95.drewN {w0 W : World} {g : Nat} {f0 : ByteArray} {f1 : Bool} (h : IsS95 w0 W g f0 f1) (m : Nat) : IsS95 w0 (W.drewN m) g f0 f1:=h
theorem IsS95.drew {w0 W : World} {g : Nat} {f0 : ByteArray} {f1 : Bool} (h : IsS95 w0 W g f0 f1) : IsS95 w0 W.drew g f0 f1:=h
theorem IsS95.at_ {w0 W : World} {g : Nat} {f0 : ByteArray} {f1 : Bool} {w' : World} {m : Nat} (hq : W.drewN m=w') (h : IsS95 w0 W g f0 f1) : IsS95 w0 w' g f0 f1:=by subst hq;exact IsS95.drewN h m
theorem IsS95.apart {w0 W : World} {g : Nat} {f0 : ByteArray} {f1 : Bool} {α : Type} {d : Kd α} {e : Nat} {base : Nat} {ok : Nat→Prop} {v : Value} {xs : List α} (h : IsS95 w0 W g f0 f1) (ho : d.R e W base ok v xs) (ht : ∀ q,q ∈ e :: d.E→q≠95) : d.R e W base (fun k => ok k∧k≠g) v xs:=by
 obtain ⟨hb,hg⟩:=h;exact yf ho hb ht
theorem IsS95.own_ne {w0 W : World} {g : Nat} {f0 : ByteArray} {f1 : Bool} {α : Type} {d : Kd α} {e : Nat} {base : Nat} {ok : Nat→Prop} {v : Value} {xs : List α} (h : IsS95 w0 W g f0 f1) (ho : d.R e W base ok v xs) (ht : e≠95) : some g≠v.ownBlock:=by
 obtain ⟨hb,hg⟩:=h;exact Kd.R_ne ho hb ht
theorem IsS95.lt {w0 W : World} {g : Nat} {f0 : ByteArray} {f1 : Bool} (h : IsS95 w0 W g f0 f1) : g<W.heap.size:=by
 obtain ⟨hb,hg⟩:=h;exact yi hb
theorem IsS95.ge {w0 W : World} {g : Nat} {f0 : ByteArray} {f1 : Bool} (h : IsS95 w0 W g f0 f1) : w0.heap.size≤g:=by
 obtain ⟨hb,hg⟩:=h;exact hg
theorem IsS95.far {w0 W : World} {g : Nat} {f0 : ByteArray} {f1 : Bool} {p : Addr} (h : IsS95 w0 W g f0 f1) (hne : g≠p.block) (u : Value) : IsS95 w0 (W.setCell p u) g f0 f1:=by
 obtain ⟨hb,hg⟩:=h;exact ⟨zS hb hne u,hg⟩
theorem cellS95_0 {W : World} {g : Nat} {f0 : ByteArray} {f1 : Bool} (h : W.heap[g]? = some (.cells #[.string f0,.bool f1] 95 (0,0))) : W.cell? ⟨g,0,none⟩=some (.string f0):=(zz h 0).trans rfl
theorem IsS95.set_0 {w0 W : World} {g : Nat} {f0 : ByteArray} {f1 : Bool} (h : IsS95 w0 W g f0 f1) (x : ByteArray) : IsS95 w0 (W.setCell ⟨g,0,none⟩ (.string x)) g x f1:=by
 obtain ⟨hb,hg⟩:=h;exact ⟨by simpa using blk_set hb 0 (.string x),hg⟩
theorem cellS95_1 {W : World} {g : Nat} {f0 : ByteArray} {f1 : Bool} (h : W.heap[g]? = some (.cells #[.string f0,.bool f1] 95 (0,0))) : W.cell? ⟨g,1,none⟩=some (.bool f1):=(zz h 1).trans rfl
theorem IsS95.set_1 {w0 W : World} {g : Nat} {f0 : ByteArray} {f1 : Bool} (h : IsS95 w0 W g f0 f1) (x : Bool) : IsS95 w0 (W.setCell ⟨g,1,none⟩ (.bool x)) g f0 x:=by
 obtain ⟨hb,hg⟩:=h;exact ⟨by simpa using blk_set hb 1 (.bool x),hg⟩
theorem IsS95.new (w0 W : World) (f0 : ByteArray) (f1 : Bool) (hB : Below w0.heap.size w0 W) : IsS95 w0 (W.alloc (.cells #[.string f0,.bool f1] 95)) W.heap.size f0 f1:=⟨by simpa using heap_alloc_new W _,hB.size⟩

def F01.f (s0_0 : ByteArray) (s0_1 : Bool) (a1 : Int) : Option (ByteArray×ByteArray×Bool):=if a1 > (s0_0.size : Int) then ((strings_Repeat.f (⟨#[0]⟩ : ByteArray) a1).bind fun t231 => (some (t231,s0_0,true))) else (if 0≤a1 then (if a1≤(s0_0.size : Int) then (some (s0_0.extract 0 (a1 : Int).toNat,s0_0.extract (a1 : Int).toNat s0_0.size,s0_1)) else (none)) else (none))
set_option maxHeartbeats 8000000 in
set_option maxRecDepth 100000 in
theorem F01.calls (g : Nat) (s0_0 : ByteArray) (s0_1 : Bool) (a1 : Int) (r1 : ByteArray) (r2 : ByteArray) (r3 : Bool) (w0 w : World) (hI : IsS95 w0 w g s0_0 s0_1) (hB : Below w0.heap.size w0 w) (h : F01.f s0_0 s0_1 a1=some (r1,r2,r3)) :
  Calls Try.prog 78 #[.pointer (some ⟨g,0,none⟩),.int .i64 a1] w fun e w' => e = .returned (.string r1)∧IsS95 w0 w' g r2 r3∧Below w0.heap.size w0 w' ∧ KeepBut w w' g none:=by
 have HI0:=zh hI;have HK:=zh (KeepBut.refl w g none);have HL:=zh hB.size;clear hI;have HW0:=zh hB.size;have HB:=zh hB;clear hB;have H : (if a1 > (s0_0.size : Int) then ((strings_Repeat.f (⟨#[0]⟩ : ByteArray) a1).bind fun t231 => (some (t231,s0_0,true))) else (if 0≤a1 then (if a1≤(s0_0.size : Int) then (some (s0_0.extract 0 (a1 : Int).toNat,s0_0.extract (a1 : Int).toNat s0_0.size,s0_1)) else (none)) else (none)))=some (r1,r2,r3):=h;clear h
 by_cases c3 : a1 > (s0_0.size : Int)
 ·
  rw [if_pos c3] at H
  have c3b0 : decide ((s0_0.size : Int)<a1)=true:=decide_eq_true c3;clear c3;replace H:=zT.mp H;obtain ⟨t231,A40,H⟩:=H;replace H : (some (t231,s0_0,true))=some (r1,r2,r3):=H;have A4:=zh A40;clear A40;simp only [Option.some.injEq,Prod.mk.injEq] at H;obtain ⟨rfl,rfl,rfl⟩:=H;obtain ⟨HGz5,hgz5⟩:=HI0.out;have hcz5_0:=cellS95_0 HGz5;have hcz5_1:=cellS95_1 HGz5;have hfz5_0:=zA HGz5 0;have hfz5_1:=zA HGz5 1;clear HGz5 hgz5
  go_enter Try.func78,Try.ntmps78
  go_wp2_with (first|((with_reducible refine zJ (f:=92) rfl ?_);refine yj (some 17) rfl rfl Try.func92 (by kernel_rfl) rfl #[.string (⟨#[0]⟩ : ByteArray),.int .i64 a1] rfl (by (try simp only [zt,zu,zv]);first|done|rfl|(simp only [zw,zx];rfl)|(simp only [yr,ys,zV,zW];rfl)) ?_;(with_reducible refine (strings_Repeat.calls  (⟨#[0]⟩ : ByteArray) a1 t231 _ A4.out).mono ?_);rintro e w6 ⟨rfl,hb⟩;refine ⟨_,rfl,?_⟩;replace HK:=zh (KeepBut.trans (by repeat (with_reducible first|exact HK.out|apply yl|apply ym|apply yx|apply yn)) (KeepBut.of_below hb g none) (.inl rfl));replace HB:=zh (zC (by repeat (with_reducible first|exact HB.out|apply za|apply zb|apply zc|refine zd ?_ (IsS95.ge HI0.out))) hb);replace HI0:=zh (IsS95.below (show IsS95 w0 (w.setCell ⟨g,1,none⟩ (.bool true)) g s0_0 true from by repeat (with_reducible first|exact HI0.out|apply IsS95.alloc|apply IsS95.drewN|apply IsS95.drew|apply IsS95.set_0|apply IsS95.set_1)) hb);(try clear hb);(try clear hb2);(try clear hk);(try clear hi)))
  go_ret
  exact ⟨by first|rfl|(simp [yt,yu] <;> rfl)|(simp [*,yt,yu] <;> rfl),by repeat (with_reducible first|exact HI0.out|apply IsS95.alloc|apply IsS95.drewN|apply IsS95.drew|apply IsS95.set_0|apply IsS95.set_1),by repeat (with_reducible first|exact HB.out|apply za|apply zb|apply zc|refine zd ?_ (IsS95.ge HI0.out)),by repeat (with_reducible first|exact HK.out|apply yl|apply ym|apply yx|apply yn)⟩
 rw [if_neg c3] at H;have c3b0 : decide ((s0_0.size : Int)<a1)=false:=decide_eq_false c3;clear c3
 by_cases c7 : 0≤a1
 ·
  rw [if_pos c7] at H
  have c7b0:=eq_true c7;have c7b1 : decide (0≤a1)=true:=decide_eq_true c7;clear c7
  by_cases c8 : a1≤(s0_0.size : Int)
  ·
   rw [if_pos c8] at H
   have c8b0:=eq_true c8;have c8b1 : decide (a1≤(s0_0.size : Int))=true:=decide_eq_true c8;clear c8;have c9b0:=eq_true (zy (by first|(with_reducible assumption)|assumption) : 0≤a1);have c10b0:=eq_true (zy (by first|(with_reducible assumption)|assumption) : a1≤(s0_0.size : Int));simp only [Option.some.injEq,Prod.mk.injEq] at H;obtain ⟨rfl,rfl,rfl⟩:=H;obtain ⟨HGz11,hgz11⟩:=HI0.out;have hcz11_0:=cellS95_0 HGz11;have hcz11_1:=cellS95_1 HGz11;have hfz11_0:=zA HGz11 0;have hfz11_1:=zA HGz11 1;clear HGz11 hgz11
   go_enter Try.func78,Try.ntmps78
   go_wp2
   go_ret
   exact ⟨by first|rfl|(simp [yt,yu] <;> rfl)|(simp [*,yt,yu] <;> rfl),by repeat (with_reducible first|exact HI0.out|apply IsS95.alloc|apply IsS95.drewN|apply IsS95.drew|apply IsS95.set_0|apply IsS95.set_1),by repeat (with_reducible first|exact HB.out|apply za|apply zb|apply zc|refine zd ?_ (IsS95.ge HI0.out)),by repeat (with_reducible first|exact HK.out|apply yl|apply ym|apply yx|apply yn)⟩
  rw [if_neg c8] at H;exact absurd H (by simp)
 rw [if_neg c7] at H;exact absurd H (by simp)


def Fr.l0 : Nat→Int→List Int→Int→Int→Option (Int)
 | 0,_,_,_,_ => none
 | k + 1,x3,x6,x7,x8 => if x8<x7 then (if 0≤x8 then (if x8<(x6.length : Int) then (Fr.l0 k (Go.bits .or .i64 (wrap64 (x3 * 256)) (wrap64 (rd x6 x8))) x6 x7 (wrap64 (x8 + 1))) else (none)) else (none)) else (some x3)
def Fr.f (k : Nat) (l0 : List Int) : Option (Int):=Fr.l0 k 0 l0 (l0.length : Int) 0
theorem Fr.mono_l : ∀ k,(∀ y0 y1 y2 y3,LeO (Fr.l0 k y0 y1 y2 y3) (Fr.l0 (k + 1) y0 y1 y2 y3))
 | 0 => fun _ _ _ _ r h => by simp [Fr.l0] at h
 | k + 1 => by
  have ih0:=Fr.mono_l k;intro y0 y1 y2 y3;unfold Fr.l0
  repeat' first|(with_reducible first|exact ih0 _ _ _ _|exact zQ _|exact zN _|refine zP ?_ ?_|refine zO ?_ (fun _ => ?_))|refine zP ?_ ?_|refine zO ?_ (fun _ => ?_)
theorem Fr.mono : ∀ a0 k,LeO (Fr.f k a0) (Fr.f (k + 1) a0):=by
 intro a0 k;have ih0:=Fr.mono_l k;unfold Fr.f
 repeat' first|(with_reducible first|exact ih0 _ _ _ _|exact zQ _|exact zN _|refine zP ?_ ?_|refine zO ?_ (fun _ => ?_))|refine zP ?_ ?_|refine zO ?_ (fun _ => ?_)
set_option maxHeartbeats 8000000 in
set_option maxRecDepth 100000 in
theorem Fr.calls (k : Nat) (A0 : Option Addr) (c0 : Nat) (l0 : List Int) (r : Int) (w : World) (hr0 : Kd.C (Kd.int .u8) w A0 l0.length l0) (hc0 : l0.length≤c0) (h : Fr.f k l0=some r) :
  Calls Try.prog 93 #[.slice A0 l0.length c0] w fun e w' => e = .returned (.int .i64 r)∧Drawn0 w w':=by
 have HR0:=zh hr0;have HC0:=zh hc0;clear hr0 hc0;have H : (Fr.l0 k 0 l0 (l0.length : Int) 0)=some r:=h;clear h;have H':=zh H;clear H
 go_enter Try.func93,Try.ntmps93
 go_wp2
 go_loopg [3,8] k (fun kq v3 v8 w' => ∃ (x3_1 : Int) (x8_1 : Int),v3 = .int .i64 x3_1∧v8 = .int .i64 x8_1∧Aside0 (Fr.l0 kq x3_1 l0 (l0.length : Int) x8_1=some r)∧Aside0 (kq≤k)∧Drawn0 w w')
 case atStart => exact ⟨(0),(0),(by first|rfl|(simp;done)|(simp [*];done)),(by first|rfl|(simp;done)|(simp [*];done)),H',⟨ye _⟩,by repeat (first|exact yp _|apply yq)⟩
 case round =>
  clear H';obtain ⟨x3_1,x8_1,rfl,rfl,HA,HK1,⟨m1,rfl⟩⟩:=hrel
  cases gk with
  | zero => exact absurd HA.out (by simp [Fr.l0])
  | succ k1 =>
   have H:=HA.out;clear HA;simp only [Fr.l0] at H
   by_cases c2 : x8_1<(l0.length : Int)
   ·
    rw [if_pos c2] at H
    have c2b0 : decide (x8_1<(l0.length : Int))=true:=decide_eq_true c2;clear c2
    by_cases c3 : 0≤x8_1
    ·
     rw [if_pos c3] at H
     have c3b0 : decide (0≤x8_1)=true:=decide_eq_true c3;clear c3
     by_cases c4 : x8_1<(l0.length : Int)
     ·
      rw [if_pos c4] at H
      have c4b0 : decide (x8_1<(l0.length : Int))=true:=decide_eq_true c4;clear c4;have H':=zh H;clear H;have p232 : 0≤(x8_1 : Int):=zy (by first|(with_reducible assumption)|assumption);have q232 : x8_1<(l0.length : Int):=zy (by first|(with_reducible assumption)|assumption);obtain ⟨ad232,e232,hx232_0⟩:=Kd.at_int HR0.out x8_1 p232 q232
      cases e232
      replace p232:=eq_true p232;replace q232:=eq_true q232
      go_wp2
      go_roundg k1
      case measure => have:=HK1.out;omega
      case rel => exact ⟨(Go.bits .or .i64 (wrap64 (x3_1 * 256)) (wrap64 (rd l0 x8_1))),(wrap64 (x8_1 + 1)),(by first|rfl|(simp;done)|(simp [*];done)),(by first|rfl|(simp;done)|(simp [*];done)),H',⟨by have:=HK1.out;omega⟩,by repeat (first|exact yp _|apply yq)⟩
     rw [if_neg c4] at H;exact absurd H (by simp)
    rw [if_neg c3] at H;exact absurd H (by simp)
   rw [if_neg c2] at H;have c2b0 : decide (x8_1<(l0.length : Int))=false:=decide_eq_false c2;clear c2;obtain rfl:=zU H
   go_wp2
   go_ret
   exact ⟨by first|rfl|(simp;done)|(simp [*];done),by repeat (first|exact yp _|apply yq)⟩


def Fm.f (k : Nat) (s0_0 : ByteArray) (s0_1 : Bool) (a1 : Int) : Option (Int×ByteArray×Bool):=(F01.f s0_0 s0_1 a1).bind fun bt233 => (if bt233.1.size≤9223372036854775807 then ((Fr.f k (bytesOf bt233.1)).bind fun t239 => (some (t239,bt233.2.1,bt233.2.2))) else (none))
theorem Fm.mono : ∀ a0 a1 a2 k,LeO (Fm.f k a0 a1 a2) (Fm.f (k + 1) a0 a1 a2):=by
 intro a0 a1 a2 k;unfold Fm.f
 repeat' first|(with_reducible first|exact Fr.mono _ _|exact zQ _|exact zN _|refine zP ?_ ?_|refine zO ?_ (fun _ => ?_))|refine zP ?_ ?_|refine zO ?_ (fun _ => ?_)
set_option maxHeartbeats 8000000 in
set_option maxRecDepth 100000 in
theorem Fm.calls (k : Nat) (g : Nat) (s0_0 : ByteArray) (s0_1 : Bool) (a1 : Int) (r1 : Int) (r2 : ByteArray) (r3 : Bool) (w0 w : World) (hI : IsS95 w0 w g s0_0 s0_1) (hB : Below w0.heap.size w0 w) (h : Fm.f k s0_0 s0_1 a1=some (r1,r2,r3)) :
  Calls Try.prog 79 #[.pointer (some ⟨g,0,none⟩),.int .i64 a1] w fun e w' => e = .returned (.int .i64 r1)∧IsS95 w0 w' g r2 r3∧Below w0.heap.size w0 w' ∧ KeepBut w w' g none:=by
 have HI0:=zh hI;have HK:=zh (KeepBut.refl w g none);have HL:=zh hB.size;clear hI;have HW0:=zh hB.size;have HB:=zh hB;clear hB;have H : ((F01.f s0_0 s0_1 a1).bind fun bt233 => (if bt233.1.size≤9223372036854775807 then ((Fr.f k (bytesOf bt233.1)).bind fun t239 => (some (t239,bt233.2.1,bt233.2.2))) else (none)))=some (r1,r2,r3):=h;clear h;replace H:=zT.mp H;obtain ⟨⟨t233,t234,t235⟩,A30,H⟩:=H;replace H : (if t233.size≤9223372036854775807 then ((Fr.f k (bytesOf t233)).bind fun t239 => (some (t239,t234,t235))) else (none))=some (r1,r2,r3):=H;have A3:=zh A30;clear A30
 by_cases c4 : t233.size≤9223372036854775807
 ·
  rw [if_pos c4] at H
  have c4b0:=eq_true c4;have c4b1 : decide (t233.size≤9223372036854775807)=true:=decide_eq_true c4
  try have c4b2 : (9223372036854775807<t233.size)=False:=eq_false (Nat.not_lt.2 c4)
  clear c4;obtain ⟨y236,hy236⟩ : ∃ y_ : List Int,y_=(bytesOf t233):=⟨_,rfl⟩;replace H : ((Fr.f k y236).bind fun t239 => (some (t239,t234,t235)))=some (r1,r2,r3):=by first|(rw [hy236];with_reducible exact H)|(have H2_:=(Option.bind_some _ _).symm.trans H;rw [hy236];with_reducible exact H2_)|(have H2_:=(Option.bind_some _ _).symm.trans H;with_reducible exact H2_)|with_reducible exact H|(rw [hy236];exact H)|exact H
  have Ny236:=zh hy236;clear hy236;replace H:=zT.mp H;obtain ⟨t239,A50,H⟩:=H;replace H : (some (t239,t234,t235))=some (r1,r2,r3):=H;have A5:=zh A50;clear A50;simp only [Option.some.injEq,Prod.mk.injEq] at H;obtain ⟨rfl,rfl,rfl⟩:=H
  go_enter Try.func79,Try.ntmps79
  go_wp2_with (first|((with_reducible refine zJ (f:=78) rfl ?_);refine yj (some 7) rfl rfl Try.func78 (by kernel_rfl) rfl #[.pointer (some ⟨g,0,none⟩),.int .i64 a1] rfl (by (try simp only [zt,zu,zv]);first|done|rfl|(simp only [zw,zx];rfl)|(simp only [yr,ys,zV,zW];rfl)) ?_;(with_reducible refine (F01.calls  g s0_0 s0_1 a1 t233 t234 t235 w0 _ ?side1 ?side2 A3.out).mono ?_);(case side1 => repeat (with_reducible first|exact HI0.out|apply IsS95.alloc|apply IsS95.drewN|apply IsS95.drew|apply IsS95.set_0|apply IsS95.set_1));(case side2 => repeat (with_reducible first|exact HB.out|apply za|apply zb|apply zc|refine zd ?_ (IsS95.ge HI0.out)));rintro e w6 ⟨rfl,hi,hb,hk⟩;refine ⟨_,rfl,?_⟩;replace HK:=zh (KeepBut.trans (by repeat (with_reducible first|exact HK.out|apply yl|apply ym|apply yx|apply yn)) hk (.inl rfl));replace HB:=zh (hb);replace HI0:=zh (hi);(try clear hb);(try clear hb2);(try clear hk);(try clear hi))|((with_reducible refine zK (N:=8) rfl ?_);refine conv_event (base:=w6.heap.size) ?hg (N:=8) ?hd 9 66 5 t233 rfl ?hx Try.underlying9 Try.underlying66 Try.underlying5 (zy (by first|(with_reducible assumption)|assumption)) ?_;(case hd|hg => rfl);(case hx => first|(go_simp;done)|(go_simp;rfl)|rfl);intro v237 w7 ho8 hb;(first|rw [← Ny236.out] at ho8|(simp only [Int.reduceToNat] at ho8;rw [← Ny236.out] at ho8));have HO238:=zh (Kd.V_lower (Kd.V_mono (ok':=fun k_ => k_≠g) ho8 (fun k_ hk_ => (IsS95.fresh (by repeat (with_reducible first|exact HI0.out|apply IsS95.alloc|apply IsS95.drewN|apply IsS95.drew|apply IsS95.set_0|apply IsS95.set_1)) k_ hk_))) (keep_size (w:=w) (g:=g) (row:=none) (by repeat (with_reducible first|exact HK.out|apply yl|apply ym|apply yx|apply yn))));replace HK:=zh (KeepBut.trans (by repeat (with_reducible first|exact HK.out|apply yl|apply ym|apply yx|apply yn)) (KeepBut.of_below hb g none) (.inl rfl));replace HB:=zh (zC (by repeat (with_reducible first|exact HB.out|apply za|apply zb|apply zc|refine zd ?_ (IsS95.ge HI0.out))) hb);replace HI0:=zh (IsS95.below (by repeat (with_reducible first|exact HI0.out|apply IsS95.alloc|apply IsS95.drewN|apply IsS95.drew|apply IsS95.set_0|apply IsS95.set_1)) hb);clear hb ho8;obtain ⟨Ao9,co9,eo9⟩:=Kd.V_slice HO238.out;subst eo9)|((with_reducible refine zJ (f:=93) rfl ?_);refine yj (some 9) rfl rfl Try.func93 (by kernel_rfl) rfl #[.slice Ao9 y236.length co9] rfl (by (try simp only [zt,zu,zv]);first|done|rfl|(simp only [zw,zx];rfl)|(simp only [yr,ys,zV,zW];rfl)) ?_;(with_reducible refine (Fr.calls k  _ _ y236 t239 _ ?side1 ?side2 A5.out).mono ?_);(case side1 => repeat (first|exact (Kd.V_reads' HO238.out).2.2|(with_reducible refine Kd.C_alloc ?_ _)|(with_reducible refine Kd.C_drewN ?_ _)|(with_reducible refine Kd.C_drew ?_)));(case side2 => exact (Kd.V_reads' HO238.out).2.1);rintro e w' ⟨rfl,⟨nd,rfl⟩⟩;refine ⟨_,rfl,?_⟩))
  go_ret
  exact ⟨by first|rfl|(simp [yt,yu] <;> rfl)|(simp [*,yt,yu] <;> rfl),by repeat (with_reducible first|exact HI0.out|apply IsS95.alloc|apply IsS95.drewN|apply IsS95.drew|apply IsS95.set_0|apply IsS95.set_1),by repeat (with_reducible first|exact HB.out|apply za|apply zb|apply zc|refine zd ?_ (IsS95.ge HI0.out)),by repeat (with_reducible first|exact HK.out|apply yl|apply ym|apply yx|apply yn)⟩
 rw [if_neg c4] at H;exact absurd H (by simp)


def Fd.j0 : Nat→Bool→ByteArray→Bool→Int→Int→ByteArray→Option (Int×Int×ByteArray×ByteArray×Bool)
 | 0,_,_,_,_,_,_ => none
 | k + 1,x20,x1000,x1001,x245000,x245001,x245002 => if x20=true then ((Fm.f k x1000 x1001 2).bind fun bt251 => ((F01.f bt251.2.1 bt251.2.2 bt251.1).bind fun bt254 => (some (x245000,x245001,bt254.1,bt254.2.1,bt254.2.2)))) else (some (x245000,x245001,x245002,x1000,x1001))
def Fd.f (k : Nat) (s0_0 : ByteArray) (s0_1 : Bool) : Option (Int×Int×ByteArray×ByteArray×Bool):=(Fm.f k s0_0 s0_1 1).bind fun bt241 => (if bt241.1=1 then ((Fm.f k bt241.2.1 bt241.2.2 1).bind fun bt245 => (some (bt241.1,bt245.1,(⟨#[]⟩ : ByteArray),bt245.2.1,bt245.2.2))) else (if bt241.1=2 then ((Fm.f k bt241.2.1 bt241.2.2 8).bind fun bt248 => (some (bt241.1,wrap64 (bt248.1 - 4611686018427387904),(⟨#[]⟩ : ByteArray),bt248.2.1,bt248.2.2))) else (if bt241.1=3 then (Fd.j0 k (bt241.1 == 3) bt241.2.1 bt241.2.2 bt241.1 0 (⟨#[]⟩ : ByteArray)) else (if bt241.1=4 then (Fd.j0 k (bt241.1 == 4) bt241.2.1 bt241.2.2 bt241.1 0 (⟨#[]⟩ : ByteArray)) else (Fd.j0 k (bt241.1 == 5) bt241.2.1 bt241.2.2 bt241.1 0 (⟨#[]⟩ : ByteArray))))))
theorem Fd.mono_l : ∀ k,(∀ y0 y1 y2 y3 y4 y5,LeO (Fd.j0 k y0 y1 y2 y3 y4 y5) (Fd.j0 (k + 1) y0 y1 y2 y3 y4 y5))
 | 0 => fun _ _ _ _ _ _ r h => by simp [Fd.j0] at h
 | k + 1 => by
  have ih0:=Fd.mono_l k;intro y0 y1 y2 y3 y4 y5;unfold Fd.j0
  repeat' first|(with_reducible first|exact ih0 _ _ _ _ _ _|exact Fm.mono _ _ _ _|exact zQ _|exact zN _|refine zP ?_ ?_|refine zO ?_ (fun _ => ?_))|refine zP ?_ ?_|refine zO ?_ (fun _ => ?_)
theorem Fd.mono : ∀ a0 a1 k,LeO (Fd.f k a0 a1) (Fd.f (k + 1) a0 a1):=by
 intro a0 a1 k;have ih0:=Fd.mono_l k;unfold Fd.f
 repeat' first|(with_reducible first|exact ih0 _ _ _ _ _ _|exact Fm.mono _ _ _ _|exact zQ _|exact zN _|refine zP ?_ ?_|refine zO ?_ (fun _ => ?_))|refine zP ?_ ?_|refine zO ?_ (fun _ => ?_)
set_option maxHeartbeats 8000000 in
set_option maxRecDepth 100000 in
theorem Fd.calls (k : Nat) (g : Nat) (s0_0 : ByteArray) (s0_1 : Bool) (r1 : Int) (r2 : Int) (r3 : ByteArray) (r4 : ByteArray) (r5 : Bool) (w0 w : World) (hI : IsS95 w0 w g s0_0 s0_1) (hB : Below w0.heap.size w0 w) (h : Fd.f k s0_0 s0_1=some (r1,r2,r3,r4,r5)) :
  Calls Try.prog 80 #[.pointer (some ⟨g,0,none⟩)] w fun e w' => e = .returned (.agg #[.int .i64 r1,.int .i64 r2,.string r3])∧IsS95 w0 w' g r4 r5∧Below w0.heap.size w0 w' ∧ KeepBut w w' g none:=by
 have hu27:=Try.underlying27;have HI0:=zh hI;have HK:=zh (KeepBut.refl w g none);have HL:=zh hB.size;clear hI;have HW0:=zh hB.size;have HB:=zh hB;clear hB;have H : ((Fm.f k s0_0 s0_1 1).bind fun bt241 => (if bt241.1=1 then ((Fm.f k bt241.2.1 bt241.2.2 1).bind fun bt245 => (some (bt241.1,bt245.1,(⟨#[]⟩ : ByteArray),bt245.2.1,bt245.2.2))) else (if bt241.1=2 then ((Fm.f k bt241.2.1 bt241.2.2 8).bind fun bt248 => (some (bt241.1,wrap64 (bt248.1 - 4611686018427387904),(⟨#[]⟩ : ByteArray),bt248.2.1,bt248.2.2))) else (if bt241.1=3 then (Fd.j0 k (bt241.1 == 3) bt241.2.1 bt241.2.2 bt241.1 0 (⟨#[]⟩ : ByteArray)) else (if bt241.1=4 then (Fd.j0 k (bt241.1 == 4) bt241.2.1 bt241.2.2 bt241.1 0 (⟨#[]⟩ : ByteArray)) else (Fd.j0 k (bt241.1 == 5) bt241.2.1 bt241.2.2 bt241.1 0 (⟨#[]⟩ : ByteArray)))))))=some (r1,r2,r3,r4,r5):=h;clear h;replace H:=zT.mp H;obtain ⟨⟨t241,t242,t243⟩,A20,H⟩:=H;replace H : (if t241=1 then ((Fm.f k t242 t243 1).bind fun bt245 => (some (t241,bt245.1,(⟨#[]⟩ : ByteArray),bt245.2.1,bt245.2.2))) else (if t241=2 then ((Fm.f k t242 t243 8).bind fun bt248 => (some (t241,wrap64 (bt248.1 - 4611686018427387904),(⟨#[]⟩ : ByteArray),bt248.2.1,bt248.2.2))) else (if t241=3 then (Fd.j0 k (t241 == 3) t242 t243 t241 0 (⟨#[]⟩ : ByteArray)) else (if t241=4 then (Fd.j0 k (t241 == 4) t242 t243 t241 0 (⟨#[]⟩ : ByteArray)) else (Fd.j0 k (t241 == 5) t242 t243 t241 0 (⟨#[]⟩ : ByteArray))))))=some (r1,r2,r3,r4,r5):=H;have A2:=zh A20;clear A20
 by_cases c3 : t241=1
 ·
  rw [if_pos c3] at H
  have c3b0 : (t241 == 1)=true:=ya.mpr c3;have c3b1 : (t241 != 1)=false:=zX.mpr c3;clear c3;replace H:=zT.mp H;obtain ⟨⟨t245,t246,t247⟩,A40,H⟩:=H;replace H : (some (t241,t245,(⟨#[]⟩ : ByteArray),t246,t247))=some (r1,r2,r3,r4,r5):=H;have A4:=zh A40;clear A40;simp only [Option.some.injEq,Prod.mk.injEq] at H;obtain ⟨rfl,rfl,rfl,rfl,rfl⟩:=H
  go_enter Try.func80,Try.ntmps80
  go_wp2_with (first|((with_reducible refine zK (N:=2) rfl ?_);refine zI ?hg (N:=2) ?hd (cs:=#[.int .i64 0,.int .i64 0,.string (⟨#[]⟩ : ByteArray)]) (t:=27) ?hr ?_;(case hd|hg => rfl);(case hr => go_simp <;> rfl);intro gb240 hg w5 hbox hb;replace HB:=zh (zC (by repeat (with_reducible first|exact HB.out|apply za|apply zb|apply zc|refine zd ?_ (IsS95.ge HI0.out))) hb);have BK240:=zh (hbox);have GW240:=zh ((by rw [hg];exact (keep_size (w:=w) (g:=g) (row:=none) (by repeat (with_reducible first|exact HK.out|apply yl|apply ym|apply yx|apply yn))) : w.heap.size≤gb240));have GE240:=zh ((Nat.le_trans HW0.out (by rw [hg];exact (keep_size (w:=w) (g:=g) (row:=none) (by repeat (with_reducible first|exact HK.out|apply yl|apply ym|apply yx|apply yn))) : w.heap.size≤gb240) : w0.heap.size≤gb240));replace HK:=zh (KeepBut.trans (by repeat (with_reducible first|exact HK.out|apply yl|apply ym|apply yx|apply yn)) (KeepBut.of_below hb g none) (.inl rfl));have NB0_240:=zh ((by rw [hg];exact yc (IsS95.lt (show IsS95 w0 _ g s0_0 s0_1 from by repeat (with_reducible first|exact HI0.out|apply IsS95.alloc|apply IsS95.drewN|apply IsS95.drew|apply IsS95.set_0|apply IsS95.set_1))) : g≠gb240));have NB240_0:=zh ((by rw [hg];exact yd (IsS95.lt (show IsS95 w0 _ g s0_0 s0_1 from by repeat (with_reducible first|exact HI0.out|apply IsS95.alloc|apply IsS95.drewN|apply IsS95.drew|apply IsS95.set_0|apply IsS95.set_1))) : gb240≠g));replace HI0:=zh (IsS95.below (by repeat (with_reducible first|exact HI0.out|apply IsS95.alloc|apply IsS95.drewN|apply IsS95.drew|apply IsS95.set_0|apply IsS95.set_1)) hb);clear hb hbox hg)|((with_reducible refine zJ (f:=79) rfl ?_);refine yj (some 5) rfl rfl Try.func79 (by kernel_rfl) rfl #[.pointer (some ⟨g,0,none⟩),.int .i64 1] rfl (by (try simp only [zt,zu,zv]);first|done|rfl|(simp only [zw,zx];rfl)|(simp only [yr,ys,zV,zW];rfl)) ?_;(with_reducible refine (Fm.calls k  g s0_0 s0_1 1 t241 t242 t243 w0 _ ?side1 ?side2 A2.out).mono ?_);(case side1 => repeat (with_reducible first|exact HI0.out|apply IsS95.alloc|apply IsS95.drewN|apply IsS95.drew|apply IsS95.set_0|apply IsS95.set_1|refine IsS95.far ?_ NB0_240.out _));(case side2 => repeat (with_reducible first|exact HB.out|apply za|apply zb|apply zc|refine zd ?_ (IsS95.ge HI0.out)|refine zd ?_ GE240.out));rintro e w6 ⟨rfl,hi,hb,hk⟩;refine ⟨_,rfl,?_⟩;replace BK240:=zh (KeepBut.blk hk (g':=gb240) (o:=.cells #[.int .i64 0,.int .i64 0,.string (⟨#[]⟩ : ByteArray)] 27 (0,0)) (by (with_reducible repeat first|apply ze|apply zf|apply zg);exact BK240.out) NB240_0.out (by simp));replace HK:=zh (KeepBut.trans (by repeat (with_reducible first|exact HK.out|apply yl|apply ym|apply yx|apply yn|refine keep_far ?_ GW240.out _)) hk (.inl rfl));replace HB:=zh (hb);replace HI0:=zh (hi);(try clear hb);(try clear hb2);(try clear hk);(try clear hi))|((with_reducible refine zK (N:=3) rfl ?_);refine zI ?hg (N:=3) ?hd (cs:=#[.int .i64 0,.int .i64 0,.string (⟨#[]⟩ : ByteArray)]) (t:=27) ?hr ?_;(case hd|hg => rfl);(case hr => go_simp <;> rfl);intro gb244 hg w7 hbox hb;replace HB:=zh (zC (by repeat (with_reducible first|exact HB.out|apply za|apply zb|apply zc|refine zd ?_ (IsS95.ge HI0.out)|refine zd ?_ GE240.out)) hb);have BK244:=zh (hbox);have GW244:=zh ((by rw [hg];exact (keep_size (w:=w) (g:=g) (row:=none) (by repeat (with_reducible first|exact HK.out|apply yl|apply ym|apply yx|apply yn|refine keep_far ?_ GW240.out _))) : w.heap.size≤gb244));have GE244:=zh ((Nat.le_trans HW0.out (by rw [hg];exact (keep_size (w:=w) (g:=g) (row:=none) (by repeat (with_reducible first|exact HK.out|apply yl|apply ym|apply yx|apply yn|refine keep_far ?_ GW240.out _))) : w.heap.size≤gb244) : w0.heap.size≤gb244));replace HK:=zh (KeepBut.trans (by repeat (with_reducible first|exact HK.out|apply yl|apply ym|apply yx|apply yn|refine keep_far ?_ GW240.out _)) (KeepBut.of_below hb g none) (.inl rfl));have NB240_244:=zh ((by rw [hg];exact yc (yi (g:=gb240) (o:=.cells #[.int .i64 0,.int .i64 0,.string (⟨#[]⟩ : ByteArray)] 27 (0,0)) (by (with_reducible repeat first|apply ze|apply zf|apply zg);exact BK240.out)) : gb240≠gb244));have NB244_240:=zh NB240_244.out.symm;replace BK240:=zh (cD BK240.out (by (with_reducible repeat first|apply ze|apply zf|apply zg);exact BK240.out) hb);have NB0_244:=zh ((by rw [hg];exact yc (IsS95.lt (show IsS95 w0 _ g t242 t243 from by repeat (with_reducible first|exact HI0.out|apply IsS95.alloc|apply IsS95.drewN|apply IsS95.drew|apply IsS95.set_0|apply IsS95.set_1|refine IsS95.far ?_ NB0_240.out _))) : g≠gb244));have NB244_0:=zh ((by rw [hg];exact yd (IsS95.lt (show IsS95 w0 _ g t242 t243 from by repeat (with_reducible first|exact HI0.out|apply IsS95.alloc|apply IsS95.drewN|apply IsS95.drew|apply IsS95.set_0|apply IsS95.set_1|refine IsS95.far ?_ NB0_240.out _))) : gb244≠g));replace HI0:=zh (IsS95.below (by repeat (with_reducible first|exact HI0.out|apply IsS95.alloc|apply IsS95.drewN|apply IsS95.drew|apply IsS95.set_0|apply IsS95.set_1|refine IsS95.far ?_ NB0_240.out _)) hb);clear hb hbox hg;have hnb8:=NB244_240.out;have hnc8:=NB240_244.out;have hnb9:=NB244_0.out;have hnc9:=NB0_244.out;obtain ⟨hcz10_0,hcz10_1,hcz10_2,hfz10_0,hfz10_1,hfz10_2⟩:=cB3 BK244.out)|((with_reducible refine zJ (f:=79) rfl ?_);refine yj (some 12) rfl rfl Try.func79 (by kernel_rfl) rfl #[.pointer (some ⟨g,0,none⟩),.int .i64 1] rfl (by (try simp only [zt,zu,zv]);first|done|rfl|(simp only [zw,zx];rfl)|(simp only [yr,ys,zV,zW];rfl)) ?_;(with_reducible refine (Fm.calls k  g t242 t243 1 t245 t246 t247 w0 _ ?side1 ?side2 A4.out).mono ?_);(case side1 => repeat (with_reducible first|exact HI0.out|apply IsS95.alloc|apply IsS95.drewN|apply IsS95.drew|apply IsS95.set_0|apply IsS95.set_1|refine IsS95.far ?_ NB0_240.out _|refine IsS95.far ?_ NB0_244.out _));(case side2 => repeat (with_reducible first|exact HB.out|apply za|apply zb|apply zc|refine zd ?_ (IsS95.ge HI0.out)|refine zd ?_ GE240.out|refine zd ?_ GE244.out));rintro e w11 ⟨rfl,hi,hb,hk⟩;refine ⟨_,rfl,?_⟩;replace BK240:=zh (KeepBut.blk hk (g':=gb240) (o:=.cells #[.int .i64 0,.int .i64 0,.string (⟨#[]⟩ : ByteArray)] 27 (0,0)) (by (with_reducible repeat first|apply ze|apply zf|apply zg);refine cS3 ?_ NB240_244.out;(with_reducible repeat first|apply ze|apply zf|apply zg);exact BK240.out) NB240_0.out (by simp));replace BK244:=zh (KeepBut.blk hk (g':=gb244) (o:=.cells #[.int .i64 t241,.int .i64 0,.string (⟨#[]⟩ : ByteArray)] 27 (0,0)) (by (with_reducible repeat first|apply ze|apply zf|apply zg);refine zL (cs:=#[.int .i64 t241,.int .i64 0,.string (⟨#[]⟩ : ByteArray)]) ?_ 2 _ rfl;(with_reducible repeat first|apply ze|apply zf|apply zg);refine zL (cs:=#[.int .i64 t241,.int .i64 0,.string (⟨#[]⟩ : ByteArray)]) ?_ 1 _ rfl;(with_reducible repeat first|apply ze|apply zf|apply zg);refine zL (cs:=#[.int .i64 0,.int .i64 0,.string (⟨#[]⟩ : ByteArray)]) ?_ 0 _ rfl;(with_reducible repeat first|apply ze|apply zf|apply zg);exact BK244.out) NB244_0.out (by simp));replace HK:=zh (KeepBut.trans (by repeat (with_reducible first|exact HK.out|apply yl|apply ym|apply yx|apply yn|refine keep_far ?_ GW240.out _|refine keep_far ?_ GW244.out _)) hk (.inl rfl));replace HB:=zh (hb);replace HI0:=zh (hi);(try clear hb);(try clear hb2);(try clear hk);(try clear hi);obtain ⟨hcz12_0,hcz12_1,hcz12_2,hfz12_0,hfz12_1,hfz12_2⟩:=cB3 BK244.out;have hnb13:=NB240_0.out;have hnc13:=NB0_240.out;obtain ⟨hcz14_0,hcz14_1,hcz14_2,hfz14_0,hfz14_1,hfz14_2⟩:=cB3 BK240.out))
  refine bodyPost_ret (results_cell_row rfl _ _ gb240 27 #[.int .i64 t241,.int .i64 t245,.string (⟨#[]⟩ : ByteArray)] (0,0) _ rfl (by (with_reducible repeat first|apply ze|apply zf|apply zg);refine zL (cs:=#[.int .i64 t241,.int .i64 t245,.string (⟨#[]⟩ : ByteArray)]) ?_ 2 _ rfl;(with_reducible repeat first|apply ze|apply zf|apply zg);refine zL (cs:=#[.int .i64 t241,.int .i64 0,.string (⟨#[]⟩ : ByteArray)]) ?_ 1 _ rfl;(with_reducible repeat first|apply ze|apply zf|apply zg);refine zL (cs:=#[.int .i64 0,.int .i64 0,.string (⟨#[]⟩ : ByteArray)]) ?_ 0 _ rfl;(with_reducible repeat first|apply ze|apply zf|apply zg);refine zS ?_ NB240_244.out _;(with_reducible repeat first|apply ze|apply zf|apply zg);exact BK240.out) Try.underlying27 rfl (by kernel_rfl)) rfl ?_;exact ⟨by first|rfl|(simp [yt,yu] <;> rfl)|(simp [*,yt,yu] <;> rfl),by repeat (with_reducible first|exact HI0.out|apply IsS95.alloc|apply IsS95.drewN|apply IsS95.drew|apply IsS95.set_0|apply IsS95.set_1|refine IsS95.far ?_ NB0_240.out _|refine IsS95.far ?_ NB0_244.out _),by repeat (with_reducible first|exact HB.out|apply za|apply zb|apply zc|refine zd ?_ (IsS95.ge HI0.out)|refine zd ?_ GE240.out|refine zd ?_ GE244.out),by repeat (with_reducible first|exact HK.out|apply yl|apply ym|apply yx|apply yn|refine keep_far ?_ GW240.out _|refine keep_far ?_ GW244.out _)⟩
 rw [if_neg c3] at H;have c3b0 : (t241 == 1)=false:=zY.mpr c3;have c3b1 : (t241 != 1)=true:=zZ.mpr c3
 by_cases c15 : t241=2
 ·
  rw [if_pos c15] at H
  have c15b0 : (t241 == 2)=true:=ya.mpr c15;have c15b1 : (t241 != 2)=false:=zX.mpr c15;clear c15;replace H:=zT.mp H;obtain ⟨⟨t248,t249,t250⟩,A160,H⟩:=H;replace H : (some (t241,wrap64 (t248 - 4611686018427387904),(⟨#[]⟩ : ByteArray),t249,t250))=some (r1,r2,r3,r4,r5):=H;have A16:=zh A160;clear A160;simp only [Option.some.injEq,Prod.mk.injEq] at H;obtain ⟨rfl,rfl,rfl,rfl,rfl⟩:=H
  go_enter Try.func80,Try.ntmps80
  go_wp2_with (first|((with_reducible refine zK (N:=2) rfl ?_);refine zI ?hg (N:=2) ?hd (cs:=#[.int .i64 0,.int .i64 0,.string (⟨#[]⟩ : ByteArray)]) (t:=27) ?hr ?_;(case hd|hg => rfl);(case hr => go_simp <;> rfl);intro gb240 hg w17 hbox hb;replace HB:=zh (zC (by repeat (with_reducible first|exact HB.out|apply za|apply zb|apply zc|refine zd ?_ (IsS95.ge HI0.out))) hb);have BK240:=zh (hbox);have GW240:=zh ((by rw [hg];exact (keep_size (w:=w) (g:=g) (row:=none) (by repeat (with_reducible first|exact HK.out|apply yl|apply ym|apply yx|apply yn))) : w.heap.size≤gb240));have GE240:=zh ((Nat.le_trans HW0.out (by rw [hg];exact (keep_size (w:=w) (g:=g) (row:=none) (by repeat (with_reducible first|exact HK.out|apply yl|apply ym|apply yx|apply yn))) : w.heap.size≤gb240) : w0.heap.size≤gb240));replace HK:=zh (KeepBut.trans (by repeat (with_reducible first|exact HK.out|apply yl|apply ym|apply yx|apply yn)) (KeepBut.of_below hb g none) (.inl rfl));have NB0_240:=zh ((by rw [hg];exact yc (IsS95.lt (show IsS95 w0 _ g s0_0 s0_1 from by repeat (with_reducible first|exact HI0.out|apply IsS95.alloc|apply IsS95.drewN|apply IsS95.drew|apply IsS95.set_0|apply IsS95.set_1))) : g≠gb240));have NB240_0:=zh ((by rw [hg];exact yd (IsS95.lt (show IsS95 w0 _ g s0_0 s0_1 from by repeat (with_reducible first|exact HI0.out|apply IsS95.alloc|apply IsS95.drewN|apply IsS95.drew|apply IsS95.set_0|apply IsS95.set_1))) : gb240≠g));replace HI0:=zh (IsS95.below (by repeat (with_reducible first|exact HI0.out|apply IsS95.alloc|apply IsS95.drewN|apply IsS95.drew|apply IsS95.set_0|apply IsS95.set_1)) hb);clear hb hbox hg)|((with_reducible refine zJ (f:=79) rfl ?_);refine yj (some 5) rfl rfl Try.func79 (by kernel_rfl) rfl #[.pointer (some ⟨g,0,none⟩),.int .i64 1] rfl (by (try simp only [zt,zu,zv]);first|done|rfl|(simp only [zw,zx];rfl)|(simp only [yr,ys,zV,zW];rfl)) ?_;(with_reducible refine (Fm.calls k  g s0_0 s0_1 1 t241 t242 t243 w0 _ ?side1 ?side2 A2.out).mono ?_);(case side1 => repeat (with_reducible first|exact HI0.out|apply IsS95.alloc|apply IsS95.drewN|apply IsS95.drew|apply IsS95.set_0|apply IsS95.set_1|refine IsS95.far ?_ NB0_240.out _));(case side2 => repeat (with_reducible first|exact HB.out|apply za|apply zb|apply zc|refine zd ?_ (IsS95.ge HI0.out)|refine zd ?_ GE240.out));rintro e w18 ⟨rfl,hi,hb,hk⟩;refine ⟨_,rfl,?_⟩;replace BK240:=zh (KeepBut.blk hk (g':=gb240) (o:=.cells #[.int .i64 0,.int .i64 0,.string (⟨#[]⟩ : ByteArray)] 27 (0,0)) (by (with_reducible repeat first|apply ze|apply zf|apply zg);exact BK240.out) NB240_0.out (by simp));replace HK:=zh (KeepBut.trans (by repeat (with_reducible first|exact HK.out|apply yl|apply ym|apply yx|apply yn|refine keep_far ?_ GW240.out _)) hk (.inl rfl));replace HB:=zh (hb);replace HI0:=zh (hi);(try clear hb);(try clear hb2);(try clear hk);(try clear hi))|((with_reducible refine zK (N:=3) rfl ?_);refine zI ?hg (N:=3) ?hd (cs:=#[.int .i64 0,.int .i64 0,.string (⟨#[]⟩ : ByteArray)]) (t:=27) ?hr ?_;(case hd|hg => rfl);(case hr => go_simp <;> rfl);intro gb244 hg w19 hbox hb;replace HB:=zh (zC (by repeat (with_reducible first|exact HB.out|apply za|apply zb|apply zc|refine zd ?_ (IsS95.ge HI0.out)|refine zd ?_ GE240.out)) hb);have BK244:=zh (hbox);have GW244:=zh ((by rw [hg];exact (keep_size (w:=w) (g:=g) (row:=none) (by repeat (with_reducible first|exact HK.out|apply yl|apply ym|apply yx|apply yn|refine keep_far ?_ GW240.out _))) : w.heap.size≤gb244));have GE244:=zh ((Nat.le_trans HW0.out (by rw [hg];exact (keep_size (w:=w) (g:=g) (row:=none) (by repeat (with_reducible first|exact HK.out|apply yl|apply ym|apply yx|apply yn|refine keep_far ?_ GW240.out _))) : w.heap.size≤gb244) : w0.heap.size≤gb244));replace HK:=zh (KeepBut.trans (by repeat (with_reducible first|exact HK.out|apply yl|apply ym|apply yx|apply yn|refine keep_far ?_ GW240.out _)) (KeepBut.of_below hb g none) (.inl rfl));have NB240_244:=zh ((by rw [hg];exact yc (yi (g:=gb240) (o:=.cells #[.int .i64 0,.int .i64 0,.string (⟨#[]⟩ : ByteArray)] 27 (0,0)) (by (with_reducible repeat first|apply ze|apply zf|apply zg);exact BK240.out)) : gb240≠gb244));have NB244_240:=zh NB240_244.out.symm;replace BK240:=zh (cD BK240.out (by (with_reducible repeat first|apply ze|apply zf|apply zg);exact BK240.out) hb);have NB0_244:=zh ((by rw [hg];exact yc (IsS95.lt (show IsS95 w0 _ g t242 t243 from by repeat (with_reducible first|exact HI0.out|apply IsS95.alloc|apply IsS95.drewN|apply IsS95.drew|apply IsS95.set_0|apply IsS95.set_1|refine IsS95.far ?_ NB0_240.out _))) : g≠gb244));have NB244_0:=zh ((by rw [hg];exact yd (IsS95.lt (show IsS95 w0 _ g t242 t243 from by repeat (with_reducible first|exact HI0.out|apply IsS95.alloc|apply IsS95.drewN|apply IsS95.drew|apply IsS95.set_0|apply IsS95.set_1|refine IsS95.far ?_ NB0_240.out _))) : gb244≠g));replace HI0:=zh (IsS95.below (by repeat (with_reducible first|exact HI0.out|apply IsS95.alloc|apply IsS95.drewN|apply IsS95.drew|apply IsS95.set_0|apply IsS95.set_1|refine IsS95.far ?_ NB0_240.out _)) hb);clear hb hbox hg;have hnb20:=NB244_240.out;have hnc20:=NB240_244.out;have hnb21:=NB244_0.out;have hnc21:=NB0_244.out;obtain ⟨hcz22_0,hcz22_1,hcz22_2,hfz22_0,hfz22_1,hfz22_2⟩:=cB3 BK244.out)|((with_reducible refine zJ (f:=79) rfl ?_);refine yj (some 17) rfl rfl Try.func79 (by kernel_rfl) rfl #[.pointer (some ⟨g,0,none⟩),.int .i64 8] rfl (by (try simp only [zt,zu,zv]);first|done|rfl|(simp only [zw,zx];rfl)|(simp only [yr,ys,zV,zW];rfl)) ?_;(with_reducible refine (Fm.calls k  g t242 t243 8 t248 t249 t250 w0 _ ?side1 ?side2 A16.out).mono ?_);(case side1 => repeat (with_reducible first|exact HI0.out|apply IsS95.alloc|apply IsS95.drewN|apply IsS95.drew|apply IsS95.set_0|apply IsS95.set_1|refine IsS95.far ?_ NB0_240.out _|refine IsS95.far ?_ NB0_244.out _));(case side2 => repeat (with_reducible first|exact HB.out|apply za|apply zb|apply zc|refine zd ?_ (IsS95.ge HI0.out)|refine zd ?_ GE240.out|refine zd ?_ GE244.out));rintro e w23 ⟨rfl,hi,hb,hk⟩;refine ⟨_,rfl,?_⟩;replace BK240:=zh (KeepBut.blk hk (g':=gb240) (o:=.cells #[.int .i64 0,.int .i64 0,.string (⟨#[]⟩ : ByteArray)] 27 (0,0)) (by (with_reducible repeat first|apply ze|apply zf|apply zg);refine cS3 ?_ NB240_244.out;(with_reducible repeat first|apply ze|apply zf|apply zg);exact BK240.out) NB240_0.out (by simp));replace BK244:=zh (KeepBut.blk hk (g':=gb244) (o:=.cells #[.int .i64 t241,.int .i64 0,.string (⟨#[]⟩ : ByteArray)] 27 (0,0)) (by (with_reducible repeat first|apply ze|apply zf|apply zg);refine zL (cs:=#[.int .i64 t241,.int .i64 0,.string (⟨#[]⟩ : ByteArray)]) ?_ 2 _ rfl;(with_reducible repeat first|apply ze|apply zf|apply zg);refine zL (cs:=#[.int .i64 t241,.int .i64 0,.string (⟨#[]⟩ : ByteArray)]) ?_ 1 _ rfl;(with_reducible repeat first|apply ze|apply zf|apply zg);refine zL (cs:=#[.int .i64 0,.int .i64 0,.string (⟨#[]⟩ : ByteArray)]) ?_ 0 _ rfl;(with_reducible repeat first|apply ze|apply zf|apply zg);exact BK244.out) NB244_0.out (by simp));replace HK:=zh (KeepBut.trans (by repeat (with_reducible first|exact HK.out|apply yl|apply ym|apply yx|apply yn|refine keep_far ?_ GW240.out _|refine keep_far ?_ GW244.out _)) hk (.inl rfl));replace HB:=zh (hb);replace HI0:=zh (hi);(try clear hb);(try clear hb2);(try clear hk);(try clear hi);obtain ⟨hcz24_0,hcz24_1,hcz24_2,hfz24_0,hfz24_1,hfz24_2⟩:=cB3 BK244.out;have hnb25:=NB240_0.out;have hnc25:=NB0_240.out;obtain ⟨hcz26_0,hcz26_1,hcz26_2,hfz26_0,hfz26_1,hfz26_2⟩:=cB3 BK240.out))
  refine bodyPost_ret (results_cell_row rfl _ _ gb240 27 #[.int .i64 t241,.int .i64 (wrap64 (t248 - 4611686018427387904)),.string (⟨#[]⟩ : ByteArray)] (0,0) _ rfl (by (with_reducible repeat first|apply ze|apply zf|apply zg);refine zL (cs:=#[.int .i64 t241,.int .i64 (wrap64 (t248 - 4611686018427387904)),.string (⟨#[]⟩ : ByteArray)]) ?_ 2 _ rfl;(with_reducible repeat first|apply ze|apply zf|apply zg);refine zL (cs:=#[.int .i64 t241,.int .i64 0,.string (⟨#[]⟩ : ByteArray)]) ?_ 1 _ rfl;(with_reducible repeat first|apply ze|apply zf|apply zg);refine zL (cs:=#[.int .i64 0,.int .i64 0,.string (⟨#[]⟩ : ByteArray)]) ?_ 0 _ rfl;(with_reducible repeat first|apply ze|apply zf|apply zg);refine zS ?_ NB240_244.out _;(with_reducible repeat first|apply ze|apply zf|apply zg);exact BK240.out) Try.underlying27 rfl (by kernel_rfl)) rfl ?_;exact ⟨by first|rfl|(simp [yt,yu] <;> rfl)|(simp [*,yt,yu] <;> rfl),by repeat (with_reducible first|exact HI0.out|apply IsS95.alloc|apply IsS95.drewN|apply IsS95.drew|apply IsS95.set_0|apply IsS95.set_1|refine IsS95.far ?_ NB0_240.out _|refine IsS95.far ?_ NB0_244.out _),by repeat (with_reducible first|exact HB.out|apply za|apply zb|apply zc|refine zd ?_ (IsS95.ge HI0.out)|refine zd ?_ GE240.out|refine zd ?_ GE244.out),by repeat (with_reducible first|exact HK.out|apply yl|apply ym|apply yx|apply yn|refine keep_far ?_ GW240.out _|refine keep_far ?_ GW244.out _)⟩
 rw [if_neg c15] at H;have c15b0 : (t241 == 2)=false:=zY.mpr c15;have c15b1 : (t241 != 2)=true:=zZ.mpr c15;have HC27:=zh H;clear H
 go_enter Try.func80,Try.ntmps80
 go_upto_if 20 with (first|((with_reducible refine zK (N:=2) rfl ?_);refine zI ?hg (N:=2) ?hd (cs:=#[.int .i64 0,.int .i64 0,.string (⟨#[]⟩ : ByteArray)]) (t:=27) ?hr ?_;(case hd|hg => rfl);(case hr => go_simp <;> rfl);intro gb240 hg w28 hbox hb;replace HB:=zh (zC (by repeat (with_reducible first|exact HB.out|apply za|apply zb|apply zc|refine zd ?_ (IsS95.ge HI0.out))) hb);have BK240:=zh (hbox);have GW240:=zh ((by rw [hg];exact (keep_size (w:=w) (g:=g) (row:=none) (by repeat (with_reducible first|exact HK.out|apply yl|apply ym|apply yx|apply yn))) : w.heap.size≤gb240));have GE240:=zh ((Nat.le_trans HW0.out (by rw [hg];exact (keep_size (w:=w) (g:=g) (row:=none) (by repeat (with_reducible first|exact HK.out|apply yl|apply ym|apply yx|apply yn))) : w.heap.size≤gb240) : w0.heap.size≤gb240));replace HK:=zh (KeepBut.trans (by repeat (with_reducible first|exact HK.out|apply yl|apply ym|apply yx|apply yn)) (KeepBut.of_below hb g none) (.inl rfl));have NB0_240:=zh ((by rw [hg];exact yc (IsS95.lt (show IsS95 w0 _ g s0_0 s0_1 from by repeat (with_reducible first|exact HI0.out|apply IsS95.alloc|apply IsS95.drewN|apply IsS95.drew|apply IsS95.set_0|apply IsS95.set_1))) : g≠gb240));have NB240_0:=zh ((by rw [hg];exact yd (IsS95.lt (show IsS95 w0 _ g s0_0 s0_1 from by repeat (with_reducible first|exact HI0.out|apply IsS95.alloc|apply IsS95.drewN|apply IsS95.drew|apply IsS95.set_0|apply IsS95.set_1))) : gb240≠g));replace HI0:=zh (IsS95.below (by repeat (with_reducible first|exact HI0.out|apply IsS95.alloc|apply IsS95.drewN|apply IsS95.drew|apply IsS95.set_0|apply IsS95.set_1)) hb);clear hb hbox hg)|((with_reducible refine zJ (f:=79) rfl ?_);refine yj (some 5) rfl rfl Try.func79 (by kernel_rfl) rfl #[.pointer (some ⟨g,0,none⟩),.int .i64 1] rfl (by (try simp only [zt,zu,zv]);first|done|rfl|(simp only [zw,zx];rfl)|(simp only [yr,ys,zV,zW];rfl)) ?_;(with_reducible refine (Fm.calls k  g s0_0 s0_1 1 t241 t242 t243 w0 _ ?side1 ?side2 A2.out).mono ?_);(case side1 => repeat (with_reducible first|exact HI0.out|apply IsS95.alloc|apply IsS95.drewN|apply IsS95.drew|apply IsS95.set_0|apply IsS95.set_1|refine IsS95.far ?_ NB0_240.out _));(case side2 => repeat (with_reducible first|exact HB.out|apply za|apply zb|apply zc|refine zd ?_ (IsS95.ge HI0.out)|refine zd ?_ GE240.out));rintro e w29 ⟨rfl,hi,hb,hk⟩;refine ⟨_,rfl,?_⟩;replace BK240:=zh (KeepBut.blk hk (g':=gb240) (o:=.cells #[.int .i64 0,.int .i64 0,.string (⟨#[]⟩ : ByteArray)] 27 (0,0)) (by (with_reducible repeat first|apply ze|apply zf|apply zg);exact BK240.out) NB240_0.out (by simp));replace HK:=zh (KeepBut.trans (by repeat (with_reducible first|exact HK.out|apply yl|apply ym|apply yx|apply yn|refine keep_far ?_ GW240.out _)) hk (.inl rfl));replace HB:=zh (hb);replace HI0:=zh (hi);(try clear hb);(try clear hb2);(try clear hk);(try clear hi))|((with_reducible refine zK (N:=3) rfl ?_);refine zI ?hg (N:=3) ?hd (cs:=#[.int .i64 0,.int .i64 0,.string (⟨#[]⟩ : ByteArray)]) (t:=27) ?hr ?_;(case hd|hg => rfl);(case hr => go_simp <;> rfl);intro gb244 hg w30 hbox hb;replace HB:=zh (zC (by repeat (with_reducible first|exact HB.out|apply za|apply zb|apply zc|refine zd ?_ (IsS95.ge HI0.out)|refine zd ?_ GE240.out)) hb);have BK244:=zh (hbox);have GW244:=zh ((by rw [hg];exact (keep_size (w:=w) (g:=g) (row:=none) (by repeat (with_reducible first|exact HK.out|apply yl|apply ym|apply yx|apply yn|refine keep_far ?_ GW240.out _))) : w.heap.size≤gb244));have GE244:=zh ((Nat.le_trans HW0.out (by rw [hg];exact (keep_size (w:=w) (g:=g) (row:=none) (by repeat (with_reducible first|exact HK.out|apply yl|apply ym|apply yx|apply yn|refine keep_far ?_ GW240.out _))) : w.heap.size≤gb244) : w0.heap.size≤gb244));replace HK:=zh (KeepBut.trans (by repeat (with_reducible first|exact HK.out|apply yl|apply ym|apply yx|apply yn|refine keep_far ?_ GW240.out _)) (KeepBut.of_below hb g none) (.inl rfl));have NB240_244:=zh ((by rw [hg];exact yc (yi (g:=gb240) (o:=.cells #[.int .i64 0,.int .i64 0,.string (⟨#[]⟩ : ByteArray)] 27 (0,0)) (by (with_reducible repeat first|apply ze|apply zf|apply zg);exact BK240.out)) : gb240≠gb244));have NB244_240:=zh NB240_244.out.symm;replace BK240:=zh (cD BK240.out (by (with_reducible repeat first|apply ze|apply zf|apply zg);exact BK240.out) hb);have NB0_244:=zh ((by rw [hg];exact yc (IsS95.lt (show IsS95 w0 _ g t242 t243 from by repeat (with_reducible first|exact HI0.out|apply IsS95.alloc|apply IsS95.drewN|apply IsS95.drew|apply IsS95.set_0|apply IsS95.set_1|refine IsS95.far ?_ NB0_240.out _))) : g≠gb244));have NB244_0:=zh ((by rw [hg];exact yd (IsS95.lt (show IsS95 w0 _ g t242 t243 from by repeat (with_reducible first|exact HI0.out|apply IsS95.alloc|apply IsS95.drewN|apply IsS95.drew|apply IsS95.set_0|apply IsS95.set_1|refine IsS95.far ?_ NB0_240.out _))) : gb244≠g));replace HI0:=zh (IsS95.below (by repeat (with_reducible first|exact HI0.out|apply IsS95.alloc|apply IsS95.drewN|apply IsS95.drew|apply IsS95.set_0|apply IsS95.set_1|refine IsS95.far ?_ NB0_240.out _)) hb);clear hb hbox hg;have hnb31:=NB244_240.out;have hnc31:=NB240_244.out;have hnb32:=NB244_0.out;have hnc32:=NB0_244.out;obtain ⟨hcz33_0,hcz33_1,hcz33_2,hfz33_0,hfz33_1,hfz33_2⟩:=cB3 BK244.out))
 (try simp only [Act.put,zi,zj,zk])
 go_cut [20] (fun v20 wc => ∃ (kq : Nat) (x20_26 : Bool),v20 = .bool x20_26∧Aside0 (Fd.j0 kq x20_26 t242 t243 t241 0 (⟨#[]⟩ : ByteArray)=some (r1,r2,r3,r4,r5))∧Aside0 (kq≤k)∧Aside0 (wc.heap[gb240]? = some (.cells #[.int .i64 0,.int .i64 0,.string (⟨#[]⟩ : ByteArray)] 27 (0,0)))∧Aside0 (wc.heap[gb244]? = some (.cells #[.int .i64 t241,.int .i64 0,.string (⟨#[]⟩ : ByteArray)] 27 (0,0)))∧Aside0 (IsS95 w0 wc g t242 t243)∧Aside0 (KeepBut w wc g none)∧Aside0 (Below w0.heap.size w0 wc))
 case first =>
  have H:=HC27.out;clear HC27
  by_cases c34 : t241=3
  ·
   rw [if_pos c34] at H
   have c34b0 : (t241 == 3)=true:=ya.mpr c34;have c34b1 : (t241 != 3)=false:=zX.mpr c34;clear c34;(first|rw [c34b0]|(simp only [zG,zH];rw [c34b0])|skip);have H':=zh H;clear H
   go_wp2
   go_meet
   case rel => exact ⟨_,((t241 == 3)),(by first|rfl|(simp;done)|(simp [*];done)),H',⟨by first|omega|exact ye _⟩,⟨by (with_reducible repeat first|apply ze|apply zf|apply zg);refine cS3 ?_ NB240_244.out;(with_reducible repeat first|apply ze|apply zf|apply zg);exact BK240.out⟩,⟨by (with_reducible repeat first|apply ze|apply zf|apply zg);refine zL (cs:=#[.int .i64 t241,.int .i64 0,.string (⟨#[]⟩ : ByteArray)]) ?_ 2 _ rfl;(with_reducible repeat first|apply ze|apply zf|apply zg);refine zL (cs:=#[.int .i64 t241,.int .i64 0,.string (⟨#[]⟩ : ByteArray)]) ?_ 1 _ rfl;(with_reducible repeat first|apply ze|apply zf|apply zg);refine zL (cs:=#[.int .i64 0,.int .i64 0,.string (⟨#[]⟩ : ByteArray)]) ?_ 0 _ rfl;(with_reducible repeat first|apply ze|apply zf|apply zg);exact BK244.out⟩,⟨by repeat (with_reducible first|exact HI0.out|apply IsS95.alloc|apply IsS95.drewN|apply IsS95.drew|apply IsS95.set_0|apply IsS95.set_1|refine IsS95.far ?_ NB0_240.out _|refine IsS95.far ?_ NB0_244.out _)⟩,⟨by repeat (with_reducible first|exact HK.out|apply yl|apply ym|apply yx|apply yn|refine keep_far ?_ GW240.out _|refine keep_far ?_ GW244.out _)⟩,⟨by repeat (with_reducible first|exact HB.out|apply za|apply zb|apply zc|refine zd ?_ (IsS95.ge HI0.out)|refine zd ?_ GE240.out|refine zd ?_ GE244.out)⟩⟩
  rw [if_neg c34] at H;have c34b0 : (t241 == 3)=false:=zY.mpr c34;have c34b1 : (t241 != 3)=true:=zZ.mpr c34;(first|rw [c34b0]|(simp only [zG,zH];rw [c34b0])|skip)
  by_cases c35 : t241=4
  ·
   rw [if_pos c35] at H
   have c35b0 : (t241 == 4)=true:=ya.mpr c35;have c35b1 : (t241 != 4)=false:=zX.mpr c35;clear c35;have H':=zh H;clear H
   go_wp2
   go_meet
   case rel => exact ⟨_,((t241 == 4)),(by first|rfl|(simp;done)|(simp [*];done)),H',⟨by first|omega|exact ye _⟩,⟨by (with_reducible repeat first|apply ze|apply zf|apply zg);refine cS3 ?_ NB240_244.out;(with_reducible repeat first|apply ze|apply zf|apply zg);exact BK240.out⟩,⟨by (with_reducible repeat first|apply ze|apply zf|apply zg);refine zL (cs:=#[.int .i64 t241,.int .i64 0,.string (⟨#[]⟩ : ByteArray)]) ?_ 2 _ rfl;(with_reducible repeat first|apply ze|apply zf|apply zg);refine zL (cs:=#[.int .i64 t241,.int .i64 0,.string (⟨#[]⟩ : ByteArray)]) ?_ 1 _ rfl;(with_reducible repeat first|apply ze|apply zf|apply zg);refine zL (cs:=#[.int .i64 0,.int .i64 0,.string (⟨#[]⟩ : ByteArray)]) ?_ 0 _ rfl;(with_reducible repeat first|apply ze|apply zf|apply zg);exact BK244.out⟩,⟨by repeat (with_reducible first|exact HI0.out|apply IsS95.alloc|apply IsS95.drewN|apply IsS95.drew|apply IsS95.set_0|apply IsS95.set_1|refine IsS95.far ?_ NB0_240.out _|refine IsS95.far ?_ NB0_244.out _)⟩,⟨by repeat (with_reducible first|exact HK.out|apply yl|apply ym|apply yx|apply yn|refine keep_far ?_ GW240.out _|refine keep_far ?_ GW244.out _)⟩,⟨by repeat (with_reducible first|exact HB.out|apply za|apply zb|apply zc|refine zd ?_ (IsS95.ge HI0.out)|refine zd ?_ GE240.out|refine zd ?_ GE244.out)⟩⟩
  rw [if_neg c35] at H;have c35b0 : (t241 == 4)=false:=zY.mpr c35;have c35b1 : (t241 != 4)=true:=zZ.mpr c35;have H':=zh H;clear H
  go_wp2
  go_meet
  case rel => exact ⟨_,((t241 == 5)),(by first|rfl|(simp;done)|(simp [*];done)),H',⟨by first|omega|exact ye _⟩,⟨by (with_reducible repeat first|apply ze|apply zf|apply zg);refine cS3 ?_ NB240_244.out;(with_reducible repeat first|apply ze|apply zf|apply zg);exact BK240.out⟩,⟨by (with_reducible repeat first|apply ze|apply zf|apply zg);refine zL (cs:=#[.int .i64 t241,.int .i64 0,.string (⟨#[]⟩ : ByteArray)]) ?_ 2 _ rfl;(with_reducible repeat first|apply ze|apply zf|apply zg);refine zL (cs:=#[.int .i64 t241,.int .i64 0,.string (⟨#[]⟩ : ByteArray)]) ?_ 1 _ rfl;(with_reducible repeat first|apply ze|apply zf|apply zg);refine zL (cs:=#[.int .i64 0,.int .i64 0,.string (⟨#[]⟩ : ByteArray)]) ?_ 0 _ rfl;(with_reducible repeat first|apply ze|apply zf|apply zg);exact BK244.out⟩,⟨by repeat (with_reducible first|exact HI0.out|apply IsS95.alloc|apply IsS95.drewN|apply IsS95.drew|apply IsS95.set_0|apply IsS95.set_1|refine IsS95.far ?_ NB0_240.out _|refine IsS95.far ?_ NB0_244.out _)⟩,⟨by repeat (with_reducible first|exact HK.out|apply yl|apply ym|apply yx|apply yn|refine keep_far ?_ GW240.out _|refine keep_far ?_ GW244.out _)⟩,⟨by repeat (with_reducible first|exact HB.out|apply za|apply zb|apply zc|refine zd ?_ (IsS95.ge HI0.out)|refine zd ?_ GE240.out|refine zd ?_ GE244.out)⟩⟩
 case rest =>
  clear HC27
  try clear c1 c2
  try clear p2
  try clear c3 c3b0 c3b1
  try clear p6
  try clear c7 c8 c9 c13 c15 c15b0 c15b1 c20 c21 c25 c31 c32 c34 c34b0 c34b1 c35 c35b0 c35b1
  try clear hcz10_0 hcz10_1 hcz10_2
  try clear hcz12_0 hcz12_1 hcz12_2
  try clear hcz14_0 hcz14_1 hcz14_2
  try clear hcz22_0 hcz22_1 hcz22_2
  try clear hcz24_0 hcz24_1 hcz24_2
  try clear hcz26_0 hcz26_1 hcz26_2
  try clear hcz33_0 hcz33_1 hcz33_2
  try clear hfz10_0 hfz10_1 hfz10_2
  try clear hfz12_0 hfz12_1 hfz12_2
  try clear hfz14_0 hfz14_1 hfz14_2
  try clear hfz22_0 hfz22_1 hfz22_2
  try clear hfz24_0 hfz24_1 hfz24_2
  try clear hfz26_0 hfz26_1 hfz26_2
  try clear hfz33_0 hfz33_1 hfz33_2
  obtain ⟨kq,x20_26,rfl,HA,HJ26,BK240,BK244,HI0,HK,HB⟩:=hcut
  cases kq with
  | zero => exact absurd HA.out (by simp [Fd.j0])
  | succ kj26 =>
   have H:=HA.out;clear HA;simp only [Fd.j0] at H
   by_cases c36 : x20_26=true
   ·
    subst c36
    have H1 : ((Fm.f kj26 t242 t243 2).bind fun bt251 => ((F01.f bt251.2.1 bt251.2.2 bt251.1).bind fun bt254 => (some (t241,0,bt254.1,bt254.2.1,bt254.2.2))))=some (r1,r2,r3,r4,r5):=by rw [if_pos rfl] at H;exact H
    clear H;have H:=H1;clear H1;replace H:=zT.mp H;obtain ⟨⟨t251,t252,t253⟩,A370,H⟩:=H;replace H : ((F01.f t252 t253 t251).bind fun bt254 => (some (t241,0,bt254.1,bt254.2.1,bt254.2.2)))=some (r1,r2,r3,r4,r5):=H;have A37:=zh A370;clear A370;replace H:=zT.mp H;obtain ⟨⟨t254,t255,t256⟩,A380,H⟩:=H;replace H : (some (t241,0,t254,t255,t256))=some (r1,r2,r3,r4,r5):=H;have A38:=zh A380;clear A380;simp only [Option.some.injEq,Prod.mk.injEq] at H;obtain ⟨rfl,rfl,rfl,rfl,rfl⟩:=H
    go_wp2_with (first|((with_reducible refine zJ (f:=79) rfl ?_);refine yj (some 26) rfl rfl Try.func79 (by kernel_rfl) rfl #[.pointer (some ⟨g,0,none⟩),.int .i64 2] rfl (by (try simp only [zt,zu,zv]);first|done|rfl|(simp only [zw,zx];rfl)|(simp only [yr,ys,zV,zW];rfl)) ?_;(with_reducible refine (Fm.calls kj26  g t242 t243 2 t251 t252 t253 w0 _ ?side1 ?side2 A37.out).mono ?_);(case side1 => repeat (with_reducible first|exact HI0.out|apply IsS95.alloc|apply IsS95.drewN|apply IsS95.drew|apply IsS95.set_0|apply IsS95.set_1|refine IsS95.far ?_ NB0_240.out _|refine IsS95.far ?_ NB0_244.out _));(case side2 => repeat (with_reducible first|exact HB.out|apply za|apply zb|apply zc|refine zd ?_ (IsS95.ge HI0.out)|refine zd ?_ GE240.out|refine zd ?_ GE244.out));rintro e w39 ⟨rfl,hi,hb,hk⟩;refine ⟨_,rfl,?_⟩;replace BK240:=zh (KeepBut.blk hk (g':=gb240) (o:=.cells #[.int .i64 0,.int .i64 0,.string (⟨#[]⟩ : ByteArray)] 27 (0,0)) (by (with_reducible repeat first|apply ze|apply zf|apply zg);exact BK240.out) NB240_0.out (by simp));replace BK244:=zh (KeepBut.blk hk (g':=gb244) (o:=.cells #[.int .i64 t241,.int .i64 0,.string (⟨#[]⟩ : ByteArray)] 27 (0,0)) (by (with_reducible repeat first|apply ze|apply zf|apply zg);exact BK244.out) NB244_0.out (by simp));replace HK:=zh (KeepBut.trans (by repeat (with_reducible first|exact HK.out|apply yl|apply ym|apply yx|apply yn|refine keep_far ?_ GW240.out _|refine keep_far ?_ GW244.out _)) hk (.inl rfl));replace HB:=zh (hb);replace HI0:=zh (hi);(try clear hb);(try clear hb2);(try clear hk);(try clear hi))|((with_reducible refine zJ (f:=78) rfl ?_);refine yj (some 27) rfl rfl Try.func78 (by kernel_rfl) rfl #[.pointer (some ⟨g,0,none⟩),.int .i64 t251] rfl (by (try simp only [zt,zu,zv]);first|done|rfl|(simp only [zw,zx];rfl)|(simp only [yr,ys,zV,zW];rfl)) ?_;(with_reducible refine (F01.calls  g t252 t253 t251 t254 t255 t256 w0 _ ?side1 ?side2 A38.out).mono ?_);(case side1 => repeat (with_reducible first|exact HI0.out|apply IsS95.alloc|apply IsS95.drewN|apply IsS95.drew|apply IsS95.set_0|apply IsS95.set_1|refine IsS95.far ?_ NB0_240.out _|refine IsS95.far ?_ NB0_244.out _));(case side2 => repeat (with_reducible first|exact HB.out|apply za|apply zb|apply zc|refine zd ?_ (IsS95.ge HI0.out)|refine zd ?_ GE240.out|refine zd ?_ GE244.out));rintro e w40 ⟨rfl,hi,hb,hk⟩;refine ⟨_,rfl,?_⟩;replace BK240:=zh (KeepBut.blk hk (g':=gb240) (o:=.cells #[.int .i64 0,.int .i64 0,.string (⟨#[]⟩ : ByteArray)] 27 (0,0)) (by (with_reducible repeat first|apply ze|apply zf|apply zg);exact BK240.out) NB240_0.out (by simp));replace BK244:=zh (KeepBut.blk hk (g':=gb244) (o:=.cells #[.int .i64 t241,.int .i64 0,.string (⟨#[]⟩ : ByteArray)] 27 (0,0)) (by (with_reducible repeat first|apply ze|apply zf|apply zg);exact BK244.out) NB244_0.out (by simp));replace HK:=zh (KeepBut.trans (by repeat (with_reducible first|exact HK.out|apply yl|apply ym|apply yx|apply yn|refine keep_far ?_ GW240.out _|refine keep_far ?_ GW244.out _)) hk (.inl rfl));replace HB:=zh (hb);replace HI0:=zh (hi);(try clear hb);(try clear hb2);(try clear hk);(try clear hi);have hnb41:=NB244_240.out;have hnc41:=NB240_244.out;have hnb42:=NB244_0.out;have hnc42:=NB0_244.out;obtain ⟨hcz43_0,hcz43_1,hcz43_2,hfz43_0,hfz43_1,hfz43_2⟩:=cB3 BK244.out;have hnb44:=NB240_0.out;have hnc44:=NB0_240.out;obtain ⟨hcz45_0,hcz45_1,hcz45_2,hfz45_0,hfz45_1,hfz45_2⟩:=cB3 BK240.out))
    refine bodyPost_ret (results_cell_row rfl _ _ gb240 27 #[.int .i64 t241,.int .i64 0,.string t254] (0,0) _ rfl (by (with_reducible repeat first|apply ze|apply zf|apply zg);refine zL (cs:=#[.int .i64 t241,.int .i64 0,.string (⟨#[]⟩ : ByteArray)]) ?_ 2 _ rfl;(with_reducible repeat first|apply ze|apply zf|apply zg);refine zL (cs:=#[.int .i64 t241,.int .i64 0,.string (⟨#[]⟩ : ByteArray)]) ?_ 1 _ rfl;(with_reducible repeat first|apply ze|apply zf|apply zg);refine zL (cs:=#[.int .i64 0,.int .i64 0,.string (⟨#[]⟩ : ByteArray)]) ?_ 0 _ rfl;(with_reducible repeat first|apply ze|apply zf|apply zg);refine zS ?_ NB240_244.out _;(with_reducible repeat first|apply ze|apply zf|apply zg);exact BK240.out) Try.underlying27 rfl (by kernel_rfl)) rfl ?_;exact ⟨by first|rfl|(simp [yt,yu] <;> rfl)|(simp [*,yt,yu] <;> rfl),by repeat (with_reducible first|exact HI0.out|apply IsS95.alloc|apply IsS95.drewN|apply IsS95.drew|apply IsS95.set_0|apply IsS95.set_1|refine IsS95.far ?_ NB0_240.out _|refine IsS95.far ?_ NB0_244.out _),by repeat (with_reducible first|exact HB.out|apply za|apply zb|apply zc|refine zd ?_ (IsS95.ge HI0.out)|refine zd ?_ GE240.out|refine zd ?_ GE244.out),by repeat (with_reducible first|exact HK.out|apply yl|apply ym|apply yx|apply yn|refine keep_far ?_ GW240.out _|refine keep_far ?_ GW244.out _)⟩
   replace c36:=yb.mpr c36;subst c36;have H1 : (some (t241,0,(⟨#[]⟩ : ByteArray),t242,t243))=some (r1,r2,r3,r4,r5):=by rw [if_neg (show ¬ (false=true) by decide)] at H;exact H
   clear H;have H:=H1;clear H1;simp only [Option.some.injEq,Prod.mk.injEq] at H;obtain ⟨rfl,rfl,rfl,rfl,rfl⟩:=H;have hnb46:=NB244_240.out;have hnc46:=NB240_244.out;have hnb47:=NB244_0.out;have hnc47:=NB0_244.out;obtain ⟨hcz48_0,hcz48_1,hcz48_2,hfz48_0,hfz48_1,hfz48_2⟩:=cB3 BK244.out;have hnb49:=NB240_0.out;have hnc49:=NB0_240.out;obtain ⟨hcz50_0,hcz50_1,hcz50_2,hfz50_0,hfz50_1,hfz50_2⟩:=cB3 BK240.out
   go_wp2
   refine bodyPost_ret (results_cell_row rfl _ _ gb240 27 #[.int .i64 t241,.int .i64 0,.string (⟨#[]⟩ : ByteArray)] (0,0) _ rfl (by (with_reducible repeat first|apply ze|apply zf|apply zg);refine zL (cs:=#[.int .i64 t241,.int .i64 0,.string (⟨#[]⟩ : ByteArray)]) ?_ 2 _ rfl;(with_reducible repeat first|apply ze|apply zf|apply zg);refine zL (cs:=#[.int .i64 t241,.int .i64 0,.string (⟨#[]⟩ : ByteArray)]) ?_ 1 _ rfl;(with_reducible repeat first|apply ze|apply zf|apply zg);refine zL (cs:=#[.int .i64 0,.int .i64 0,.string (⟨#[]⟩ : ByteArray)]) ?_ 0 _ rfl;(with_reducible repeat first|apply ze|apply zf|apply zg);exact BK240.out) Try.underlying27 rfl (by kernel_rfl)) rfl ?_;exact ⟨by first|rfl|(simp [yt,yu] <;> rfl)|(simp [*,yt,yu] <;> rfl),by repeat (with_reducible first|exact HI0.out|apply IsS95.alloc|apply IsS95.drewN|apply IsS95.drew|apply IsS95.set_0|apply IsS95.set_1|refine IsS95.far ?_ NB0_240.out _|refine IsS95.far ?_ NB0_244.out _),by repeat (with_reducible first|exact HB.out|apply za|apply zb|apply zc|refine zd ?_ (IsS95.ge HI0.out)|refine zd ?_ GE240.out|refine zd ?_ GE244.out),by repeat (with_reducible first|exact HK.out|apply yl|apply ym|apply yx|apply yn|refine keep_far ?_ GW240.out _|refine keep_far ?_ GW244.out _)⟩

end Go.Proofs.Ytaoihmompioncaa.Q
end
section
namespace Go.Proofs.Ytaoihmompioncaa.Q
open Go.RowKit Go.Proofs.YtaoihmompioncaaW.PrintWords Go.Proofs.YtaoihmompioncaaW.PrintLast Go.Proofs.YtaoihmompioncaaW.PrintMore
attribute [local go_sem] max2_int min2_int max_two min_two max_three min_three max_four min_four max2_str min2_str str_geq str_gtr str_leq   -- for this text's walks alone
set_option linter.unusedVariables false
set_option linter.unusedSimpArgs false

mutual
def F6.l0 : Nat→List (S54)→ByteArray→Bool→Option ((List (S54))×Bool)
 | 0,_,_,_ => none
 | k + 1,x5,x259000,x259001 => if x259000.toList=([] : List UInt8) then (F6.j1 k x5 false x259000 x259001) else (F6.j1 k x5 (!x259001) x259000 x259001)
def F6.j1 : Nat→List (S54)→Bool→ByteArray→Bool→Option ((List (S54))×Bool)
 | 0,_,_,_,_ => none
 | k + 1,x5,x22,x259000,x259001 => if x22=true then ((Fm.f k x259000 x259001 1).bind fun bt262 => ((F01.f bt262.2.1 bt262.2.2 bt262.1).bind fun bt265 => ((Fd.f k bt265.2.1 bt265.2.2).bind fun bt268 => (if x5.length<2932031007402 then (F6.l0 k (x5 ++ [(⟨bt265.1,(⟨bt268.1,bt268.2.1,bt268.2.2.1⟩ : S27)⟩ : S54)]) bt268.2.2.2.1 bt268.2.2.2.2) else (none))))) else (some (x5,!x259001))
end
def F6.f (k : Nat) (a0_0 : Int) (a0_1 : Int) (a0_2 : ByteArray) : Option ((List (S54))×Bool):=F6.l0 k (([] : List (S54))) a0_2 false
theorem F6.mono_l : ∀ k,(∀ y0 y1 y2,LeO (F6.l0 k y0 y1 y2) (F6.l0 (k + 1) y0 y1 y2))∧(∀ y0 y1 y2 y3,LeO (F6.j1 k y0 y1 y2 y3) (F6.j1 (k + 1) y0 y1 y2 y3))
 | 0 => ⟨fun _ _ _ r h => by simp [F6.l0] at h,fun _ _ _ _ r h => by simp [F6.j1] at h⟩
 | k + 1 => by
  obtain ⟨ih0,ih1⟩:=F6.mono_l k;refine ⟨?_,?_⟩
  ·
   intro y0 y1 y2
   unfold F6.l0
   repeat' first|(with_reducible first|exact ih0 _ _ _|exact ih1 _ _ _ _|exact Fm.mono _ _ _ _|exact Fd.mono _ _ _|exact zQ _|exact zN _|refine zP ?_ ?_|refine zO ?_ (fun _ => ?_))|refine zP ?_ ?_|refine zO ?_ (fun _ => ?_)
  intro y0 y1 y2 y3;unfold F6.j1
  repeat' first|(with_reducible first|exact ih0 _ _ _|exact ih1 _ _ _ _|exact Fm.mono _ _ _ _|exact Fd.mono _ _ _|exact zQ _|exact zN _|refine zP ?_ ?_|refine zO ?_ (fun _ => ?_))|refine zP ?_ ?_|refine zO ?_ (fun _ => ?_)
theorem F6.mono : ∀ a0 a1 a2 k,LeO (F6.f k a0 a1 a2) (F6.f (k + 1) a0 a1 a2):=by
 intro a0 a1 a2 k;obtain ⟨ih0,ih1⟩:=F6.mono_l k;unfold F6.f
 repeat' first|(with_reducible first|exact ih0 _ _ _|exact ih1 _ _ _ _|exact Fm.mono _ _ _ _|exact Fd.mono _ _ _|exact zQ _|exact zN _|refine zP ?_ ?_|refine zO ?_ (fun _ => ?_))|refine zP ?_ ?_|refine zO ?_ (fun _ => ?_)
set_option maxHeartbeats 8000000 in
set_option maxRecDepth 100000 in
theorem F6.calls (k : Nat) (a0_0 : Int) (a0_1 : Int) (a0_2 : ByteArray) (r1 : List (S54)) (r2 : Bool) (w : World) (h : F6.f k a0_0 a0_1 a0_2=some (r1,r2)) :
  Calls Try.prog 51 #[.agg #[.int .i64 a0_0,.int .i64 a0_1,.string a0_2]] w fun e w' => ∃ v0_ : Value,e = .returned (.tuple #[v0_,.bool r2])∧Kd.R k54 54 w' w.heap.size (fun _ => True) v0_ r1∧Below w.heap.size w w':=by
 have hu27:=Try.underlying27;have hu95:=Try.underlying95;have hu54:=Try.underlying54;have HB:=zh (Below.refl w.heap.size w);have H : (F6.l0 k (([] : List (S54))) a0_2 false)=some (r1,r2):=h;clear h;obtain ⟨y259,hy259⟩ : ∃ y_ : List (S54),y_=(([] : List (S54))):=⟨_,rfl⟩;replace H : (F6.l0 k y259 a0_2 false)=some (r1,r2):=by first|(rw [hy259];with_reducible exact H)|(have H2_:=(Option.bind_some _ _).symm.trans H;rw [hy259];with_reducible exact H2_)|(have H2_:=(Option.bind_some _ _).symm.trans H;with_reducible exact H2_)|with_reducible exact H|(rw [hy259];exact H)|exact H
 have Ny259:=zh hy259;clear hy259;have H':=zh H;clear H
 go_enter Try.func51,Try.ntmps51
 go_wp2_with (first|((with_reducible refine zK (N:=1) rfl ?_);refine zI ?hg (N:=1) ?hd (cs:=#[.int .i64 a0_0,.int .i64 a0_1,.string a0_2]) (t:=27) ?hr ?_;(case hd|hg => rfl);(case hr => go_simp <;> rfl);intro gb257 hg w2 hbox hb;have BK257:=zh (hbox);have hH_:=cH (by repeat (with_reducible first|exact HB.out|apply za|apply zb|apply zc)) hb hg;have GW257:=zh hH_.1;have GE257:=GW257;replace HB:=zh hH_.2;clear hb hbox hg hH_;obtain ⟨hcz3_0,hcz3_1,hcz3_2,hfz3_0,hfz3_1,hfz3_2⟩:=cB3 BK257.out)|((with_reducible refine zK (N:=9) rfl ?_);refine zI ?hg (N:=9) ?hd (cs:=#[.string a0_2,.bool false]) (t:=95) ?hr ?_;(case hd|hg => rfl);(case hr => go_simp <;> rfl);intro gb258 hg w4 hbox hb;have BK258:=zh (hbox);have hH_:=cH (by repeat (with_reducible first|exact HB.out|apply za|apply zb|apply zc|refine zd ?_ GE257.out)) hb hg;have GW258:=zh hH_.1;have GE258:=GW258;replace HB:=zh hH_.2;have NB257_258:=zh ((by rw [hg];exact yc (yi (g:=gb257) (o:=.cells #[.int .i64 a0_0,.int .i64 a0_1,.string a0_2] 27 (0,0)) (by (with_reducible repeat first|apply ze|apply zf|apply zg);exact BK257.out)) : gb257≠gb258));have NB258_257:=zh NB257_258.out.symm;replace BK257:=zh (cD BK257.out (by (with_reducible repeat first|apply ze|apply zf|apply zg);exact BK257.out) hb);clear hb hbox hg hH_)|((with_reducible refine zK (N:=10) rfl ?_);refine Kd.R_lit k54 _ 54 ?hg (N:=10) ?hd (xs:=([] : List (S54))) (inner:=[]) (ok:=fun _ => True) (okp:=fun _ => True) ?hr ?hp (fun _ hk => hk) trivial (Below.refl _ _) (ye _) (by simp) ?_;(case hd|hg => rfl);(case hr => go_simp <;> rfl);(case hp => exact (Reps.none _ _));intro v260 w5 ho6 hb hg_ hnew_;clear hg_ hnew_;(first|rw [← Ny259.out] at ho6|(simp only [Int.reduceToNat] at ho6;rw [← Ny259.out] at ho6));have HO261:=zh (yy ho6 (zB (by repeat (with_reducible first|exact HB.out|apply za|apply zb|apply zc|refine zd ?_ GE257.out|refine zd ?_ GE258.out))));replace BK257:=zh (cD BK257.out (by (with_reducible repeat first|apply ze|apply zf|apply zg);exact BK257.out) hb);replace BK258:=zh (cD BK258.out (by (with_reducible repeat first|apply ze|apply zf|apply zg);exact BK258.out) hb);replace HB:=zh (zC (by repeat (with_reducible first|exact HB.out|apply za|apply zb|apply zc|refine zd ?_ GE257.out|refine zd ?_ GE258.out)) hb);clear hb ho6))
 repeat (go_quiet (first|((with_reducible refine zK (N:=1) rfl ?_);refine zI ?hg (N:=1) ?hd (cs:=#[.int .i64 a0_0,.int .i64 a0_1,.string a0_2]) (t:=27) ?hr ?_;(case hd|hg => rfl);(case hr => go_simp <;> rfl);intro gb257 hg w2 hbox hb;have BK257:=zh (hbox);have hH_:=cH (by repeat (with_reducible first|exact HB.out|apply za|apply zb|apply zc)) hb hg;have GW257:=zh hH_.1;have GE257:=GW257;replace HB:=zh hH_.2;clear hb hbox hg hH_;obtain ⟨hcz3_0,hcz3_1,hcz3_2,hfz3_0,hfz3_1,hfz3_2⟩:=cB3 BK257.out)|((with_reducible refine zK (N:=9) rfl ?_);refine zI ?hg (N:=9) ?hd (cs:=#[.string a0_2,.bool false]) (t:=95) ?hr ?_;(case hd|hg => rfl);(case hr => go_simp <;> rfl);intro gb258 hg w4 hbox hb;have BK258:=zh (hbox);have hH_:=cH (by repeat (with_reducible first|exact HB.out|apply za|apply zb|apply zc|refine zd ?_ GE257.out)) hb hg;have GW258:=zh hH_.1;have GE258:=GW258;replace HB:=zh hH_.2;have NB257_258:=zh ((by rw [hg];exact yc (yi (g:=gb257) (o:=.cells #[.int .i64 a0_0,.int .i64 a0_1,.string a0_2] 27 (0,0)) (by (with_reducible repeat first|apply ze|apply zf|apply zg);exact BK257.out)) : gb257≠gb258));have NB258_257:=zh NB257_258.out.symm;replace BK257:=zh (cD BK257.out (by (with_reducible repeat first|apply ze|apply zf|apply zg);exact BK257.out) hb);clear hb hbox hg hH_)|((with_reducible refine zK (N:=10) rfl ?_);refine Kd.R_lit k54 _ 54 ?hg (N:=10) ?hd (xs:=([] : List (S54))) (inner:=[]) (ok:=fun _ => True) (okp:=fun _ => True) ?hr ?hp (fun _ hk => hk) trivial (Below.refl _ _) (ye _) (by simp) ?_;(case hd|hg => rfl);(case hr => go_simp <;> rfl);(case hp => exact (Reps.none _ _));intro v260 w5 ho6 hb hg_ hnew_;clear hg_ hnew_;(first|rw [← Ny259.out] at ho6|(simp only [Int.reduceToNat] at ho6;rw [← Ny259.out] at ho6));have HO261:=zh (yy ho6 (zB (by repeat (with_reducible first|exact HB.out|apply za|apply zb|apply zc|refine zd ?_ GE257.out|refine zd ?_ GE258.out))));replace BK257:=zh (cD BK257.out (by (with_reducible repeat first|apply ze|apply zf|apply zg);exact BK257.out) hb);replace BK258:=zh (cD BK258.out (by (with_reducible repeat first|apply ze|apply zf|apply zg);exact BK258.out) hb);replace HB:=zh (zC (by repeat (with_reducible first|exact HB.out|apply za|apply zb|apply zc|refine zd ?_ GE257.out|refine zd ?_ GE258.out)) hb);clear hb ho6));try go_wp2_with (first|((with_reducible refine zK (N:=1) rfl ?_);refine zI ?hg (N:=1) ?hd (cs:=#[.int .i64 a0_0,.int .i64 a0_1,.string a0_2]) (t:=27) ?hr ?_;(case hd|hg => rfl);(case hr => go_simp <;> rfl);intro gb257 hg w2 hbox hb;have BK257:=zh (hbox);have hH_:=cH (by repeat (with_reducible first|exact HB.out|apply za|apply zb|apply zc)) hb hg;have GW257:=zh hH_.1;have GE257:=GW257;replace HB:=zh hH_.2;clear hb hbox hg hH_;obtain ⟨hcz3_0,hcz3_1,hcz3_2,hfz3_0,hfz3_1,hfz3_2⟩:=cB3 BK257.out)|((with_reducible refine zK (N:=9) rfl ?_);refine zI ?hg (N:=9) ?hd (cs:=#[.string a0_2,.bool false]) (t:=95) ?hr ?_;(case hd|hg => rfl);(case hr => go_simp <;> rfl);intro gb258 hg w4 hbox hb;have BK258:=zh (hbox);have hH_:=cH (by repeat (with_reducible first|exact HB.out|apply za|apply zb|apply zc|refine zd ?_ GE257.out)) hb hg;have GW258:=zh hH_.1;have GE258:=GW258;replace HB:=zh hH_.2;have NB257_258:=zh ((by rw [hg];exact yc (yi (g:=gb257) (o:=.cells #[.int .i64 a0_0,.int .i64 a0_1,.string a0_2] 27 (0,0)) (by (with_reducible repeat first|apply ze|apply zf|apply zg);exact BK257.out)) : gb257≠gb258));have NB258_257:=zh NB257_258.out.symm;replace BK257:=zh (cD BK257.out (by (with_reducible repeat first|apply ze|apply zf|apply zg);exact BK257.out) hb);clear hb hbox hg hH_)|((with_reducible refine zK (N:=10) rfl ?_);refine Kd.R_lit k54 _ 54 ?hg (N:=10) ?hd (xs:=([] : List (S54))) (inner:=[]) (ok:=fun _ => True) (okp:=fun _ => True) ?hr ?hp (fun _ hk => hk) trivial (Below.refl _ _) (ye _) (by simp) ?_;(case hd|hg => rfl);(case hr => go_simp <;> rfl);(case hp => exact (Reps.none _ _));intro v260 w5 ho6 hb hg_ hnew_;clear hg_ hnew_;(first|rw [← Ny259.out] at ho6|(simp only [Int.reduceToNat] at ho6;rw [← Ny259.out] at ho6));have HO261:=zh (yy ho6 (zB (by repeat (with_reducible first|exact HB.out|apply za|apply zb|apply zc|refine zd ?_ GE257.out|refine zd ?_ GE258.out))));replace BK257:=zh (cD BK257.out (by (with_reducible repeat first|apply ze|apply zf|apply zg);exact BK257.out) hb);replace BK258:=zh (cD BK258.out (by (with_reducible repeat first|apply ze|apply zf|apply zg);exact BK258.out) hb);replace HB:=zh (zC (by repeat (with_reducible first|exact HB.out|apply za|apply zb|apply zc|refine zd ?_ GE257.out|refine zd ?_ GE258.out)) hb);clear hb ho6)))
 go_loopg [5] k (fun kq v5 w' => ∃ (x5_1 : List (S54)) (x259000_1 : ByteArray) (x259001_1 : Bool),Aside0 (F6.l0 kq x5_1 x259000_1 x259001_1=some (r1,r2))∧Aside0 (kq≤k)∧Aside0 (Kd.R k54 54 w' w.heap.size (fun _ => True) v5 x5_1)∧Aside0 (w'.heap[gb257]? = some (.cells #[.int .i64 a0_0,.int .i64 a0_1,.string a0_2] 27 (0,0)))∧Aside0 (w'.heap[gb258]? = some (.cells #[.string x259000_1,.bool x259001_1] 95 (0,0)))∧Aside0 (Below w.heap.size w w'))
 case atStart => exact ⟨(y259),(a0_2),(false),H',⟨ye _⟩,⟨by (with_reducible repeat (first|apply zm|apply zn|apply zo));exact HO261.out⟩,⟨by (with_reducible repeat first|apply ze|apply zf|apply zg);exact BK257.out⟩,⟨by (with_reducible repeat first|apply ze|apply zf|apply zg);exact BK258.out⟩,⟨by repeat (with_reducible first|exact HB.out|apply za|apply zb|apply zc|refine zd ?_ GE257.out|refine zd ?_ GE258.out)⟩⟩
 case round =>
  clear H'
  try clear p2
  try clear c5
  try clear hcz3_0 hcz3_1 hcz3_2 hfz3_0 hfz3_1 hfz3_2
  obtain ⟨x5_1,x259000_1,x259001_1,HA,HK1,HO_5,BK257,BK258,HB⟩:=hrel
  cases gk with
  | zero => exact absurd HA.out (by simp [F6.l0])
  | succ k1 =>
   have H:=HA.out;clear HA;simp only [F6.l0] at H;have HC7:=zh H;clear H
   go_upto_region 2 with (fail)
   repeat (go_quiet (fail);go_upto_region 2 with (fail))
   go_cut [22] (fun v22 wc => ∃ (kq : Nat) (x22_6 : Bool),v22 = .bool x22_6∧Aside0 (F6.j1 kq x5_1 x22_6 x259000_1 x259001_1=some (r1,r2))∧Aside0 (kq≤k1)∧Aside0 (Kd.R k54 54 wc w.heap.size (fun _ => True) u5 x5_1)∧Aside0 (wc.heap[gb257]? = some (.cells #[.int .i64 a0_0,.int .i64 a0_1,.string a0_2] 27 (0,0)))∧Aside0 (wc.heap[gb258]? = some (.cells #[.string x259000_1,.bool x259001_1] 95 (0,0)))∧Aside0 (Below w.heap.size w wc))
   case first =>
    have H:=HC7.out;clear HC7
    by_cases c8 : x259000_1.toList=([] : List UInt8)
    ·
     rw [if_pos c8] at H
     have c8b0 : (x259000_1.toList == ([] : List UInt8))=true:=ya.mpr c8;have c8b1 : (x259000_1.toList != ([] : List UInt8))=false:=zX.mpr c8;clear c8;(first|rw [c8b0]|(simp only [zG,zH];rw [c8b0])|skip);have H':=zh H;clear H;have hnb9:=NB258_257.out;have hnc9:=NB257_258.out;obtain ⟨hcz10_0,hcz10_1,hfz10_0,hfz10_1⟩:=cB2 BK258.out
     go_wp2
     repeat (go_quiet (fail);try go_wp2)
     go_meet
     case rel => exact ⟨_,(false),(by first|rfl|(simp;done)|(simp [*];done)),H',⟨by have:=HK1.out;first|omega|exact ye _⟩,⟨by (with_reducible repeat (first|apply zm|apply zn|apply zo));exact HO_5.out⟩,⟨by (with_reducible repeat first|apply ze|apply zf|apply zg);exact BK257.out⟩,⟨by (with_reducible repeat first|apply ze|apply zf|apply zg);exact BK258.out⟩,⟨by repeat (with_reducible first|exact HB.out|apply za|apply zb|apply zc|refine zd ?_ GE257.out|refine zd ?_ GE258.out)⟩⟩
    rw [if_neg c8] at H;have c8b0 : (x259000_1.toList == ([] : List UInt8))=false:=zY.mpr c8;have c8b1 : (x259000_1.toList != ([] : List UInt8))=true:=zZ.mpr c8;(first|rw [c8b0]|(simp only [zG,zH];rw [c8b0])|skip);have H':=zh H;clear H;have hnb11:=NB258_257.out;have hnc11:=NB257_258.out;obtain ⟨hcz12_0,hcz12_1,hfz12_0,hfz12_1⟩:=cB2 BK258.out
    go_wp2
    repeat (go_quiet (fail);try go_wp2)
    go_meet
    case rel => exact ⟨_,(!x259001_1),(by first|rfl|(simp;done)|(simp [*];done)),H',⟨by have:=HK1.out;first|omega|exact ye _⟩,⟨by (with_reducible repeat (first|apply zm|apply zn|apply zo));exact HO_5.out⟩,⟨by (with_reducible repeat first|apply ze|apply zf|apply zg);exact BK257.out⟩,⟨by (with_reducible repeat first|apply ze|apply zf|apply zg);exact BK258.out⟩,⟨by repeat (with_reducible first|exact HB.out|apply za|apply zb|apply zc|refine zd ?_ GE257.out|refine zd ?_ GE258.out)⟩⟩
   case rest =>
    clear HC7
    try clear c1
    try clear p2
    try clear c5 c8 c8b0 c8b1 c9 c11
    try clear hcz10_0 hcz10_1
    try clear hcz12_0 hcz12_1
    try clear hcz3_0 hcz3_1 hcz3_2
    try clear hfz10_0 hfz10_1
    try clear hfz12_0 hfz12_1
    try clear hfz3_0 hfz3_1 hfz3_2
    try clear p2
    obtain ⟨kq,x22_6,rfl,HA,HJ6,HO_5,BK257,BK258,HB⟩:=hcut
    cases kq with
    | zero => exact absurd HA.out (by simp [F6.j1])
    | succ kj6 =>
     have H:=HA.out;clear HA;simp only [F6.j1] at H
     by_cases c13 : x22_6=true
     ·
      subst c13
      have H1 : ((Fm.f kj6 x259000_1 x259001_1 1).bind fun bt262 => ((F01.f bt262.2.1 bt262.2.2 bt262.1).bind fun bt265 => ((Fd.f kj6 bt265.2.1 bt265.2.2).bind fun bt268 => (if x5_1.length<2932031007402 then (F6.l0 kj6 (x5_1 ++ [(⟨bt265.1,(⟨bt268.1,bt268.2.1,bt268.2.2.1⟩ : S27)⟩ : S54)]) bt268.2.2.2.1 bt268.2.2.2.2) else (none)))))=some (r1,r2):=by rw [if_pos rfl] at H;exact H
      clear H;have H:=H1;clear H1;replace H:=zT.mp H;obtain ⟨⟨t262,t263,t264⟩,A140,H⟩:=H;replace H : ((F01.f t263 t264 t262).bind fun bt265 => ((Fd.f kj6 bt265.2.1 bt265.2.2).bind fun bt268 => (if x5_1.length<2932031007402 then (F6.l0 kj6 (x5_1 ++ [(⟨bt265.1,(⟨bt268.1,bt268.2.1,bt268.2.2.1⟩ : S27)⟩ : S54)]) bt268.2.2.2.1 bt268.2.2.2.2) else (none))))=some (r1,r2):=H;have A14:=zh A140;clear A140;replace H:=zT.mp H;obtain ⟨⟨t265,t266,t267⟩,A150,H⟩:=H;replace H : ((Fd.f kj6 t266 t267).bind fun bt268 => (if x5_1.length<2932031007402 then (F6.l0 kj6 (x5_1 ++ [(⟨t265,(⟨bt268.1,bt268.2.1,bt268.2.2.1⟩ : S27)⟩ : S54)]) bt268.2.2.2.1 bt268.2.2.2.2) else (none)))=some (r1,r2):=H;have A15:=zh A150;clear A150;replace H:=zT.mp H;obtain ⟨⟨t268,t269,t270,t271,t272⟩,A160,H⟩:=H;replace H : (if x5_1.length<2932031007402 then (F6.l0 kj6 (x5_1 ++ [(⟨t265,(⟨t268,t269,t270⟩ : S27)⟩ : S54)]) t271 t272) else (none))=some (r1,r2):=H;have A16:=zh A160;clear A160
      by_cases c17 : x5_1.length<2932031007402
      ·
       rw [if_pos c17] at H
       have LMc17:=zh c17;clear c17;obtain ⟨y273,hy273⟩ : ∃ y_ : List (S54),y_=(x5_1 ++ [(⟨t265,(⟨t268,t269,t270⟩ : S27)⟩ : S54)]):=⟨_,rfl⟩;replace H : (F6.l0 kj6 y273 t271 t272)=some (r1,r2):=by first|(rw [hy273];with_reducible exact H)|(have H2_:=(Option.bind_some _ _).symm.trans H;rw [hy273];with_reducible exact H2_)|(have H2_:=(Option.bind_some _ _).symm.trans H;with_reducible exact H2_)|with_reducible exact H|(rw [hy273];exact H)|exact H
       have Ny273:=zh hy273;clear hy273;have H':=zh H;clear H;have HI258:=zh (show IsS95 w wc gb258 x259000_1 x259001_1 from ⟨BK258.out,GE258.out⟩)
       go_wp2_with (first|(go_at_call 79;(with_reducible refine (Fm.calls kj6  gb258 x259000_1 x259001_1 1 t262 t263 t264 w _ ?side1 ?side2 A14.out).mono ?_);(case side1 => repeat (with_reducible first|exact HI258.out|apply IsS95.alloc|apply IsS95.drewN|apply IsS95.drew|apply IsS95.set_0|apply IsS95.set_1|refine IsS95.far ?_ NB258_257.out _));(case side2 => repeat (with_reducible first|exact HB.out|apply za|apply zb|apply zc|refine zd ?_ (IsS95.ge HI258.out)|refine zd ?_ GE257.out));rintro e w18 ⟨rfl,hi,hb,hk⟩;replace HO_5:=zh (zM (Kd.R_keep (IsS95.apart (show IsS95 w _ gb258 x259000_1 x259001_1 from by repeat (with_reducible first|exact HI258.out|apply IsS95.alloc|apply IsS95.drewN|apply IsS95.drew|apply IsS95.set_0|apply IsS95.set_1|refine IsS95.far ?_ NB258_257.out _)) (by (with_reducible repeat (first|apply zm|apply zn|apply zo));exact HO_5.out) (by decide)) hk (fun _ h => h.2)) (fun _ h => h.1));replace BK257:=zh (KeepBut.blk hk (g':=gb257) (o:=.cells #[.int .i64 a0_0,.int .i64 a0_1,.string a0_2] 27 (0,0)) (by (with_reducible repeat first|apply ze|apply zf|apply zg);exact BK257.out) NB257_258.out (by simp));replace HB:=zh (hb);replace BK258:=zh ((show _∧_ from hi).1);clear HI258;(try clear hb);(try clear hb2);(try clear hk);(try clear hi);have HI258:=zh (show IsS95 w w18 gb258 t263 t264 from ⟨BK258.out,GE258.out⟩))|(go_at_call 78;(with_reducible refine (F01.calls  gb258 t263 t264 t262 t265 t266 t267 w _ ?side1 ?side2 A15.out).mono ?_);(case side1 => repeat (with_reducible first|exact HI258.out|apply IsS95.alloc|apply IsS95.drewN|apply IsS95.drew|apply IsS95.set_0|apply IsS95.set_1|refine IsS95.far ?_ NB258_257.out _));(case side2 => repeat (with_reducible first|exact HB.out|apply za|apply zb|apply zc|refine zd ?_ (IsS95.ge HI258.out)|refine zd ?_ GE257.out));rintro e w19 ⟨rfl,hi,hb,hk⟩;replace HO_5:=zh (zM (Kd.R_keep (IsS95.apart (show IsS95 w _ gb258 t263 t264 from by repeat (with_reducible first|exact HI258.out|apply IsS95.alloc|apply IsS95.drewN|apply IsS95.drew|apply IsS95.set_0|apply IsS95.set_1|refine IsS95.far ?_ NB258_257.out _)) (by (with_reducible repeat (first|apply zm|apply zn|apply zo));exact HO_5.out) (by decide)) hk (fun _ h => h.2)) (fun _ h => h.1));replace BK257:=zh (KeepBut.blk hk (g':=gb257) (o:=.cells #[.int .i64 a0_0,.int .i64 a0_1,.string a0_2] 27 (0,0)) (by (with_reducible repeat first|apply ze|apply zf|apply zg);exact BK257.out) NB257_258.out (by simp));replace HB:=zh (hb);replace BK258:=zh ((show _∧_ from hi).1);clear HI258;(try clear hb);(try clear hb2);(try clear hk);(try clear hi);have HI258:=zh (show IsS95 w w19 gb258 t266 t267 from ⟨BK258.out,GE258.out⟩))|(go_at_call 80;(with_reducible refine (Fd.calls kj6  gb258 t266 t267 t268 t269 t270 t271 t272 w _ ?side1 ?side2 A16.out).mono ?_);(case side1 => repeat (with_reducible first|exact HI258.out|apply IsS95.alloc|apply IsS95.drewN|apply IsS95.drew|apply IsS95.set_0|apply IsS95.set_1|refine IsS95.far ?_ NB258_257.out _));(case side2 => repeat (with_reducible first|exact HB.out|apply za|apply zb|apply zc|refine zd ?_ (IsS95.ge HI258.out)|refine zd ?_ GE257.out));rintro e w20 ⟨rfl,hi,hb,hk⟩;replace HO_5:=zh (zM (Kd.R_keep (IsS95.apart (show IsS95 w _ gb258 t266 t267 from by repeat (with_reducible first|exact HI258.out|apply IsS95.alloc|apply IsS95.drewN|apply IsS95.drew|apply IsS95.set_0|apply IsS95.set_1|refine IsS95.far ?_ NB258_257.out _)) (by (with_reducible repeat (first|apply zm|apply zn|apply zo));exact HO_5.out) (by decide)) hk (fun _ h => h.2)) (fun _ h => h.1));replace BK257:=zh (KeepBut.blk hk (g':=gb257) (o:=.cells #[.int .i64 a0_0,.int .i64 a0_1,.string a0_2] 27 (0,0)) (by (with_reducible repeat first|apply ze|apply zf|apply zg);exact BK257.out) NB257_258.out (by simp));replace HB:=zh (hb);replace BK258:=zh ((show _∧_ from hi).1);clear HI258;(try clear hb);(try clear hb2);(try clear hk);(try clear hi))|((with_reducible refine yB (b:=.append) (xs:=#[.tmp 23,.tmp 31]) rfl ?_);at_builtin;refine Kd.R_append k54 (w0:=w) w.heap.size rfl (.tmp 23) (.tmp 31) 41 54 (.agg #[(.string ⟨#[]⟩),(.int .i64 0),(.int .i64 0),(.string ⟨#[]⟩)]) 48 rfl Try.underlying41 info54 rfl (by decide) (by omega) u5 x5_1 (⟨t265,(⟨t268,t269,t270⟩ : S27)⟩ : S54) [.string t265,.int .i64 t268,.int .i64 t269,.string t270] (fun _ => True) (fun _ => False) rfl rfl ?aP (fun _ hk => hk.elim) ?aF ?aO ?aB ?aS ?aL ?_;(case aP => exact k54_mkM _ _ _ (⟨t265,(⟨t268,t269,t270⟩ : S27)⟩ : S54));(case aB => exact (by repeat (with_reducible first|exact HB.out|apply za|apply zb|apply zc|refine zd ?_ GE257.out|refine zd ?_ GE258.out)));(case aF => exact (fun _ _ => trivial));(case aO => exact (by (with_reducible repeat (first|apply zm|apply zn|apply zo));exact HO_5.out));(case aS => exact (zB (by repeat (with_reducible first|exact HB.out|apply za|apply zb|apply zc|refine zd ?_ GE257.out|refine zd ?_ GE258.out))));(case aL => have:=LMc17.out;omega);intro v274 w21 ho hb hg hat;rw [← Ny273.out] at ho;replace BK257:=zh (yw (g:=gb257) (o:=.cells #[.int .i64 a0_0,.int .i64 a0_1,.string a0_2] 27 (0,0)) (by (with_reducible repeat first|apply ze|apply zf|apply zg);exact BK257.out) hg (Kd.R_ne HO_5.out BK257.out (by decide)));replace BK258:=zh (yw (g:=gb258) (o:=.cells #[.string t271,.bool t272] 95 (0,0)) (by (with_reducible repeat first|apply ze|apply zf|apply zg);exact BK258.out) hg (Kd.R_ne HO_5.out BK258.out (by decide)));replace HB:=zh (hb);have HO275:=zh (ho);clear HO_5 ho hb hg hat))
       repeat (go_quiet (first|(go_at_call 79;(with_reducible refine (Fm.calls kj6  gb258 x259000_1 x259001_1 1 t262 t263 t264 w _ ?side1 ?side2 A14.out).mono ?_);(case side1 => repeat (with_reducible first|exact HI258.out|apply IsS95.alloc|apply IsS95.drewN|apply IsS95.drew|apply IsS95.set_0|apply IsS95.set_1|refine IsS95.far ?_ NB258_257.out _));(case side2 => repeat (with_reducible first|exact HB.out|apply za|apply zb|apply zc|refine zd ?_ (IsS95.ge HI258.out)|refine zd ?_ GE257.out));rintro e w18 ⟨rfl,hi,hb,hk⟩;replace HO_5:=zh (zM (Kd.R_keep (IsS95.apart (show IsS95 w _ gb258 x259000_1 x259001_1 from by repeat (with_reducible first|exact HI258.out|apply IsS95.alloc|apply IsS95.drewN|apply IsS95.drew|apply IsS95.set_0|apply IsS95.set_1|refine IsS95.far ?_ NB258_257.out _)) (by (with_reducible repeat (first|apply zm|apply zn|apply zo));exact HO_5.out) (by decide)) hk (fun _ h => h.2)) (fun _ h => h.1));replace BK257:=zh (KeepBut.blk hk (g':=gb257) (o:=.cells #[.int .i64 a0_0,.int .i64 a0_1,.string a0_2] 27 (0,0)) (by (with_reducible repeat first|apply ze|apply zf|apply zg);exact BK257.out) NB257_258.out (by simp));replace HB:=zh (hb);replace BK258:=zh ((show _∧_ from hi).1);clear HI258;(try clear hb);(try clear hb2);(try clear hk);(try clear hi);have HI258:=zh (show IsS95 w w18 gb258 t263 t264 from ⟨BK258.out,GE258.out⟩))|(go_at_call 78;(with_reducible refine (F01.calls  gb258 t263 t264 t262 t265 t266 t267 w _ ?side1 ?side2 A15.out).mono ?_);(case side1 => repeat (with_reducible first|exact HI258.out|apply IsS95.alloc|apply IsS95.drewN|apply IsS95.drew|apply IsS95.set_0|apply IsS95.set_1|refine IsS95.far ?_ NB258_257.out _));(case side2 => repeat (with_reducible first|exact HB.out|apply za|apply zb|apply zc|refine zd ?_ (IsS95.ge HI258.out)|refine zd ?_ GE257.out));rintro e w19 ⟨rfl,hi,hb,hk⟩;replace HO_5:=zh (zM (Kd.R_keep (IsS95.apart (show IsS95 w _ gb258 t263 t264 from by repeat (with_reducible first|exact HI258.out|apply IsS95.alloc|apply IsS95.drewN|apply IsS95.drew|apply IsS95.set_0|apply IsS95.set_1|refine IsS95.far ?_ NB258_257.out _)) (by (with_reducible repeat (first|apply zm|apply zn|apply zo));exact HO_5.out) (by decide)) hk (fun _ h => h.2)) (fun _ h => h.1));replace BK257:=zh (KeepBut.blk hk (g':=gb257) (o:=.cells #[.int .i64 a0_0,.int .i64 a0_1,.string a0_2] 27 (0,0)) (by (with_reducible repeat first|apply ze|apply zf|apply zg);exact BK257.out) NB257_258.out (by simp));replace HB:=zh (hb);replace BK258:=zh ((show _∧_ from hi).1);clear HI258;(try clear hb);(try clear hb2);(try clear hk);(try clear hi);have HI258:=zh (show IsS95 w w19 gb258 t266 t267 from ⟨BK258.out,GE258.out⟩))|(go_at_call 80;(with_reducible refine (Fd.calls kj6  gb258 t266 t267 t268 t269 t270 t271 t272 w _ ?side1 ?side2 A16.out).mono ?_);(case side1 => repeat (with_reducible first|exact HI258.out|apply IsS95.alloc|apply IsS95.drewN|apply IsS95.drew|apply IsS95.set_0|apply IsS95.set_1|refine IsS95.far ?_ NB258_257.out _));(case side2 => repeat (with_reducible first|exact HB.out|apply za|apply zb|apply zc|refine zd ?_ (IsS95.ge HI258.out)|refine zd ?_ GE257.out));rintro e w20 ⟨rfl,hi,hb,hk⟩;replace HO_5:=zh (zM (Kd.R_keep (IsS95.apart (show IsS95 w _ gb258 t266 t267 from by repeat (with_reducible first|exact HI258.out|apply IsS95.alloc|apply IsS95.drewN|apply IsS95.drew|apply IsS95.set_0|apply IsS95.set_1|refine IsS95.far ?_ NB258_257.out _)) (by (with_reducible repeat (first|apply zm|apply zn|apply zo));exact HO_5.out) (by decide)) hk (fun _ h => h.2)) (fun _ h => h.1));replace BK257:=zh (KeepBut.blk hk (g':=gb257) (o:=.cells #[.int .i64 a0_0,.int .i64 a0_1,.string a0_2] 27 (0,0)) (by (with_reducible repeat first|apply ze|apply zf|apply zg);exact BK257.out) NB257_258.out (by simp));replace HB:=zh (hb);replace BK258:=zh ((show _∧_ from hi).1);clear HI258;(try clear hb);(try clear hb2);(try clear hk);(try clear hi))|((with_reducible refine yB (b:=.append) (xs:=#[.tmp 23,.tmp 31]) rfl ?_);at_builtin;refine Kd.R_append k54 (w0:=w) w.heap.size rfl (.tmp 23) (.tmp 31) 41 54 (.agg #[(.string ⟨#[]⟩),(.int .i64 0),(.int .i64 0),(.string ⟨#[]⟩)]) 48 rfl Try.underlying41 info54 rfl (by decide) (by omega) u5 x5_1 (⟨t265,(⟨t268,t269,t270⟩ : S27)⟩ : S54) [.string t265,.int .i64 t268,.int .i64 t269,.string t270] (fun _ => True) (fun _ => False) rfl rfl ?aP (fun _ hk => hk.elim) ?aF ?aO ?aB ?aS ?aL ?_;(case aP => exact k54_mkM _ _ _ (⟨t265,(⟨t268,t269,t270⟩ : S27)⟩ : S54));(case aB => exact (by repeat (with_reducible first|exact HB.out|apply za|apply zb|apply zc|refine zd ?_ GE257.out|refine zd ?_ GE258.out)));(case aF => exact (fun _ _ => trivial));(case aO => exact (by (with_reducible repeat (first|apply zm|apply zn|apply zo));exact HO_5.out));(case aS => exact (zB (by repeat (with_reducible first|exact HB.out|apply za|apply zb|apply zc|refine zd ?_ GE257.out|refine zd ?_ GE258.out))));(case aL => have:=LMc17.out;omega);intro v274 w21 ho hb hg hat;rw [← Ny273.out] at ho;replace BK257:=zh (yw (g:=gb257) (o:=.cells #[.int .i64 a0_0,.int .i64 a0_1,.string a0_2] 27 (0,0)) (by (with_reducible repeat first|apply ze|apply zf|apply zg);exact BK257.out) hg (Kd.R_ne HO_5.out BK257.out (by decide)));replace BK258:=zh (yw (g:=gb258) (o:=.cells #[.string t271,.bool t272] 95 (0,0)) (by (with_reducible repeat first|apply ze|apply zf|apply zg);exact BK258.out) hg (Kd.R_ne HO_5.out BK258.out (by decide)));replace HB:=zh (hb);have HO275:=zh (ho);clear HO_5 ho hb hg hat));try go_wp2_with (first|(go_at_call 79;(with_reducible refine (Fm.calls kj6  gb258 x259000_1 x259001_1 1 t262 t263 t264 w _ ?side1 ?side2 A14.out).mono ?_);(case side1 => repeat (with_reducible first|exact HI258.out|apply IsS95.alloc|apply IsS95.drewN|apply IsS95.drew|apply IsS95.set_0|apply IsS95.set_1|refine IsS95.far ?_ NB258_257.out _));(case side2 => repeat (with_reducible first|exact HB.out|apply za|apply zb|apply zc|refine zd ?_ (IsS95.ge HI258.out)|refine zd ?_ GE257.out));rintro e w18 ⟨rfl,hi,hb,hk⟩;replace HO_5:=zh (zM (Kd.R_keep (IsS95.apart (show IsS95 w _ gb258 x259000_1 x259001_1 from by repeat (with_reducible first|exact HI258.out|apply IsS95.alloc|apply IsS95.drewN|apply IsS95.drew|apply IsS95.set_0|apply IsS95.set_1|refine IsS95.far ?_ NB258_257.out _)) (by (with_reducible repeat (first|apply zm|apply zn|apply zo));exact HO_5.out) (by decide)) hk (fun _ h => h.2)) (fun _ h => h.1));replace BK257:=zh (KeepBut.blk hk (g':=gb257) (o:=.cells #[.int .i64 a0_0,.int .i64 a0_1,.string a0_2] 27 (0,0)) (by (with_reducible repeat first|apply ze|apply zf|apply zg);exact BK257.out) NB257_258.out (by simp));replace HB:=zh (hb);replace BK258:=zh ((show _∧_ from hi).1);clear HI258;(try clear hb);(try clear hb2);(try clear hk);(try clear hi);have HI258:=zh (show IsS95 w w18 gb258 t263 t264 from ⟨BK258.out,GE258.out⟩))|(go_at_call 78;(with_reducible refine (F01.calls  gb258 t263 t264 t262 t265 t266 t267 w _ ?side1 ?side2 A15.out).mono ?_);(case side1 => repeat (with_reducible first|exact HI258.out|apply IsS95.alloc|apply IsS95.drewN|apply IsS95.drew|apply IsS95.set_0|apply IsS95.set_1|refine IsS95.far ?_ NB258_257.out _));(case side2 => repeat (with_reducible first|exact HB.out|apply za|apply zb|apply zc|refine zd ?_ (IsS95.ge HI258.out)|refine zd ?_ GE257.out));rintro e w19 ⟨rfl,hi,hb,hk⟩;replace HO_5:=zh (zM (Kd.R_keep (IsS95.apart (show IsS95 w _ gb258 t263 t264 from by repeat (with_reducible first|exact HI258.out|apply IsS95.alloc|apply IsS95.drewN|apply IsS95.drew|apply IsS95.set_0|apply IsS95.set_1|refine IsS95.far ?_ NB258_257.out _)) (by (with_reducible repeat (first|apply zm|apply zn|apply zo));exact HO_5.out) (by decide)) hk (fun _ h => h.2)) (fun _ h => h.1));replace BK257:=zh (KeepBut.blk hk (g':=gb257) (o:=.cells #[.int .i64 a0_0,.int .i64 a0_1,.string a0_2] 27 (0,0)) (by (with_reducible repeat first|apply ze|apply zf|apply zg);exact BK257.out) NB257_258.out (by simp));replace HB:=zh (hb);replace BK258:=zh ((show _∧_ from hi).1);clear HI258;(try clear hb);(try clear hb2);(try clear hk);(try clear hi);have HI258:=zh (show IsS95 w w19 gb258 t266 t267 from ⟨BK258.out,GE258.out⟩))|(go_at_call 80;(with_reducible refine (Fd.calls kj6  gb258 t266 t267 t268 t269 t270 t271 t272 w _ ?side1 ?side2 A16.out).mono ?_);(case side1 => repeat (with_reducible first|exact HI258.out|apply IsS95.alloc|apply IsS95.drewN|apply IsS95.drew|apply IsS95.set_0|apply IsS95.set_1|refine IsS95.far ?_ NB258_257.out _));(case side2 => repeat (with_reducible first|exact HB.out|apply za|apply zb|apply zc|refine zd ?_ (IsS95.ge HI258.out)|refine zd ?_ GE257.out));rintro e w20 ⟨rfl,hi,hb,hk⟩;replace HO_5:=zh (zM (Kd.R_keep (IsS95.apart (show IsS95 w _ gb258 t266 t267 from by repeat (with_reducible first|exact HI258.out|apply IsS95.alloc|apply IsS95.drewN|apply IsS95.drew|apply IsS95.set_0|apply IsS95.set_1|refine IsS95.far ?_ NB258_257.out _)) (by (with_reducible repeat (first|apply zm|apply zn|apply zo));exact HO_5.out) (by decide)) hk (fun _ h => h.2)) (fun _ h => h.1));replace BK257:=zh (KeepBut.blk hk (g':=gb257) (o:=.cells #[.int .i64 a0_0,.int .i64 a0_1,.string a0_2] 27 (0,0)) (by (with_reducible repeat first|apply ze|apply zf|apply zg);exact BK257.out) NB257_258.out (by simp));replace HB:=zh (hb);replace BK258:=zh ((show _∧_ from hi).1);clear HI258;(try clear hb);(try clear hb2);(try clear hk);(try clear hi))|((with_reducible refine yB (b:=.append) (xs:=#[.tmp 23,.tmp 31]) rfl ?_);at_builtin;refine Kd.R_append k54 (w0:=w) w.heap.size rfl (.tmp 23) (.tmp 31) 41 54 (.agg #[(.string ⟨#[]⟩),(.int .i64 0),(.int .i64 0),(.string ⟨#[]⟩)]) 48 rfl Try.underlying41 info54 rfl (by decide) (by omega) u5 x5_1 (⟨t265,(⟨t268,t269,t270⟩ : S27)⟩ : S54) [.string t265,.int .i64 t268,.int .i64 t269,.string t270] (fun _ => True) (fun _ => False) rfl rfl ?aP (fun _ hk => hk.elim) ?aF ?aO ?aB ?aS ?aL ?_;(case aP => exact k54_mkM _ _ _ (⟨t265,(⟨t268,t269,t270⟩ : S27)⟩ : S54));(case aB => exact (by repeat (with_reducible first|exact HB.out|apply za|apply zb|apply zc|refine zd ?_ GE257.out|refine zd ?_ GE258.out)));(case aF => exact (fun _ _ => trivial));(case aO => exact (by (with_reducible repeat (first|apply zm|apply zn|apply zo));exact HO_5.out));(case aS => exact (zB (by repeat (with_reducible first|exact HB.out|apply za|apply zb|apply zc|refine zd ?_ GE257.out|refine zd ?_ GE258.out))));(case aL => have:=LMc17.out;omega);intro v274 w21 ho hb hg hat;rw [← Ny273.out] at ho;replace BK257:=zh (yw (g:=gb257) (o:=.cells #[.int .i64 a0_0,.int .i64 a0_1,.string a0_2] 27 (0,0)) (by (with_reducible repeat first|apply ze|apply zf|apply zg);exact BK257.out) hg (Kd.R_ne HO_5.out BK257.out (by decide)));replace BK258:=zh (yw (g:=gb258) (o:=.cells #[.string t271,.bool t272] 95 (0,0)) (by (with_reducible repeat first|apply ze|apply zf|apply zg);exact BK258.out) hg (Kd.R_ne HO_5.out BK258.out (by decide)));replace HB:=zh (hb);have HO275:=zh (ho);clear HO_5 ho hb hg hat)))
       go_roundg kj6
       case measure => have:=HK1.out;have:=HJ6.out;omega
       case rel => exact ⟨(y273),(t271),(t272),H',⟨by have:=HK1.out;have:=HJ6.out;omega⟩,⟨by (with_reducible repeat (first|apply zm|apply zn|apply zo));exact HO275.out⟩,⟨by (with_reducible repeat first|apply ze|apply zf|apply zg);exact BK257.out⟩,⟨by (with_reducible repeat first|apply ze|apply zf|apply zg);exact BK258.out⟩,⟨by repeat (with_reducible first|exact HB.out|apply za|apply zb|apply zc|refine zd ?_ GE257.out|refine zd ?_ GE258.out)⟩⟩
      rw [if_neg c17] at H;exact absurd H (by simp)
     replace c13:=yb.mpr c13;subst c13;have H1 : (some (x5_1,!x259001_1))=some (r1,r2):=by rw [if_neg (show ¬ (false=true) by decide)] at H;exact H
     clear H;have H:=H1;clear H1;simp only [Option.some.injEq,Prod.mk.injEq] at H;obtain ⟨rfl,rfl⟩:=H;have hnb22:=NB258_257.out;have hnc22:=NB257_258.out;obtain ⟨hcz23_0,hcz23_1,hfz23_0,hfz23_1⟩:=cB2 BK258.out
     go_wp2
     repeat (go_quiet (fail);try go_wp2)
     go_ret2
     exact ⟨_,by first|rfl|(simp [yt,yu] <;> rfl)|(simp [*,yt,yu] <;> rfl),by (with_reducible repeat (first|apply zm|apply zn|apply zo));exact HO_5.out,by repeat (with_reducible first|exact HB.out|apply za|apply zb|apply zc|refine zd ?_ GE257.out|refine zd ?_ GE258.out)⟩

end Go.Proofs.Ytaoihmompioncaa.Q
end
section
namespace Go.Proofs.Ytaoihmompioncaa.Q
open Go.RowKit Go.Proofs.YtaoihmompioncaaW.PrintWords Go.Proofs.YtaoihmompioncaaW.PrintLast Go.Proofs.YtaoihmompioncaaW.PrintMore
attribute [local go_sem] max2_int min2_int max_two min_two max_three min_three max_four min_four max2_str min2_str str_geq str_gtr str_leq
set_option linter.unusedVariables false
set_option linter.unusedSimpArgs false

def Fi.l0 : Nat→List (S27)→ByteArray→Bool→Option ((List (S27))×Bool)
 | 0,_,_,_ => none
 | k + 1,x5,x278000,x278001 => if x278000.toList=([] : List UInt8) then (some (x5,!x278001)) else (if x278001=true then (some (x5,!x278001)) else ((Fd.f k x278000 x278001).bind fun bt281 => (if x5.length<4398046511104 then (Fi.l0 k (x5 ++ [(⟨bt281.1,bt281.2.1,bt281.2.2.1⟩ : S27)]) bt281.2.2.2.1 bt281.2.2.2.2) else (none))))
def Fi.f (k : Nat) (a0_0 : Int) (a0_1 : Int) (a0_2 : ByteArray) : Option ((List (S27))×Bool):=Fi.l0 k (([] : List (S27))) a0_2 false
theorem Fi.mono_l : ∀ k,(∀ y0 y1 y2,LeO (Fi.l0 k y0 y1 y2) (Fi.l0 (k + 1) y0 y1 y2))
 | 0 => fun _ _ _ r h => by simp [Fi.l0] at h
 | k + 1 => by
  have ih0:=Fi.mono_l k;intro y0 y1 y2;unfold Fi.l0
  repeat' first|(with_reducible first|exact ih0 _ _ _|exact Fd.mono _ _ _|exact zQ _|exact zN _|refine zP ?_ ?_|refine zO ?_ (fun _ => ?_))|refine zP ?_ ?_|refine zO ?_ (fun _ => ?_)
theorem Fi.mono : ∀ a0 a1 a2 k,LeO (Fi.f k a0 a1 a2) (Fi.f (k + 1) a0 a1 a2):=by
 intro a0 a1 a2 k;have ih0:=Fi.mono_l k;unfold Fi.f
 repeat' first|(with_reducible first|exact ih0 _ _ _|exact Fd.mono _ _ _|exact zQ _|exact zN _|refine zP ?_ ?_|refine zO ?_ (fun _ => ?_))|refine zP ?_ ?_|refine zO ?_ (fun _ => ?_)
set_option maxHeartbeats 8000000 in
set_option maxRecDepth 100000 in
theorem Fi.calls (k : Nat) (a0_0 : Int) (a0_1 : Int) (a0_2 : ByteArray) (r1 : List (S27)) (r2 : Bool) (w : World) (h : Fi.f k a0_0 a0_1 a0_2=some (r1,r2)) :
  Calls Try.prog 74 #[.agg #[.int .i64 a0_0,.int .i64 a0_1,.string a0_2]] w fun e w' => ∃ v0_ : Value,e = .returned (.tuple #[v0_,.bool r2])∧Kd.R k27 27 w' w.heap.size (fun _ => True) v0_ r1∧Below w.heap.size w w':=by
 have hu27:=Try.underlying27;have hu95:=Try.underlying95;have HB:=zh (Below.refl w.heap.size w);have H : (Fi.l0 k (([] : List (S27))) a0_2 false)=some (r1,r2):=h;clear h;obtain ⟨y278,hy278⟩ : ∃ y_ : List (S27),y_=(([] : List (S27))):=⟨_,rfl⟩;replace H : (Fi.l0 k y278 a0_2 false)=some (r1,r2):=by first|(rw [hy278];with_reducible exact H)|(have H2_:=(Option.bind_some _ _).symm.trans H;rw [hy278];with_reducible exact H2_)|(have H2_:=(Option.bind_some _ _).symm.trans H;with_reducible exact H2_)|with_reducible exact H|(rw [hy278];exact H)|exact H
 have Ny278:=zh hy278;clear hy278;have H':=zh H;clear H
 go_enter Try.func74,Try.ntmps74
 go_wp2_with (first|((with_reducible refine zK (N:=1) rfl ?_);refine zI ?hg (N:=1) ?hd (cs:=#[.int .i64 a0_0,.int .i64 a0_1,.string a0_2]) (t:=27) ?hr ?_;(case hd|hg => rfl);(case hr => go_simp <;> rfl);intro gb276 hg w2 hbox hb;have BK276:=zh (hbox);have hH_:=cH (by repeat (with_reducible first|exact HB.out|apply za|apply zb|apply zc)) hb hg;have GW276:=zh hH_.1;have GE276:=GW276;replace HB:=zh hH_.2;clear hb hbox hg hH_;obtain ⟨hcz3_0,hcz3_1,hcz3_2,hfz3_0,hfz3_1,hfz3_2⟩:=cB3 BK276.out)|((with_reducible refine zK (N:=9) rfl ?_);refine zI ?hg (N:=9) ?hd (cs:=#[.string a0_2,.bool false]) (t:=95) ?hr ?_;(case hd|hg => rfl);(case hr => go_simp <;> rfl);intro gb277 hg w4 hbox hb;have BK277:=zh (hbox);have hH_:=cH (by repeat (with_reducible first|exact HB.out|apply za|apply zb|apply zc|refine zd ?_ GE276.out)) hb hg;have GW277:=zh hH_.1;have GE277:=GW277;replace HB:=zh hH_.2;have NB276_277:=zh ((by rw [hg];exact yc (yi (g:=gb276) (o:=.cells #[.int .i64 a0_0,.int .i64 a0_1,.string a0_2] 27 (0,0)) (by (with_reducible repeat first|apply ze|apply zf|apply zg);exact BK276.out)) : gb276≠gb277));have NB277_276:=zh NB276_277.out.symm;replace BK276:=zh (cD BK276.out (by (with_reducible repeat first|apply ze|apply zf|apply zg);exact BK276.out) hb);clear hb hbox hg hH_)|((with_reducible refine zK (N:=10) rfl ?_);refine Kd.R_lit k27 _ 27 ?hg (N:=10) ?hd (xs:=([] : List (S27))) (inner:=[]) (ok:=fun _ => True) (okp:=fun _ => True) ?hr ?hp (fun _ hk => hk) trivial (Below.refl _ _) (ye _) (by simp) ?_;(case hd|hg => rfl);(case hr => go_simp <;> rfl);(case hp => exact (Reps.none _ _));intro v279 w5 ho6 hb hg_ hnew_;clear hg_ hnew_;(first|rw [← Ny278.out] at ho6|(simp only [Int.reduceToNat] at ho6;rw [← Ny278.out] at ho6));have HO280:=zh (yy (Kd.R_newB ho6 (g:=gb276) (o:=.cells #[.int .i64 a0_0,.int .i64 a0_1,.string a0_2] 27 (0,0)) (by (with_reducible repeat first|apply ze|apply zf|apply zg);exact BK276.out)) (zB (by repeat (with_reducible first|exact HB.out|apply za|apply zb|apply zc|refine zd ?_ GE276.out|refine zd ?_ GE277.out))));replace BK276:=zh (cD BK276.out (by (with_reducible repeat first|apply ze|apply zf|apply zg);exact BK276.out) hb);replace BK277:=zh (cD BK277.out (by (with_reducible repeat first|apply ze|apply zf|apply zg);exact BK277.out) hb);replace HB:=zh (zC (by repeat (with_reducible first|exact HB.out|apply za|apply zb|apply zc|refine zd ?_ GE276.out|refine zd ?_ GE277.out)) hb);clear hb ho6))
 repeat (go_quiet (first|((with_reducible refine zK (N:=1) rfl ?_);refine zI ?hg (N:=1) ?hd (cs:=#[.int .i64 a0_0,.int .i64 a0_1,.string a0_2]) (t:=27) ?hr ?_;(case hd|hg => rfl);(case hr => go_simp <;> rfl);intro gb276 hg w2 hbox hb;have BK276:=zh (hbox);have hH_:=cH (by repeat (with_reducible first|exact HB.out|apply za|apply zb|apply zc)) hb hg;have GW276:=zh hH_.1;have GE276:=GW276;replace HB:=zh hH_.2;clear hb hbox hg hH_;obtain ⟨hcz3_0,hcz3_1,hcz3_2,hfz3_0,hfz3_1,hfz3_2⟩:=cB3 BK276.out)|((with_reducible refine zK (N:=9) rfl ?_);refine zI ?hg (N:=9) ?hd (cs:=#[.string a0_2,.bool false]) (t:=95) ?hr ?_;(case hd|hg => rfl);(case hr => go_simp <;> rfl);intro gb277 hg w4 hbox hb;have BK277:=zh (hbox);have hH_:=cH (by repeat (with_reducible first|exact HB.out|apply za|apply zb|apply zc|refine zd ?_ GE276.out)) hb hg;have GW277:=zh hH_.1;have GE277:=GW277;replace HB:=zh hH_.2;have NB276_277:=zh ((by rw [hg];exact yc (yi (g:=gb276) (o:=.cells #[.int .i64 a0_0,.int .i64 a0_1,.string a0_2] 27 (0,0)) (by (with_reducible repeat first|apply ze|apply zf|apply zg);exact BK276.out)) : gb276≠gb277));have NB277_276:=zh NB276_277.out.symm;replace BK276:=zh (cD BK276.out (by (with_reducible repeat first|apply ze|apply zf|apply zg);exact BK276.out) hb);clear hb hbox hg hH_)|((with_reducible refine zK (N:=10) rfl ?_);refine Kd.R_lit k27 _ 27 ?hg (N:=10) ?hd (xs:=([] : List (S27))) (inner:=[]) (ok:=fun _ => True) (okp:=fun _ => True) ?hr ?hp (fun _ hk => hk) trivial (Below.refl _ _) (ye _) (by simp) ?_;(case hd|hg => rfl);(case hr => go_simp <;> rfl);(case hp => exact (Reps.none _ _));intro v279 w5 ho6 hb hg_ hnew_;clear hg_ hnew_;(first|rw [← Ny278.out] at ho6|(simp only [Int.reduceToNat] at ho6;rw [← Ny278.out] at ho6));have HO280:=zh (yy (Kd.R_newB ho6 (g:=gb276) (o:=.cells #[.int .i64 a0_0,.int .i64 a0_1,.string a0_2] 27 (0,0)) (by (with_reducible repeat first|apply ze|apply zf|apply zg);exact BK276.out)) (zB (by repeat (with_reducible first|exact HB.out|apply za|apply zb|apply zc|refine zd ?_ GE276.out|refine zd ?_ GE277.out))));replace BK276:=zh (cD BK276.out (by (with_reducible repeat first|apply ze|apply zf|apply zg);exact BK276.out) hb);replace BK277:=zh (cD BK277.out (by (with_reducible repeat first|apply ze|apply zf|apply zg);exact BK277.out) hb);replace HB:=zh (zC (by repeat (with_reducible first|exact HB.out|apply za|apply zb|apply zc|refine zd ?_ GE276.out|refine zd ?_ GE277.out)) hb);clear hb ho6));try go_wp2_with (first|((with_reducible refine zK (N:=1) rfl ?_);refine zI ?hg (N:=1) ?hd (cs:=#[.int .i64 a0_0,.int .i64 a0_1,.string a0_2]) (t:=27) ?hr ?_;(case hd|hg => rfl);(case hr => go_simp <;> rfl);intro gb276 hg w2 hbox hb;have BK276:=zh (hbox);have hH_:=cH (by repeat (with_reducible first|exact HB.out|apply za|apply zb|apply zc)) hb hg;have GW276:=zh hH_.1;have GE276:=GW276;replace HB:=zh hH_.2;clear hb hbox hg hH_;obtain ⟨hcz3_0,hcz3_1,hcz3_2,hfz3_0,hfz3_1,hfz3_2⟩:=cB3 BK276.out)|((with_reducible refine zK (N:=9) rfl ?_);refine zI ?hg (N:=9) ?hd (cs:=#[.string a0_2,.bool false]) (t:=95) ?hr ?_;(case hd|hg => rfl);(case hr => go_simp <;> rfl);intro gb277 hg w4 hbox hb;have BK277:=zh (hbox);have hH_:=cH (by repeat (with_reducible first|exact HB.out|apply za|apply zb|apply zc|refine zd ?_ GE276.out)) hb hg;have GW277:=zh hH_.1;have GE277:=GW277;replace HB:=zh hH_.2;have NB276_277:=zh ((by rw [hg];exact yc (yi (g:=gb276) (o:=.cells #[.int .i64 a0_0,.int .i64 a0_1,.string a0_2] 27 (0,0)) (by (with_reducible repeat first|apply ze|apply zf|apply zg);exact BK276.out)) : gb276≠gb277));have NB277_276:=zh NB276_277.out.symm;replace BK276:=zh (cD BK276.out (by (with_reducible repeat first|apply ze|apply zf|apply zg);exact BK276.out) hb);clear hb hbox hg hH_)|((with_reducible refine zK (N:=10) rfl ?_);refine Kd.R_lit k27 _ 27 ?hg (N:=10) ?hd (xs:=([] : List (S27))) (inner:=[]) (ok:=fun _ => True) (okp:=fun _ => True) ?hr ?hp (fun _ hk => hk) trivial (Below.refl _ _) (ye _) (by simp) ?_;(case hd|hg => rfl);(case hr => go_simp <;> rfl);(case hp => exact (Reps.none _ _));intro v279 w5 ho6 hb hg_ hnew_;clear hg_ hnew_;(first|rw [← Ny278.out] at ho6|(simp only [Int.reduceToNat] at ho6;rw [← Ny278.out] at ho6));have HO280:=zh (yy (Kd.R_newB ho6 (g:=gb276) (o:=.cells #[.int .i64 a0_0,.int .i64 a0_1,.string a0_2] 27 (0,0)) (by (with_reducible repeat first|apply ze|apply zf|apply zg);exact BK276.out)) (zB (by repeat (with_reducible first|exact HB.out|apply za|apply zb|apply zc|refine zd ?_ GE276.out|refine zd ?_ GE277.out))));replace BK276:=zh (cD BK276.out (by (with_reducible repeat first|apply ze|apply zf|apply zg);exact BK276.out) hb);replace BK277:=zh (cD BK277.out (by (with_reducible repeat first|apply ze|apply zf|apply zg);exact BK277.out) hb);replace HB:=zh (zC (by repeat (with_reducible first|exact HB.out|apply za|apply zb|apply zc|refine zd ?_ GE276.out|refine zd ?_ GE277.out)) hb);clear hb ho6)))
 go_loopg [5] k (fun kq v5 w' => ∃ (x5_1 : List (S27)) (x278000_1 : ByteArray) (x278001_1 : Bool),Aside0 (Fi.l0 kq x5_1 x278000_1 x278001_1=some (r1,r2))∧Aside0 (kq≤k)∧Aside0 (Kd.R k27 27 w' w.heap.size (fun k_ => k_≠gb276) v5 x5_1)∧Aside0 (w'.heap[gb276]? = some (.cells #[.int .i64 a0_0,.int .i64 a0_1,.string a0_2] 27 (0,0)))∧Aside0 (w'.heap[gb277]? = some (.cells #[.string x278000_1,.bool x278001_1] 95 (0,0)))∧Aside0 (Below w.heap.size w w'))
 case atStart => exact ⟨(y278),(a0_2),(false),H',⟨ye _⟩,⟨by (with_reducible repeat (first|apply zm|apply zn|apply zo));exact zM HO280.out (fun _ hk => hk.2)⟩,⟨by (with_reducible repeat first|apply ze|apply zf|apply zg);exact BK276.out⟩,⟨by (with_reducible repeat first|apply ze|apply zf|apply zg);exact BK277.out⟩,⟨by repeat (with_reducible first|exact HB.out|apply za|apply zb|apply zc|refine zd ?_ GE276.out|refine zd ?_ GE277.out)⟩⟩
 case round =>
  clear H'
  try clear p2
  try clear hcz3_0 hcz3_1 hcz3_2 hfz3_0 hfz3_1 hfz3_2
  obtain ⟨x5_1,x278000_1,x278001_1,HA,HK1,HO_5,BK276,BK277,HB⟩:=hrel
  cases gk with
  | zero => exact absurd HA.out (by simp [Fi.l0])
  | succ k1 =>
   have H:=HA.out;clear HA;simp only [Fi.l0] at H
   by_cases c7 : x278000_1.toList=([] : List UInt8)
   ·
    rw [if_pos c7] at H
    have c7b0 : (x278000_1.toList == ([] : List UInt8))=true:=ya.mpr c7;have c7b1 : (x278000_1.toList != ([] : List UInt8))=false:=zX.mpr c7;clear c7;simp only [Option.some.injEq,Prod.mk.injEq] at H;obtain ⟨rfl,rfl⟩:=H;have hnb8:=NB277_276.out;have hnc8:=NB276_277.out;obtain ⟨hcz9_0,hcz9_1,hfz9_0,hfz9_1⟩:=cB2 BK277.out
    go_wp2
    repeat (go_quiet (fail);try go_wp2)
    go_ret2
    exact ⟨_,by first|rfl|(simp [yt,yu] <;> rfl)|(simp [*,yt,yu] <;> rfl),by (with_reducible repeat (first|apply zm|apply zn|apply zo));exact zM HO_5.out (fun _ hk => trivial),by repeat (with_reducible first|exact HB.out|apply za|apply zb|apply zc|refine zd ?_ GE276.out|refine zd ?_ GE277.out)⟩
   rw [if_neg c7] at H;have c7b0 : (x278000_1.toList == ([] : List UInt8))=false:=zY.mpr c7;have c7b1 : (x278000_1.toList != ([] : List UInt8))=true:=zZ.mpr c7
   by_cases c10 : x278001_1=true
   ·
    subst c10
    have H1 : (some (x5_1,!true))=some (r1,r2):=by rw [if_pos rfl] at H;exact H
    clear H;have H:=H1;clear H1;simp only [Option.some.injEq,Prod.mk.injEq] at H;obtain ⟨rfl,rfl⟩:=H;have hnb11:=NB277_276.out;have hnc11:=NB276_277.out;obtain ⟨hcz12_0,hcz12_1,hfz12_0,hfz12_1⟩:=cB2 BK277.out
    go_wp2
    repeat (go_quiet (fail);try go_wp2)
    go_ret2
    exact ⟨_,by first|rfl|(simp [yt,yu] <;> rfl)|(simp [*,yt,yu] <;> rfl),by (with_reducible repeat (first|apply zm|apply zn|apply zo));exact zM HO_5.out (fun _ hk => trivial),by repeat (with_reducible first|exact HB.out|apply za|apply zb|apply zc|refine zd ?_ GE276.out|refine zd ?_ GE277.out)⟩
   replace c10:=yb.mpr c10;subst c10;have H1 : ((Fd.f k1 x278000_1 false).bind fun bt281 => (if x5_1.length<4398046511104 then (Fi.l0 k1 (x5_1 ++ [(⟨bt281.1,bt281.2.1,bt281.2.2.1⟩ : S27)]) bt281.2.2.2.1 bt281.2.2.2.2) else (none)))=some (r1,r2):=by rw [if_neg (show ¬ (false=true) by decide)] at H;exact H
   clear H;have H:=H1;clear H1;replace H:=zT.mp H;obtain ⟨⟨t281,t282,t283,t284,t285⟩,A130,H⟩:=H;replace H : (if x5_1.length<4398046511104 then (Fi.l0 k1 (x5_1 ++ [(⟨t281,t282,t283⟩ : S27)]) t284 t285) else (none))=some (r1,r2):=H;have A13:=zh A130;clear A130
   by_cases c14 : x5_1.length<4398046511104
   ·
    rw [if_pos c14] at H
    have LMc14:=zh c14;clear c14;obtain ⟨y286,hy286⟩ : ∃ y_ : List (S27),y_=(x5_1 ++ [(⟨t281,t282,t283⟩ : S27)]):=⟨_,rfl⟩;replace H : (Fi.l0 k1 y286 t284 t285)=some (r1,r2):=by first|(rw [hy286];with_reducible exact H)|(have H2_:=(Option.bind_some _ _).symm.trans H;rw [hy286];with_reducible exact H2_)|(have H2_:=(Option.bind_some _ _).symm.trans H;with_reducible exact H2_)|with_reducible exact H|(rw [hy286];exact H)|exact H
    have Ny286:=zh hy286;clear hy286;have H':=zh H;clear H;have hnb15:=NB277_276.out;have hnc15:=NB276_277.out;obtain ⟨hcz16_0,hcz16_1,hfz16_0,hfz16_1⟩:=cB2 BK277.out;have HI277:=zh (show IsS95 w wr gb277 x278000_1 false from ⟨BK277.out,GE277.out⟩)
    go_wp2_with (first|(go_at_call 80;(with_reducible refine (Fd.calls k1  gb277 x278000_1 false t281 t282 t283 t284 t285 w _ ?side1 ?side2 A13.out).mono ?_);(case side1 => repeat (with_reducible first|exact HI277.out|apply IsS95.alloc|apply IsS95.drewN|apply IsS95.drew|apply IsS95.set_0|apply IsS95.set_1|refine IsS95.far ?_ NB277_276.out _));(case side2 => repeat (with_reducible first|exact HB.out|apply za|apply zb|apply zc|refine zd ?_ (IsS95.ge HI277.out)|refine zd ?_ GE276.out));rintro e w17 ⟨rfl,hi,hb,hk⟩;replace HO_5:=zh (zM (Kd.R_keep (IsS95.apart (show IsS95 w _ gb277 x278000_1 false from by repeat (with_reducible first|exact HI277.out|apply IsS95.alloc|apply IsS95.drewN|apply IsS95.drew|apply IsS95.set_0|apply IsS95.set_1|refine IsS95.far ?_ NB277_276.out _)) (by (with_reducible repeat (first|apply zm|apply zn|apply zo));exact HO_5.out) (by decide)) hk (fun _ h => h.2)) (fun _ h => h.1));replace BK276:=zh (KeepBut.blk hk (g':=gb276) (o:=.cells #[.int .i64 a0_0,.int .i64 a0_1,.string a0_2] 27 (0,0)) (by (with_reducible repeat first|apply ze|apply zf|apply zg);exact BK276.out) NB276_277.out (by simp));replace HB:=zh (hb);replace BK277:=zh ((show _∧_ from hi).1);clear HI277;(try clear hb);(try clear hb2);(try clear hk);(try clear hi))|((with_reducible refine yB (b:=.append) (xs:=#[.tmp 23,.tmp 26]) rfl ?_);at_builtin;refine Kd.R_append k27 (w0:=w) w.heap.size rfl (.tmp 23) (.tmp 26) 82 27 (.agg #[(.int .i64 0),(.int .i64 0),(.string ⟨#[]⟩)]) 32 rfl Try.underlying82 info27 rfl (by decide) (by omega) u5 x5_1 (⟨t281,t282,t283⟩ : S27) [.int .i64 t281,.int .i64 t282,.string t283] (fun k_ => k_≠gb276) (fun _ => False) rfl rfl ?aP (fun _ hk => hk.elim) ?aF ?aO ?aB ?aS ?aL ?_;(case aP => exact k27_mkM _ _ _ (⟨t281,t282,t283⟩ : S27));(case aB => exact (by repeat (with_reducible first|exact HB.out|apply za|apply zb|apply zc|refine zd ?_ GE276.out|refine zd ?_ GE277.out)));(case aF => exact (fun k_ hk => Kd.freshB (g:=gb276) (o:=.cells #[.int .i64 a0_0,.int .i64 a0_1,.string a0_2] 27 (0,0)) (by (with_reducible repeat first|apply ze|apply zf|apply zg);exact BK276.out) k_ hk));(case aO => exact (by (with_reducible repeat (first|apply zm|apply zn|apply zo));exact HO_5.out));(case aS => exact (zB (by repeat (with_reducible first|exact HB.out|apply za|apply zb|apply zc|refine zd ?_ GE276.out|refine zd ?_ GE277.out))));(case aL => have:=LMc14.out;omega);intro v287 w18 ho hb hg hat;rw [← Ny286.out] at ho;replace BK276:=zh (yw (g:=gb276) (o:=.cells #[.int .i64 a0_0,.int .i64 a0_1,.string a0_2] 27 (0,0)) (by (with_reducible repeat first|apply ze|apply zf|apply zg);exact BK276.out) hg (yv HO_5.out (fun _ hk => hk)));replace BK277:=zh (yw (g:=gb277) (o:=.cells #[.string t284,.bool t285] 95 (0,0)) (by (with_reducible repeat first|apply ze|apply zf|apply zg);exact BK277.out) hg (Kd.R_ne HO_5.out BK277.out (by decide)));replace HB:=zh (hb);have HO288:=zh (ho);clear HO_5 ho hb hg hat))
    repeat (go_quiet (first|(go_at_call 80;(with_reducible refine (Fd.calls k1  gb277 x278000_1 false t281 t282 t283 t284 t285 w _ ?side1 ?side2 A13.out).mono ?_);(case side1 => repeat (with_reducible first|exact HI277.out|apply IsS95.alloc|apply IsS95.drewN|apply IsS95.drew|apply IsS95.set_0|apply IsS95.set_1|refine IsS95.far ?_ NB277_276.out _));(case side2 => repeat (with_reducible first|exact HB.out|apply za|apply zb|apply zc|refine zd ?_ (IsS95.ge HI277.out)|refine zd ?_ GE276.out));rintro e w17 ⟨rfl,hi,hb,hk⟩;replace HO_5:=zh (zM (Kd.R_keep (IsS95.apart (show IsS95 w _ gb277 x278000_1 false from by repeat (with_reducible first|exact HI277.out|apply IsS95.alloc|apply IsS95.drewN|apply IsS95.drew|apply IsS95.set_0|apply IsS95.set_1|refine IsS95.far ?_ NB277_276.out _)) (by (with_reducible repeat (first|apply zm|apply zn|apply zo));exact HO_5.out) (by decide)) hk (fun _ h => h.2)) (fun _ h => h.1));replace BK276:=zh (KeepBut.blk hk (g':=gb276) (o:=.cells #[.int .i64 a0_0,.int .i64 a0_1,.string a0_2] 27 (0,0)) (by (with_reducible repeat first|apply ze|apply zf|apply zg);exact BK276.out) NB276_277.out (by simp));replace HB:=zh (hb);replace BK277:=zh ((show _∧_ from hi).1);clear HI277;(try clear hb);(try clear hb2);(try clear hk);(try clear hi))|((with_reducible refine yB (b:=.append) (xs:=#[.tmp 23,.tmp 26]) rfl ?_);at_builtin;refine Kd.R_append k27 (w0:=w) w.heap.size rfl (.tmp 23) (.tmp 26) 82 27 (.agg #[(.int .i64 0),(.int .i64 0),(.string ⟨#[]⟩)]) 32 rfl Try.underlying82 info27 rfl (by decide) (by omega) u5 x5_1 (⟨t281,t282,t283⟩ : S27) [.int .i64 t281,.int .i64 t282,.string t283] (fun k_ => k_≠gb276) (fun _ => False) rfl rfl ?aP (fun _ hk => hk.elim) ?aF ?aO ?aB ?aS ?aL ?_;(case aP => exact k27_mkM _ _ _ (⟨t281,t282,t283⟩ : S27));(case aB => exact (by repeat (with_reducible first|exact HB.out|apply za|apply zb|apply zc|refine zd ?_ GE276.out|refine zd ?_ GE277.out)));(case aF => exact (fun k_ hk => Kd.freshB (g:=gb276) (o:=.cells #[.int .i64 a0_0,.int .i64 a0_1,.string a0_2] 27 (0,0)) (by (with_reducible repeat first|apply ze|apply zf|apply zg);exact BK276.out) k_ hk));(case aO => exact (by (with_reducible repeat (first|apply zm|apply zn|apply zo));exact HO_5.out));(case aS => exact (zB (by repeat (with_reducible first|exact HB.out|apply za|apply zb|apply zc|refine zd ?_ GE276.out|refine zd ?_ GE277.out))));(case aL => have:=LMc14.out;omega);intro v287 w18 ho hb hg hat;rw [← Ny286.out] at ho;replace BK276:=zh (yw (g:=gb276) (o:=.cells #[.int .i64 a0_0,.int .i64 a0_1,.string a0_2] 27 (0,0)) (by (with_reducible repeat first|apply ze|apply zf|apply zg);exact BK276.out) hg (yv HO_5.out (fun _ hk => hk)));replace BK277:=zh (yw (g:=gb277) (o:=.cells #[.string t284,.bool t285] 95 (0,0)) (by (with_reducible repeat first|apply ze|apply zf|apply zg);exact BK277.out) hg (Kd.R_ne HO_5.out BK277.out (by decide)));replace HB:=zh (hb);have HO288:=zh (ho);clear HO_5 ho hb hg hat));try go_wp2_with (first|(go_at_call 80;(with_reducible refine (Fd.calls k1  gb277 x278000_1 false t281 t282 t283 t284 t285 w _ ?side1 ?side2 A13.out).mono ?_);(case side1 => repeat (with_reducible first|exact HI277.out|apply IsS95.alloc|apply IsS95.drewN|apply IsS95.drew|apply IsS95.set_0|apply IsS95.set_1|refine IsS95.far ?_ NB277_276.out _));(case side2 => repeat (with_reducible first|exact HB.out|apply za|apply zb|apply zc|refine zd ?_ (IsS95.ge HI277.out)|refine zd ?_ GE276.out));rintro e w17 ⟨rfl,hi,hb,hk⟩;replace HO_5:=zh (zM (Kd.R_keep (IsS95.apart (show IsS95 w _ gb277 x278000_1 false from by repeat (with_reducible first|exact HI277.out|apply IsS95.alloc|apply IsS95.drewN|apply IsS95.drew|apply IsS95.set_0|apply IsS95.set_1|refine IsS95.far ?_ NB277_276.out _)) (by (with_reducible repeat (first|apply zm|apply zn|apply zo));exact HO_5.out) (by decide)) hk (fun _ h => h.2)) (fun _ h => h.1));replace BK276:=zh (KeepBut.blk hk (g':=gb276) (o:=.cells #[.int .i64 a0_0,.int .i64 a0_1,.string a0_2] 27 (0,0)) (by (with_reducible repeat first|apply ze|apply zf|apply zg);exact BK276.out) NB276_277.out (by simp));replace HB:=zh (hb);replace BK277:=zh ((show _∧_ from hi).1);clear HI277;(try clear hb);(try clear hb2);(try clear hk);(try clear hi))|((with_reducible refine yB (b:=.append) (xs:=#[.tmp 23,.tmp 26]) rfl ?_);at_builtin;refine Kd.R_append k27 (w0:=w) w.heap.size rfl (.tmp 23) (.tmp 26) 82 27 (.agg #[(.int .i64 0),(.int .i64 0),(.string ⟨#[]⟩)]) 32 rfl Try.underlying82 info27 rfl (by decide) (by omega) u5 x5_1 (⟨t281,t282,t283⟩ : S27) [.int .i64 t281,.int .i64 t282,.string t283] (fun k_ => k_≠gb276) (fun _ => False) rfl rfl ?aP (fun _ hk => hk.elim) ?aF ?aO ?aB ?aS ?aL ?_;(case aP => exact k27_mkM _ _ _ (⟨t281,t282,t283⟩ : S27));(case aB => exact (by repeat (with_reducible first|exact HB.out|apply za|apply zb|apply zc|refine zd ?_ GE276.out|refine zd ?_ GE277.out)));(case aF => exact (fun k_ hk => Kd.freshB (g:=gb276) (o:=.cells #[.int .i64 a0_0,.int .i64 a0_1,.string a0_2] 27 (0,0)) (by (with_reducible repeat first|apply ze|apply zf|apply zg);exact BK276.out) k_ hk));(case aO => exact (by (with_reducible repeat (first|apply zm|apply zn|apply zo));exact HO_5.out));(case aS => exact (zB (by repeat (with_reducible first|exact HB.out|apply za|apply zb|apply zc|refine zd ?_ GE276.out|refine zd ?_ GE277.out))));(case aL => have:=LMc14.out;omega);intro v287 w18 ho hb hg hat;rw [← Ny286.out] at ho;replace BK276:=zh (yw (g:=gb276) (o:=.cells #[.int .i64 a0_0,.int .i64 a0_1,.string a0_2] 27 (0,0)) (by (with_reducible repeat first|apply ze|apply zf|apply zg);exact BK276.out) hg (yv HO_5.out (fun _ hk => hk)));replace BK277:=zh (yw (g:=gb277) (o:=.cells #[.string t284,.bool t285] 95 (0,0)) (by (with_reducible repeat first|apply ze|apply zf|apply zg);exact BK277.out) hg (Kd.R_ne HO_5.out BK277.out (by decide)));replace HB:=zh (hb);have HO288:=zh (ho);clear HO_5 ho hb hg hat)))
    go_roundg k1
    case measure => have:=HK1.out;omega
    case rel => exact ⟨(y286),(t284),(t285),H',⟨by have:=HK1.out;omega⟩,⟨by (with_reducible repeat (first|apply zm|apply zn|apply zo));exact HO288.out⟩,⟨by (with_reducible repeat first|apply ze|apply zf|apply zg);exact BK276.out⟩,⟨by (with_reducible repeat first|apply ze|apply zf|apply zg);exact BK277.out⟩,⟨by repeat (with_reducible first|exact HB.out|apply za|apply zb|apply zc|refine zd ?_ GE276.out|refine zd ?_ GE277.out)⟩⟩
   rw [if_neg c14] at H;exact absurd H (by simp)

end Go.Proofs.Ytaoihmompioncaa.Q
end

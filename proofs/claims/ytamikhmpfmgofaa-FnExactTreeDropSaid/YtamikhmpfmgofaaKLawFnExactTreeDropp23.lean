/- Texts of this claim, merged by a program of this session. -/
import Derived.Test.YtamikhmpfmgofaaKLawFnExactTreeDropp22
section
namespace Go.Proofs.Ytamikhmpfmgofaa.Q
open Go.RowKit Go.Proofs.YtamikhmpfmgofaaW.PrintWords Go.Proofs.YtamikhmpfmgofaaW.PrintLast Go.Proofs.YtamikhmpfmgofaaW.PrintMore
attribute [local go_sem] max2_int min2_int max_two min_two max_three min_three max_four min_four max2_str min2_str str_geq str_gtr str_leq
set_option linter.unusedVariables false
set_option linter.unusedSimpArgs false

def Fr.l0 : Nat→List (S67)→Int→Int→Option (Int)
 | 0,_,_,_=>none
 | k+1,x0,x1,x5=>if x5<(x0.length : Int) then (if 0≤x5 then (if ((rd_T67 x0 x5).f0)=x1 then ((Fd.f k ((rd_T67 x0 x5).f1) (wrap64 (x1+1))).bind fun t489=>(if t489<0 then (some (-1)) else (Fr.l0 k x0 t489 (wrap64 (x5+1))))) else (some (-1))) else (none)) else (some x1)
def Fr.f (k : Nat) (l0 : List (S67)) (a1 : Int) : Option (Int):=Fr.l0 k l0 a1 0
theorem Fr.mono_l : ∀ k,(∀ y0 y1 y2,LeO (Fr.l0 k y0 y1 y2) (Fr.l0 (k+1) y0 y1 y2))
 | 0=>fun _ _ _ r h=>by simp [Fr.l0] at h
 | k+1=>by
  have ih0:=Fr.mono_l k;intro y0 y1 y2;unfold Fr.l0
  repeat' first|(with_reducible first|exact ih0 _ _ _|exact Fd.mono _ _ _|exact zQ _|exact zN _|refine zP ?_ ?_|refine zO ?_ (fun _=>?_))|refine zP ?_ ?_|refine zO ?_ (fun _=>?_)
theorem Fr.mono : ∀ a0 a1 k,LeO (Fr.f k a0 a1) (Fr.f (k+1) a0 a1):=by
 intro a0 a1 k;have ih0:=Fr.mono_l k;unfold Fr.f
 repeat' first|(with_reducible first|exact ih0 _ _ _|exact Fd.mono _ _ _|exact zQ _|exact zN _|refine zP ?_ ?_|refine zO ?_ (fun _=>?_))|refine zP ?_ ?_|refine zO ?_ (fun _=>?_)
set_option maxHeartbeats 8000000 in
set_option maxRecDepth 100000 in
theorem Fr.calls (k : Nat) (A0 : Option Addr) (c0 : Nat) (l0 : List (S67)) (a1 : Int) (r : Int) (w : World) (hr0 : Kd.C k67 w A0 l0.length l0) (hc0 : l0.length≤c0) (h : Fr.f k l0 a1=some r) :
  Calls Try.prog 47 #[.slice A0 l0.length c0,.int .i64 a1] w fun e w' => e = .returned (.int .i64 r)∧Below w.heap.size w w':=by
 have HR0:=zh hr0;have HC0:=zh hc0;clear hr0 hc0;have HB:=zh (Below.refl w.heap.size w);have H : (Fr.l0 k l0 a1 0)=some r:=h;clear h;have H':=zh H;clear H
 go_enter Try.func47,Try.ntmps47
 go_wp2
 go_loopg [1,5] k (fun kq v1 v5 w' => ∃ (x1_1 : Int) (x5_1 : Int),v1 = .int .i64 x1_1∧v5 = .int .i64 x5_1∧Aside0 (Fr.l0 kq l0 x1_1 x5_1=some r)∧Aside0 (kq≤k)∧Aside0 (Below w.heap.size w w'))
 case atStart=>exact ⟨(a1),(0),jD,jD,H',⟨ye _⟩,⟨jE⟩⟩
 case round =>
  clear H'
  try clear p2
  obtain ⟨x1_1,x5_1,rfl,rfl,HA,HK1,HB⟩:=hrel
  cases gk with
  | zero=>exact absurd HA.out (by simp [Fr.l0])
  | succ k1 =>
   have H:=HA.out;clear HA;simp only [Fr.l0] at H
   by_cases c3 : x5_1<(l0.length : Int)
   ·
    rw [if_pos c3] at H
    have c3b0 : decide (x5_1<(l0.length : Int))=true:=decide_eq_true c3;clear c3
    by_cases c4 : 0≤x5_1
    ·
     rw [if_pos c4] at H
     have c4b0 : decide (0≤x5_1)=true:=decide_eq_true c4;clear c4
     by_cases c5 : ((rd_T67 l0 x5_1).f0)=x1_1
     ·
      rw [if_pos c5] at H
      have c5b0 : (((rd_T67 l0 x5_1).f0) == x1_1)=true:=ya.mpr c5;have c5b1 : (((rd_T67 l0 x5_1).f0) != x1_1)=false:=zX.mpr c5;clear c5;replace H:=zT.mp H;obtain ⟨t489,A60,H⟩:=H;have A6:=zh A60;clear A60
      by_cases c7 : t489<0
      ·
       rw [if_pos c7] at H
       have c7b0 : decide (t489<0)=true:=decide_eq_true c7;clear c7;obtain rfl:=zU H;have p487 : 0≤(x5_1 : Int):=zy jB;have q487 : x5_1<(l0.length : Int):=zy jB;obtain ⟨ad487,A487_1,c487_1,e487,hx487_0,hx487_1,hl487_1,hi487_1⟩:=at_T67 HR0.out x5_1 p487 q487
       cases e487
       replace hx487_0:=(HB.out.cell (zl w _ hx487_0)).trans hx487_0;replace hx487_1:=(HB.out.cell (zl w _ hx487_1)).trans hx487_1;have HR487_1:=zh hi487_1;have HC487_1:=zh hl487_1;clear hi487_1 hl487_1;replace p487:=eq_true p487;replace q487:=eq_true q487;have p488 : 0≤(x5_1 : Int):=zy jB;have q488 : x5_1<(l0.length : Int):=zy jB;obtain ⟨ad488,A488_1,c488_1,e488,hx488_0,hx488_1,hl488_1,hi488_1⟩:=at_T67 HR0.out x5_1 p488 q488;obtain rfl : ad487=ad488:=(by injection e488);replace hx488_0:=(HB.out.cell (zl w _ hx488_0)).trans hx488_0;replace hx488_1:=(HB.out.cell (zl w _ hx488_1)).trans hx488_1;have HR488_1:=zh hi488_1;have HC488_1:=zh hl488_1;clear hi488_1 hl488_1;replace p488:=eq_true p488;replace q488:=eq_true q488;have ea_:=zU (hx487_1.symm.trans hx488_1);injection ea_ with ea_ en_ ec_;subst ea_;subst ec_;clear en_
       go_wp2_with (first|((with_reducible refine zJ (f:=18) rfl ?_);refine yj (some 27) rfl rfl Try.func18 jA rfl #[.slice A487_1 ((rd_T67 l0 x5_1).f1).length c487_1,.int .i64 (wrap64 (x1_1+1))] rfl jF ?_;(with_reducible refine (Fd.calls k1  _ _ ((rd_T67 l0 x5_1).f1) (wrap64 (x1_1+1)) t489 _ ?side1 ?side2 A6.out).mono ?_);(case side1=>repeat (first|exact (Kd.C_below HR488_1.out HB.out)|(with_reducible refine Kd.C_alloc ?_ _)|(with_reducible refine Kd.C_drewN ?_ _)|(with_reducible refine Kd.C_drew ?_)));(case side2=>exact HC488_1.out);rintro e w8 ⟨rfl,hb⟩;refine ⟨_,rfl,?_⟩;replace HB:=zh (zC jE hb);(try clear hb);(try clear hb2);(try clear hk);(try clear hi)))
       go_ret
       exact ⟨jG,jE⟩
      rw [if_neg c7] at H;have c7b0 : decide (t489<0)=false:=decide_eq_false c7;clear c7;have H':=zh H;clear H;have p487 : 0≤(x5_1 : Int):=zy jB;have q487 : x5_1<(l0.length : Int):=zy jB;obtain ⟨ad487,A487_1,c487_1,e487,hx487_0,hx487_1,hl487_1,hi487_1⟩:=at_T67 HR0.out x5_1 p487 q487
      cases e487
      replace hx487_0:=(HB.out.cell (zl w _ hx487_0)).trans hx487_0;replace hx487_1:=(HB.out.cell (zl w _ hx487_1)).trans hx487_1;have HR487_1:=zh hi487_1;have HC487_1:=zh hl487_1;clear hi487_1 hl487_1;replace p487:=eq_true p487;replace q487:=eq_true q487;have p488 : 0≤(x5_1 : Int):=zy jB;have q488 : x5_1<(l0.length : Int):=zy jB;obtain ⟨ad488,A488_1,c488_1,e488,hx488_0,hx488_1,hl488_1,hi488_1⟩:=at_T67 HR0.out x5_1 p488 q488;obtain rfl : ad487=ad488:=(by injection e488);replace hx488_0:=(HB.out.cell (zl w _ hx488_0)).trans hx488_0;replace hx488_1:=(HB.out.cell (zl w _ hx488_1)).trans hx488_1;have HR488_1:=zh hi488_1;have HC488_1:=zh hl488_1;clear hi488_1 hl488_1;replace p488:=eq_true p488;replace q488:=eq_true q488;have ea_:=zU (hx487_1.symm.trans hx488_1);injection ea_ with ea_ en_ ec_;subst ea_;subst ec_;clear en_
      go_wp2_with (first|((with_reducible refine zJ (f:=18) rfl ?_);refine yj (some 27) rfl rfl Try.func18 jA rfl #[.slice A487_1 ((rd_T67 l0 x5_1).f1).length c487_1,.int .i64 (wrap64 (x1_1+1))] rfl jF ?_;(with_reducible refine (Fd.calls k1  _ _ ((rd_T67 l0 x5_1).f1) (wrap64 (x1_1+1)) t489 _ ?side1 ?side2 A6.out).mono ?_);(case side1=>repeat (first|exact (Kd.C_below HR488_1.out HB.out)|(with_reducible refine Kd.C_alloc ?_ _)|(with_reducible refine Kd.C_drewN ?_ _)|(with_reducible refine Kd.C_drew ?_)));(case side2=>exact HC488_1.out);rintro e w9 ⟨rfl,hb⟩;refine ⟨_,rfl,?_⟩;replace HB:=zh (zC jE hb);(try clear hb);(try clear hb2);(try clear hk);(try clear hi)))
      go_roundg k1
      case measure=>have:=HK1.out;omega
      case rel=>exact ⟨(t489),(wrap64 (x5_1+1)),jD,jD,H',⟨jK⟩,⟨jE⟩⟩
     rw [if_neg c5] at H;have c5b0 : (((rd_T67 l0 x5_1).f0) == x1_1)=false:=zY.mpr c5;have c5b1 : (((rd_T67 l0 x5_1).f0) != x1_1)=true:=zZ.mpr c5;obtain rfl:=zU H;have p487 : 0≤(x5_1 : Int):=zy jB;have q487 : x5_1<(l0.length : Int):=zy jB;obtain ⟨ad487,A487_1,c487_1,e487,hx487_0,hx487_1,hl487_1,hi487_1⟩:=at_T67 HR0.out x5_1 p487 q487
     cases e487
     replace hx487_0:=(HB.out.cell (zl w _ hx487_0)).trans hx487_0;replace hx487_1:=(HB.out.cell (zl w _ hx487_1)).trans hx487_1;have HR487_1:=zh hi487_1;have HC487_1:=zh hl487_1;clear hi487_1 hl487_1;replace p487:=eq_true p487;replace q487:=eq_true q487
     go_wp2
     go_ret
     exact ⟨jG,jE⟩
    rw [if_neg c4] at H;exact absurd H (by simp)
   rw [if_neg c3] at H;have c3b0 : decide (x5_1<(l0.length : Int))=false:=decide_eq_false c3;clear c3;obtain rfl:=zU H
   go_wp2
   go_ret
   exact ⟨jG,jE⟩


def F0c.f (k : Nat) (l0_0 : List (S67)) (a0_1 : Int) (a1 : Int) : Option (Int):=(Fr.f k l0_0 a1).bind fun t491=>(if t491<0 then (some (-1)) else (some t491))
theorem F0c.mono : ∀ a0 a1 a2 k,LeO (F0c.f k a0 a1 a2) (F0c.f (k+1) a0 a1 a2):=by
 intro a0 a1 a2 k;unfold F0c.f
 repeat' first|(with_reducible first|exact Fr.mono _ _ _|exact zQ _|exact zN _|refine zP ?_ ?_|refine zO ?_ (fun _=>?_))|refine zP ?_ ?_|refine zO ?_ (fun _=>?_)
set_option maxHeartbeats 8000000 in
set_option maxRecDepth 100000 in
theorem F0c.calls (k : Nat) (A0_0 : Option Addr) (c0_0 : Nat) (l0_0 : List (S67)) (a0_1 : Int) (a1 : Int) (r : Int) (w : World) (hr0_0 : Kd.C k67 w A0_0 l0_0.length l0_0) (hc0_0 : l0_0.length≤c0_0) (h : F0c.f k l0_0 a0_1 a1=some r) :
  Calls Try.prog 24 #[.agg #[.slice A0_0 l0_0.length c0_0,.int .i64 a0_1],.int .i64 a1] w fun e w' => e = .returned (.int .i64 r)∧Below w.heap.size w w':=by
 have hu35:=Try.underlying35;have HR0_0:=zh hr0_0;have HC0_0:=zh hc0_0;clear hr0_0 hc0_0;have HB:=zh (Below.refl w.heap.size w);have H : ((Fr.f k l0_0 a1).bind fun t491=>(if t491<0 then (some (-1)) else (some t491)))=some r:=h;clear h;replace H:=zT.mp H;obtain ⟨t491,A30,H⟩:=H;have A3:=zh A30;clear A30
 by_cases c4 : t491<0
 ·
  rw [if_pos c4] at H
  have c4b0 : decide (t491<0)=true:=decide_eq_true c4;clear c4;obtain rfl:=zU H
  go_enter Try.func24,Try.ntmps24
  go_wp2_with (first|((with_reducible refine zK (N:=2) rfl ?_);refine zI ?hg (N:=2) ?hd (cs:=#[.slice A0_0 l0_0.length c0_0,.int .i64 a0_1]) (t:=35) ?hr ?_;(case hd=>rfl);(case hg=>rfl);(case hr=>go_simp <;> rfl);intro gb490 hg w5 hbox hb;have BK490:=zh (hbox);have hH_:=cH jE hb hg;have GW490:=zh hH_.1;have GE490:=GW490;replace HB:=zh hH_.2;clear hb hbox hg hH_;obtain ⟨hcz6_0,hcz6_1,hfz6_0,hfz6_1⟩:=cB2 BK490.out)|((with_reducible refine zJ (f:=47) rfl ?_);refine yj (some 8) rfl rfl Try.func47 jA rfl #[.slice A0_0 l0_0.length c0_0,.int .i64 a1] rfl jF ?_;(with_reducible refine (Fr.calls k  _ _ l0_0 a1 t491 _ ?side1 ?side2 A3.out).mono ?_);(case side1=>repeat (first|exact (Kd.C_below HR0_0.out HB.out)|(with_reducible refine Kd.C_alloc ?_ _)|(with_reducible refine Kd.C_drewN ?_ _)|(with_reducible refine Kd.C_drew ?_)));(case side2=>exact HC0_0.out);rintro e w7 ⟨rfl,hb⟩;refine ⟨_,rfl,?_⟩;replace BK490:=zh (cD BK490.out jBI hb);replace HB:=zh (zC jAN hb);(try clear hb);(try clear hb2);(try clear hk);(try clear hi)))
  go_ret
  exact ⟨jG,jAN⟩
 rw [if_neg c4] at H;have c4b0 : decide (t491<0)=false:=decide_eq_false c4;clear c4;obtain rfl:=zU H
 go_enter Try.func24,Try.ntmps24
 go_wp2_with (first|((with_reducible refine zK (N:=2) rfl ?_);refine zI ?hg (N:=2) ?hd (cs:=#[.slice A0_0 l0_0.length c0_0,.int .i64 a0_1]) (t:=35) ?hr ?_;(case hd=>rfl);(case hg=>rfl);(case hr=>go_simp <;> rfl);intro gb490 hg w8 hbox hb;have BK490:=zh (hbox);have hH_:=cH jE hb hg;have GW490:=zh hH_.1;have GE490:=GW490;replace HB:=zh hH_.2;clear hb hbox hg hH_;obtain ⟨hcz9_0,hcz9_1,hfz9_0,hfz9_1⟩:=cB2 BK490.out)|((with_reducible refine zJ (f:=47) rfl ?_);refine yj (some 8) rfl rfl Try.func47 jA rfl #[.slice A0_0 l0_0.length c0_0,.int .i64 a1] rfl jF ?_;(with_reducible refine (Fr.calls k  _ _ l0_0 a1 t491 _ ?side1 ?side2 A3.out).mono ?_);(case side1=>repeat (first|exact (Kd.C_below HR0_0.out HB.out)|(with_reducible refine Kd.C_alloc ?_ _)|(with_reducible refine Kd.C_drewN ?_ _)|(with_reducible refine Kd.C_drew ?_)));(case side2=>exact HC0_0.out);rintro e w10 ⟨rfl,hb⟩;refine ⟨_,rfl,?_⟩;replace BK490:=zh (cD BK490.out jBI hb);replace HB:=zh (zC jAN hb);(try clear hb);(try clear hb2);(try clear hk);(try clear hi)))
 go_ret
 exact ⟨jG,jAN⟩


def F00.f (a0 : Int) (a1 : Int) (a2 : Int) : Option (Bool):=if a1≤a0 then (some (decide (a0≤a2))) else (some false)
set_option maxHeartbeats 8000000 in
set_option maxRecDepth 100000 in
theorem F00.calls (a0 : Int) (a1 : Int) (a2 : Int) (r : Bool) (w : World) (h : F00.f a0 a1 a2=some r) :
  Calls Try.prog 51 #[.int .i64 a0,.int .i64 a1,.int .i64 a2] w fun e w' => e = .returned (.bool r)∧Drawn0 w w':=by
 have H : (if a1≤a0 then (some (decide (a0≤a2))) else (some false))=some r:=h;clear h
 by_cases c4 : a1≤a0
 ·
  rw [if_pos c4] at H
  have c4b0 : decide (a1≤a0)=true:=decide_eq_true c4;clear c4;obtain rfl:=zU H
  go_enter Try.func51,Try.ntmps51
  go_wp2
  go_ret
  exact ⟨jD,jI⟩
 rw [if_neg c4] at H;have c4b0 : decide (a1≤a0)=false:=decide_eq_false c4;clear c4;obtain rfl:=zU H
 go_enter Try.func51,Try.ntmps51
 go_wp2
 go_ret
 exact ⟨jD,jI⟩


def F08.f (a0_0 : ByteArray) (a0_1 : Int) : Option (Bool):=if (a0_0.size : Int)≤2000 then ((F00.f a0_1 0 9999).bind fun t112=>(some t112)) else (some false)
set_option maxHeartbeats 8000000 in
set_option maxRecDepth 100000 in
theorem F08.calls (a0_0 : ByteArray) (a0_1 : Int) (r : Bool) (w : World) (h : F08.f a0_0 a0_1=some r) :
  Calls Try.prog 41 #[.agg #[.string a0_0,.int .i64 a0_1]] w fun e w' => e = .returned (.bool r)∧Below w.heap.size w w':=by
 have hu51:=Try.underlying51;have HB:=zh (Below.refl w.heap.size w);have H : (if (a0_0.size : Int)≤2000 then ((F00.f a0_1 0 9999).bind fun t112=>(some t112)) else (some false))=some r:=h;clear h
 by_cases c2 : (a0_0.size : Int)≤2000
 ·
  rw [if_pos c2] at H
  have c2b0 : decide ((a0_0.size : Int)≤2000)=true:=decide_eq_true c2;have c2b1 : decide (a0_0.size≤2000)=true:=decide_eq_true jH;clear c2;replace H:=zT.mp H;obtain ⟨t112,A30,H⟩:=H;have A3:=zh A30;clear A30;obtain rfl:=zU H
  go_enter Try.func41,Try.ntmps41
  go_wp2_with (first|((with_reducible refine zK (N:=1) rfl ?_);refine zI ?hg (N:=1) ?hd (cs:=#[.string a0_0,.int .i64 a0_1]) (t:=51) ?hr ?_;(case hd=>rfl);(case hg=>rfl);(case hr=>go_simp <;> rfl);intro gb111 hg w4 hbox hb;have BK111:=zh (hbox);have hH_:=cH jE hb hg;have GW111:=zh hH_.1;have GE111:=GW111;replace HB:=zh hH_.2;clear hb hbox hg hH_;obtain ⟨hcz5_0,hcz5_1,hfz5_0,hfz5_1⟩:=cB2 BK111.out)|(go_at_call 51;(with_reducible refine (F00.calls  a0_1 0 9999 t112 _ A3.out).mono ?_);rintro e w' ⟨rfl,⟨nd,rfl⟩⟩))
  go_ret
  exact ⟨jG,jBJ⟩
 rw [if_neg c2] at H;have c2b0 : decide ((a0_0.size : Int)≤2000)=false:=decide_eq_false c2;have c2b1 : decide (a0_0.size≤2000)=false:=decide_eq_false jH;clear c2;obtain rfl:=zU H
 go_enter Try.func41,Try.ntmps41
 go_wp2_with (first|((with_reducible refine zK (N:=1) rfl ?_);refine zI ?hg (N:=1) ?hd (cs:=#[.string a0_0,.int .i64 a0_1]) (t:=51) ?hr ?_;(case hd=>rfl);(case hg=>rfl);(case hr=>go_simp <;> rfl);intro gb111 hg w6 hbox hb;have BK111:=zh (hbox);have hH_:=cH jE hb hg;have GW111:=zh hH_.1;have GE111:=GW111;replace HB:=zh hH_.2;clear hb hbox hg hH_;obtain ⟨hcz7_0,hcz7_1,hfz7_0,hfz7_1⟩:=cB2 BK111.out))
 go_ret
 exact ⟨jG,jBJ⟩


def F0a.f (a0_0 : ByteArray) (a0_1 : Int) (a1_0 : ByteArray) (a1_1 : Int) : Option (Bool):=if (Op.bytesLess a0_0.toList a1_0.toList)=true then (some true) else (if a0_0.toList=a1_0.toList then (some (decide (a0_1<a1_1))) else (some false))
set_option maxHeartbeats 8000000 in
set_option maxRecDepth 100000 in
theorem F0a.calls (a0_0 : ByteArray) (a0_1 : Int) (a1_0 : ByteArray) (a1_1 : Int) (r : Bool) (w : World) (h : F0a.f a0_0 a0_1 a1_0 a1_1=some r) :
  Calls Try.prog 52 #[.agg #[.string a0_0,.int .i64 a0_1],.agg #[.string a1_0,.int .i64 a1_1]] w fun e w' => e = .returned (.bool r)∧Below w.heap.size w w':=by
 have hu51:=Try.underlying51;have HB:=zh (Below.refl w.heap.size w);have H : (if (Op.bytesLess a0_0.toList a1_0.toList)=true then (some true) else (if a0_0.toList=a1_0.toList then (some (decide (a0_1<a1_1))) else (some false)))=some r:=h;clear h
 by_cases c3 : (Op.bytesLess a0_0.toList a1_0.toList)=true
 ·
  rw [if_pos c3] at H
  have c3b0 : (Op.bytesLess a0_0.toList a1_0.toList)=true:=c3;clear c3;obtain rfl:=zU H
  go_enter Try.func52,Try.ntmps52
  go_wp2_with (first|((with_reducible refine zK (N:=2) rfl ?_);refine zI ?hg (N:=2) ?hd (cs:=#[.string a0_0,.int .i64 a0_1]) (t:=51) ?hr ?_;(case hd=>rfl);(case hg=>rfl);(case hr=>go_simp <;> rfl);intro gb113 hg w4 hbox hb;have BK113:=zh (hbox);have hH_:=cH jE hb hg;have GW113:=zh hH_.1;have GE113:=GW113;replace HB:=zh hH_.2;clear hb hbox hg hH_)|((with_reducible refine zK (N:=3) rfl ?_);refine zI ?hg (N:=3) ?hd (cs:=#[.string a1_0,.int .i64 a1_1]) (t:=51) ?hr ?_;(case hd=>rfl);(case hg=>rfl);(case hr=>go_simp <;> rfl);intro gb114 hg w5 hbox hb;have BK114:=zh (hbox);have hH_:=cH jAs hb hg;have GW114:=zh hH_.1;have GE114:=GW114;replace HB:=zh hH_.2;have NB113_114:=zh ((jAt : gb113≠gb114));have NB114_113:=zh NB113_114.out.symm;replace BK113:=zh (cD BK113.out jAO hb);clear hb hbox hg hH_;have hnb6:=NB113_114.out;have hnc6:=NB114_113.out;obtain ⟨hcz7_0,hcz7_1,hfz7_0,hfz7_1⟩:=cB2 BK113.out;obtain ⟨hcz8_0,hcz8_1,hfz8_0,hfz8_1⟩:=cB2 BK114.out))
  go_ret
  exact ⟨jG,jAu⟩
 rw [if_neg c3] at H;have c3b0 : (Op.bytesLess a0_0.toList a1_0.toList)=false:=by simpa using c3
 clear c3
 by_cases c9 : a0_0.toList=a1_0.toList
 ·
  rw [if_pos c9] at H
  have c9b0 : (a0_0.toList == a1_0.toList)=true:=ya.mpr c9;have c9b1 : (a0_0.toList != a1_0.toList)=false:=zX.mpr c9;clear c9;obtain rfl:=zU H
  go_enter Try.func52,Try.ntmps52
  go_wp2_with (first|((with_reducible refine zK (N:=2) rfl ?_);refine zI ?hg (N:=2) ?hd (cs:=#[.string a0_0,.int .i64 a0_1]) (t:=51) ?hr ?_;(case hd=>rfl);(case hg=>rfl);(case hr=>go_simp <;> rfl);intro gb113 hg w10 hbox hb;have BK113:=zh (hbox);have hH_:=cH jE hb hg;have GW113:=zh hH_.1;have GE113:=GW113;replace HB:=zh hH_.2;clear hb hbox hg hH_)|((with_reducible refine zK (N:=3) rfl ?_);refine zI ?hg (N:=3) ?hd (cs:=#[.string a1_0,.int .i64 a1_1]) (t:=51) ?hr ?_;(case hd=>rfl);(case hg=>rfl);(case hr=>go_simp <;> rfl);intro gb114 hg w11 hbox hb;have BK114:=zh (hbox);have hH_:=cH jAs hb hg;have GW114:=zh hH_.1;have GE114:=GW114;replace HB:=zh hH_.2;have NB113_114:=zh ((jAt : gb113≠gb114));have NB114_113:=zh NB113_114.out.symm;replace BK113:=zh (cD BK113.out jAO hb);clear hb hbox hg hH_;have hnb12:=NB113_114.out;have hnc12:=NB114_113.out;obtain ⟨hcz13_0,hcz13_1,hfz13_0,hfz13_1⟩:=cB2 BK113.out;obtain ⟨hcz14_0,hcz14_1,hfz14_0,hfz14_1⟩:=cB2 BK114.out))
  go_ret
  exact ⟨jG,jAu⟩
 rw [if_neg c9] at H;have c9b0 : (a0_0.toList == a1_0.toList)=false:=zY.mpr c9;have c9b1 : (a0_0.toList != a1_0.toList)=true:=zZ.mpr c9;obtain rfl:=zU H
 go_enter Try.func52,Try.ntmps52
 go_wp2_with (first|((with_reducible refine zK (N:=2) rfl ?_);refine zI ?hg (N:=2) ?hd (cs:=#[.string a0_0,.int .i64 a0_1]) (t:=51) ?hr ?_;(case hd=>rfl);(case hg=>rfl);(case hr=>go_simp <;> rfl);intro gb113 hg w15 hbox hb;have BK113:=zh (hbox);have hH_:=cH jE hb hg;have GW113:=zh hH_.1;have GE113:=GW113;replace HB:=zh hH_.2;clear hb hbox hg hH_)|((with_reducible refine zK (N:=3) rfl ?_);refine zI ?hg (N:=3) ?hd (cs:=#[.string a1_0,.int .i64 a1_1]) (t:=51) ?hr ?_;(case hd=>rfl);(case hg=>rfl);(case hr=>go_simp <;> rfl);intro gb114 hg w16 hbox hb;have BK114:=zh (hbox);have hH_:=cH jAs hb hg;have GW114:=zh hH_.1;have GE114:=GW114;replace HB:=zh hH_.2;have NB113_114:=zh ((jAt : gb113≠gb114));have NB114_113:=zh NB113_114.out.symm;replace BK113:=zh (cD BK113.out jAO hb);clear hb hbox hg hH_;have hnb17:=NB113_114.out;have hnc17:=NB114_113.out;obtain ⟨hcz18_0,hcz18_1,hfz18_0,hfz18_1⟩:=cB2 BK113.out;obtain ⟨hcz19_0,hcz19_1,hfz19_0,hfz19_1⟩:=cB2 BK114.out))
 go_ret
 exact ⟨jG,jAu⟩

end Go.Proofs.Ytamikhmpfmgofaa.Q
end
section
namespace Go.Proofs.Ytamikhmpfmgofaa.Q
open Go.RowKit Go.Proofs.YtamikhmpfmgofaaW.PrintWords Go.Proofs.YtamikhmpfmgofaaW.PrintLast Go.Proofs.YtamikhmpfmgofaaW.PrintMore
attribute [local go_sem] max2_int min2_int max_two min_two max_three min_three max_four min_four max2_str min2_str str_geq str_gtr str_leq   -- for this text's walks alone
set_option linter.unusedVariables false
set_option linter.unusedSimpArgs false

mutual
def F0.j0 : Nat→Bool→List (S67)→Int→Option (Bool)
 | 0,_,_,_=>none
 | k+1,x18,x116000,x116001=>if x18=true then (some false) else (F0.l0 k 0 x116000 x116001 (⟨#[]⟩ : ByteArray) (-1))
def F0.l0 : Nat→Int→List (S67)→Int→ByteArray→Int→Option (Bool)
 | 0,_,_,_,_,_=>none
 | k+1,x4,x116000,x116001,x119000,x119001=>if x4<(x116000.length : Int) then (if 0≤x4 then ((F00.f ((rd_T67 x116000 x4).f0) 1 (wrap64 (x116001 - 1))).bind fun t121=>(if t121=true then (if (((rd_T67 x116000 x4).f1).length : Int) > 4 then (F0.j2 k x4 true x116000 x116001 x119000 x119001 ((rd_T67 x116000 x4).f0) ((rd_T67 x116000 x4).f1)) else (if (((rd_T67 x116000 x4).f1).length : Int)=0 then (F0.j2 k x4 (decide ((x116000.length : Int) > 1)) x116000 x116001 x119000 x119001 ((rd_T67 x116000 x4).f0) ((rd_T67 x116000 x4).f1)) else (F0.j2 k x4 false x116000 x116001 x119000 x119001 ((rd_T67 x116000 x4).f0) ((rd_T67 x116000 x4).f1)))) else (F0.j2 k x4 true x116000 x116001 x119000 x119001 ((rd_T67 x116000 x4).f0) ((rd_T67 x116000 x4).f1)))) else (none)) else (some true)
def F0.j2 : Nat→Int→Bool→List (S67)→Int→ByteArray→Int→Int→List (S51)→Option (Bool)
 | 0,_,_,_,_,_,_,_,_=>none
 | k+1,x4,x56,x116000,x116001,x119000,x119001,x121000,x121001=>if x56=true then (some false) else (F0.l1 k x4 0 x116000 x116001 x119000 x119001 x121000 x121001)
def F0.l1 : Nat→Int→Int→List (S67)→Int→ByteArray→Int→Int→List (S51)→Option (Bool)
 | 0,_,_,_,_,_,_,_,_=>none
 | k+1,x4,x6,x116000,x116001,x119000,x119001,x121000,x121001=>if x6<x4 then (if 0≤x6 then (if x6<(x116000.length : Int) then (if ((rd_T67 x116000 x6).f0)=x121000 then (some false) else (F0.l1 k x4 (wrap64 (x6+1)) x116000 x116001 x119000 x119001 x121000 x121001)) else (none)) else (none)) else (F0.l2 k x4 0 x116000 x116001 x119000 x119001 x121000 x121001)
def F0.l2 : Nat→Int→Int→List (S67)→Int→ByteArray→Int→Int→List (S51)→Option (Bool)
 | 0,_,_,_,_,_,_,_,_=>none
 | k+1,x4,x7,x116000,x116001,x119000,x119001,x121000,x121001=>if x7<(x121001.length : Int) then (if 0≤x7 then ((F08.f ((rd_T51 x121001 x7).f0) ((rd_T51 x121001 x7).f1)).bind fun t124=>(if t124=true then ((F0a.f x119000 x119001 ((rd_T51 x121001 x7).f0) ((rd_T51 x121001 x7).f1)).bind fun t126=>(if t126=true then (F0.l2 k x4 (wrap64 (x7+1)) x116000 x116001 ((rd_T51 x121001 x7).f0) ((rd_T51 x121001 x7).f1) x121000 x121001) else (some false))) else (some false))) else (none)) else (F0.l0 k (wrap64 (x4+1)) x116000 x116001 x119000 x119001)
end
def F0.f (k : Nat) (l0_0 : List (S67)) (a0_1 : Int) : Option (Bool):=(F00.f (l0_0.length : Int) 1 60).bind fun t116=>(if t116=true then ((F00.f a0_1 2 100000).bind fun t117=>(F0.j0 k (!t117) l0_0 a0_1)) else (F0.j0 k true l0_0 a0_1))
theorem F0.mono_l : ∀ k,(∀ y0 y1 y2,LeO (F0.j0 k y0 y1 y2) (F0.j0 (k+1) y0 y1 y2))∧(∀ y0 y1 y2 y3 y4,LeO (F0.l0 k y0 y1 y2 y3 y4) (F0.l0 (k+1) y0 y1 y2 y3 y4))∧(∀ y0 y1 y2 y3 y4 y5 y6 y7,LeO (F0.j2 k y0 y1 y2 y3 y4 y5 y6 y7) (F0.j2 (k+1) y0 y1 y2 y3 y4 y5 y6 y7))∧(∀ y0 y1 y2 y3 y4 y5 y6 y7,LeO (F0.l1 k y0 y1 y2 y3 y4 y5 y6 y7) (F0.l1 (k+1) y0 y1 y2 y3 y4 y5 y6 y7))∧(∀ y0 y1 y2 y3 y4 y5 y6 y7,LeO (F0.l2 k y0 y1 y2 y3 y4 y5 y6 y7) (F0.l2 (k+1) y0 y1 y2 y3 y4 y5 y6 y7))
 | 0=>⟨fun _ _ _ r h=>by simp [F0.j0] at h,fun _ _ _ _ _ r h=>by simp [F0.l0] at h,fun _ _ _ _ _ _ _ _ r h=>by simp [F0.j2] at h,fun _ _ _ _ _ _ _ _ r h=>by simp [F0.l1] at h,fun _ _ _ _ _ _ _ _ r h=>by simp [F0.l2] at h⟩
 | k+1=>by
  obtain ⟨ih0,ih1,ih2,ih3,ih4⟩:=F0.mono_l k;refine ⟨?_,?_,?_,?_,?_⟩
  ·
   intro y0 y1 y2
   unfold F0.j0
   repeat' first|(with_reducible first|exact ih0 _ _ _|exact ih1 _ _ _ _ _|exact ih2 _ _ _ _ _ _ _ _|exact ih3 _ _ _ _ _ _ _ _|exact ih4 _ _ _ _ _ _ _ _|exact zQ _|exact zN _|refine zP ?_ ?_|refine zO ?_ (fun _=>?_))|refine zP ?_ ?_|refine zO ?_ (fun _=>?_)
  ·
   intro y0 y1 y2 y3 y4
   unfold F0.l0
   repeat' first|(with_reducible first|exact ih0 _ _ _|exact ih1 _ _ _ _ _|exact ih2 _ _ _ _ _ _ _ _|exact ih3 _ _ _ _ _ _ _ _|exact ih4 _ _ _ _ _ _ _ _|exact zQ _|exact zN _|refine zP ?_ ?_|refine zO ?_ (fun _=>?_))|refine zP ?_ ?_|refine zO ?_ (fun _=>?_)
  ·
   intro y0 y1 y2 y3 y4 y5 y6 y7
   unfold F0.j2
   repeat' first|(with_reducible first|exact ih0 _ _ _|exact ih1 _ _ _ _ _|exact ih2 _ _ _ _ _ _ _ _|exact ih3 _ _ _ _ _ _ _ _|exact ih4 _ _ _ _ _ _ _ _|exact zQ _|exact zN _|refine zP ?_ ?_|refine zO ?_ (fun _=>?_))|refine zP ?_ ?_|refine zO ?_ (fun _=>?_)
  ·
   intro y0 y1 y2 y3 y4 y5 y6 y7
   unfold F0.l1
   repeat' first|(with_reducible first|exact ih0 _ _ _|exact ih1 _ _ _ _ _|exact ih2 _ _ _ _ _ _ _ _|exact ih3 _ _ _ _ _ _ _ _|exact ih4 _ _ _ _ _ _ _ _|exact zQ _|exact zN _|refine zP ?_ ?_|refine zO ?_ (fun _=>?_))|refine zP ?_ ?_|refine zO ?_ (fun _=>?_)
  intro y0 y1 y2 y3 y4 y5 y6 y7;unfold F0.l2
  repeat' first|(with_reducible first|exact ih0 _ _ _|exact ih1 _ _ _ _ _|exact ih2 _ _ _ _ _ _ _ _|exact ih3 _ _ _ _ _ _ _ _|exact ih4 _ _ _ _ _ _ _ _|exact zQ _|exact zN _|refine zP ?_ ?_|refine zO ?_ (fun _=>?_))|refine zP ?_ ?_|refine zO ?_ (fun _=>?_)
theorem F0.mono : ∀ a0 a1 k,LeO (F0.f k a0 a1) (F0.f (k+1) a0 a1):=by
 intro a0 a1 k;obtain ⟨ih0,ih1,ih2,ih3,ih4⟩:=F0.mono_l k;unfold F0.f
 repeat' first|(with_reducible first|exact ih0 _ _ _|exact ih1 _ _ _ _ _|exact ih2 _ _ _ _ _ _ _ _|exact ih3 _ _ _ _ _ _ _ _|exact ih4 _ _ _ _ _ _ _ _|exact zQ _|exact zN _|refine zP ?_ ?_|refine zO ?_ (fun _=>?_))|refine zP ?_ ?_|refine zO ?_ (fun _=>?_)
def F0.T13 : Bool×List (List Nat×List Nat):=(true,[([],[]),([0],[0]),([],[]),([1,2],[1,2]),([3],[3]),([4],[4]),([],[]),([6],[6]),([5,7],[5,7])])
def F0.B13 : List Nat:=[0,1,0,7,15,31,0,64,255]
theorem F0.tab13 : rtab .any (opsOf Try.f28 13)=F0.T13:=by kernel_rfl
theorem F0.bits13 : waitsOk F0.T13.2 F0.B13=true:=by kernel_rfl
def F0.T18 : Bool×List (List Nat×List Nat):=(true,[([],[]),([0],[0]),([],[]),([1,2],[1,2]),([3],[3]),([4],[4]),([5],[5]),([6,5],[6]),([7],[7]),([7],[7]),([9,7],[7,9]),([7],[7]),([10,11,7],[7,10,11]),([12,7],[7,12]),([8,13,7,7],[7,8,13]),([14,7],[7,14]),([7,15],[7,15])])
def F0.B18 : List Nat:=[0,1,0,7,15,31,63,127,255,255,767,255,3839,7935,16383,32767,65535]
theorem F0.tab18 : rtab .any (opsOf Try.f28 18)=F0.T18:=by kernel_rfl
theorem F0.bits18 : waitsOk F0.T18.2 F0.B18=true:=by kernel_rfl
set_option maxHeartbeats 8000000 in
set_option maxRecDepth 100000 in
theorem F0.calls (k : Nat) (A0_0 : Option Addr) (c0_0 : Nat) (l0_0 : List (S67)) (a0_1 : Int) (r : Bool) (w : World) (hr0_0 : Kd.C k67 w A0_0 l0_0.length l0_0) (hc0_0 : l0_0.length≤c0_0) (h : F0.f k l0_0 a0_1=some r) :
  Calls Try.prog 28 #[.agg #[.slice A0_0 l0_0.length c0_0,.int .i64 a0_1]] w fun e w' => e = .returned (.bool r)∧Below w.heap.size w w':=by
 have hu35:=Try.underlying35;have hu51:=Try.underlying51;have hu67:=Try.underlying67;have HR0_0:=zh hr0_0;have HC0_0:=zh hc0_0;clear hr0_0 hc0_0;have HB:=zh (Below.refl w.heap.size w);have H : ((F00.f (l0_0.length : Int) 1 60).bind fun t116=>(if t116=true then ((F00.f a0_1 2 100000).bind fun t117=>(F0.j0 k (!t117) l0_0 a0_1)) else (F0.j0 k true l0_0 a0_1)))=some r:=h;clear h;have HC2:=zh H;clear H
 go_enter Try.func28,Try.ntmps28
 go_upto_region 1 with (first|((with_reducible refine zK (N:=1) rfl ?_);(try (refine yy (by rfl) ?_;dsimp only));refine zI ?hg (N:=1) ?hd (cs:=#[.slice A0_0 l0_0.length c0_0,.int .i64 a0_1]) (t:=35) ?hr ?_;(case hd=>rfl);(case hg=>rfl);(case hr=>go_simp <;> rfl);intro gb115 hg w3 hbox hb;have BK115:=zh (hbox);have hH_:=cH jE hb hg;have GW115:=zh hH_.1;have GE115:=GW115;replace HB:=zh hH_.2;clear hb hbox hg hH_))
 (try simp only [Act.put,zi,zj,zk])
 go_cut [18] (fun v18 wc => ∃ (kq : Nat) (x18_1 : Bool),v18 = .bool x18_1∧Aside0 (F0.j0 kq x18_1 l0_0 a0_1=some r)∧Aside0 (kq≤k)∧Aside0 (wc.heap[gb115]? = some (.cells #[(.slice A0_0 l0_0.length c0_0),.int .i64 a0_1] 35 (0,0)))∧Aside0 (Below w.heap.size w wc))
 case first =>
  have H:=HC2.out;clear HC2;replace H:=zT.mp H;obtain ⟨t116,A40,H⟩:=H;have A4:=zh A40;clear A40
  by_cases c5 : t116=true
  ·
   subst c5
   rw [if_pos rfl] at H;replace H:=zT.mp H;obtain ⟨t117,A60,H⟩:=H;have A6:=zh A60;clear A60;have H':=zh H;clear H;obtain ⟨hcz7_0,hcz7_1,hfz7_0,hfz7_1⟩:=cB2 BK115.out
   go_wp2_with (first|((with_reducible refine zJ (f:=51) rfl ?_);refine yj (some 11) rfl rfl Try.func51 jA rfl #[.int .i64 (l0_0.length : Int),.int .i64 1,.int .i64 60] rfl jF ?_;(with_reducible refine (F00.calls  (l0_0.length : Int) 1 60 true _ A4.out).mono ?_);rintro e w' ⟨rfl,⟨nd,rfl⟩⟩;refine ⟨_,rfl,?_⟩)|(go_at_call 51;(with_reducible refine (F00.calls  a0_1 2 100000 t117 _ A6.out).mono ?_);rintro e w' ⟨rfl,⟨nd,rfl⟩⟩))
   go_meet
   case rel=>exact ⟨_,(!t117),jD,H',⟨ju⟩,⟨jO⟩,⟨jAP⟩⟩
  replace c5:=yb.mpr c5;subst c5;rw [if_neg (show ¬ (false=true) by decide)] at H;have H':=zh H;clear H;obtain ⟨hcz8_0,hcz8_1,hfz8_0,hfz8_1⟩:=cB2 BK115.out
  go_wp2_with (first|((with_reducible refine zJ (f:=51) rfl ?_);refine yj (some 11) rfl rfl Try.func51 jA rfl #[.int .i64 (l0_0.length : Int),.int .i64 1,.int .i64 60] rfl jF ?_;(with_reducible refine (F00.calls  (l0_0.length : Int) 1 60 false _ A4.out).mono ?_);rintro e w' ⟨rfl,⟨nd,rfl⟩⟩;refine ⟨_,rfl,?_⟩))
  go_meet
  case rel=>exact ⟨_,(true),jD,H',⟨ju⟩,⟨jO⟩,⟨jAP⟩⟩
 case rest =>
  clear HC2
  try clear c2
  try clear p2
  try clear c5
  try clear hcz7_0 hcz7_1
  try clear hcz8_0 hcz8_1
  try clear hfz7_0 hfz7_1
  try clear hfz8_0 hfz8_1
  obtain ⟨kq,x18_1,rfl,HA,HJ1,BK115,HB⟩:=hcut
  cases kq with
  | zero=>exact absurd HA.out (by simp [F0.j0])
  | succ kj1 =>
   have H:=HA.out;clear HA;simp only [F0.j0] at H
   by_cases c9 : x18_1=true
   ·
    subst c9
    rw [if_pos rfl] at H;obtain rfl:=zU H
    go_wp2
    go_ret
    exact ⟨jG,jAP⟩
   replace c9:=yb.mpr c9;subst c9;rw [if_neg (show ¬ (false=true) by decide)] at H;have H':=zh H;clear H
   go_wp2_with (first|((with_reducible refine zK (N:=3) rfl ?_);(try (refine yy (by rfl) ?_;dsimp only));refine zI ?hg (N:=3) ?hd (cs:=#[.string (⟨#[]⟩ : ByteArray),.int .i64 0]) (t:=51) ?hr ?_;(case hd=>rfl);(case hg=>rfl);(case hr=>go_simp <;> rfl);intro gb118 hg w10 hbox hb;have BK118:=zh (hbox);have hH_:=cH jAP hb hg;have GW118:=zh hH_.1;have GE118:=GW118;replace HB:=zh hH_.2;have NB115_118:=zh ((by rw [hg];exact yc (yi (g:=gb115) (o:=.cells #[.slice A0_0 l0_0.length c0_0,.int .i64 a0_1] 35 (0,0)) jO) : gb115≠gb118));have NB118_115:=zh NB115_118.out.symm;replace BK115:=zh (cD BK115.out jO hb);clear hb hbox hg hH_;have hnb11:=NB118_115.out;have hnc11:=NB115_118.out;obtain ⟨hcz12_0,hcz12_1,hfz12_0,hfz12_1⟩:=cB2 BK118.out))
   go_loopg [4] kj1 (fun kq v4 w' => ∃ (x4_2 : Int) (x119000_2 : ByteArray) (x119001_2 : Int),v4 = .int .i64 x4_2∧Aside0 (F0.l0 kq x4_2 l0_0 a0_1 x119000_2 x119001_2=some r)∧Aside0 (kq≤kj1)∧Aside0 (w'.heap[gb115]? = some (.cells #[(.slice A0_0 l0_0.length c0_0),.int .i64 a0_1] 35 (0,0)))∧Aside0 (w'.heap[gb118]? = some (.cells #[.string x119000_2,.int .i64 x119001_2] 51 (0,0)))∧Aside0 (Below w.heap.size w w'))
   case atStart=>exact ⟨(0),((⟨#[]⟩ : ByteArray)),((-1)),jD,H',⟨ye _⟩,⟨jBK⟩,⟨by (with_reducible repeat first|apply ze|apply zf|apply zg);refine zL (cs:=#[.string (⟨#[]⟩ : ByteArray),.int .i64 0]) ?_ 1 _ rfl;(with_reducible repeat first|apply ze|apply zf|apply zg);refine zL (cs:=#[.string (⟨#[]⟩ : ByteArray),.int .i64 0]) ?_ 0 _ rfl;(with_reducible repeat first|apply ze|apply zf|apply zg);exact BK118.out⟩,⟨jAv⟩⟩
   case round =>
    clear H'
    try clear c1 c2
    try clear p2
    try clear c5 c9 c11
    try clear hcz12_0 hcz12_1
    try clear hcz7_0 hcz7_1
    try clear hcz8_0 hcz8_1
    try clear hfz12_0 hfz12_1
    try clear hfz7_0 hfz7_1
    try clear hfz8_0 hfz8_1
    try clear p2
    obtain ⟨x4_2,x119000_2,x119001_2,rfl,HA,HK2,BK115,BK118,HB⟩:=hrel
    cases gk with
    | zero=>exact absurd HA.out (by simp [F0.l0])
    | succ k2 =>
     have H:=HA.out;clear HA;simp only [F0.l0] at H
     by_cases c13 : x4_2<(l0_0.length : Int)
     ·
      rw [if_pos c13] at H
      have c13b0 : decide (x4_2<(l0_0.length : Int))=true:=decide_eq_true c13;clear c13
      by_cases c14 : 0≤x4_2
      ·
       rw [if_pos c14] at H
       have c14b0 : decide (0≤x4_2)=true:=decide_eq_true c14;clear c14;have HC15:=zh H;clear H;have hnb16:=NB115_118.out;have hnc16:=NB118_115.out;obtain ⟨hcz17_0,hcz17_1,hfz17_0,hfz17_1⟩:=cB2 BK115.out;have p119 : 0≤(x4_2 : Int):=zy jB;have q119 : x4_2<(l0_0.length : Int):=zy jB;obtain ⟨ad119,A119_1,c119_1,e119,hx119_0,hx119_1,hl119_1,hi119_1⟩:=at_T67 HR0_0.out x4_2 p119 q119
       cases e119
       replace hx119_0:=(HB.out.cell (zl w _ hx119_0)).trans hx119_0;replace hx119_1:=(HB.out.cell (zl w _ hx119_1)).trans hx119_1;have HR119_1:=zh hi119_1;have HC119_1:=zh hl119_1;clear hi119_1 hl119_1;replace p119:=eq_true p119;replace q119:=eq_true q119
       go_upto_region 8 with (first|((with_reducible refine zK (N:=5) rfl ?_);(try (refine yy (by rfl) ?_;dsimp only));refine zI ?hg (N:=5) ?hd (cs:=#[.int .i64 0,.slice none 0 0]) (t:=67) ?hr ?_;(case hd=>rfl);(case hg=>rfl);(case hr=>go_simp <;> rfl);intro gb120 hg w18 hbox hb;have BK120:=zh (hbox);have hH_:=cH jAv hb hg;have GW120:=zh hH_.1;have GE120:=GW120;replace HB:=zh hH_.2;have NB115_120:=zh ((by rw [hg];exact yc (yi (g:=gb115) (o:=.cells #[.slice (some ad119) l0_0.length c0_0,.int .i64 a0_1] 35 (0,0)) jO) : gb115≠gb120));have NB120_115:=zh NB115_120.out.symm;replace BK115:=zh (cD BK115.out jO hb);have NB118_120:=zh ((by rw [hg];exact yc (yi (g:=gb118) (o:=.cells #[.string x119000_2,.int .i64 x119001_2] 51 (0,0)) jS) : gb118≠gb120));have NB120_118:=zh NB118_120.out.symm;replace BK118:=zh (cD BK118.out jS hb);clear hb hbox hg hH_;have hnb19:=NB120_115.out;have hnc19:=NB115_120.out;have hnb20:=NB120_118.out;have hnc20:=NB118_120.out;obtain ⟨hcz21_0,hcz21_1,hfz21_0,hfz21_1⟩:=cB2 BK120.out))
       (try simp only [Act.put,zi,zj,zk])
       go_cut [56] (fun v56 wc => ∃ (kq : Nat) (x56_14 : Bool),v56 = .bool x56_14∧Aside0 (F0.j2 kq x4_2 x56_14 l0_0 a0_1 x119000_2 x119001_2 ((rd_T67 l0_0 x4_2).f0) ((rd_T67 l0_0 x4_2).f1)=some r)∧Aside0 (kq≤k2)∧Aside0 (wc.heap[gb115]? = some (.cells #[(.slice (some ad119) l0_0.length c0_0),.int .i64 a0_1] 35 (0,0)))∧Aside0 (wc.heap[gb118]? = some (.cells #[.string x119000_2,.int .i64 x119001_2] 51 (0,0)))∧Aside0 (wc.heap[gb120]? = some (.cells #[.int .i64 ((rd_T67 l0_0 x4_2).f0),(.slice A119_1 ((rd_T67 l0_0 x4_2).f1).length c119_1)] 67 (0,0)))∧Aside0 (Below w.heap.size w wc))
       case first =>
        have H:=HC15.out;clear HC15;replace H:=zT.mp H;obtain ⟨t121,A220,H⟩:=H;have A22:=zh A220;clear A220
        by_cases c23 : t121=true
        ·
         subst c23
         rw [if_pos rfl] at H
         by_cases c24 : (((rd_T67 l0_0 x4_2).f1).length : Int) > 4
         ·
          rw [if_pos c24] at H
          have c24b0 : decide (4<(((rd_T67 l0_0 x4_2).f1).length : Int))=true:=decide_eq_true c24;have c24b1 : decide (4<((rd_T67 l0_0 x4_2).f1).length)=true:=decide_eq_true jH;clear c24;(first|rw [c24b0]|(simp only [zG,zH];rw [c24b0])|skip);have H':=zh H;clear H;have hnb25:=NB120_115.out;have hnc25:=NB115_120.out;have hnb26:=NB120_118.out;have hnc26:=NB118_120.out;obtain ⟨hcz27_0,hcz27_1,hfz27_0,hfz27_1⟩:=cB2 BK120.out;have hnb28:=NB115_118.out;have hnc28:=NB118_115.out;obtain ⟨hcz29_0,hcz29_1,hfz29_0,hfz29_1⟩:=cB2 BK115.out
          go_wp2_with (first|((with_reducible refine zJ (f:=51) rfl ?_);refine yj (some 37) rfl rfl Try.func51 jA rfl #[.int .i64 ((rd_T67 l0_0 x4_2).f0),.int .i64 1,.int .i64 (wrap64 (a0_1 - 1))] rfl jF ?_;(with_reducible refine (F00.calls  ((rd_T67 l0_0 x4_2).f0) 1 (wrap64 (a0_1 - 1)) true _ A22.out).mono ?_);rintro e w' ⟨rfl,⟨nd,rfl⟩⟩;refine ⟨_,rfl,?_⟩))
          go_meet
          case rel=>exact ⟨_,(true),jD,H',⟨jAQ⟩,⟨jAR⟩,⟨jAS⟩,⟨jAT⟩,⟨jN⟩⟩
         rw [if_neg c24] at H;have c24b0 : decide (4<(((rd_T67 l0_0 x4_2).f1).length : Int))=false:=decide_eq_false c24;have c24b1 : decide (4<((rd_T67 l0_0 x4_2).f1).length)=false:=decide_eq_false jH;clear c24;(first|rw [c24b0]|(simp only [zG,zH];rw [c24b0])|skip)
         by_cases c30 : (((rd_T67 l0_0 x4_2).f1).length : Int)=0
         ·
          rw [if_pos c30] at H
          have c30b0 : ((((rd_T67 l0_0 x4_2).f1).length : Int) == 0)=true:=ya.mpr c30;have c30b1 : ((((rd_T67 l0_0 x4_2).f1).length : Int) != 0)=false:=zX.mpr c30;clear c30;have H':=zh H;clear H;have hnb31:=NB120_115.out;have hnc31:=NB115_120.out;have hnb32:=NB120_118.out;have hnc32:=NB118_120.out;obtain ⟨hcz33_0,hcz33_1,hfz33_0,hfz33_1⟩:=cB2 BK120.out;have hnb34:=NB115_118.out;have hnc34:=NB118_115.out;obtain ⟨hcz35_0,hcz35_1,hfz35_0,hfz35_1⟩:=cB2 BK115.out
          go_wp2_with (first|((with_reducible refine zJ (f:=51) rfl ?_);refine yj (some 37) rfl rfl Try.func51 jA rfl #[.int .i64 ((rd_T67 l0_0 x4_2).f0),.int .i64 1,.int .i64 (wrap64 (a0_1 - 1))] rfl jF ?_;(with_reducible refine (F00.calls  ((rd_T67 l0_0 x4_2).f0) 1 (wrap64 (a0_1 - 1)) true _ A22.out).mono ?_);rintro e w' ⟨rfl,⟨nd,rfl⟩⟩;refine ⟨_,rfl,?_⟩))
          go_meet
          case rel=>exact ⟨_,(decide ((l0_0.length : Int) > 1)),jD,H',⟨jAQ⟩,⟨jAR⟩,⟨jAS⟩,⟨jAT⟩,⟨jN⟩⟩
         rw [if_neg c30] at H;have c30b0 : ((((rd_T67 l0_0 x4_2).f1).length : Int) == 0)=false:=zY.mpr c30;have c30b1 : ((((rd_T67 l0_0 x4_2).f1).length : Int) != 0)=true:=zZ.mpr c30;have c30b2 : ¬ (((rd_T67 l0_0 x4_2).f1)=[]):=fun h_=>c30 (by rw [h_];rfl);have H':=zh H;clear H;have hnb36:=NB120_115.out;have hnc36:=NB115_120.out;have hnb37:=NB120_118.out;have hnc37:=NB118_120.out;obtain ⟨hcz38_0,hcz38_1,hfz38_0,hfz38_1⟩:=cB2 BK120.out;have hnb39:=NB115_118.out;have hnc39:=NB118_115.out;obtain ⟨hcz40_0,hcz40_1,hfz40_0,hfz40_1⟩:=cB2 BK115.out
         go_wp2_with (first|((with_reducible refine zJ (f:=51) rfl ?_);refine yj (some 37) rfl rfl Try.func51 jA rfl #[.int .i64 ((rd_T67 l0_0 x4_2).f0),.int .i64 1,.int .i64 (wrap64 (a0_1 - 1))] rfl jF ?_;(with_reducible refine (F00.calls  ((rd_T67 l0_0 x4_2).f0) 1 (wrap64 (a0_1 - 1)) true _ A22.out).mono ?_);rintro e w' ⟨rfl,⟨nd,rfl⟩⟩;refine ⟨_,rfl,?_⟩))
         go_meet
         case rel=>exact ⟨_,(false),jD,H',⟨jAQ⟩,⟨jAR⟩,⟨jAS⟩,⟨jAT⟩,⟨jN⟩⟩
        replace c23:=yb.mpr c23;subst c23;rw [if_neg (show ¬ (false=true) by decide)] at H;have H':=zh H;clear H;have hnb41:=NB120_115.out;have hnc41:=NB115_120.out;have hnb42:=NB120_118.out;have hnc42:=NB118_120.out;obtain ⟨hcz43_0,hcz43_1,hfz43_0,hfz43_1⟩:=cB2 BK120.out;have hnb44:=NB115_118.out;have hnc44:=NB118_115.out;obtain ⟨hcz45_0,hcz45_1,hfz45_0,hfz45_1⟩:=cB2 BK115.out
        go_wp2_with (first|((with_reducible refine zJ (f:=51) rfl ?_);refine yj (some 37) rfl rfl Try.func51 jA rfl #[.int .i64 ((rd_T67 l0_0 x4_2).f0),.int .i64 1,.int .i64 (wrap64 (a0_1 - 1))] rfl jF ?_;(with_reducible refine (F00.calls  ((rd_T67 l0_0 x4_2).f0) 1 (wrap64 (a0_1 - 1)) false _ A22.out).mono ?_);rintro e w' ⟨rfl,⟨nd,rfl⟩⟩;refine ⟨_,rfl,?_⟩))
        go_meet
        case rel=>exact ⟨_,(true),jD,H',⟨jAQ⟩,⟨jAR⟩,⟨jAS⟩,⟨jAT⟩,⟨jN⟩⟩
       case rest =>
        clear HC15
        try clear c1
        try clear p1
        try clear q1
        try clear hx1
        try clear c2
        try clear p2
        try clear c3 c4 c5
        try clear p6
        try clear c9 c11
        try clear p11
        try clear q11
        try clear hx11
        try clear c13 c13b0 c14 c14b0 c16 c19 c20 c23 c24 c24b0 c24b1 c25 c26 c28 c30 c30b0 c30b1 c30b2 c31 c32 c34 c36 c37 c39 c41 c42 c44
        try clear hcz12_0 hcz12_1
        try clear hcz17_0 hcz17_1
        try clear hcz21_0 hcz21_1
        try clear hcz27_0 hcz27_1
        try clear hcz29_0 hcz29_1
        try clear hcz33_0 hcz33_1
        try clear hcz35_0 hcz35_1
        try clear hcz38_0 hcz38_1
        try clear hcz40_0 hcz40_1
        try clear hcz43_0 hcz43_1
        try clear hcz45_0 hcz45_1
        try clear hcz7_0 hcz7_1
        try clear hcz8_0 hcz8_1
        try clear hfz12_0 hfz12_1
        try clear hfz17_0 hfz17_1
        try clear hfz21_0 hfz21_1
        try clear hfz27_0 hfz27_1
        try clear hfz29_0 hfz29_1
        try clear hfz33_0 hfz33_1
        try clear hfz35_0 hfz35_1
        try clear hfz38_0 hfz38_1
        try clear hfz40_0 hfz40_1
        try clear hfz43_0 hfz43_1
        try clear hfz45_0 hfz45_1
        try clear hfz7_0 hfz7_1
        try clear hfz8_0 hfz8_1
        try clear hx119_0
        try clear hx119_1
        try clear p119
        try clear p2
        try clear q119
        obtain ⟨kq,x56_14,rfl,HA,HJ14,BK115,BK118,BK120,HB⟩:=hcut
        cases kq with
        | zero=>exact absurd HA.out (by simp [F0.j2])
        | succ kj14 =>
         have H:=HA.out;clear HA;simp only [F0.j2] at H
         by_cases c46 : x56_14=true
         ·
          subst c46
          rw [if_pos rfl] at H;obtain rfl:=zU H
          go_wp2
          go_ret
          exact ⟨jG,jN⟩
         replace c46:=yb.mpr c46;subst c46;rw [if_neg (show ¬ (false=true) by decide)] at H;have H':=zh H;clear H
         go_wp2
         go_loopg [6] kj14 (fun kq v6 w' => ∃ (x6_4 : Int),v6 = .int .i64 x6_4∧Aside0 (F0.l1 kq x4_2 x6_4 l0_0 a0_1 x119000_2 x119001_2 ((rd_T67 l0_0 x4_2).f0) ((rd_T67 l0_0 x4_2).f1)=some r)∧Aside0 (kq≤kj14)∧Aside0 (w'.heap[gb115]? = some (.cells #[(.slice (some ad119) l0_0.length c0_0),.int .i64 a0_1] 35 (0,0)))∧Aside0 (w'.heap[gb118]? = some (.cells #[.string x119000_2,.int .i64 x119001_2] 51 (0,0)))∧Aside0 (w'.heap[gb120]? = some (.cells #[.int .i64 ((rd_T67 l0_0 x4_2).f0),(.slice A119_1 ((rd_T67 l0_0 x4_2).f1).length c119_1)] 67 (0,0)))∧Aside0 (Below w.heap.size w w'))
         case atStart=>exact ⟨(0),jD,H',⟨ye _⟩,⟨jO⟩,⟨jS⟩,⟨jh⟩,⟨jN⟩⟩
         case round =>
          clear H'
          try clear c1
          try clear p1
          try clear q1
          try clear hx1
          try clear c2
          try clear p2
          try clear c3 c4 c5
          try clear p6
          try clear c9 c11
          try clear p11
          try clear q11
          try clear hx11
          try clear c13 c13b0 c14 c14b0 c16 c19 c20 c23 c24 c24b0 c24b1 c25 c26 c28 c30 c30b0 c30b1 c30b2 c31 c32 c34 c36 c37 c39 c41 c42 c44 c46
          try clear hcz12_0 hcz12_1
          try clear hcz17_0 hcz17_1
          try clear hcz21_0 hcz21_1
          try clear hcz27_0 hcz27_1
          try clear hcz29_0 hcz29_1
          try clear hcz33_0 hcz33_1
          try clear hcz35_0 hcz35_1
          try clear hcz38_0 hcz38_1
          try clear hcz40_0 hcz40_1
          try clear hcz43_0 hcz43_1
          try clear hcz45_0 hcz45_1
          try clear hcz7_0 hcz7_1
          try clear hcz8_0 hcz8_1
          try clear hfz12_0 hfz12_1
          try clear hfz17_0 hfz17_1
          try clear hfz21_0 hfz21_1
          try clear hfz27_0 hfz27_1
          try clear hfz29_0 hfz29_1
          try clear hfz33_0 hfz33_1
          try clear hfz35_0 hfz35_1
          try clear hfz38_0 hfz38_1
          try clear hfz40_0 hfz40_1
          try clear hfz43_0 hfz43_1
          try clear hfz45_0 hfz45_1
          try clear hfz7_0 hfz7_1
          try clear hfz8_0 hfz8_1
          try clear hx119_0
          try clear hx119_1
          try clear p1
          try clear p11
          try clear p119
          try clear p2
          try clear p6
          try clear q1
          try clear q11
          try clear q119
          obtain ⟨x6_4,rfl,HA,HK4,BK115,BK118,BK120,HB⟩:=hrel
          cases gk with
          | zero=>exact absurd HA.out (by simp [F0.l1])
          | succ k4 =>
           have H:=HA.out;clear HA;simp only [F0.l1] at H
           by_cases c47 : x6_4<x4_2
           ·
            rw [if_pos c47] at H
            have c47b0 : decide (x6_4<x4_2)=true:=decide_eq_true c47;clear c47
            by_cases c48 : 0≤x6_4
            ·
             rw [if_pos c48] at H
             have c48b0 : decide (0≤x6_4)=true:=decide_eq_true c48;clear c48
             by_cases c49 : x6_4<(l0_0.length : Int)
             ·
              rw [if_pos c49] at H
              have c49b0 : decide (x6_4<(l0_0.length : Int))=true:=decide_eq_true c49;clear c49
              by_cases c50 : ((rd_T67 l0_0 x6_4).f0)=((rd_T67 l0_0 x4_2).f0)
              ·
               rw [if_pos c50] at H
               have c50b0 : (((rd_T67 l0_0 x6_4).f0) == ((rd_T67 l0_0 x4_2).f0))=true:=ya.mpr c50;have c50b1 : (((rd_T67 l0_0 x6_4).f0) != ((rd_T67 l0_0 x4_2).f0))=false:=zX.mpr c50;clear c50;obtain rfl:=zU H
               try go_wp2
               replace BK115:=zh (zf BK115.out);replace BK118:=zh (zf BK118.out);replace BK120:=zh (zf BK120.out);replace HB:=zh (zc HB.out);have p122 : 0≤(x6_4 : Int):=zy jB;have q122 : x6_4<(l0_0.length : Int):=zy jB;obtain ⟨ad122,A122_1,c122_1,e122,hx122_0,hx122_1,hl122_1,hi122_1⟩:=at_T67 HR0_0.out x6_4 p122 q122;have hw122_1:=hx122_1;have hw122_0:=hx122_0;obtain rfl : ad119=ad122:=(by injection e122);replace hx122_0:=(HB.out.cell (zl w _ hx122_0)).trans hx122_0;replace hx122_1:=(HB.out.cell (zl w _ hx122_1)).trans hx122_1;have HR122_1:=zh hi122_1;have HC122_1:=zh hl122_1;clear hi122_1 hl122_1;replace p122:=eq_true p122;replace q122:=eq_true q122;refine start_ (n:=9) (S:=fun w' => w'.cell? ⟨gb115,0,none⟩=some (.slice (some ad119) l0_0.length c0_0)∧w'.cell? ⟨gb115,1,none⟩=some (.int .i64 a0_1)∧w'.cell? ⟨gb120,0,none⟩=some (.int .i64 ((rd_T67 l0_0 x4_2).f0))∧w'.cell? ⟨gb120,1,none⟩=some (.slice A119_1 ((rd_T67 l0_0 x4_2).f1).length c119_1)∧w'.cell? (ad119.add ((x6_4).toNat*2))=some (.int .i64 ((rd_T67 l0_0 x6_4).f0))∧w'.cell? ⟨(ad119.add ((x6_4).toNat*2)).block,(ad119.add ((x6_4).toNat*2)).off+1,none⟩=some (.slice A122_1 ((rd_T67 l0_0 x6_4).f1).length c122_1)) (ds:=[]) (bm_ 0 9) jA rfl rfl ⟨(zz BK115.out 0).trans rfl,(zz BK115.out 1).trans rfl,(zz BK120.out 0).trans rfl,(zz BK120.out 1).trans rfl,((HB.out.cell (zl w _ hw122_0)).trans hw122_0),((HB.out.cell (zl w _ hw122_1)).trans hw122_1)⟩ (fun hHeld=>?_);refine with_tabW F0.tab13 F0.bits13 (fun HT_ HW_=>?_);generalize wr.drew=w51 at BK115 BK118 BK120 HB HR122_1 hx122_0 hx122_1 hHeld ⊢;refine pure_ (i:=0) (N:=some 62) (v:=?_) (a':=?_) (bm_ 1 9) rfl rfl (any_of HT_.out jA) (fun _ _ _ h=>h) (Or.inl ⟨by rfl,?_⟩) ?_ ?_;rotate_left;exact jb;rotate_left;exact jc
               refine pure_ (i:=2) (N:=some 64) (v:=?_) (a':=?_) #[true,false,true,false,false,false,false,false,false] rfl rfl (any_of HT_.out jA) (fun _ _ _ h=>h) (Or.inl ⟨by rfl,?_⟩) ?_ ?_;rotate_left;exact jb;rotate_left;exact jc
               refine pure_ (i:=6) (N:=some 68) (v:=?_) (a':=?_) #[true,false,true,false,false,false,true,false,false] rfl rfl (any_of HT_.out jA) (fun _ _ _ h=>h) (Or.inl ⟨by rfl,?_⟩) ?_ ?_;rotate_left;exact jb;rotate_left;exact jc
               refine take_ (i:=1) (N:=some 63) (v:=?_) (a':=?_) #[true,true,true,false,false,false,true,false,false] rfl rfl (yo HT_.out HW_.out jA) (fun _ _ _ h=>h) (Or.inl ⟨by rfl,?_⟩) hHeld ?_ ?_;rotate_left
               ·
                rintro w' ⟨s0,s1,s2,s3,s4,s5⟩
                go_simp
                with_reducible rfl
               rotate_left
               exact jc
               refine pure_ (i:=3) (N:=some 65) (v:=?_) (a':=?_) #[true,true,true,true,false,false,true,false,false] rfl rfl (any_of HT_.out jA) (fun _ _ _ h=>h) (Or.inl ⟨by rfl,?_⟩) ?_ ?_;rotate_left;exact jb;rotate_left;exact jc
               refine pure_ (i:=4) (N:=some 66) (v:=?_) (a':=?_) #[true,true,true,true,true,false,true,false,false] rfl rfl (any_of HT_.out jA) (fun _ _ _ h=>h) (Or.inl ⟨by rfl,?_⟩) ?_ ?_;rotate_left;exact jb;rotate_left;exact jc
               refine take_ (i:=5) (N:=some 67) (v:=?_) (a':=?_) (bm_ 7 9) rfl rfl (yo HT_.out HW_.out jA) (fun _ _ _ h=>h) (Or.inl ⟨by rfl,?_⟩) hHeld ?_ ?_;rotate_left
               ·
                rintro w' ⟨s0,s1,s2,s3,s4,s5⟩
                go_simp
                with_reducible rfl
               rotate_left
               exact jc
               refine take_ (i:=7) (N:=some 69) (v:=?_) (a':=?_) (bm_ 8 9) rfl rfl (yo HT_.out HW_.out jA) (fun _ _ _ h=>h) (Or.inl ⟨by rfl,?_⟩) hHeld ?_ ?_;rotate_left
               ·
                rintro w' ⟨s0,s1,s2,s3,s4,s5⟩
                go_simp
                with_reducible rfl
               rotate_left
               exact jc
               refine pure_ (i:=8) (N:=some 70) (v:=?_) (a':=?_) (bm_ 9 9) rfl rfl (any_of HT_.out jA) (fun _ _ _ h=>h) (Or.inl ⟨by rfl,?_⟩) ?_ ?_;rotate_left;exact jb;rotate_left;exact jc
               refine done_ (done_of HT_.out jA) ?_
               try go_wp2
               go_ret
               exact ⟨jG,jN⟩
              rw [if_neg c50] at H;have c50b0 : (((rd_T67 l0_0 x6_4).f0) == ((rd_T67 l0_0 x4_2).f0))=false:=zY.mpr c50;have c50b1 : (((rd_T67 l0_0 x6_4).f0) != ((rd_T67 l0_0 x4_2).f0))=true:=zZ.mpr c50;have H':=zh H;clear H
              try go_wp2
              replace BK115:=zh (zf BK115.out);replace BK118:=zh (zf BK118.out);replace BK120:=zh (zf BK120.out);replace HB:=zh (zc HB.out);have p122 : 0≤(x6_4 : Int):=zy jB;have q122 : x6_4<(l0_0.length : Int):=zy jB;obtain ⟨ad122,A122_1,c122_1,e122,hx122_0,hx122_1,hl122_1,hi122_1⟩:=at_T67 HR0_0.out x6_4 p122 q122;have hw122_1:=hx122_1;have hw122_0:=hx122_0;obtain rfl : ad119=ad122:=(by injection e122);replace hx122_0:=(HB.out.cell (zl w _ hx122_0)).trans hx122_0;replace hx122_1:=(HB.out.cell (zl w _ hx122_1)).trans hx122_1;have HR122_1:=zh hi122_1;have HC122_1:=zh hl122_1;clear hi122_1 hl122_1;replace p122:=eq_true p122;replace q122:=eq_true q122;refine start_ (n:=9) (S:=fun w' => w'.cell? ⟨gb115,0,none⟩=some (.slice (some ad119) l0_0.length c0_0)∧w'.cell? ⟨gb115,1,none⟩=some (.int .i64 a0_1)∧w'.cell? ⟨gb120,0,none⟩=some (.int .i64 ((rd_T67 l0_0 x4_2).f0))∧w'.cell? ⟨gb120,1,none⟩=some (.slice A119_1 ((rd_T67 l0_0 x4_2).f1).length c119_1)∧w'.cell? (ad119.add ((x6_4).toNat*2))=some (.int .i64 ((rd_T67 l0_0 x6_4).f0))∧w'.cell? ⟨(ad119.add ((x6_4).toNat*2)).block,(ad119.add ((x6_4).toNat*2)).off+1,none⟩=some (.slice A122_1 ((rd_T67 l0_0 x6_4).f1).length c122_1)) (ds:=[]) (bm_ 0 9) jA rfl rfl ⟨(zz BK115.out 0).trans rfl,(zz BK115.out 1).trans rfl,(zz BK120.out 0).trans rfl,(zz BK120.out 1).trans rfl,((HB.out.cell (zl w _ hw122_0)).trans hw122_0),((HB.out.cell (zl w _ hw122_1)).trans hw122_1)⟩ (fun hHeld=>?_);refine with_tabW F0.tab13 F0.bits13 (fun HT_ HW_=>?_);generalize wr.drew=w52 at BK115 BK118 BK120 HB HR122_1 hx122_0 hx122_1 hHeld ⊢;refine pure_ (i:=0) (N:=some 62) (v:=?_) (a':=?_) (bm_ 1 9) rfl rfl (any_of HT_.out jA) (fun _ _ _ h=>h) (Or.inl ⟨by rfl,?_⟩) ?_ ?_;rotate_left;exact jb;rotate_left;exact jc
              refine pure_ (i:=2) (N:=some 64) (v:=?_) (a':=?_) #[true,false,true,false,false,false,false,false,false] rfl rfl (any_of HT_.out jA) (fun _ _ _ h=>h) (Or.inl ⟨by rfl,?_⟩) ?_ ?_;rotate_left;exact jb;rotate_left;exact jc
              refine pure_ (i:=6) (N:=some 68) (v:=?_) (a':=?_) #[true,false,true,false,false,false,true,false,false] rfl rfl (any_of HT_.out jA) (fun _ _ _ h=>h) (Or.inl ⟨by rfl,?_⟩) ?_ ?_;rotate_left;exact jb;rotate_left;exact jc
              refine take_ (i:=1) (N:=some 63) (v:=?_) (a':=?_) #[true,true,true,false,false,false,true,false,false] rfl rfl (yo HT_.out HW_.out jA) (fun _ _ _ h=>h) (Or.inl ⟨by rfl,?_⟩) hHeld ?_ ?_;rotate_left
              ·
               rintro w' ⟨s0,s1,s2,s3,s4,s5⟩
               go_simp
               with_reducible rfl
              rotate_left
              exact jc
              refine pure_ (i:=3) (N:=some 65) (v:=?_) (a':=?_) #[true,true,true,true,false,false,true,false,false] rfl rfl (any_of HT_.out jA) (fun _ _ _ h=>h) (Or.inl ⟨by rfl,?_⟩) ?_ ?_;rotate_left;exact jb;rotate_left;exact jc
              refine pure_ (i:=4) (N:=some 66) (v:=?_) (a':=?_) #[true,true,true,true,true,false,true,false,false] rfl rfl (any_of HT_.out jA) (fun _ _ _ h=>h) (Or.inl ⟨by rfl,?_⟩) ?_ ?_;rotate_left;exact jb;rotate_left;exact jc
              refine take_ (i:=5) (N:=some 67) (v:=?_) (a':=?_) (bm_ 7 9) rfl rfl (yo HT_.out HW_.out jA) (fun _ _ _ h=>h) (Or.inl ⟨by rfl,?_⟩) hHeld ?_ ?_;rotate_left
              ·
               rintro w' ⟨s0,s1,s2,s3,s4,s5⟩
               go_simp
               with_reducible rfl
              rotate_left
              exact jc
              refine take_ (i:=7) (N:=some 69) (v:=?_) (a':=?_) (bm_ 8 9) rfl rfl (yo HT_.out HW_.out jA) (fun _ _ _ h=>h) (Or.inl ⟨by rfl,?_⟩) hHeld ?_ ?_;rotate_left
              ·
               rintro w' ⟨s0,s1,s2,s3,s4,s5⟩
               go_simp
               with_reducible rfl
              rotate_left
              exact jc
              refine pure_ (i:=8) (N:=some 70) (v:=?_) (a':=?_) (bm_ 9 9) rfl rfl (any_of HT_.out jA) (fun _ _ _ h=>h) (Or.inl ⟨by rfl,?_⟩) ?_ ?_;rotate_left;exact jb;rotate_left;exact jc
              refine done_ (done_of HT_.out jA) ?_
              try go_wp2
              go_roundg k4
              case measure=>have:=HJ1.out;have:=HK2.out;have:=HJ14.out;have:=HK4.out;omega
              case rel=>exact ⟨(wrap64 (x6_4+1)),jD,H',⟨by have:=HJ1.out;have:=HK2.out;have:=HJ14.out;have:=HK4.out;omega⟩,⟨jO⟩,⟨jS⟩,⟨jh⟩,⟨jN⟩⟩
             rw [if_neg c49] at H;exact absurd H (by simp)
            rw [if_neg c48] at H;exact absurd H (by simp)
           rw [if_neg c47] at H;have c47b0 : decide (x6_4<x4_2)=false:=decide_eq_false c47;clear c47;have H':=zh H;clear H
           go_wp2
           go_loopg [7] k4 (fun kq v7 w' => ∃ (x7_5 : Int) (x119000_5 : ByteArray) (x119001_5 : Int),v7 = .int .i64 x7_5∧Aside0 (F0.l2 kq x4_2 x7_5 l0_0 a0_1 x119000_5 x119001_5 ((rd_T67 l0_0 x4_2).f0) ((rd_T67 l0_0 x4_2).f1)=some r)∧Aside0 (kq≤k4)∧Aside0 (w'.heap[gb115]? = some (.cells #[(.slice (some ad119) l0_0.length c0_0),.int .i64 a0_1] 35 (0,0)))∧Aside0 (w'.heap[gb118]? = some (.cells #[.string x119000_5,.int .i64 x119001_5] 51 (0,0)))∧Aside0 (w'.heap[gb120]? = some (.cells #[.int .i64 ((rd_T67 l0_0 x4_2).f0),(.slice A119_1 ((rd_T67 l0_0 x4_2).f1).length c119_1)] 67 (0,0)))∧Aside0 (Below w.heap.size w w'))
           case atStart=>exact ⟨(0),(x119000_2),(x119001_2),jD,H',⟨ye _⟩,⟨jO⟩,⟨jS⟩,⟨jh⟩,⟨jN⟩⟩
           case round =>
            clear H'
            try clear c1
            try clear p1
            try clear q1
            try clear hx1
            try clear c2
            try clear p2
            try clear c3 c4 c5
            try clear p6
            try clear c9 c11
            try clear p11
            try clear q11
            try clear hx11
            try clear c12
            try clear p12
            try clear q12
            try clear hx12
            try clear c13 c13b0 c14 c14b0 c16 c19 c20 c23 c24 c24b0 c24b1 c25 c26 c28 c30 c30b0 c30b1 c30b2 c31 c32 c34 c36 c37 c39 c41 c42 c44 c46 c47 c47b0 c48 c48b0 c49 c49b0 c50 c50b0 c50b1 c51
            try clear hcz12_0 hcz12_1
            try clear hcz17_0 hcz17_1
            try clear hcz21_0 hcz21_1
            try clear hcz27_0 hcz27_1
            try clear hcz29_0 hcz29_1
            try clear hcz33_0 hcz33_1
            try clear hcz35_0 hcz35_1
            try clear hcz38_0 hcz38_1
            try clear hcz40_0 hcz40_1
            try clear hcz43_0 hcz43_1
            try clear hcz45_0 hcz45_1
            try clear hcz7_0 hcz7_1
            try clear hcz8_0 hcz8_1
            try clear hfz12_0 hfz12_1
            try clear hfz17_0 hfz17_1
            try clear hfz21_0 hfz21_1
            try clear hfz27_0 hfz27_1
            try clear hfz29_0 hfz29_1
            try clear hfz33_0 hfz33_1
            try clear hfz35_0 hfz35_1
            try clear hfz38_0 hfz38_1
            try clear hfz40_0 hfz40_1
            try clear hfz43_0 hfz43_1
            try clear hfz45_0 hfz45_1
            try clear hfz7_0 hfz7_1
            try clear hfz8_0 hfz8_1
            try clear hx119_0
            try clear hx119_1
            try clear hx122_0
            try clear hx122_1
            try clear p1
            try clear p11
            try clear p119
            try clear p122
            try clear p2
            try clear p6
            try clear q1
            try clear q11
            try clear q119
            try clear q122
            obtain ⟨x7_5,x119000_5,x119001_5,rfl,HA,HK5,BK115,BK118,BK120,HB⟩:=hrel
            cases gk with
            | zero=>exact absurd HA.out (by simp [F0.l2])
            | succ k5 =>
             have H:=HA.out;clear HA;simp only [F0.l2] at H
             by_cases c53 : x7_5<(((rd_T67 l0_0 x4_2).f1).length : Int)
             ·
              rw [if_pos c53] at H
              have c53b0 : decide (x7_5<(((rd_T67 l0_0 x4_2).f1).length : Int))=true:=decide_eq_true c53;clear c53
              by_cases c54 : 0≤x7_5
              ·
               rw [if_pos c54] at H
               have c54b0 : decide (0≤x7_5)=true:=decide_eq_true c54;clear c54;replace H:=zT.mp H;obtain ⟨t124,A550,H⟩:=H;have A55:=zh A550;clear A550
               by_cases c56 : t124=true
               ·
                subst c56
                rw [if_pos rfl] at H;replace H:=zT.mp H;obtain ⟨t126,A570,H⟩:=H;have A57:=zh A570;clear A570
                by_cases c58 : t126=true
                ·
                 subst c58
                 rw [if_pos rfl] at H;have H':=zh H;clear H;have hnb59:=NB120_115.out;have hnc59:=NB115_120.out;have hnb60:=NB120_118.out;have hnc60:=NB118_120.out;obtain ⟨hcz61_0,hcz61_1,hfz61_0,hfz61_1⟩:=cB2 BK120.out
                 try go_wp2
                 replace BK115:=zh (zf BK115.out);replace BK118:=zh (zf BK118.out);replace BK120:=zh (zf BK120.out);replace HB:=zh (zc HB.out);have p123 : 0≤(x7_5 : Int):=zy jB;have q123 : x7_5<(((rd_T67 l0_0 x4_2).f1).length : Int):=zy jB;obtain ⟨ad123,e123,hx123_0,hx123_1⟩:=at_T51 HR119_1.out x7_5 p123 q123;have hw123_1:=hx123_1;have hw123_0:=hx123_0
                 cases e123
                 replace hx123_0:=(HB.out.cell (zl w _ hx123_0)).trans hx123_0;replace hx123_1:=(HB.out.cell (zl w _ hx123_1)).trans hx123_1;replace p123:=eq_true p123;replace q123:=eq_true q123;have p125 : 0≤(x7_5 : Int):=zy jB;have q125 : x7_5<(((rd_T67 l0_0 x4_2).f1).length : Int):=zy jB;obtain ⟨ad125,e125,hx125_0,hx125_1⟩:=at_T51 HR119_1.out x7_5 p125 q125;have hw125_1:=hx125_1;have hw125_0:=hx125_0;obtain rfl : ad123=ad125:=(by injection e125);replace hx125_0:=(HB.out.cell (zl w _ hx125_0)).trans hx125_0;replace hx125_1:=(HB.out.cell (zl w _ hx125_1)).trans hx125_1;replace p125:=eq_true p125;replace q125:=eq_true q125;refine start_ (n:=17) (S:=fun w' => w'.cell? ⟨gb120,0,none⟩=some (.int .i64 ((rd_T67 l0_0 x4_2).f0))∧w'.cell? ⟨gb120,1,none⟩=some (.slice (some ad123) ((rd_T67 l0_0 x4_2).f1).length c119_1)∧w'.cell? ⟨gb118,0,none⟩=some (.string x119000_5)∧w'.cell? ⟨gb118,1,none⟩=some (.int .i64 x119001_5)∧w'.cell? (ad123.add ((x7_5).toNat*2))=some (.string ((rd_T51 ((rd_T67 l0_0 x4_2).f1) x7_5).f0))∧w'.cell? ⟨(ad123.add ((x7_5).toNat*2)).block,(ad123.add ((x7_5).toNat*2)).off+1,none⟩=some (.int .i64 ((rd_T51 ((rd_T67 l0_0 x4_2).f1) x7_5).f1))∧w'.cell? (ad123.add ((x7_5).toNat*2))=some (.string ((rd_T51 ((rd_T67 l0_0 x4_2).f1) x7_5).f0))∧w'.cell? ⟨(ad123.add ((x7_5).toNat*2)).block,(ad123.add ((x7_5).toNat*2)).off+1,none⟩=some (.int .i64 ((rd_T51 ((rd_T67 l0_0 x4_2).f1) x7_5).f1))) (ds:=[]) (bm_ 0 17) jA rfl rfl ⟨(zz BK120.out 0).trans rfl,(zz BK120.out 1).trans rfl,(zz BK118.out 0).trans rfl,(zz BK118.out 1).trans rfl,((HB.out.cell (zl w _ hw123_0)).trans hw123_0),((HB.out.cell (zl w _ hw123_1)).trans hw123_1),((HB.out.cell (zl w _ hw125_0)).trans hw125_0),((HB.out.cell (zl w _ hw125_1)).trans hw125_1)⟩ (fun hHeld=>?_);refine with_tabW F0.tab18 F0.bits18 (fun HT_ HW_=>?_);generalize wr.drew=w62 at BK115 BK118 BK120 HB hx123_0 hx123_1 hx125_0 hx125_1 hHeld ⊢;refine pure_ (i:=0) (N:=some 78) (v:=?_) (a':=?_) (bm_ 1 17) rfl rfl (any_of HT_.out jA) (fun _ _ _ h=>h) (Or.inl ⟨by rfl,?_⟩) ?_ ?_;rotate_left;exact jb;rotate_left;exact jc
                 refine pure_ (i:=2) (N:=some 80) (v:=?_) (a':=?_) #[true,false,true,false,false,false,false,false,false,false,false,false,false,false,false,false,false] rfl rfl (any_of HT_.out jA) (fun _ _ _ h=>h) (Or.inl ⟨by rfl,?_⟩) ?_ ?_;rotate_left;exact jb;rotate_left;exact jc
                 refine take_ (i:=1) (N:=some 79) (v:=?_) (a':=?_) (bm_ 3 17) rfl rfl (yo HT_.out HW_.out jA) (fun _ _ _ h=>h) (Or.inl ⟨by rfl,?_⟩) hHeld ?_ ?_;rotate_left
                 ·
                  rintro w' ⟨s0,s1,s2,s3,s4,s5,s6,s7⟩
                  go_simp
                  with_reducible rfl
                 rotate_left
                 exact jc
                 refine pure_ (i:=3) (N:=some 81) (v:=?_) (a':=?_) (bm_ 4 17) rfl rfl (any_of HT_.out jA) (fun _ _ _ h=>h) (Or.inl ⟨by rfl,?_⟩) ?_ ?_;rotate_left;exact jb;rotate_left;exact jc
                 refine take_ (i:=4) (N:=some 82) (v:=?_) (a':=?_) (bm_ 5 17) rfl rfl (yo HT_.out HW_.out jA) (fun _ _ _ h=>h) (Or.inl ⟨by rfl,?_⟩) hHeld ?_ ?_;rotate_left
                 ·
                  rintro w' ⟨s0,s1,s2,s3,s4,s5,s6,s7⟩
                  go_simp
                  with_reducible rfl
                 rotate_left
                 exact jc
                 refine one_ (i:=5) (N:=some 83) (bm_ 6 17) rfl rfl (one_of HT_.out jA) jC (fun K hK=>?_);refine goes_ Try.func41 jA rfl #[.agg #[.string ((rd_T51 ((rd_T67 l0_0 x4_2).f1) x7_5).f0),.int .i64 ((rd_T51 ((rd_T67 l0_0 x4_2).f1) x7_5).f1)]] (by rfl) rfl rfl jF ?_
                 with_reducible refine (F08.calls  ((rd_T51 ((rd_T67 l0_0 x4_2).f1) x7_5).f0) ((rd_T51 ((rd_T67 l0_0 x4_2).f1) x7_5).f1) true _ A55.out).mono ?_
                 rintro e w63 ⟨rfl,hb⟩;refine ⟨_,rfl,?_⟩;replace BK115:=zh (cD BK115.out jO hb);replace BK118:=zh (cD BK118.out jS hb);replace BK120:=zh (cD BK120.out jh hb);replace HB:=zh (zC jN hb);(try clear hb);(try clear hb2);(try clear hk);(try clear hi);refine hK.out _ _ ⟨(zz BK120.out 0).trans rfl,(zz BK120.out 1).trans rfl,(zz BK118.out 0).trans rfl,(zz BK118.out 1).trans rfl,((HB.out.cell (zl w _ hw123_0)).trans hw123_0),((HB.out.cell (zl w _ hw123_1)).trans hw123_1),((HB.out.cell (zl w _ hw125_0)).trans hw125_0),((HB.out.cell (zl w _ hw125_1)).trans hw125_1)⟩ (fun hHeld=>?_);clear hK K;refine norm_ (a':=?_) ?_ ?_;rotate_left
                 ·
                  show Act.put _ (some 83) _=_
                  simp only [Act.put,zi,zj,zk,zG,zH]
                  rfl
                 refine pure_ (i:=6) (N:=some 84) (v:=?_) (a':=?_) (bm_ 7 17) rfl rfl (any_of HT_.out jA) (fun _ _ _ h=>h) (Or.inl ⟨by rfl,?_⟩) ?_ ?_;rotate_left;exact jb;rotate_left;exact jc
                 refine pure_ (i:=7) (N:=some 85) (v:=?_) (a':=?_) (bm_ 8 17) rfl rfl (any_of HT_.out jA) (fun _ _ _ h=>h) (Or.inl ⟨by rfl,?_⟩) ?_ ?_;rotate_left;exact jb;rotate_left;exact jc
                 refine pure_ (i:=9) (N:=some 87) (v:=?_) (a':=?_) #[true,true,true,true,true,true,true,true,false,true,false,false,false,false,false,false,false] rfl rfl (any_of HT_.out jA) (fun _ _ _ h=>h) (Or.inl ⟨by rfl,?_⟩) ?_ ?_;rotate_left;exact jb;rotate_left;exact jc
                 refine pure_ (i:=11) (N:=some 89) (v:=?_) (a':=?_) #[true,true,true,true,true,true,true,true,false,true,false,true,false,false,false,false,false] rfl rfl (any_of HT_.out jA) (fun _ _ _ h=>h) (Or.inl ⟨by rfl,?_⟩) ?_ ?_;rotate_left;exact jb;rotate_left;exact jc
                 refine take_ (i:=8) (N:=some 86) (v:=?_) (a':=?_) #[true,true,true,true,true,true,true,true,true,true,false,true,false,false,false,false,false] rfl rfl (yo HT_.out HW_.out jA) (fun _ _ _ h=>h) (Or.inl ⟨by rfl,?_⟩) hHeld ?_ ?_;rotate_left
                 ·
                  rintro w' ⟨s0,s1,s2,s3,s4,s5,s6,s7⟩
                  go_simp
                  with_reducible rfl
                 rotate_left
                 exact jc
                 refine take_ (i:=10) (N:=some 88) (v:=?_) (a':=?_) (bm_ 12 17) rfl rfl (yo HT_.out HW_.out jA) (fun _ _ _ h=>h) (Or.inl ⟨by rfl,?_⟩) hHeld ?_ ?_;rotate_left
                 ·
                  rintro w' ⟨s0,s1,s2,s3,s4,s5,s6,s7⟩
                  go_simp
                  with_reducible rfl
                 rotate_left
                 exact jc
                 refine pure_ (i:=12) (N:=some 90) (v:=?_) (a':=?_) (bm_ 13 17) rfl rfl (any_of HT_.out jA) (fun _ _ _ h=>h) (Or.inl ⟨by rfl,?_⟩) ?_ ?_;rotate_left;exact jb;rotate_left;exact jc
                 refine take_ (i:=13) (N:=some 91) (v:=?_) (a':=?_) (bm_ 14 17) rfl rfl (yo HT_.out HW_.out jA) (fun _ _ _ h=>h) (Or.inl ⟨by rfl,?_⟩) hHeld ?_ ?_;rotate_left
                 ·
                  rintro w' ⟨s0,s1,s2,s3,s4,s5,s6,s7⟩
                  go_simp
                  with_reducible rfl
                 rotate_left
                 exact jc
                 refine one_ (i:=14) (N:=some 92) (bm_ 15 17) rfl rfl (one_of HT_.out jA) jC (fun K hK=>?_);refine goes_ Try.func52 jA rfl #[.agg #[.string x119000_5,.int .i64 x119001_5],.agg #[.string ((rd_T51 ((rd_T67 l0_0 x4_2).f1) x7_5).f0),.int .i64 ((rd_T51 ((rd_T67 l0_0 x4_2).f1) x7_5).f1)]] (by rfl) rfl rfl jF ?_
                 with_reducible refine (F0a.calls  x119000_5 x119001_5 ((rd_T51 ((rd_T67 l0_0 x4_2).f1) x7_5).f0) ((rd_T51 ((rd_T67 l0_0 x4_2).f1) x7_5).f1) true _ A57.out).mono ?_
                 rintro e w64 ⟨rfl,hb⟩;refine ⟨_,rfl,?_⟩;replace BK115:=zh (cD BK115.out jO hb);replace BK118:=zh (cD BK118.out jS hb);replace BK120:=zh (cD BK120.out jh hb);replace HB:=zh (zC jN hb);(try clear hb);(try clear hb2);(try clear hk);(try clear hi);refine hK.out _ _ ⟨(zz BK120.out 0).trans rfl,(zz BK120.out 1).trans rfl,(zz BK118.out 0).trans rfl,(zz BK118.out 1).trans rfl,((HB.out.cell (zl w _ hw123_0)).trans hw123_0),((HB.out.cell (zl w _ hw123_1)).trans hw123_1),((HB.out.cell (zl w _ hw125_0)).trans hw125_0),((HB.out.cell (zl w _ hw125_1)).trans hw125_1)⟩ (fun hHeld=>?_);clear hK K;refine norm_ (a':=?_) ?_ ?_;rotate_left
                 ·
                  show Act.put _ (some 92) _=_
                  simp only [Act.put,zi,zj,zk,zG,zH]
                  rfl
                 refine pure_ (i:=15) (N:=some 93) (v:=?_) (a':=?_) (bm_ 16 17) rfl rfl (any_of HT_.out jA) (fun _ _ _ h=>h) (Or.inl ⟨by rfl,?_⟩) ?_ ?_;rotate_left;exact jb;rotate_left;exact jc
                 refine pure_ (i:=16) (N:=some 94) (v:=?_) (a':=?_) (bm_ 17 17) rfl rfl (any_of HT_.out jA) (fun _ _ _ h=>h) (Or.inl ⟨by rfl,?_⟩) ?_ ?_;rotate_left;exact jb;rotate_left;exact jc
                 refine done_ (done_of HT_.out jA) ?_;obtain ⟨hcz65_0,hcz65_1,hfz65_0,hfz65_1⟩:=cB2 BK120.out;have p127 : 0≤(x7_5 : Int):=zy jB;have q127 : x7_5<(((rd_T67 l0_0 x4_2).f1).length : Int):=zy jB;obtain ⟨ad127,e127,hx127_0,hx127_1⟩:=at_T51 HR119_1.out x7_5 p127 q127;obtain rfl : ad123=ad127:=(by injection e127);replace hx127_0:=(HB.out.cell (zl w _ hx127_0)).trans hx127_0;replace hx127_1:=(HB.out.cell (zl w _ hx127_1)).trans hx127_1;replace p127:=eq_true p127;replace q127:=eq_true q127;have hnb66:=NB118_115.out;have hnc66:=NB115_118.out;obtain ⟨hcz67_0,hcz67_1,hfz67_0,hfz67_1⟩:=cB2 BK118.out
                 try go_wp2
                 go_roundg k5
                 case measure=>have:=HJ1.out;have:=HK2.out;have:=HJ14.out;have:=HK4.out;have:=HK5.out;omega
                 case rel=>exact ⟨(wrap64 (x7_5+1)),((rd_T51 ((rd_T67 l0_0 x4_2).f1) x7_5).f0),((rd_T51 ((rd_T67 l0_0 x4_2).f1) x7_5).f1),jD,H',⟨jBL⟩,⟨jBK⟩,⟨by (with_reducible repeat first|apply ze|apply zf|apply zg);refine zL (cs:=#[.string ((rd_T51 ((rd_T67 l0_0 x4_2).f1) x7_5).f0),.int .i64 x119001_5]) ?_ 1 _ rfl;(with_reducible repeat first|apply ze|apply zf|apply zg);refine zL (cs:=#[.string x119000_5,.int .i64 x119001_5]) ?_ 0 _ rfl;(with_reducible repeat first|apply ze|apply zf|apply zg);exact BK118.out⟩,⟨by (with_reducible repeat first|apply ze|apply zf|apply zg);refine cS2 ?_ NB120_118.out;(with_reducible repeat first|apply ze|apply zf|apply zg);exact BK120.out⟩,⟨jN⟩⟩
                replace c58:=yb.mpr c58;subst c58;rw [if_neg (show ¬ (false=true) by decide)] at H;obtain rfl:=zU H;have hnb68:=NB120_115.out;have hnc68:=NB115_120.out;have hnb69:=NB120_118.out;have hnc69:=NB118_120.out;obtain ⟨hcz70_0,hcz70_1,hfz70_0,hfz70_1⟩:=cB2 BK120.out
                try go_wp2
                replace BK115:=zh (zf BK115.out);replace BK118:=zh (zf BK118.out);replace BK120:=zh (zf BK120.out);replace HB:=zh (zc HB.out);have p123 : 0≤(x7_5 : Int):=zy jB;have q123 : x7_5<(((rd_T67 l0_0 x4_2).f1).length : Int):=zy jB;obtain ⟨ad123,e123,hx123_0,hx123_1⟩:=at_T51 HR119_1.out x7_5 p123 q123;have hw123_1:=hx123_1;have hw123_0:=hx123_0
                cases e123
                replace hx123_0:=(HB.out.cell (zl w _ hx123_0)).trans hx123_0;replace hx123_1:=(HB.out.cell (zl w _ hx123_1)).trans hx123_1;replace p123:=eq_true p123;replace q123:=eq_true q123;have p125 : 0≤(x7_5 : Int):=zy jB;have q125 : x7_5<(((rd_T67 l0_0 x4_2).f1).length : Int):=zy jB;obtain ⟨ad125,e125,hx125_0,hx125_1⟩:=at_T51 HR119_1.out x7_5 p125 q125;have hw125_1:=hx125_1;have hw125_0:=hx125_0;obtain rfl : ad123=ad125:=(by injection e125);replace hx125_0:=(HB.out.cell (zl w _ hx125_0)).trans hx125_0;replace hx125_1:=(HB.out.cell (zl w _ hx125_1)).trans hx125_1;replace p125:=eq_true p125;replace q125:=eq_true q125;refine start_ (n:=17) (S:=fun w' => w'.cell? ⟨gb120,0,none⟩=some (.int .i64 ((rd_T67 l0_0 x4_2).f0))∧w'.cell? ⟨gb120,1,none⟩=some (.slice (some ad123) ((rd_T67 l0_0 x4_2).f1).length c119_1)∧w'.cell? ⟨gb118,0,none⟩=some (.string x119000_5)∧w'.cell? ⟨gb118,1,none⟩=some (.int .i64 x119001_5)∧w'.cell? (ad123.add ((x7_5).toNat*2))=some (.string ((rd_T51 ((rd_T67 l0_0 x4_2).f1) x7_5).f0))∧w'.cell? ⟨(ad123.add ((x7_5).toNat*2)).block,(ad123.add ((x7_5).toNat*2)).off+1,none⟩=some (.int .i64 ((rd_T51 ((rd_T67 l0_0 x4_2).f1) x7_5).f1))∧w'.cell? (ad123.add ((x7_5).toNat*2))=some (.string ((rd_T51 ((rd_T67 l0_0 x4_2).f1) x7_5).f0))∧w'.cell? ⟨(ad123.add ((x7_5).toNat*2)).block,(ad123.add ((x7_5).toNat*2)).off+1,none⟩=some (.int .i64 ((rd_T51 ((rd_T67 l0_0 x4_2).f1) x7_5).f1))) (ds:=[]) (bm_ 0 17) jA rfl rfl ⟨(zz BK120.out 0).trans rfl,(zz BK120.out 1).trans rfl,(zz BK118.out 0).trans rfl,(zz BK118.out 1).trans rfl,((HB.out.cell (zl w _ hw123_0)).trans hw123_0),((HB.out.cell (zl w _ hw123_1)).trans hw123_1),((HB.out.cell (zl w _ hw125_0)).trans hw125_0),((HB.out.cell (zl w _ hw125_1)).trans hw125_1)⟩ (fun hHeld=>?_);refine with_tabW F0.tab18 F0.bits18 (fun HT_ HW_=>?_);generalize wr.drew=w71 at BK115 BK118 BK120 HB hx123_0 hx123_1 hx125_0 hx125_1 hHeld ⊢;refine pure_ (i:=0) (N:=some 78) (v:=?_) (a':=?_) (bm_ 1 17) rfl rfl (any_of HT_.out jA) (fun _ _ _ h=>h) (Or.inl ⟨by rfl,?_⟩) ?_ ?_;rotate_left;exact jb;rotate_left;exact jc
                refine pure_ (i:=2) (N:=some 80) (v:=?_) (a':=?_) #[true,false,true,false,false,false,false,false,false,false,false,false,false,false,false,false,false] rfl rfl (any_of HT_.out jA) (fun _ _ _ h=>h) (Or.inl ⟨by rfl,?_⟩) ?_ ?_;rotate_left;exact jb;rotate_left;exact jc
                refine take_ (i:=1) (N:=some 79) (v:=?_) (a':=?_) (bm_ 3 17) rfl rfl (yo HT_.out HW_.out jA) (fun _ _ _ h=>h) (Or.inl ⟨by rfl,?_⟩) hHeld ?_ ?_;rotate_left
                ·
                 rintro w' ⟨s0,s1,s2,s3,s4,s5,s6,s7⟩
                 go_simp
                 with_reducible rfl
                rotate_left
                exact jc
                refine pure_ (i:=3) (N:=some 81) (v:=?_) (a':=?_) (bm_ 4 17) rfl rfl (any_of HT_.out jA) (fun _ _ _ h=>h) (Or.inl ⟨by rfl,?_⟩) ?_ ?_;rotate_left;exact jb;rotate_left;exact jc
                refine take_ (i:=4) (N:=some 82) (v:=?_) (a':=?_) (bm_ 5 17) rfl rfl (yo HT_.out HW_.out jA) (fun _ _ _ h=>h) (Or.inl ⟨by rfl,?_⟩) hHeld ?_ ?_;rotate_left
                ·
                 rintro w' ⟨s0,s1,s2,s3,s4,s5,s6,s7⟩
                 go_simp
                 with_reducible rfl
                rotate_left
                exact jc
                refine one_ (i:=5) (N:=some 83) (bm_ 6 17) rfl rfl (one_of HT_.out jA) jC (fun K hK=>?_);refine goes_ Try.func41 jA rfl #[.agg #[.string ((rd_T51 ((rd_T67 l0_0 x4_2).f1) x7_5).f0),.int .i64 ((rd_T51 ((rd_T67 l0_0 x4_2).f1) x7_5).f1)]] (by rfl) rfl rfl jF ?_
                with_reducible refine (F08.calls  ((rd_T51 ((rd_T67 l0_0 x4_2).f1) x7_5).f0) ((rd_T51 ((rd_T67 l0_0 x4_2).f1) x7_5).f1) true _ A55.out).mono ?_
                rintro e w72 ⟨rfl,hb⟩;refine ⟨_,rfl,?_⟩;replace BK115:=zh (cD BK115.out jO hb);replace BK118:=zh (cD BK118.out jS hb);replace BK120:=zh (cD BK120.out jh hb);replace HB:=zh (zC jN hb);(try clear hb);(try clear hb2);(try clear hk);(try clear hi);refine hK.out _ _ ⟨(zz BK120.out 0).trans rfl,(zz BK120.out 1).trans rfl,(zz BK118.out 0).trans rfl,(zz BK118.out 1).trans rfl,((HB.out.cell (zl w _ hw123_0)).trans hw123_0),((HB.out.cell (zl w _ hw123_1)).trans hw123_1),((HB.out.cell (zl w _ hw125_0)).trans hw125_0),((HB.out.cell (zl w _ hw125_1)).trans hw125_1)⟩ (fun hHeld=>?_);clear hK K;refine norm_ (a':=?_) ?_ ?_;rotate_left
                ·
                 show Act.put _ (some 83) _=_
                 simp only [Act.put,zi,zj,zk,zG,zH]
                 rfl
                refine pure_ (i:=6) (N:=some 84) (v:=?_) (a':=?_) (bm_ 7 17) rfl rfl (any_of HT_.out jA) (fun _ _ _ h=>h) (Or.inl ⟨by rfl,?_⟩) ?_ ?_;rotate_left;exact jb;rotate_left;exact jc
                refine pure_ (i:=7) (N:=some 85) (v:=?_) (a':=?_) (bm_ 8 17) rfl rfl (any_of HT_.out jA) (fun _ _ _ h=>h) (Or.inl ⟨by rfl,?_⟩) ?_ ?_;rotate_left;exact jb;rotate_left;exact jc
                refine pure_ (i:=9) (N:=some 87) (v:=?_) (a':=?_) #[true,true,true,true,true,true,true,true,false,true,false,false,false,false,false,false,false] rfl rfl (any_of HT_.out jA) (fun _ _ _ h=>h) (Or.inl ⟨by rfl,?_⟩) ?_ ?_;rotate_left;exact jb;rotate_left;exact jc
                refine pure_ (i:=11) (N:=some 89) (v:=?_) (a':=?_) #[true,true,true,true,true,true,true,true,false,true,false,true,false,false,false,false,false] rfl rfl (any_of HT_.out jA) (fun _ _ _ h=>h) (Or.inl ⟨by rfl,?_⟩) ?_ ?_;rotate_left;exact jb;rotate_left;exact jc
                refine take_ (i:=8) (N:=some 86) (v:=?_) (a':=?_) #[true,true,true,true,true,true,true,true,true,true,false,true,false,false,false,false,false] rfl rfl (yo HT_.out HW_.out jA) (fun _ _ _ h=>h) (Or.inl ⟨by rfl,?_⟩) hHeld ?_ ?_;rotate_left
                ·
                 rintro w' ⟨s0,s1,s2,s3,s4,s5,s6,s7⟩
                 go_simp
                 with_reducible rfl
                rotate_left
                exact jc
                refine take_ (i:=10) (N:=some 88) (v:=?_) (a':=?_) (bm_ 12 17) rfl rfl (yo HT_.out HW_.out jA) (fun _ _ _ h=>h) (Or.inl ⟨by rfl,?_⟩) hHeld ?_ ?_;rotate_left
                ·
                 rintro w' ⟨s0,s1,s2,s3,s4,s5,s6,s7⟩
                 go_simp
                 with_reducible rfl
                rotate_left
                exact jc
                refine pure_ (i:=12) (N:=some 90) (v:=?_) (a':=?_) (bm_ 13 17) rfl rfl (any_of HT_.out jA) (fun _ _ _ h=>h) (Or.inl ⟨by rfl,?_⟩) ?_ ?_;rotate_left;exact jb;rotate_left;exact jc
                refine take_ (i:=13) (N:=some 91) (v:=?_) (a':=?_) (bm_ 14 17) rfl rfl (yo HT_.out HW_.out jA) (fun _ _ _ h=>h) (Or.inl ⟨by rfl,?_⟩) hHeld ?_ ?_;rotate_left
                ·
                 rintro w' ⟨s0,s1,s2,s3,s4,s5,s6,s7⟩
                 go_simp
                 with_reducible rfl
                rotate_left
                exact jc
                refine one_ (i:=14) (N:=some 92) (bm_ 15 17) rfl rfl (one_of HT_.out jA) jC (fun K hK=>?_);refine goes_ Try.func52 jA rfl #[.agg #[.string x119000_5,.int .i64 x119001_5],.agg #[.string ((rd_T51 ((rd_T67 l0_0 x4_2).f1) x7_5).f0),.int .i64 ((rd_T51 ((rd_T67 l0_0 x4_2).f1) x7_5).f1)]] (by rfl) rfl rfl jF ?_
                with_reducible refine (F0a.calls  x119000_5 x119001_5 ((rd_T51 ((rd_T67 l0_0 x4_2).f1) x7_5).f0) ((rd_T51 ((rd_T67 l0_0 x4_2).f1) x7_5).f1) false _ A57.out).mono ?_
                rintro e w73 ⟨rfl,hb⟩;refine ⟨_,rfl,?_⟩;replace BK115:=zh (cD BK115.out jO hb);replace BK118:=zh (cD BK118.out jS hb);replace BK120:=zh (cD BK120.out jh hb);replace HB:=zh (zC jN hb);(try clear hb);(try clear hb2);(try clear hk);(try clear hi);refine hK.out _ _ ⟨(zz BK120.out 0).trans rfl,(zz BK120.out 1).trans rfl,(zz BK118.out 0).trans rfl,(zz BK118.out 1).trans rfl,((HB.out.cell (zl w _ hw123_0)).trans hw123_0),((HB.out.cell (zl w _ hw123_1)).trans hw123_1),((HB.out.cell (zl w _ hw125_0)).trans hw125_0),((HB.out.cell (zl w _ hw125_1)).trans hw125_1)⟩ (fun hHeld=>?_);clear hK K;refine norm_ (a':=?_) ?_ ?_;rotate_left
                ·
                 show Act.put _ (some 92) _=_
                 simp only [Act.put,zi,zj,zk,zG,zH]
                 rfl
                refine pure_ (i:=15) (N:=some 93) (v:=?_) (a':=?_) (bm_ 16 17) rfl rfl (any_of HT_.out jA) (fun _ _ _ h=>h) (Or.inl ⟨by rfl,?_⟩) ?_ ?_;rotate_left;exact jb;rotate_left;exact jc
                refine pure_ (i:=16) (N:=some 94) (v:=?_) (a':=?_) (bm_ 17 17) rfl rfl (any_of HT_.out jA) (fun _ _ _ h=>h) (Or.inl ⟨by rfl,?_⟩) ?_ ?_;rotate_left;exact jb;rotate_left;exact jc
                refine done_ (done_of HT_.out jA) ?_
                try go_wp2
                go_ret
                exact ⟨jG,jN⟩
               replace c56:=yb.mpr c56;subst c56;rw [if_neg (show ¬ (false=true) by decide)] at H;obtain rfl:=zU H;have hnb74:=NB120_115.out;have hnc74:=NB115_120.out;have hnb75:=NB120_118.out;have hnc75:=NB118_120.out;obtain ⟨hcz76_0,hcz76_1,hfz76_0,hfz76_1⟩:=cB2 BK120.out
               try go_wp2
               replace BK115:=zh (zf BK115.out);replace BK118:=zh (zf BK118.out);replace BK120:=zh (zf BK120.out);replace HB:=zh (zc HB.out);have p123 : 0≤(x7_5 : Int):=zy jB;have q123 : x7_5<(((rd_T67 l0_0 x4_2).f1).length : Int):=zy jB;obtain ⟨ad123,e123,hx123_0,hx123_1⟩:=at_T51 HR119_1.out x7_5 p123 q123;have hw123_1:=hx123_1;have hw123_0:=hx123_0
               cases e123
               replace hx123_0:=(HB.out.cell (zl w _ hx123_0)).trans hx123_0;replace hx123_1:=(HB.out.cell (zl w _ hx123_1)).trans hx123_1;replace p123:=eq_true p123;replace q123:=eq_true q123;refine start_ (n:=17) (S:=fun w' => w'.cell? ⟨gb120,0,none⟩=some (.int .i64 ((rd_T67 l0_0 x4_2).f0))∧w'.cell? ⟨gb120,1,none⟩=some (.slice (some ad123) ((rd_T67 l0_0 x4_2).f1).length c119_1)∧w'.cell? (ad123.add ((x7_5).toNat*2))=some (.string ((rd_T51 ((rd_T67 l0_0 x4_2).f1) x7_5).f0))∧w'.cell? ⟨(ad123.add ((x7_5).toNat*2)).block,(ad123.add ((x7_5).toNat*2)).off+1,none⟩=some (.int .i64 ((rd_T51 ((rd_T67 l0_0 x4_2).f1) x7_5).f1))) (ds:=[]) (bm_ 0 17) jA rfl rfl ⟨(zz BK120.out 0).trans rfl,(zz BK120.out 1).trans rfl,((HB.out.cell (zl w _ hw123_0)).trans hw123_0),((HB.out.cell (zl w _ hw123_1)).trans hw123_1)⟩ (fun hHeld=>?_);refine with_tabW F0.tab18 F0.bits18 (fun HT_ HW_=>?_);generalize wr.drew=w77 at BK115 BK118 BK120 HB hx123_0 hx123_1 hHeld ⊢;refine pure_ (i:=0) (N:=some 78) (v:=?_) (a':=?_) (bm_ 1 17) rfl rfl (any_of HT_.out jA) (fun _ _ _ h=>h) (Or.inl ⟨by rfl,?_⟩) ?_ ?_;rotate_left;exact jb;rotate_left;exact jc
               refine pure_ (i:=2) (N:=some 80) (v:=?_) (a':=?_) #[true,false,true,false,false,false,false,false,false,false,false,false,false,false,false,false,false] rfl rfl (any_of HT_.out jA) (fun _ _ _ h=>h) (Or.inl ⟨by rfl,?_⟩) ?_ ?_;rotate_left;exact jb;rotate_left;exact jc
               refine take_ (i:=1) (N:=some 79) (v:=?_) (a':=?_) (bm_ 3 17) rfl rfl (yo HT_.out HW_.out jA) (fun _ _ _ h=>h) (Or.inl ⟨by rfl,?_⟩) hHeld ?_ ?_;rotate_left
               ·
                rintro w' ⟨s0,s1,s2,s3⟩
                go_simp
                with_reducible rfl
               rotate_left
               exact jc
               refine pure_ (i:=3) (N:=some 81) (v:=?_) (a':=?_) (bm_ 4 17) rfl rfl (any_of HT_.out jA) (fun _ _ _ h=>h) (Or.inl ⟨by rfl,?_⟩) ?_ ?_;rotate_left;exact jb;rotate_left;exact jc
               refine take_ (i:=4) (N:=some 82) (v:=?_) (a':=?_) (bm_ 5 17) rfl rfl (yo HT_.out HW_.out jA) (fun _ _ _ h=>h) (Or.inl ⟨by rfl,?_⟩) hHeld ?_ ?_;rotate_left
               ·
                rintro w' ⟨s0,s1,s2,s3⟩
                go_simp
                with_reducible rfl
               rotate_left
               exact jc
               refine one_ (i:=5) (N:=some 83) (bm_ 6 17) rfl rfl (one_of HT_.out jA) jC (fun K hK=>?_);refine goes_ Try.func41 jA rfl #[.agg #[.string ((rd_T51 ((rd_T67 l0_0 x4_2).f1) x7_5).f0),.int .i64 ((rd_T51 ((rd_T67 l0_0 x4_2).f1) x7_5).f1)]] (by rfl) rfl rfl jF ?_
               with_reducible refine (F08.calls  ((rd_T51 ((rd_T67 l0_0 x4_2).f1) x7_5).f0) ((rd_T51 ((rd_T67 l0_0 x4_2).f1) x7_5).f1) false _ A55.out).mono ?_
               rintro e w78 ⟨rfl,hb⟩;refine ⟨_,rfl,?_⟩;replace BK115:=zh (cD BK115.out jO hb);replace BK118:=zh (cD BK118.out jS hb);replace BK120:=zh (cD BK120.out jh hb);replace HB:=zh (zC jN hb);(try clear hb);(try clear hb2);(try clear hk);(try clear hi);refine hK.out _ _ ⟨(zz BK120.out 0).trans rfl,(zz BK120.out 1).trans rfl,((HB.out.cell (zl w _ hw123_0)).trans hw123_0),((HB.out.cell (zl w _ hw123_1)).trans hw123_1)⟩ (fun hHeld=>?_);clear hK K;refine norm_ (a':=?_) ?_ ?_;rotate_left
               ·
                show Act.put _ (some 83) _=_
                simp only [Act.put,zi,zj,zk,zG,zH]
                rfl
               refine pure_ (i:=6) (N:=some 84) (v:=?_) (a':=?_) (bm_ 7 17) rfl rfl (any_of HT_.out jA) (fun _ _ _ h=>h) (Or.inl ⟨by rfl,?_⟩) ?_ ?_;rotate_left;exact jb;rotate_left;exact jc
               refine pure_ (i:=7) (N:=some 85) (v:=?_) (a':=?_) (bm_ 8 17) rfl rfl (any_of HT_.out jA) (fun _ _ _ h=>h) (Or.inl ⟨by rfl,?_⟩) ?_ ?_;rotate_left;exact jb;rotate_left;exact jc
               refine pure_ (i:=8) (N:=some 86) (v:=undef) (a':=?_) (bm_ 9 17) rfl rfl (any_of HT_.out jA) (fun _ _ _ h=>h) (Or.inr ⟨by rfl,rfl⟩) ?_ ?_;rotate_left
               exact jc
               refine pure_ (i:=9) (N:=some 87) (v:=undef) (a':=?_) (bm_ 10 17) rfl rfl (any_of HT_.out jA) (fun _ _ _ h=>h) (Or.inr ⟨by rfl,rfl⟩) ?_ ?_;rotate_left
               exact jc
               refine pure_ (i:=10) (N:=some 88) (v:=undef) (a':=?_) (bm_ 11 17) rfl rfl (any_of HT_.out jA) (fun _ _ _ h=>h) (Or.inr ⟨by rfl,rfl⟩) ?_ ?_;rotate_left
               exact jc
               refine pure_ (i:=11) (N:=some 89) (v:=undef) (a':=?_) (bm_ 12 17) rfl rfl (any_of HT_.out jA) (fun _ _ _ h=>h) (Or.inr ⟨by rfl,rfl⟩) ?_ ?_;rotate_left
               exact jc
               refine pure_ (i:=12) (N:=some 90) (v:=undef) (a':=?_) (bm_ 13 17) rfl rfl (any_of HT_.out jA) (fun _ _ _ h=>h) (Or.inr ⟨by rfl,rfl⟩) ?_ ?_;rotate_left
               exact jc
               refine pure_ (i:=13) (N:=some 91) (v:=undef) (a':=?_) (bm_ 14 17) rfl rfl (any_of HT_.out jA) (fun _ _ _ h=>h) (Or.inr ⟨by rfl,rfl⟩) ?_ ?_;rotate_left
               exact jc
               refine pure_ (i:=14) (N:=some 92) (v:=undef) (a':=?_) (bm_ 15 17) rfl rfl (any_of HT_.out jA) (fun _ _ _ h=>h) (Or.inr ⟨by rfl,rfl⟩) ?_ ?_;rotate_left
               exact jc
               refine pure_ (i:=15) (N:=some 93) (v:=undef) (a':=?_) (bm_ 16 17) rfl rfl (any_of HT_.out jA) (fun _ _ _ h=>h) (Or.inr ⟨by rfl,rfl⟩) ?_ ?_;rotate_left
               exact jc
               refine pure_ (i:=16) (N:=some 94) (v:=?_) (a':=?_) (bm_ 17 17) rfl rfl (any_of HT_.out jA) (fun _ _ _ h=>h) (Or.inl ⟨by rfl,?_⟩) ?_ ?_;rotate_left;exact jb;rotate_left;exact jc
               refine done_ (done_of HT_.out jA) ?_
               try go_wp2
               go_ret
               exact ⟨jG,jN⟩
              rw [if_neg c54] at H;exact absurd H (by simp)
             rw [if_neg c53] at H;have c53b0 : decide (x7_5<(((rd_T67 l0_0 x4_2).f1).length : Int))=false:=decide_eq_false c53;clear c53;have H':=zh H;clear H;have hnb79:=NB120_115.out;have hnc79:=NB115_120.out;have hnb80:=NB120_118.out;have hnc80:=NB118_120.out;obtain ⟨hcz81_0,hcz81_1,hfz81_0,hfz81_1⟩:=cB2 BK120.out
             go_wp2
             go_roundg k5
             case measure=>have:=HJ1.out;have:=HK2.out;have:=HJ14.out;have:=HK4.out;have:=HK5.out;omega
             case rel=>exact ⟨(wrap64 (x4_2+1)),(x119000_5),(x119001_5),jD,H',⟨jBL⟩,⟨jO⟩,⟨jS⟩,⟨jN⟩⟩
      rw [if_neg c14] at H;exact absurd H (by simp)
     rw [if_neg c13] at H;have c13b0 : decide (x4_2<(l0_0.length : Int))=false:=decide_eq_false c13;clear c13;obtain rfl:=zU H;have hnb82:=NB115_118.out;have hnc82:=NB118_115.out;obtain ⟨hcz83_0,hcz83_1,hfz83_0,hfz83_1⟩:=cB2 BK115.out
     go_wp2
     go_ret
     exact ⟨jG,jAv⟩

end Go.Proofs.Ytamikhmpfmgofaa.Q
end
section
namespace Go.Proofs.Ytamikhmpfmgofaa.Q
open Go.RowKit Go.Proofs.YtamikhmpfmgofaaW.PrintWords Go.Proofs.YtamikhmpfmgofaaW.PrintLast Go.Proofs.YtamikhmpfmgofaaW.PrintMore
attribute [local go_sem] max2_int min2_int max_two min_two max_three min_three max_four min_four max2_str min2_str str_geq str_gtr str_leq
set_option linter.unusedVariables false
set_option linter.unusedSimpArgs false

def F7.l0 : Nat→List (S67)→Int→List (S67)→Int→Option ((List (S67))×Int)
 | 0,_,_,_,_=>none
 | k+1,x3,x4,x388000,x388001=>if x4<(x388000.length : Int) then (if 0≤x4 then ((some (([] : List (S51)) : List (S51))).bind fun y393=>(if y393.length+((rd_T67 x388000 x4).f1).length<5864062014805 then (if x3.length<4398046511104 then (F7.l0 k (x3 ++ [(⟨(rd_T67 x388000 x4).f0,(y393++((rd_T67 x388000 x4).f1))⟩ : S67)]) (wrap64 (x4+1)) x388000 x388001) else (none)) else (none))) else (none)) else (some (x3,x388001))
def F7.f (k : Nat) (l0_0 : List (S67)) (a0_1 : Int) : Option ((List (S67))×Int):=F7.l0 k (([] : List (S67))) 0 l0_0 a0_1
theorem F7.mono_l : ∀ k,(∀ y0 y1 y2 y3,LeO (F7.l0 k y0 y1 y2 y3) (F7.l0 (k+1) y0 y1 y2 y3))
 | 0=>fun _ _ _ _ r h=>by simp [F7.l0] at h
 | k+1=>by
  have ih0:=F7.mono_l k;intro y0 y1 y2 y3;unfold F7.l0
  repeat' first|(with_reducible first|exact ih0 _ _ _ _|exact zQ _|exact zN _|refine zP ?_ ?_|refine zO ?_ (fun _=>?_))|refine zP ?_ ?_|refine zO ?_ (fun _=>?_)
theorem F7.mono : ∀ a0 a1 k,LeO (F7.f k a0 a1) (F7.f (k+1) a0 a1):=by
 intro a0 a1 k;have ih0:=F7.mono_l k;unfold F7.f
 repeat' first|(with_reducible first|exact ih0 _ _ _ _|exact zQ _|exact zN _|refine zP ?_ ?_|refine zO ?_ (fun _=>?_))|refine zP ?_ ?_|refine zO ?_ (fun _=>?_)
def F7.T5 : Bool×List (List Nat×List Nat):=(true,[([],[]),([],[]),([1],[1]),([],[]),([2,3],[2,3]),([4],[4]),([5],[5]),([],[]),([],[]),([8],[8]),([],[]),([9,10],[9,10]),([11],[11]),([12],[12]),([7,13],[7,13]),([6,14],[6,14]),([15],[15]),([0,16,14],[0,16]),([17,17,0,1,2,3,4,5,6,7,8,9,10,11,12,13,14,15,16,17],[0,17])])
def F7.B5 : List Nat:=[0,0,2,0,14,30,62,0,0,256,0,1792,3840,7936,16256,32766,65534,131071,262143]
theorem F7.tab5 : rtab .any (opsOf Try.f43 5)=F7.T5:=by kernel_rfl
theorem F7.bits5 : waitsOk F7.T5.2 F7.B5=true:=by kernel_rfl
set_option maxHeartbeats 8000000 in
set_option maxRecDepth 100000 in
theorem F7.calls (k : Nat) (A0_0 : Option Addr) (c0_0 : Nat) (l0_0 : List (S67)) (a0_1 : Int) (r1 : List (S67)) (r2 : Int) (w : World) (hr0_0 : Kd.C k67 w A0_0 l0_0.length l0_0) (hc0_0 : l0_0.length≤c0_0) (h : F7.f k l0_0 a0_1=some (r1,r2)) :
  Calls Try.prog 43 #[.agg #[.slice A0_0 l0_0.length c0_0,.int .i64 a0_1]] w fun e w' => ∃ v0_ : Value,e = .returned (.agg #[v0_,.int .i64 r2])∧Kd.S k67 67 w' w.heap.size (fun _=>True) v0_ r1∧Below w.heap.size w w':=by
 have hu35:=Try.underlying35;have hu67:=Try.underlying67;have HR0_0:=zh hr0_0;have HC0_0:=zh hc0_0;clear hr0_0 hc0_0;have HB:=zh (Below.refl w.heap.size w);have H : (F7.l0 k (([] : List (S67))) 0 l0_0 a0_1)=some (r1,r2):=h;clear h;obtain ⟨y389,hy389⟩ : ∃ y_ : List (S67),y_=(([] : List (S67))):=⟨_,rfl⟩;replace H : (F7.l0 k y389 0 l0_0 a0_1)=some (r1,r2):=by first|(rw [hy389];with_reducible exact H)|(have H2_:=(Option.bind_some _ _).symm.trans H;rw [hy389];with_reducible exact H2_)|(have H2_:=(Option.bind_some _ _).symm.trans H;with_reducible exact H2_)|with_reducible exact H|(rw [hy389];exact H)|exact H
 have Ny389:=zh hy389;clear hy389;have H':=zh H;clear H
 go_enter Try.func43,Try.ntmps43
 go_wp2_with (first|((with_reducible refine zK (N:=1) rfl ?_);refine zI ?hg (N:=1) ?hd (cs:=#[.slice A0_0 l0_0.length c0_0,.int .i64 a0_1]) (t:=35) ?hr ?_;(case hd=>rfl);(case hg=>rfl);(case hr=>go_simp <;> rfl);intro gb387 hg w2 hbox hb;have BK387:=zh (hbox);have hH_:=cH jE hb hg;have GW387:=zh hH_.1;have GE387:=GW387;replace HB:=zh hH_.2;clear hb hbox hg hH_)|((with_reducible refine zK (N:=2) rfl ?_);refine zI ?hg (N:=2) ?hd (cs:=#[.slice none 0 0,.int .i64 0]) (t:=35) ?hr ?_;(case hd=>rfl);(case hg=>rfl);(case hr=>go_simp <;> rfl);intro gb388 hg w3 hbox hb;have BK388:=zh (hbox);have hH_:=cH (by repeat (with_reducible first|exact HB.out|apply za|apply zb|apply zc|refine zd ?_ GE387.out)) hb hg;have GW388:=zh hH_.1;have GE388:=GW388;replace HB:=zh hH_.2;have NB387_388:=zh ((by rw [hg];exact yc (yi (g:=gb387) (o:=.cells #[.slice A0_0 l0_0.length c0_0,.int .i64 a0_1] 35 (0,0)) ji) : gb387≠gb388));have NB388_387:=zh NB387_388.out.symm;replace BK387:=zh (cD BK387.out ji hb);clear hb hbox hg hH_)|((with_reducible refine zK (N:=5) rfl ?_);refine Kd.S_lit k67 _ 67 ?hg (N:=5) ?hd (xs:=([] : List (S67))) (inner:=[]) (ok:=fun _=>True) (okp:=fun _=>True) ?hr ?hp (fun _ hk=>hk) trivial (Below.refl _ _) (ye _) (by simp) ?_;(case hd=>rfl);(case hg=>rfl);(case hr=>go_simp <;> rfl);(case hp=>exact (Reps.none _ _));intro v390 w4 ho5 hb hg_ hnew_;clear hg_ hnew_;(first|rw [← Ny389.out] at ho5|(simp only [Int.reduceToNat] at ho5;rw [← Ny389.out] at ho5));have HO391:=zh (Kd.S_lower ho5 (zB jT));replace BK387:=zh (cD BK387.out ji hb);replace BK388:=zh (cD BK388.out jv hb);replace HB:=zh (zC jT hb);clear hb ho5))
 go_loopg [3,4] k (fun kq v3 v4 w' => ∃ (x3_1 : List (S67)) (x4_1 : Int),v4 = .int .i64 x4_1∧Aside0 (F7.l0 kq x3_1 x4_1 l0_0 a0_1=some (r1,r2))∧Aside0 (kq≤k)∧Aside0 (Kd.S k67 67 w' w.heap.size (fun _=>True) v3 x3_1)∧Aside0 (w'.heap[gb387]? = some (.cells #[(.slice A0_0 l0_0.length c0_0),.int .i64 a0_1] 35 (0,0)))∧Aside0 (w'.heap[gb388]? = some (.cells #[(.slice none 0 0),.int .i64 0] 35 (0,0)))∧Aside0 (Below w.heap.size w w'))
 case atStart=>exact ⟨(y389),(0),jD,H',⟨ye _⟩,⟨by (with_reducible repeat (first|apply Kd.S_alloc|apply Kd.S_drewN|apply Kd.S_drew));exact HO391.out⟩,⟨ji⟩,⟨jv⟩,⟨jT⟩⟩
 case round =>
  clear H'
  try clear p2
  try clear c4
  obtain ⟨x3_1,x4_1,rfl,HA,HK1,HO_3,BK387,BK388,HB⟩:=hrel
  cases gk with
  | zero=>exact absurd HA.out (by simp [F7.l0])
  | succ k1 =>
   have H:=HA.out;clear HA;simp only [F7.l0] at H
   by_cases c6 : x4_1<(l0_0.length : Int)
   ·
    rw [if_pos c6] at H
    have c6b0 : decide (x4_1<(l0_0.length : Int))=true:=decide_eq_true c6;clear c6
    by_cases c7 : 0≤x4_1
    ·
     rw [if_pos c7] at H
     have c7b0 : decide (0≤x4_1)=true:=decide_eq_true c7;clear c7;obtain ⟨y393,hy393⟩ : ∃ y_ : List (S51),y_=(([] : List (S51))):=⟨_,rfl⟩;replace H : (if y393.length+((rd_T67 l0_0 x4_1).f1).length<5864062014805 then (if x3_1.length<4398046511104 then (F7.l0 k1 (x3_1 ++ [(⟨(rd_T67 l0_0 x4_1).f0,(y393++((rd_T67 l0_0 x4_1).f1))⟩ : S67)]) (wrap64 (x4_1+1)) l0_0 a0_1) else (none)) else (none))=some (r1,r2):=by first|(rw [hy393];with_reducible exact H)|(have H2_:=(Option.bind_some _ _).symm.trans H;rw [hy393];with_reducible exact H2_)|(have H2_:=(Option.bind_some _ _).symm.trans H;with_reducible exact H2_)|with_reducible exact H|(rw [hy393];exact H)|exact H
     have Ny393:=zh hy393;clear hy393
     by_cases c8 : y393.length+((rd_T67 l0_0 x4_1).f1).length<5864062014805
     ·
      rw [if_pos c8] at H
      have LMc8:=zh c8;clear c8;obtain ⟨y397,hy397⟩ : ∃ y_ : List (S51),y_=(y393++((rd_T67 l0_0 x4_1).f1)):=⟨_,rfl⟩;replace H : (if x3_1.length<4398046511104 then (F7.l0 k1 (x3_1 ++ [(⟨(rd_T67 l0_0 x4_1).f0,y397⟩ : S67)]) (wrap64 (x4_1+1)) l0_0 a0_1) else (none))=some (r1,r2):=by first|(rw [hy397];with_reducible exact H)|(have H2_:=(Option.bind_some _ _).symm.trans H;rw [hy397];with_reducible exact H2_)|(have H2_:=(Option.bind_some _ _).symm.trans H;with_reducible exact H2_)|with_reducible exact H|(rw [hy397];exact H)|exact H
      have Ny397:=zh hy397;clear hy397
      by_cases c9 : x3_1.length<4398046511104
      ·
       rw [if_pos c9] at H
       have LMc9:=zh c9;clear c9;obtain ⟨y400,hy400⟩ : ∃ y_ : List (S67),y_=(x3_1 ++ [(⟨(rd_T67 l0_0 x4_1).f0,y397⟩ : S67)]):=⟨_,rfl⟩;replace H : (F7.l0 k1 y400 (wrap64 (x4_1+1)) l0_0 a0_1)=some (r1,r2):=by first|(rw [hy400];with_reducible exact H)|(have H2_:=(Option.bind_some _ _).symm.trans H;rw [hy400];with_reducible exact H2_)|(have H2_:=(Option.bind_some _ _).symm.trans H;with_reducible exact H2_)|with_reducible exact H|(rw [hy400];exact H)|exact H
       have Ny400:=zh hy400;clear hy400;have H':=zh H;clear H;have hnb10:=NB387_388.out;have hnc10:=NB388_387.out;obtain ⟨hcz11_0,hcz11_1,hfz11_0,hfz11_1⟩:=cB2 BK387.out
       try go_wp2
       replace HO_3:=zh (Kd.S_drew HO_3.out);replace BK387:=zh (zf BK387.out);replace BK388:=zh (zf BK388.out);replace HB:=zh (zc HB.out);have p392 : 0≤(x4_1 : Int):=zy jB;have q392 : x4_1<(l0_0.length : Int):=zy jB;obtain ⟨ad392,A392_1,c392_1,e392,hx392_0,hx392_1,hl392_1,hi392_1⟩:=at_T67 HR0_0.out x4_1 p392 q392;have hw392_1:=hx392_1;have hw392_0:=hx392_0
       cases e392
       replace hx392_0:=(HB.out.cell (zl w _ hx392_0)).trans hx392_0;replace hx392_1:=(HB.out.cell (zl w _ hx392_1)).trans hx392_1;have HR392_1:=zh hi392_1;have HC392_1:=zh hl392_1;clear hi392_1 hl392_1;replace p392:=eq_true p392;replace q392:=eq_true q392;have p396 : 0≤(x4_1 : Int):=zy jB;have q396 : x4_1<(l0_0.length : Int):=zy jB;obtain ⟨ad396,A396_1,c396_1,e396,hx396_0,hx396_1,hl396_1,hi396_1⟩:=at_T67 HR0_0.out x4_1 p396 q396;have hw396_1:=hx396_1;have hw396_0:=hx396_0;obtain rfl : ad392=ad396:=(by injection e396);replace hx396_0:=(HB.out.cell (zl w _ hx396_0)).trans hx396_0;replace hx396_1:=(HB.out.cell (zl w _ hx396_1)).trans hx396_1;have HR396_1:=zh hi396_1;have HC396_1:=zh hl396_1;clear hi396_1 hl396_1;replace p396:=eq_true p396;replace q396:=eq_true q396;have ea_:=zU (hx392_1.symm.trans hx396_1);injection ea_ with ea_ en_ ec_;subst ea_;subst ec_;clear en_;refine start_ (n:=19) (S:=fun w' => w'.cell? ⟨gb387,0,none⟩=some (.slice (some ad392) l0_0.length c0_0)∧w'.cell? ⟨gb387,1,none⟩=some (.int .i64 a0_1)∧w'.cell? (ad392.add ((x4_1).toNat*2))=some (.int .i64 ((rd_T67 l0_0 x4_1).f0))∧w'.cell? ⟨(ad392.add ((x4_1).toNat*2)).block,(ad392.add ((x4_1).toNat*2)).off+1,none⟩=some (.slice A392_1 ((rd_T67 l0_0 x4_1).f1).length c392_1)∧w'.cell? (ad392.add ((x4_1).toNat*2))=some (.int .i64 ((rd_T67 l0_0 x4_1).f0))∧w'.cell? ⟨(ad392.add ((x4_1).toNat*2)).block,(ad392.add ((x4_1).toNat*2)).off+1,none⟩=some (.slice A392_1 ((rd_T67 l0_0 x4_1).f1).length c392_1)) (ds:=[]) (bm_ 0 19) jA rfl rfl ⟨(zz BK387.out 0).trans rfl,(zz BK387.out 1).trans rfl,((HB.out.cell (zl w _ hw392_0)).trans hw392_0),((HB.out.cell (zl w _ hw392_1)).trans hw392_1),((HB.out.cell (zl w _ hw396_0)).trans hw396_0),((HB.out.cell (zl w _ hw396_1)).trans hw396_1)⟩ (fun hHeld=>?_);refine with_tabW F7.tab5 F7.bits5 (fun HT_ HW_=>?_);generalize wr.drew=w12 at HO_3 BK387 BK388 HB HR392_1 HR396_1 hx392_0 hx392_1 hx396_0 hx396_1 hHeld ⊢;refine pure_ (i:=0) (N:=some 13) (v:=?_) (a':=?_) (bm_ 1 19) rfl rfl (any_of HT_.out jA) (fun _ _ _ h=>h) (Or.inl ⟨by rfl,?_⟩) ?_ ?_;rotate_left;exact jb;rotate_left;exact jc
       refine pure_ (i:=1) (N:=some 14) (v:=?_) (a':=?_) (bm_ 2 19) rfl rfl (any_of HT_.out jA) (fun _ _ _ h=>h) (Or.inl ⟨by rfl,?_⟩) ?_ ?_;rotate_left;exact jb;rotate_left;exact jc
       refine pure_ (i:=3) (N:=some 16) (v:=?_) (a':=?_) #[true,true,false,true,false,false,false,false,false,false,false,false,false,false,false,false,false,false,false] rfl rfl (any_of HT_.out jA) (fun _ _ _ h=>h) (Or.inl ⟨by rfl,?_⟩) ?_ ?_;rotate_left;exact jb;rotate_left;exact jc
       refine pure_ (i:=8) (N:=some 21) (v:=?_) (a':=?_) #[true,true,false,true,false,false,false,false,true,false,false,false,false,false,false,false,false,false,false] rfl rfl (any_of HT_.out jA) (fun _ _ _ h=>h) (Or.inl ⟨by rfl,?_⟩) ?_ ?_;rotate_left;exact jb;rotate_left;exact jc
       refine pure_ (i:=10) (N:=some 23) (v:=?_) (a':=?_) #[true,true,false,true,false,false,false,false,true,false,true,false,false,false,false,false,false,false,false] rfl rfl (any_of HT_.out jA) (fun _ _ _ h=>h) (Or.inl ⟨by rfl,?_⟩) ?_ ?_;rotate_left;exact jb;rotate_left;exact jc
       refine take_ (i:=2) (N:=some 15) (v:=?_) (a':=?_) #[true,true,true,true,false,false,false,false,true,false,true,false,false,false,false,false,false,false,false] rfl rfl (yo HT_.out HW_.out jA) (fun _ _ _ h=>h) (Or.inl ⟨by rfl,?_⟩) hHeld ?_ ?_;rotate_left
       ·
        rintro w' ⟨s0,s1,s2,s3,s4,s5⟩
        go_simp
        with_reducible rfl
       rotate_left
       exact jc
       refine pure_ (i:=4) (N:=some 17) (v:=?_) (a':=?_) #[true,true,true,true,true,false,false,false,true,false,true,false,false,false,false,false,false,false,false] rfl rfl (any_of HT_.out jA) (fun _ _ _ h=>h) (Or.inl ⟨by rfl,?_⟩) ?_ ?_;rotate_left;exact jb;rotate_left;exact jc
       refine pure_ (i:=5) (N:=some 18) (v:=?_) (a':=?_) #[true,true,true,true,true,true,false,false,true,false,true,false,false,false,false,false,false,false,false] rfl rfl (any_of HT_.out jA) (fun _ _ _ h=>h) (Or.inl ⟨by rfl,?_⟩) ?_ ?_;rotate_left;exact jb;rotate_left;exact jc
       refine take_ (i:=6) (N:=some 19) (v:=?_) (a':=?_) #[true,true,true,true,true,true,true,false,true,false,true,false,false,false,false,false,false,false,false] rfl rfl (yo HT_.out HW_.out jA) (fun _ _ _ h=>h) (Or.inl ⟨by rfl,?_⟩) hHeld ?_ ?_;rotate_left
       ·
        rintro w' ⟨s0,s1,s2,s3,s4,s5⟩
        go_simp
        with_reducible rfl
       rotate_left
       exact jc
       refine take_ (i:=9) (N:=some 22) (v:=?_) (a':=?_) #[true,true,true,true,true,true,true,false,true,true,true,false,false,false,false,false,false,false,false] rfl rfl (yo HT_.out HW_.out jA) (fun _ _ _ h=>h) (Or.inl ⟨by rfl,?_⟩) hHeld ?_ ?_;rotate_left
       ·
        rintro w' ⟨s0,s1,s2,s3,s4,s5⟩
        go_simp
        with_reducible rfl
       rotate_left
       exact jc
       refine pure_ (i:=11) (N:=some 24) (v:=?_) (a':=?_) #[true,true,true,true,true,true,true,false,true,true,true,true,false,false,false,false,false,false,false] rfl rfl (any_of HT_.out jA) (fun _ _ _ h=>h) (Or.inl ⟨by rfl,?_⟩) ?_ ?_;rotate_left;exact jb;rotate_left;exact jc
       refine pure_ (i:=12) (N:=some 25) (v:=?_) (a':=?_) #[true,true,true,true,true,true,true,false,true,true,true,true,true,false,false,false,false,false,false] rfl rfl (any_of HT_.out jA) (fun _ _ _ h=>h) (Or.inl ⟨by rfl,?_⟩) ?_ ?_;rotate_left;exact jb;rotate_left;exact jc
       refine take_ (i:=13) (N:=some 26) (v:=?_) (a':=?_) #[true,true,true,true,true,true,true,false,true,true,true,true,true,true,false,false,false,false,false] rfl rfl (yo HT_.out HW_.out jA) (fun _ _ _ h=>h) (Or.inl ⟨by rfl,?_⟩) hHeld ?_ ?_;rotate_left
       ·
        rintro w' ⟨s0,s1,s2,s3,s4,s5⟩
        go_simp
        with_reducible rfl
       rotate_left
       exact jc
       refine one_ (i:=7) (N:=some 20) (bm_ 14 19) rfl rfl (one_of HT_.out jA) jC (fun K hK=>?_);refine Kd.R_lit_step k51 _ 51 ?hg (N:=20) ?hd (xs:=([] : List (S51))) (inner:=[]) (ok:=fun _=>True) (okp:=fun _=>True) ?hr ?hp (fun _ hk=>hk) trivial (Below.refl _ _) (ye _) (by simp) ?_;(case hd=>rfl);(case hg=>rfl);(case hr=>go_simp <;> rfl);(case hp=>exact (Reps.none _ _));intro v394 w13 ho14 hb hg_ hnew_;clear hg_ hnew_;(first|rw [← Ny393.out] at ho14|(simp only [Int.reduceToNat] at ho14;rw [← Ny393.out] at ho14));replace HO_3:=zh (Kd.S_elder' jAB (Kd.R_base ho14) hb);have HO395:=zh (yx ho14 (zB jT));replace BK387:=zh (cD BK387.out ji hb);replace BK388:=zh (cD BK388.out jv hb);replace HB:=zh (zC jT hb);clear hb ho14;refine hK.out _ _ ⟨(zz BK387.out 0).trans rfl,(zz BK387.out 1).trans rfl,((HB.out.cell (zl w _ hw392_0)).trans hw392_0),((HB.out.cell (zl w _ hw392_1)).trans hw392_1),((HB.out.cell (zl w _ hw396_0)).trans hw396_0),((HB.out.cell (zl w _ hw396_1)).trans hw396_1)⟩ (fun hHeld=>?_);clear hK K;refine norm_ (a':=?_) ?_ ?_;rotate_left
       ·
        show Act.put _ (some 20) _=_
        simp only [Act.put,zi,zj,zk,zG,zH]
        rfl
       refine one_ (i:=14) (N:=some 27) (bm_ 15 19) rfl rfl (one_of HT_.out jA) jC (fun K hK=>?_);refine Kd.R_append_rows_step k51 (w0:=w) w.heap.size (by rfl) (.tmp 20) (.tmp 26) 29 51 (.agg #[(.string ⟨#[]⟩),(.int .i64 0)]) 24 rfl Try.underlying29 info51 rfl jC jH v394 y393 ((rd_T67 l0_0 x4_1).f1) _ _ _ (fun _=>True) (fun _=>False) rfl rfl ?aO ?aR (fun _ _ h=>h) (fun _ h=>h.elim) ?aF ?aB ?aS ?aL ?_;(case aR=>repeat (first|exact (Kd.C_below HR396_1.out HB.out)|(with_reducible refine Kd.C_alloc ?_ _)|(with_reducible refine Kd.C_drewN ?_ _)|(with_reducible refine Kd.C_drew ?_)))
       (case aB=>exact jT)
       (case aF=>exact (fun _ _=>trivial))
       (case aO=>exact (by (with_reducible repeat (first|apply zm|apply zn|apply zo));exact HO395.out))
       (case aS=>exact (zB jT))
       (case aL=>have:=LMc8.out;omega)
       intro v398 w15 ho hb hg hat;rw [← Ny397.out] at ho;replace HO_3:=zh (Kd.S_after (ok:=(fun _=>True)) jAB hg hat);replace BK387:=zh (yv (g:=gb387) (o:=.cells #[.slice (some ad392) l0_0.length c0_0,.int .i64 a0_1] 35 (0,0)) ji hg (Kd.R_ne HO395.out BK387.out jC));replace BK388:=zh (yv (g:=gb388) (o:=.cells #[.slice none 0 0,.int .i64 0] 35 (0,0)) jv hg (Kd.R_ne HO395.out BK388.out jC));replace HB:=zh (hb);have HO399:=zh (ho);clear HO395 ho hb hg hat;obtain ⟨Ao16,co16,eo16⟩:=yk HO399.out;(first|subst eo16|(injection eo16 with f1_ f2_ f3_;have f4_:=f1_.symm;have f5_:=f3_.symm;clear f1_ f2_ f3_;subst f4_;subst f5_));refine hK.out _ _ ⟨(zz BK387.out 0).trans rfl,(zz BK387.out 1).trans rfl,((HB.out.cell (zl w _ hw392_0)).trans hw392_0),((HB.out.cell (zl w _ hw392_1)).trans hw392_1),((HB.out.cell (zl w _ hw396_0)).trans hw396_0),((HB.out.cell (zl w _ hw396_1)).trans hw396_1)⟩ (fun hHeld=>?_);clear hK K;refine norm_ (a':=?_) ?_ ?_;rotate_left
       ·
        show Act.put _ (some 27) _=_
        simp only [Act.put,zi,zj,zk,zG,zH]
        rfl
       refine pure_ (i:=15) (N:=some 28) (v:=?_) (a':=?_) (bm_ 16 19) rfl rfl (any_of HT_.out jA) (fun _ _ _ h=>h) (Or.inl ⟨by rfl,?_⟩) ?_ ?_;rotate_left;exact jb;rotate_left;exact jc
       refine one_ (i:=16) (N:=some 29) (bm_ 17 19) rfl rfl (one_of HT_.out jA) jC (fun K hK=>?_);refine value_ (w1:=?_) (v:=?_) (by rfl) rfl ?_ ?_;rotate_left 2
       ·
        go_simp
        constructor
        ·
         rfl
        rfl
       refine hK.out _ _ ⟨(zz (zg BK387.out _) 0).trans rfl,(zz (zg BK387.out _) 1).trans rfl,(World.cell?_alloc_lt _ _ _ (zl _ _ (((HB.out.cell (zl w _ hw392_0)).trans hw392_0)))).trans (((HB.out.cell (zl w _ hw392_0)).trans hw392_0)),(World.cell?_alloc_lt _ _ _ (zl _ _ (((HB.out.cell (zl w _ hw392_1)).trans hw392_1)))).trans (((HB.out.cell (zl w _ hw392_1)).trans hw392_1)),(World.cell?_alloc_lt _ _ _ (zl _ _ (((HB.out.cell (zl w _ hw396_0)).trans hw396_0)))).trans (((HB.out.cell (zl w _ hw396_0)).trans hw396_0)),(World.cell?_alloc_lt _ _ _ (zl _ _ (((HB.out.cell (zl w _ hw396_1)).trans hw396_1)))).trans (((HB.out.cell (zl w _ hw396_1)).trans hw396_1))⟩ (fun hHeld=>?_);clear hK K;refine norm_ (a':=?_) ?_ ?_;rotate_left
       ·
        show Act.put _ (some 29) _=_
        simp only [Act.put,zi,zj,zk,zG,zH]
        rfl
       refine one_ (i:=17) (N:=some 30) (bm_ 18 19) rfl rfl (one_of HT_.out jA) jC (fun K hK=>?_);refine Kd.S_append_step k67 (w0:=w) w.heap.size (by rfl) (.tmp 13) (.tmp 29) 33 67 (.agg #[(.int .i64 0),(.slice none 0 0)]) 32 rfl Try.underlying33 info67 rfl jC jH u3 x3_1 (⟨(rd_T67 l0_0 x4_1).f0,y397⟩ : S67) [.int .i64 ((rd_T67 l0_0 x4_1).f0),.slice Ao16 y397.length co16] (fun _=>True) (fun k_=>some k_=(.slice Ao16 y397.length co16 : Value).ownBlock) rfl rfl ?aP (fun k_ hk_=>((zM (ok':=fun k_=>((fun _=>True)) k_∧some k_≠(u3 : Value).ownBlock) (Kd.R_apart' (HO399.out) (Kd.S_typed HO_3.out) jC) (fun k_ hk=>⟨trivial,hk.2⟩))).1 k_ hk_.symm) ?aF ?aO ?aB ?aS ?aL ?_;(case aP=>exact k67_mkM _ _ _ (⟨(rd_T67 l0_0 x4_1).f0,y397⟩ : S67) (zM (Kd.R_tight rfl (zM (ok':=fun k_=>((fun _=>True)) k_∧some k_≠(u3 : Value).ownBlock) (Kd.R_apart' (HO399.out) (Kd.S_typed HO_3.out) jC) (fun k_ hk=>⟨trivial,hk.2⟩))) (fun _ h_=>h_)))
       (case aB=>exact jT)
       (case aF=>exact (fun _ _=>trivial))
       (case aO=>exact (by (with_reducible repeat (first|apply Kd.S_alloc|apply Kd.S_drewN|apply Kd.S_drew));exact Kd.S_mono HO_3.out (fun k_ hk=>⟨trivial,fun e_=>hk.2 e_⟩)))
       (case aS=>exact (zB jT))
       (case aL=>have:=LMc9.out;omega)
       intro v401 w17 ho hb hg hat;rw [← Ny400.out] at ho;replace BK387:=zh (yv (g:=gb387) (o:=.cells #[.slice (some ad392) l0_0.length c0_0,.int .i64 a0_1] 35 (0,0)) ji hg (Kd.S_ne HO_3.out BK387.out jC));replace BK388:=zh (yv (g:=gb388) (o:=.cells #[.slice none 0 0,.int .i64 0] 35 (0,0)) jv hg (Kd.S_ne HO_3.out BK388.out jC));replace HB:=zh (hb);have HO402:=zh (ho);clear HO_3 HO399 ho hb hg hat;refine hK.out _ _ ⟨(zz BK387.out 0).trans rfl,(zz BK387.out 1).trans rfl,((HB.out.cell (zl w _ hw392_0)).trans hw392_0),((HB.out.cell (zl w _ hw392_1)).trans hw392_1),((HB.out.cell (zl w _ hw396_0)).trans hw396_0),((HB.out.cell (zl w _ hw396_1)).trans hw396_1)⟩ (fun hHeld=>?_);clear hK K;refine norm_ (a':=?_) ?_ ?_;rotate_left
       ·
        show Act.put _ (some 30) _=_
        simp only [Act.put,zi,zj,zk,zG,zH]
        rfl
       refine pure_ (i:=18) (N:=some 3) (v:=?_) (a':=?_) (bm_ 19 19) rfl rfl (any_of HT_.out jA) (fun _ _ _ h=>h) (Or.inl ⟨by rfl,?_⟩) ?_ ?_;rotate_left;exact jb;rotate_left;exact jc
       refine done_ (done_of HT_.out jA) ?_
       try go_wp2
       go_roundg k1
       case measure=>have:=HK1.out;omega
       case rel=>exact ⟨(y400),(wrap64 (x4_1+1)),jD,H',⟨jK⟩,⟨by (with_reducible repeat (first|apply Kd.S_alloc|apply Kd.S_drewN|apply Kd.S_drew));exact HO402.out⟩,⟨ji⟩,⟨jv⟩,⟨jT⟩⟩
      rw [if_neg c9] at H;exact absurd H (by simp)
     rw [if_neg c8] at H;exact absurd H (by simp)
    rw [if_neg c7] at H;exact absurd H (by simp)
   rw [if_neg c6] at H;have c6b0 : decide (x4_1<(l0_0.length : Int))=false:=decide_eq_false c6;clear c6;simp only [Option.some.injEq,Prod.mk.injEq] at H;obtain ⟨rfl,rfl⟩:=H;have hnb18:=NB387_388.out;have hnc18:=NB388_387.out;obtain ⟨hcz19_0,hcz19_1,hfz19_0,hfz19_1⟩:=cB2 BK387.out;obtain ⟨Ao20,co20,eo20⟩:=Kd.S_slice HO_3.out;subst eo20;obtain ⟨hcz21_0,hcz21_1,hfz21_0,hfz21_1⟩:=cB2 BK388.out
   go_wp2
   refine bodyPost_ret (results_cell_row rfl _ _ gb388 35 #[.slice Ao20 x3_1.length co20,.int .i64 a0_1] (0,0) _ rfl (by (with_reducible repeat first|apply ze|apply zf|apply zg);refine zL (cs:=#[.slice Ao20 x3_1.length co20,.int .i64 0]) ?_ 1 _ rfl;(with_reducible repeat first|apply ze|apply zf|apply zg);refine zL (cs:=#[.slice none 0 0,.int .i64 0]) ?_ 0 _ rfl;(with_reducible repeat first|apply ze|apply zf|apply zg);refine zS ?_ NB388_387.out _;(with_reducible repeat first|apply ze|apply zf|apply zg);exact BK388.out) Try.underlying35 rfl jA) rfl ?_;exact ⟨_,jG,by (with_reducible repeat (first|apply Kd.S_alloc|apply Kd.S_drewN|apply Kd.S_drew));exact Kd.S_mono (Kd.S_far (p:=⟨gb388,1,none⟩) (Kd.S_far (p:=⟨gb388,0,none⟩) (Kd.S_far (p:=⟨gb387,0,none⟩) (Kd.S_types (Kd.S_types HO_3.out BK387.out jC) BK388.out jC) (fun _ hk=>hk.1.2) (.slice Ao20 x3_1.length co20)) (fun _ hk=>hk.2) (.slice Ao20 x3_1.length co20)) (fun _ hk=>hk.2) (.int .i64 a0_1)) (fun _ hk=>trivial),jT⟩


def F8.l0 : Nat→Int→Int→List (S67)→Int→ByteArray→Int→Option (Int)
 | 0,_,_,_,_,_,_=>none
 | k+1,x5,x6,x129000,x129001,x130000,x130001=>if x6<(x129000.length : Int) then (if 0≤x6 then (if (((rd_T67 x129000 x6).f1).length : Int) > 0 then (if 0<(((rd_T67 x129000 x6).f1).length : Int) then ((F0a.f x130000 x130001 ((rd_T51 ((rd_T67 x129000 x6).f1) 0).f0) ((rd_T51 ((rd_T67 x129000 x6).f1) 0).f1)).bind fun t133=>(if t133=true then (F8.l0 k x5 (wrap64 (x6+1)) x129000 x129001 x130000 x130001) else (F8.l0 k x6 (wrap64 (x6+1)) x129000 x129001 x130000 x130001))) else (none)) else (F8.l0 k x5 (wrap64 (x6+1)) x129000 x129001 x130000 x130001)) else (none)) else (some x5)
def F8.f (k : Nat) (l0_0 : List (S67)) (a0_1 : Int) (a1_0 : ByteArray) (a1_1 : Int) : Option (Int):=F8.l0 k 0 1 l0_0 a0_1 a1_0 a1_1
theorem F8.mono_l : ∀ k,(∀ y0 y1 y2 y3 y4 y5,LeO (F8.l0 k y0 y1 y2 y3 y4 y5) (F8.l0 (k+1) y0 y1 y2 y3 y4 y5))
 | 0=>fun _ _ _ _ _ _ r h=>by simp [F8.l0] at h
 | k+1=>by
  have ih0:=F8.mono_l k;intro y0 y1 y2 y3 y4 y5;unfold F8.l0
  repeat' first|(with_reducible first|exact ih0 _ _ _ _ _ _|exact zQ _|exact zN _|refine zP ?_ ?_|refine zO ?_ (fun _=>?_))|refine zP ?_ ?_|refine zO ?_ (fun _=>?_)
theorem F8.mono : ∀ a0 a1 a2 a3 k,LeO (F8.f k a0 a1 a2 a3) (F8.f (k+1) a0 a1 a2 a3):=by
 intro a0 a1 a2 a3 k;have ih0:=F8.mono_l k;unfold F8.f
 repeat' first|(with_reducible first|exact ih0 _ _ _ _ _ _|exact zQ _|exact zN _|refine zP ?_ ?_|refine zO ?_ (fun _=>?_))|refine zP ?_ ?_|refine zO ?_ (fun _=>?_)
def F8.T5 : Bool×List (List Nat×List Nat):=(true,[([],[]),([0],[0]),([],[]),([1,2],[1,2]),([3],[3]),([4],[4]),([5],[5]),([6],[6]),([7],[7]),([8],[8]),([8],[8]),([10,8],[8,10]),([8],[8]),([11,12,8],[8,11,12]),([13,8],[8,13]),([14,8],[8,14]),([15,8],[8,15]),([16,8],[8,16]),([9,17,8,8],[8,9,17]),([18,8],[8,18]),([8,19],[8,19])])
def F8.B5 : List Nat:=[0,1,0,7,15,31,63,127,255,511,511,1535,511,7679,15871,32255,65023,130559,262143,524287,1048575]
theorem F8.tab5 : rtab .any (opsOf Try.f53 5)=F8.T5:=by kernel_rfl
theorem F8.bits5 : waitsOk F8.T5.2 F8.B5=true:=by kernel_rfl
set_option maxHeartbeats 8000000 in
set_option maxRecDepth 100000 in
theorem F8.calls (k : Nat) (A0_0 : Option Addr) (c0_0 : Nat) (l0_0 : List (S67)) (a0_1 : Int) (a1_0 : ByteArray) (a1_1 : Int) (r : Int) (w : World) (hr0_0 : Kd.C k67 w A0_0 l0_0.length l0_0) (hc0_0 : l0_0.length≤c0_0) (h : F8.f k l0_0 a0_1 a1_0 a1_1=some r) :
  Calls Try.prog 53 #[.agg #[.slice A0_0 l0_0.length c0_0,.int .i64 a0_1],.agg #[.string a1_0,.int .i64 a1_1]] w fun e w' => e = .returned (.int .i64 r)∧Below w.heap.size w w':=by
 have hu35:=Try.underlying35;have hu51:=Try.underlying51;have HR0_0:=zh hr0_0;have HC0_0:=zh hc0_0;clear hr0_0 hc0_0;have HB:=zh (Below.refl w.heap.size w);have H : (F8.l0 k 0 1 l0_0 a0_1 a1_0 a1_1)=some r:=h;clear h;have H':=zh H;clear H
 go_enter Try.func53,Try.ntmps53
 go_wp2_with (first|((with_reducible refine zK (N:=2) rfl ?_);refine zI ?hg (N:=2) ?hd (cs:=#[.slice A0_0 l0_0.length c0_0,.int .i64 a0_1]) (t:=35) ?hr ?_;(case hd=>rfl);(case hg=>rfl);(case hr=>go_simp <;> rfl);intro gb128 hg w3 hbox hb;have BK128:=zh (hbox);have hH_:=cH jE hb hg;have GW128:=zh hH_.1;have GE128:=GW128;replace HB:=zh hH_.2;clear hb hbox hg hH_)|((with_reducible refine zK (N:=3) rfl ?_);refine zI ?hg (N:=3) ?hd (cs:=#[.string a1_0,.int .i64 a1_1]) (t:=51) ?hr ?_;(case hd=>rfl);(case hg=>rfl);(case hr=>go_simp <;> rfl);intro gb129 hg w4 hbox hb;have BK129:=zh (hbox);have hH_:=cH (by repeat (with_reducible first|exact HB.out|apply za|apply zb|apply zc|refine zd ?_ GE128.out)) hb hg;have GW129:=zh hH_.1;have GE129:=GW129;replace HB:=zh hH_.2;have NB128_129:=zh ((by rw [hg];exact yc (yi (g:=gb128) (o:=.cells #[.slice A0_0 l0_0.length c0_0,.int .i64 a0_1] 35 (0,0)) jk) : gb128≠gb129));have NB129_128:=zh NB128_129.out.symm;replace BK128:=zh (cD BK128.out jk hb);clear hb hbox hg hH_))
 go_loopg [5,6] k (fun kq v5 v6 w' => ∃ (x5_1 : Int) (x6_1 : Int),v5 = .int .i64 x5_1∧v6 = .int .i64 x6_1∧Aside0 (F8.l0 kq x5_1 x6_1 l0_0 a0_1 a1_0 a1_1=some r)∧Aside0 (kq≤k)∧Aside0 (w'.heap[gb128]? = some (.cells #[(.slice A0_0 l0_0.length c0_0),.int .i64 a0_1] 35 (0,0)))∧Aside0 (w'.heap[gb129]? = some (.cells #[.string a1_0,.int .i64 a1_1] 51 (0,0)))∧Aside0 (Below w.heap.size w w'))
 case atStart=>exact ⟨(0),(1),jD,jD,H',⟨ye _⟩,⟨jk⟩,⟨jw⟩,⟨jq⟩⟩
 case round =>
  clear H'
  try clear p2
  obtain ⟨x5_1,x6_1,rfl,rfl,HA,HK1,BK128,BK129,HB⟩:=hrel
  cases gk with
  | zero=>exact absurd HA.out (by simp [F8.l0])
  | succ k1 =>
   have H:=HA.out;clear HA;simp only [F8.l0] at H
   by_cases c5 : x6_1<(l0_0.length : Int)
   ·
    rw [if_pos c5] at H
    have c5b0 : decide (x6_1<(l0_0.length : Int))=true:=decide_eq_true c5;clear c5
    by_cases c6 : 0≤x6_1
    ·
     rw [if_pos c6] at H
     have c6b0 : decide (0≤x6_1)=true:=decide_eq_true c6;clear c6
     by_cases c7 : (((rd_T67 l0_0 x6_1).f1).length : Int) > 0
     ·
      rw [if_pos c7] at H
      have c7b0 : decide (0<(((rd_T67 l0_0 x6_1).f1).length : Int))=true:=decide_eq_true c7;have c7b1 : decide (0<((rd_T67 l0_0 x6_1).f1).length)=true:=decide_eq_true jH;clear c7
      by_cases c8 : 0<(((rd_T67 l0_0 x6_1).f1).length : Int)
      ·
       rw [if_pos c8] at H
       have c8b0 : decide (0<(((rd_T67 l0_0 x6_1).f1).length : Int))=true:=decide_eq_true c8;have c8b1 : decide (0<((rd_T67 l0_0 x6_1).f1).length)=true:=decide_eq_true jH;clear c8;replace H:=zT.mp H;obtain ⟨t133,A90,H⟩:=H;have A9:=zh A90;clear A90
       by_cases c10 : t133=true
       ·
        subst c10
        rw [if_pos rfl] at H;have H':=zh H;clear H;have hnb11:=NB128_129.out;have hnc11:=NB129_128.out;obtain ⟨hcz12_0,hcz12_1,hfz12_0,hfz12_1⟩:=cB2 BK128.out
        try go_wp2
        replace BK128:=zh (zf BK128.out);replace BK129:=zh (zf BK129.out);replace HB:=zh (zc HB.out);have p130 : 0≤(x6_1 : Int):=zy jB;have q130 : x6_1<(l0_0.length : Int):=zy jB;obtain ⟨ad130,A130_1,c130_1,e130,hx130_0,hx130_1,hl130_1,hi130_1⟩:=at_T67 HR0_0.out x6_1 p130 q130;have hw130_1:=hx130_1;have hw130_0:=hx130_0
        cases e130
        replace hx130_0:=(HB.out.cell (zl w _ hx130_0)).trans hx130_0;replace hx130_1:=(HB.out.cell (zl w _ hx130_1)).trans hx130_1;have HR130_1:=zh hi130_1;have HC130_1:=zh hl130_1;clear hi130_1 hl130_1;replace p130:=eq_true p130;replace q130:=eq_true q130;have p131 : 0≤(x6_1 : Int):=zy jB;have q131 : x6_1<(l0_0.length : Int):=zy jB;obtain ⟨ad131,A131_1,c131_1,e131,hx131_0,hx131_1,hl131_1,hi131_1⟩:=at_T67 HR0_0.out x6_1 p131 q131;have hw131_1:=hx131_1;have hw131_0:=hx131_0;obtain rfl : ad130=ad131:=(by injection e131);replace hx131_0:=(HB.out.cell (zl w _ hx131_0)).trans hx131_0;replace hx131_1:=(HB.out.cell (zl w _ hx131_1)).trans hx131_1;have HR131_1:=zh hi131_1;have HC131_1:=zh hl131_1;clear hi131_1 hl131_1;replace p131:=eq_true p131;replace q131:=eq_true q131;have ea_:=zU (hx130_1.symm.trans hx131_1);injection ea_ with ea_ en_ ec_;subst ea_;subst ec_;clear en_;have p132 : 0≤(0 : Int):=jH;have q132 : 0<(((rd_T67 l0_0 x6_1).f1).length : Int):=zy jB;obtain ⟨ad132,e132,hx132_0,hx132_1⟩:=at_T51 HR131_1.out 0 p132 q132;have hw132_1:=hx132_1;(try rw [show ((0 : Int)).toNat=0 from rfl] at hw132_1);(try rw [show 0*2=0 from rfl] at hw132_1);(try rw [Addr.add_zero'] at hw132_1);have hw132_0:=hx132_0;(try rw [show ((0 : Int)).toNat=0 from rfl] at hw132_0);(try rw [show 0*2=0 from rfl] at hw132_0);(try rw [Addr.add_zero'] at hw132_0)
        cases e132
        have qi132 : (0<((rd_T67 l0_0 x6_1).f1).length)=True:=eq_true jH;(try rw [show ((0 : Int)).toNat=0 from rfl] at hx132_0);(try rw [show 0*2=0 from rfl] at hx132_0);(try rw [Addr.add_zero'] at hx132_0);(try rw [show ((0 : Int)).toNat=0 from rfl] at hx132_1);(try rw [show 0*2=0 from rfl] at hx132_1);(try rw [Addr.add_zero'] at hx132_1);replace hx132_0:=(HB.out.cell (zl w _ hx132_0)).trans hx132_0;replace hx132_1:=(HB.out.cell (zl w _ hx132_1)).trans hx132_1;replace p132:=eq_true p132;replace q132:=eq_true q132;refine start_ (n:=21) (S:=fun w' => w'.cell? ⟨gb128,0,none⟩=some (.slice (some ad130) l0_0.length c0_0)∧w'.cell? ⟨gb128,1,none⟩=some (.int .i64 a0_1)∧w'.cell? ⟨gb129,0,none⟩=some (.string a1_0)∧w'.cell? ⟨gb129,1,none⟩=some (.int .i64 a1_1)∧w'.cell? (ad130.add ((x6_1).toNat*2))=some (.int .i64 ((rd_T67 l0_0 x6_1).f0))∧w'.cell? ⟨(ad130.add ((x6_1).toNat*2)).block,(ad130.add ((x6_1).toNat*2)).off+1,none⟩=some (.slice (some ad132) ((rd_T67 l0_0 x6_1).f1).length c130_1)∧w'.cell? (ad130.add ((x6_1).toNat*2))=some (.int .i64 ((rd_T67 l0_0 x6_1).f0))∧w'.cell? ⟨(ad130.add ((x6_1).toNat*2)).block,(ad130.add ((x6_1).toNat*2)).off+1,none⟩=some (.slice (some ad132) ((rd_T67 l0_0 x6_1).f1).length c130_1)∧w'.cell? ad132=some (.string ((rd_T51 ((rd_T67 l0_0 x6_1).f1) 0).f0))∧w'.cell? ⟨ad132.block,ad132.off+1,none⟩=some (.int .i64 ((rd_T51 ((rd_T67 l0_0 x6_1).f1) 0).f1))) (ds:=[]) (bm_ 0 21) jA rfl rfl ⟨(zz BK128.out 0).trans rfl,(zz BK128.out 1).trans rfl,(zz BK129.out 0).trans rfl,(zz BK129.out 1).trans rfl,((HB.out.cell (zl w _ hw130_0)).trans hw130_0),((HB.out.cell (zl w _ hw130_1)).trans hw130_1),((HB.out.cell (zl w _ hw131_0)).trans hw131_0),((HB.out.cell (zl w _ hw131_1)).trans hw131_1),((HB.out.cell (zl w _ hw132_0)).trans hw132_0),((HB.out.cell (zl w _ hw132_1)).trans hw132_1)⟩ (fun hHeld=>?_);refine with_tabW F8.tab5 F8.bits5 (fun HT_ HW_=>?_);generalize wr.drew=w13 at BK128 BK129 HB HR130_1 HR131_1 hx130_0 hx130_1 hx131_0 hx131_1 hx132_0 hx132_1 hHeld ⊢;refine pure_ (i:=0) (N:=some 14) (v:=?_) (a':=?_) (bm_ 1 21) rfl rfl (any_of HT_.out jA) (fun _ _ _ h=>h) (Or.inl ⟨by rfl,?_⟩) ?_ ?_;rotate_left;exact jb;rotate_left;exact jc
        refine pure_ (i:=2) (N:=some 16) (v:=?_) (a':=?_) #[true,false,true,false,false,false,false,false,false,false,false,false,false,false,false,false,false,false,false,false,false] rfl rfl (any_of HT_.out jA) (fun _ _ _ h=>h) (Or.inl ⟨by rfl,?_⟩) ?_ ?_;rotate_left;exact jb;rotate_left;exact jc
        refine take_ (i:=1) (N:=some 15) (v:=?_) (a':=?_) (bm_ 3 21) rfl rfl (yo HT_.out HW_.out jA) (fun _ _ _ h=>h) (Or.inl ⟨by rfl,?_⟩) hHeld ?_ ?_;rotate_left
        ·
         rintro w' ⟨s0,s1,s2,s3,s4,s5,s6,s7,s8,s9⟩
         go_simp
         with_reducible rfl
        rotate_left
        exact jc
        refine pure_ (i:=3) (N:=some 17) (v:=?_) (a':=?_) (bm_ 4 21) rfl rfl (any_of HT_.out jA) (fun _ _ _ h=>h) (Or.inl ⟨by rfl,?_⟩) ?_ ?_;rotate_left;exact jb;rotate_left;exact jc
        refine pure_ (i:=4) (N:=some 18) (v:=?_) (a':=?_) (bm_ 5 21) rfl rfl (any_of HT_.out jA) (fun _ _ _ h=>h) (Or.inl ⟨by rfl,?_⟩) ?_ ?_;rotate_left;exact jb;rotate_left;exact jc
        refine take_ (i:=5) (N:=some 19) (v:=?_) (a':=?_) (bm_ 6 21) rfl rfl (yo HT_.out HW_.out jA) (fun _ _ _ h=>h) (Or.inl ⟨by rfl,?_⟩) hHeld ?_ ?_;rotate_left
        ·
         rintro w' ⟨s0,s1,s2,s3,s4,s5,s6,s7,s8,s9⟩
         go_simp
         with_reducible rfl
        rotate_left
        exact jc
        refine pure_ (i:=6) (N:=some 20) (v:=?_) (a':=?_) (bm_ 7 21) rfl rfl (any_of HT_.out jA) (fun _ _ _ h=>h) (Or.inl ⟨by rfl,?_⟩) ?_ ?_;rotate_left;exact jb;rotate_left;exact jc
        refine pure_ (i:=7) (N:=some 21) (v:=?_) (a':=?_) (bm_ 8 21) rfl rfl (any_of HT_.out jA) (fun _ _ _ h=>h) (Or.inl ⟨by rfl,?_⟩) ?_ ?_;rotate_left;exact jb;rotate_left;exact jc
        refine pure_ (i:=8) (N:=some 22) (v:=?_) (a':=?_) (bm_ 9 21) rfl rfl (any_of HT_.out jA) (fun _ _ _ h=>h) (Or.inl ⟨by rfl,?_⟩) ?_ ?_;rotate_left;exact jb;rotate_left;exact jc
        refine pure_ (i:=10) (N:=some 24) (v:=?_) (a':=?_) #[true,true,true,true,true,true,true,true,true,false,true,false,false,false,false,false,false,false,false,false,false] rfl rfl (any_of HT_.out jA) (fun _ _ _ h=>h) (Or.inl ⟨by rfl,?_⟩) ?_ ?_;rotate_left;exact jb;rotate_left;exact jc
        refine pure_ (i:=12) (N:=some 26) (v:=?_) (a':=?_) #[true,true,true,true,true,true,true,true,true,false,true,false,true,false,false,false,false,false,false,false,false] rfl rfl (any_of HT_.out jA) (fun _ _ _ h=>h) (Or.inl ⟨by rfl,?_⟩) ?_ ?_;rotate_left;exact jb;rotate_left;exact jc
        refine take_ (i:=9) (N:=some 23) (v:=?_) (a':=?_) #[true,true,true,true,true,true,true,true,true,true,true,false,true,false,false,false,false,false,false,false,false] rfl rfl (yo HT_.out HW_.out jA) (fun _ _ _ h=>h) (Or.inl ⟨by rfl,?_⟩) hHeld ?_ ?_;rotate_left
        ·
         rintro w' ⟨s0,s1,s2,s3,s4,s5,s6,s7,s8,s9⟩
         go_simp
         with_reducible rfl
        rotate_left
        exact jc
        refine take_ (i:=11) (N:=some 25) (v:=?_) (a':=?_) (bm_ 13 21) rfl rfl (yo HT_.out HW_.out jA) (fun _ _ _ h=>h) (Or.inl ⟨by rfl,?_⟩) hHeld ?_ ?_;rotate_left
        ·
         rintro w' ⟨s0,s1,s2,s3,s4,s5,s6,s7,s8,s9⟩
         go_simp
         with_reducible rfl
        rotate_left
        exact jc
        refine pure_ (i:=13) (N:=some 27) (v:=?_) (a':=?_) (bm_ 14 21) rfl rfl (any_of HT_.out jA) (fun _ _ _ h=>h) (Or.inl ⟨by rfl,?_⟩) ?_ ?_;rotate_left;exact jb;rotate_left;exact jc
        refine pure_ (i:=14) (N:=some 28) (v:=?_) (a':=?_) (bm_ 15 21) rfl rfl (any_of HT_.out jA) (fun _ _ _ h=>h) (Or.inl ⟨by rfl,?_⟩) ?_ ?_;rotate_left;exact jb;rotate_left;exact jc
        refine take_ (i:=15) (N:=some 29) (v:=?_) (a':=?_) (bm_ 16 21) rfl rfl (yo HT_.out HW_.out jA) (fun _ _ _ h=>h) (Or.inl ⟨by rfl,?_⟩) hHeld ?_ ?_;rotate_left
        ·
         rintro w' ⟨s0,s1,s2,s3,s4,s5,s6,s7,s8,s9⟩
         go_simp
         with_reducible rfl
        rotate_left
        exact jc
        refine pure_ (i:=16) (N:=some 30) (v:=?_) (a':=?_) (bm_ 17 21) rfl rfl (any_of HT_.out jA) (fun _ _ _ h=>h) (Or.inl ⟨by rfl,?_⟩) ?_ ?_;rotate_left;exact jb;rotate_left;exact jc
        refine take_ (i:=17) (N:=some 31) (v:=?_) (a':=?_) (bm_ 18 21) rfl rfl (yo HT_.out HW_.out jA) (fun _ _ _ h=>h) (Or.inl ⟨by rfl,?_⟩) hHeld ?_ ?_;rotate_left
        ·
         rintro w' ⟨s0,s1,s2,s3,s4,s5,s6,s7,s8,s9⟩
         go_simp
         with_reducible rfl
        rotate_left
        exact jc
        refine one_ (i:=18) (N:=some 32) (bm_ 19 21) rfl rfl (one_of HT_.out jA) jC (fun K hK=>?_);refine goes_ Try.func52 jA rfl #[.agg #[.string a1_0,.int .i64 a1_1],.agg #[.string ((rd_T51 ((rd_T67 l0_0 x6_1).f1) 0).f0),.int .i64 ((rd_T51 ((rd_T67 l0_0 x6_1).f1) 0).f1)]] (by rfl) rfl rfl jF ?_
        with_reducible refine (F0a.calls  a1_0 a1_1 ((rd_T51 ((rd_T67 l0_0 x6_1).f1) 0).f0) ((rd_T51 ((rd_T67 l0_0 x6_1).f1) 0).f1) true _ A9.out).mono ?_
        rintro e w14 ⟨rfl,hb⟩;refine ⟨_,rfl,?_⟩;replace BK128:=zh (cD BK128.out jk hb);replace BK129:=zh (cD BK129.out jw hb);replace HB:=zh (zC jq hb);(try clear hb);(try clear hb2);(try clear hk);(try clear hi);refine hK.out _ _ ⟨(zz BK128.out 0).trans rfl,(zz BK128.out 1).trans rfl,(zz BK129.out 0).trans rfl,(zz BK129.out 1).trans rfl,((HB.out.cell (zl w _ hw130_0)).trans hw130_0),((HB.out.cell (zl w _ hw130_1)).trans hw130_1),((HB.out.cell (zl w _ hw131_0)).trans hw131_0),((HB.out.cell (zl w _ hw131_1)).trans hw131_1),((HB.out.cell (zl w _ hw132_0)).trans hw132_0),((HB.out.cell (zl w _ hw132_1)).trans hw132_1)⟩ (fun hHeld=>?_);clear hK K;refine norm_ (a':=?_) ?_ ?_;rotate_left
        ·
         show Act.put _ (some 32) _=_
         simp only [Act.put,zi,zj,zk,zG,zH]
         rfl
        refine pure_ (i:=19) (N:=some 33) (v:=?_) (a':=?_) (bm_ 20 21) rfl rfl (any_of HT_.out jA) (fun _ _ _ h=>h) (Or.inl ⟨by rfl,?_⟩) ?_ ?_;rotate_left;exact jb;rotate_left;exact jc
        refine pure_ (i:=20) (N:=some 34) (v:=?_) (a':=?_) (bm_ 21 21) rfl rfl (any_of HT_.out jA) (fun _ _ _ h=>h) (Or.inl ⟨by rfl,?_⟩) ?_ ?_;rotate_left;exact jb;rotate_left;exact jc
        refine done_ (done_of HT_.out jA) ?_
        try go_wp2
        go_roundg k1
        case measure=>have:=HK1.out;omega
        case rel=>exact ⟨(x5_1),(wrap64 (x6_1+1)),jD,jD,H',⟨jK⟩,⟨jk⟩,⟨jw⟩,⟨jq⟩⟩
       replace c10:=yb.mpr c10;subst c10;rw [if_neg (show ¬ (false=true) by decide)] at H;have H':=zh H;clear H;have hnb15:=NB128_129.out;have hnc15:=NB129_128.out;obtain ⟨hcz16_0,hcz16_1,hfz16_0,hfz16_1⟩:=cB2 BK128.out
       try go_wp2
       replace BK128:=zh (zf BK128.out);replace BK129:=zh (zf BK129.out);replace HB:=zh (zc HB.out);have p130 : 0≤(x6_1 : Int):=zy jB;have q130 : x6_1<(l0_0.length : Int):=zy jB;obtain ⟨ad130,A130_1,c130_1,e130,hx130_0,hx130_1,hl130_1,hi130_1⟩:=at_T67 HR0_0.out x6_1 p130 q130;have hw130_1:=hx130_1;have hw130_0:=hx130_0
       cases e130
       replace hx130_0:=(HB.out.cell (zl w _ hx130_0)).trans hx130_0;replace hx130_1:=(HB.out.cell (zl w _ hx130_1)).trans hx130_1;have HR130_1:=zh hi130_1;have HC130_1:=zh hl130_1;clear hi130_1 hl130_1;replace p130:=eq_true p130;replace q130:=eq_true q130;have p131 : 0≤(x6_1 : Int):=zy jB;have q131 : x6_1<(l0_0.length : Int):=zy jB;obtain ⟨ad131,A131_1,c131_1,e131,hx131_0,hx131_1,hl131_1,hi131_1⟩:=at_T67 HR0_0.out x6_1 p131 q131;have hw131_1:=hx131_1;have hw131_0:=hx131_0;obtain rfl : ad130=ad131:=(by injection e131);replace hx131_0:=(HB.out.cell (zl w _ hx131_0)).trans hx131_0;replace hx131_1:=(HB.out.cell (zl w _ hx131_1)).trans hx131_1;have HR131_1:=zh hi131_1;have HC131_1:=zh hl131_1;clear hi131_1 hl131_1;replace p131:=eq_true p131;replace q131:=eq_true q131;have ea_:=zU (hx130_1.symm.trans hx131_1);injection ea_ with ea_ en_ ec_;subst ea_;subst ec_;clear en_;have p132 : 0≤(0 : Int):=jH;have q132 : 0<(((rd_T67 l0_0 x6_1).f1).length : Int):=zy jB;obtain ⟨ad132,e132,hx132_0,hx132_1⟩:=at_T51 HR131_1.out 0 p132 q132;have hw132_1:=hx132_1;(try rw [show ((0 : Int)).toNat=0 from rfl] at hw132_1);(try rw [show 0*2=0 from rfl] at hw132_1);(try rw [Addr.add_zero'] at hw132_1);have hw132_0:=hx132_0;(try rw [show ((0 : Int)).toNat=0 from rfl] at hw132_0);(try rw [show 0*2=0 from rfl] at hw132_0);(try rw [Addr.add_zero'] at hw132_0)
       cases e132
       have qi132 : (0<((rd_T67 l0_0 x6_1).f1).length)=True:=eq_true jH;(try rw [show ((0 : Int)).toNat=0 from rfl] at hx132_0);(try rw [show 0*2=0 from rfl] at hx132_0);(try rw [Addr.add_zero'] at hx132_0);(try rw [show ((0 : Int)).toNat=0 from rfl] at hx132_1);(try rw [show 0*2=0 from rfl] at hx132_1);(try rw [Addr.add_zero'] at hx132_1);replace hx132_0:=(HB.out.cell (zl w _ hx132_0)).trans hx132_0;replace hx132_1:=(HB.out.cell (zl w _ hx132_1)).trans hx132_1;replace p132:=eq_true p132;replace q132:=eq_true q132;refine start_ (n:=21) (S:=fun w' => w'.cell? ⟨gb128,0,none⟩=some (.slice (some ad130) l0_0.length c0_0)∧w'.cell? ⟨gb128,1,none⟩=some (.int .i64 a0_1)∧w'.cell? ⟨gb129,0,none⟩=some (.string a1_0)∧w'.cell? ⟨gb129,1,none⟩=some (.int .i64 a1_1)∧w'.cell? (ad130.add ((x6_1).toNat*2))=some (.int .i64 ((rd_T67 l0_0 x6_1).f0))∧w'.cell? ⟨(ad130.add ((x6_1).toNat*2)).block,(ad130.add ((x6_1).toNat*2)).off+1,none⟩=some (.slice (some ad132) ((rd_T67 l0_0 x6_1).f1).length c130_1)∧w'.cell? (ad130.add ((x6_1).toNat*2))=some (.int .i64 ((rd_T67 l0_0 x6_1).f0))∧w'.cell? ⟨(ad130.add ((x6_1).toNat*2)).block,(ad130.add ((x6_1).toNat*2)).off+1,none⟩=some (.slice (some ad132) ((rd_T67 l0_0 x6_1).f1).length c130_1)∧w'.cell? ad132=some (.string ((rd_T51 ((rd_T67 l0_0 x6_1).f1) 0).f0))∧w'.cell? ⟨ad132.block,ad132.off+1,none⟩=some (.int .i64 ((rd_T51 ((rd_T67 l0_0 x6_1).f1) 0).f1))) (ds:=[]) (bm_ 0 21) jA rfl rfl ⟨(zz BK128.out 0).trans rfl,(zz BK128.out 1).trans rfl,(zz BK129.out 0).trans rfl,(zz BK129.out 1).trans rfl,((HB.out.cell (zl w _ hw130_0)).trans hw130_0),((HB.out.cell (zl w _ hw130_1)).trans hw130_1),((HB.out.cell (zl w _ hw131_0)).trans hw131_0),((HB.out.cell (zl w _ hw131_1)).trans hw131_1),((HB.out.cell (zl w _ hw132_0)).trans hw132_0),((HB.out.cell (zl w _ hw132_1)).trans hw132_1)⟩ (fun hHeld=>?_);refine with_tabW F8.tab5 F8.bits5 (fun HT_ HW_=>?_);generalize wr.drew=w17 at BK128 BK129 HB HR130_1 HR131_1 hx130_0 hx130_1 hx131_0 hx131_1 hx132_0 hx132_1 hHeld ⊢;refine pure_ (i:=0) (N:=some 14) (v:=?_) (a':=?_) (bm_ 1 21) rfl rfl (any_of HT_.out jA) (fun _ _ _ h=>h) (Or.inl ⟨by rfl,?_⟩) ?_ ?_;rotate_left;exact jb;rotate_left;exact jc
       refine pure_ (i:=2) (N:=some 16) (v:=?_) (a':=?_) #[true,false,true,false,false,false,false,false,false,false,false,false,false,false,false,false,false,false,false,false,false] rfl rfl (any_of HT_.out jA) (fun _ _ _ h=>h) (Or.inl ⟨by rfl,?_⟩) ?_ ?_;rotate_left;exact jb;rotate_left;exact jc
       refine take_ (i:=1) (N:=some 15) (v:=?_) (a':=?_) (bm_ 3 21) rfl rfl (yo HT_.out HW_.out jA) (fun _ _ _ h=>h) (Or.inl ⟨by rfl,?_⟩) hHeld ?_ ?_;rotate_left
       ·
        rintro w' ⟨s0,s1,s2,s3,s4,s5,s6,s7,s8,s9⟩
        go_simp
        with_reducible rfl
       rotate_left
       exact jc
       refine pure_ (i:=3) (N:=some 17) (v:=?_) (a':=?_) (bm_ 4 21) rfl rfl (any_of HT_.out jA) (fun _ _ _ h=>h) (Or.inl ⟨by rfl,?_⟩) ?_ ?_;rotate_left;exact jb;rotate_left;exact jc
       refine pure_ (i:=4) (N:=some 18) (v:=?_) (a':=?_) (bm_ 5 21) rfl rfl (any_of HT_.out jA) (fun _ _ _ h=>h) (Or.inl ⟨by rfl,?_⟩) ?_ ?_;rotate_left;exact jb;rotate_left;exact jc
       refine take_ (i:=5) (N:=some 19) (v:=?_) (a':=?_) (bm_ 6 21) rfl rfl (yo HT_.out HW_.out jA) (fun _ _ _ h=>h) (Or.inl ⟨by rfl,?_⟩) hHeld ?_ ?_;rotate_left
       ·
        rintro w' ⟨s0,s1,s2,s3,s4,s5,s6,s7,s8,s9⟩
        go_simp
        with_reducible rfl
       rotate_left
       exact jc
       refine pure_ (i:=6) (N:=some 20) (v:=?_) (a':=?_) (bm_ 7 21) rfl rfl (any_of HT_.out jA) (fun _ _ _ h=>h) (Or.inl ⟨by rfl,?_⟩) ?_ ?_;rotate_left;exact jb;rotate_left;exact jc
       refine pure_ (i:=7) (N:=some 21) (v:=?_) (a':=?_) (bm_ 8 21) rfl rfl (any_of HT_.out jA) (fun _ _ _ h=>h) (Or.inl ⟨by rfl,?_⟩) ?_ ?_;rotate_left;exact jb;rotate_left;exact jc
       refine pure_ (i:=8) (N:=some 22) (v:=?_) (a':=?_) (bm_ 9 21) rfl rfl (any_of HT_.out jA) (fun _ _ _ h=>h) (Or.inl ⟨by rfl,?_⟩) ?_ ?_;rotate_left;exact jb;rotate_left;exact jc
       refine pure_ (i:=10) (N:=some 24) (v:=?_) (a':=?_) #[true,true,true,true,true,true,true,true,true,false,true,false,false,false,false,false,false,false,false,false,false] rfl rfl (any_of HT_.out jA) (fun _ _ _ h=>h) (Or.inl ⟨by rfl,?_⟩) ?_ ?_;rotate_left;exact jb;rotate_left;exact jc
       refine pure_ (i:=12) (N:=some 26) (v:=?_) (a':=?_) #[true,true,true,true,true,true,true,true,true,false,true,false,true,false,false,false,false,false,false,false,false] rfl rfl (any_of HT_.out jA) (fun _ _ _ h=>h) (Or.inl ⟨by rfl,?_⟩) ?_ ?_;rotate_left;exact jb;rotate_left;exact jc
       refine take_ (i:=9) (N:=some 23) (v:=?_) (a':=?_) #[true,true,true,true,true,true,true,true,true,true,true,false,true,false,false,false,false,false,false,false,false] rfl rfl (yo HT_.out HW_.out jA) (fun _ _ _ h=>h) (Or.inl ⟨by rfl,?_⟩) hHeld ?_ ?_;rotate_left
       ·
        rintro w' ⟨s0,s1,s2,s3,s4,s5,s6,s7,s8,s9⟩
        go_simp
        with_reducible rfl
       rotate_left
       exact jc
       refine take_ (i:=11) (N:=some 25) (v:=?_) (a':=?_) (bm_ 13 21) rfl rfl (yo HT_.out HW_.out jA) (fun _ _ _ h=>h) (Or.inl ⟨by rfl,?_⟩) hHeld ?_ ?_;rotate_left
       ·
        rintro w' ⟨s0,s1,s2,s3,s4,s5,s6,s7,s8,s9⟩
        go_simp
        with_reducible rfl
       rotate_left
       exact jc
       refine pure_ (i:=13) (N:=some 27) (v:=?_) (a':=?_) (bm_ 14 21) rfl rfl (any_of HT_.out jA) (fun _ _ _ h=>h) (Or.inl ⟨by rfl,?_⟩) ?_ ?_;rotate_left;exact jb;rotate_left;exact jc
       refine pure_ (i:=14) (N:=some 28) (v:=?_) (a':=?_) (bm_ 15 21) rfl rfl (any_of HT_.out jA) (fun _ _ _ h=>h) (Or.inl ⟨by rfl,?_⟩) ?_ ?_;rotate_left;exact jb;rotate_left;exact jc
       refine take_ (i:=15) (N:=some 29) (v:=?_) (a':=?_) (bm_ 16 21) rfl rfl (yo HT_.out HW_.out jA) (fun _ _ _ h=>h) (Or.inl ⟨by rfl,?_⟩) hHeld ?_ ?_;rotate_left
       ·
        rintro w' ⟨s0,s1,s2,s3,s4,s5,s6,s7,s8,s9⟩
        go_simp
        with_reducible rfl
       rotate_left
       exact jc
       refine pure_ (i:=16) (N:=some 30) (v:=?_) (a':=?_) (bm_ 17 21) rfl rfl (any_of HT_.out jA) (fun _ _ _ h=>h) (Or.inl ⟨by rfl,?_⟩) ?_ ?_;rotate_left;exact jb;rotate_left;exact jc
       refine take_ (i:=17) (N:=some 31) (v:=?_) (a':=?_) (bm_ 18 21) rfl rfl (yo HT_.out HW_.out jA) (fun _ _ _ h=>h) (Or.inl ⟨by rfl,?_⟩) hHeld ?_ ?_;rotate_left
       ·
        rintro w' ⟨s0,s1,s2,s3,s4,s5,s6,s7,s8,s9⟩
        go_simp
        with_reducible rfl
       rotate_left
       exact jc
       refine one_ (i:=18) (N:=some 32) (bm_ 19 21) rfl rfl (one_of HT_.out jA) jC (fun K hK=>?_);refine goes_ Try.func52 jA rfl #[.agg #[.string a1_0,.int .i64 a1_1],.agg #[.string ((rd_T51 ((rd_T67 l0_0 x6_1).f1) 0).f0),.int .i64 ((rd_T51 ((rd_T67 l0_0 x6_1).f1) 0).f1)]] (by rfl) rfl rfl jF ?_
       with_reducible refine (F0a.calls  a1_0 a1_1 ((rd_T51 ((rd_T67 l0_0 x6_1).f1) 0).f0) ((rd_T51 ((rd_T67 l0_0 x6_1).f1) 0).f1) false _ A9.out).mono ?_
       rintro e w18 ⟨rfl,hb⟩;refine ⟨_,rfl,?_⟩;replace BK128:=zh (cD BK128.out jk hb);replace BK129:=zh (cD BK129.out jw hb);replace HB:=zh (zC jq hb);(try clear hb);(try clear hb2);(try clear hk);(try clear hi);refine hK.out _ _ ⟨(zz BK128.out 0).trans rfl,(zz BK128.out 1).trans rfl,(zz BK129.out 0).trans rfl,(zz BK129.out 1).trans rfl,((HB.out.cell (zl w _ hw130_0)).trans hw130_0),((HB.out.cell (zl w _ hw130_1)).trans hw130_1),((HB.out.cell (zl w _ hw131_0)).trans hw131_0),((HB.out.cell (zl w _ hw131_1)).trans hw131_1),((HB.out.cell (zl w _ hw132_0)).trans hw132_0),((HB.out.cell (zl w _ hw132_1)).trans hw132_1)⟩ (fun hHeld=>?_);clear hK K;refine norm_ (a':=?_) ?_ ?_;rotate_left
       ·
        show Act.put _ (some 32) _=_
        simp only [Act.put,zi,zj,zk,zG,zH]
        rfl
       refine pure_ (i:=19) (N:=some 33) (v:=?_) (a':=?_) (bm_ 20 21) rfl rfl (any_of HT_.out jA) (fun _ _ _ h=>h) (Or.inl ⟨by rfl,?_⟩) ?_ ?_;rotate_left;exact jb;rotate_left;exact jc
       refine pure_ (i:=20) (N:=some 34) (v:=?_) (a':=?_) (bm_ 21 21) rfl rfl (any_of HT_.out jA) (fun _ _ _ h=>h) (Or.inl ⟨by rfl,?_⟩) ?_ ?_;rotate_left;exact jb;rotate_left;exact jc
       refine done_ (done_of HT_.out jA) ?_
       try go_wp2
       go_roundg k1
       case measure=>have:=HK1.out;omega
       case rel=>exact ⟨(x6_1),(wrap64 (x6_1+1)),jD,jD,H',⟨jK⟩,⟨jk⟩,⟨jw⟩,⟨jq⟩⟩
      rw [if_neg c8] at H;exact absurd H (by simp)
     rw [if_neg c7] at H;have c7b0 : decide (0<(((rd_T67 l0_0 x6_1).f1).length : Int))=false:=decide_eq_false c7;have c7b1 : decide (0<((rd_T67 l0_0 x6_1).f1).length)=false:=decide_eq_false jH;clear c7;have H':=zh H;clear H;have hnb19:=NB128_129.out;have hnc19:=NB129_128.out;obtain ⟨hcz20_0,hcz20_1,hfz20_0,hfz20_1⟩:=cB2 BK128.out
     try go_wp2
     replace BK128:=zh (zf BK128.out);replace BK129:=zh (zf BK129.out);replace HB:=zh (zc HB.out);have p130 : 0≤(x6_1 : Int):=zy jB;have q130 : x6_1<(l0_0.length : Int):=zy jB;obtain ⟨ad130,A130_1,c130_1,e130,hx130_0,hx130_1,hl130_1,hi130_1⟩:=at_T67 HR0_0.out x6_1 p130 q130;have hw130_1:=hx130_1;have hw130_0:=hx130_0
     cases e130
     replace hx130_0:=(HB.out.cell (zl w _ hx130_0)).trans hx130_0;replace hx130_1:=(HB.out.cell (zl w _ hx130_1)).trans hx130_1;have HR130_1:=zh hi130_1;have HC130_1:=zh hl130_1;clear hi130_1 hl130_1;replace p130:=eq_true p130;replace q130:=eq_true q130;refine start_ (n:=21) (S:=fun w' => w'.cell? ⟨gb128,0,none⟩=some (.slice (some ad130) l0_0.length c0_0)∧w'.cell? ⟨gb128,1,none⟩=some (.int .i64 a0_1)∧w'.cell? (ad130.add ((x6_1).toNat*2))=some (.int .i64 ((rd_T67 l0_0 x6_1).f0))∧w'.cell? ⟨(ad130.add ((x6_1).toNat*2)).block,(ad130.add ((x6_1).toNat*2)).off+1,none⟩=some (.slice A130_1 ((rd_T67 l0_0 x6_1).f1).length c130_1)) (ds:=[]) (bm_ 0 21) jA rfl rfl ⟨(zz BK128.out 0).trans rfl,(zz BK128.out 1).trans rfl,((HB.out.cell (zl w _ hw130_0)).trans hw130_0),((HB.out.cell (zl w _ hw130_1)).trans hw130_1)⟩ (fun hHeld=>?_);refine with_tabW F8.tab5 F8.bits5 (fun HT_ HW_=>?_);generalize wr.drew=w21 at BK128 BK129 HB HR130_1 hx130_0 hx130_1 hHeld ⊢;refine pure_ (i:=0) (N:=some 14) (v:=?_) (a':=?_) (bm_ 1 21) rfl rfl (any_of HT_.out jA) (fun _ _ _ h=>h) (Or.inl ⟨by rfl,?_⟩) ?_ ?_;rotate_left;exact jb;rotate_left;exact jc
     refine pure_ (i:=2) (N:=some 16) (v:=?_) (a':=?_) #[true,false,true,false,false,false,false,false,false,false,false,false,false,false,false,false,false,false,false,false,false] rfl rfl (any_of HT_.out jA) (fun _ _ _ h=>h) (Or.inl ⟨by rfl,?_⟩) ?_ ?_;rotate_left;exact jb;rotate_left;exact jc
     refine take_ (i:=1) (N:=some 15) (v:=?_) (a':=?_) (bm_ 3 21) rfl rfl (yo HT_.out HW_.out jA) (fun _ _ _ h=>h) (Or.inl ⟨by rfl,?_⟩) hHeld ?_ ?_;rotate_left
     ·
      rintro w' ⟨s0,s1,s2,s3⟩
      go_simp
      with_reducible rfl
     rotate_left
     exact jc
     refine pure_ (i:=3) (N:=some 17) (v:=?_) (a':=?_) (bm_ 4 21) rfl rfl (any_of HT_.out jA) (fun _ _ _ h=>h) (Or.inl ⟨by rfl,?_⟩) ?_ ?_;rotate_left;exact jb;rotate_left;exact jc
     refine pure_ (i:=4) (N:=some 18) (v:=?_) (a':=?_) (bm_ 5 21) rfl rfl (any_of HT_.out jA) (fun _ _ _ h=>h) (Or.inl ⟨by rfl,?_⟩) ?_ ?_;rotate_left;exact jb;rotate_left;exact jc
     refine take_ (i:=5) (N:=some 19) (v:=?_) (a':=?_) (bm_ 6 21) rfl rfl (yo HT_.out HW_.out jA) (fun _ _ _ h=>h) (Or.inl ⟨by rfl,?_⟩) hHeld ?_ ?_;rotate_left
     ·
      rintro w' ⟨s0,s1,s2,s3⟩
      go_simp
      with_reducible rfl
     rotate_left
     exact jc
     refine pure_ (i:=6) (N:=some 20) (v:=?_) (a':=?_) (bm_ 7 21) rfl rfl (any_of HT_.out jA) (fun _ _ _ h=>h) (Or.inl ⟨by rfl,?_⟩) ?_ ?_;rotate_left;exact jb;rotate_left;exact jc
     refine pure_ (i:=7) (N:=some 21) (v:=?_) (a':=?_) (bm_ 8 21) rfl rfl (any_of HT_.out jA) (fun _ _ _ h=>h) (Or.inl ⟨by rfl,?_⟩) ?_ ?_;rotate_left;exact jb;rotate_left;exact jc
     refine pure_ (i:=8) (N:=some 22) (v:=?_) (a':=?_) (bm_ 9 21) rfl rfl (any_of HT_.out jA) (fun _ _ _ h=>h) (Or.inl ⟨by rfl,?_⟩) ?_ ?_;rotate_left;exact jb;rotate_left;exact jc
     refine pure_ (i:=9) (N:=some 23) (v:=undef) (a':=?_) (bm_ 10 21) rfl rfl (any_of HT_.out jA) (fun _ _ _ h=>h) (Or.inr ⟨by rfl,rfl⟩) ?_ ?_;rotate_left
     exact jc
     refine pure_ (i:=10) (N:=some 24) (v:=undef) (a':=?_) (bm_ 11 21) rfl rfl (any_of HT_.out jA) (fun _ _ _ h=>h) (Or.inr ⟨by rfl,rfl⟩) ?_ ?_;rotate_left
     exact jc
     refine pure_ (i:=11) (N:=some 25) (v:=undef) (a':=?_) (bm_ 12 21) rfl rfl (any_of HT_.out jA) (fun _ _ _ h=>h) (Or.inr ⟨by rfl,rfl⟩) ?_ ?_;rotate_left
     exact jc
     refine pure_ (i:=12) (N:=some 26) (v:=undef) (a':=?_) (bm_ 13 21) rfl rfl (any_of HT_.out jA) (fun _ _ _ h=>h) (Or.inr ⟨by rfl,rfl⟩) ?_ ?_;rotate_left
     exact jc
     refine pure_ (i:=13) (N:=some 27) (v:=undef) (a':=?_) (bm_ 14 21) rfl rfl (any_of HT_.out jA) (fun _ _ _ h=>h) (Or.inr ⟨by rfl,rfl⟩) ?_ ?_;rotate_left
     exact jc
     refine pure_ (i:=14) (N:=some 28) (v:=undef) (a':=?_) (bm_ 15 21) rfl rfl (any_of HT_.out jA) (fun _ _ _ h=>h) (Or.inr ⟨by rfl,rfl⟩) ?_ ?_;rotate_left
     exact jc
     refine pure_ (i:=15) (N:=some 29) (v:=undef) (a':=?_) (bm_ 16 21) rfl rfl (any_of HT_.out jA) (fun _ _ _ h=>h) (Or.inr ⟨by rfl,rfl⟩) ?_ ?_;rotate_left
     exact jc
     refine pure_ (i:=16) (N:=some 30) (v:=undef) (a':=?_) (bm_ 17 21) rfl rfl (any_of HT_.out jA) (fun _ _ _ h=>h) (Or.inr ⟨by rfl,rfl⟩) ?_ ?_;rotate_left
     exact jc
     refine pure_ (i:=17) (N:=some 31) (v:=undef) (a':=?_) (bm_ 18 21) rfl rfl (any_of HT_.out jA) (fun _ _ _ h=>h) (Or.inr ⟨by rfl,rfl⟩) ?_ ?_;rotate_left
     exact jc
     refine pure_ (i:=18) (N:=some 32) (v:=undef) (a':=?_) (bm_ 19 21) rfl rfl (any_of HT_.out jA) (fun _ _ _ h=>h) (Or.inr ⟨by rfl,rfl⟩) ?_ ?_;rotate_left
     exact jc
     refine pure_ (i:=19) (N:=some 33) (v:=undef) (a':=?_) (bm_ 20 21) rfl rfl (any_of HT_.out jA) (fun _ _ _ h=>h) (Or.inr ⟨by rfl,rfl⟩) ?_ ?_;rotate_left
     exact jc
     refine pure_ (i:=20) (N:=some 34) (v:=?_) (a':=?_) (bm_ 21 21) rfl rfl (any_of HT_.out jA) (fun _ _ _ h=>h) (Or.inl ⟨by rfl,?_⟩) ?_ ?_;rotate_left;exact jb;rotate_left;exact jc
     refine done_ (done_of HT_.out jA) ?_
     try go_wp2
     go_roundg k1
     case measure=>have:=HK1.out;omega
     case rel=>exact ⟨(x5_1),(wrap64 (x6_1+1)),jD,jD,H',⟨jK⟩,⟨jk⟩,⟨jw⟩,⟨jq⟩⟩
    rw [if_neg c6] at H;exact absurd H (by simp)
   rw [if_neg c5] at H;have c5b0 : decide (x6_1<(l0_0.length : Int))=false:=decide_eq_false c5;clear c5;obtain rfl:=zU H;have hnb22:=NB128_129.out;have hnc22:=NB129_128.out;obtain ⟨hcz23_0,hcz23_1,hfz23_0,hfz23_1⟩:=cB2 BK128.out
   go_wp2
   go_ret
   exact ⟨jG,jq⟩


theorem eqA51 (d : Nat) (w : World) (x0 y0 : ByteArray) (x1 y1 : Int) :
  (Op.equalIn (d+2) 51 (.agg #[.string x0,.int .i64 x1]) (.agg #[.string y0,.int .i64 y1])).run Try.prog w = .ok (x0.toList == y0.toList && (x1 == y1)) w:=by
 refine eqA_of Try.underlying51 jA ?_;refine eqf_cons (by rfl) (by go_simp;rfl) (by go_simp;rfl) (by go_simp) ?_;exact eqf_last (by rfl) (by go_simp;rfl) (by go_simp;rfl) (by go_simp)
end Go.Proofs.Ytamikhmpfmgofaa.Q
end
section
namespace Go.Proofs.Ytamikhmpfmgofaa.Q
open Go.RowKit Go.Proofs.YtamikhmpfmgofaaW.PrintWords Go.Proofs.YtamikhmpfmgofaaW.PrintLast Go.Proofs.YtamikhmpfmgofaaW.PrintMore
attribute [local go_sem] max2_int min2_int max_two min_two max_three min_three max_four min_four max2_str min2_str str_geq str_gtr str_leq
set_option linter.unusedVariables false
set_option linter.unusedSimpArgs false
attribute [local go_sem high] eqA51
theorem Fi.three (w : World) (o0 o1 o2 : Obj) : (((w.alloc o0).alloc o1).alloc o2).heap[w.heap.size]? = some o0∧(((w.alloc o0).alloc o1).alloc o2).heap[w.heap.size+1]? = some o1∧(((w.alloc o0).alloc o1).alloc o2).heap[w.heap.size+1+1]? = some o2∧Below w.heap.size w (((w.alloc o0).alloc o1).alloc o2):=by
 refine ⟨zg (zg (blk_new w _) _) _,zg ?_ _,?_,za (za (za (Below.refl _ _) _) _) _⟩
 ·
  have:=blk_new (w.alloc o0) o1
  simpa using this
 have:=blk_new ((w.alloc o0).alloc o1) o2
 simpa using this
theorem Fi.at_F {w : World} {ok : Nat→Prop} {A : Option Addr} {n : Nat} {xs : List S67} (h : Kd.F k67 w ok A n xs) (i : Int) (h0 : 0≤i) (h1 : i<n) : ∃ ad A1 c1,A=some ad∧w.cell? ⟨(ad.add (i.toNat*2)).block,(ad.add (i.toNat*2)).off+1,none⟩=some (.slice A1 (rd_T67 xs i).f1.length c1)∧(rd_T67 xs i).f1.length≤c1∧Kd.F k51 w ok A1 (rd_T67 xs i).f1.length (rd_T67 xs i).f1:=by
 obtain ⟨ad,c,e,_,hK,hc0,_⟩:=Kd.F_get h z67 i h0 h1;have hc : ∀ j u,c[j]? = some u→w.cell? (ad.add (i.toNat*2+j))=some u:=hc0;obtain ⟨A1,c1,rfl,l1,g1⟩:=k67_openF hK;exact ⟨ad,A1,c1,e,by rw [← add_field _ _ 1 jH];exact hc 1 _ rfl,l1,g1⟩
theorem Fi.w_next (i : Nat) (h : i≤4611686018427387904) : wrap64 ((i : Int)+1)=((i+1 : Nat) : Int):=by unfold wrap64;omega
theorem Fi.K_M {w w' : World} {base : Nat} {ok : Nat→Prop} (x : S51) (cs : List Value) (h : k51.K w' x cs) : k51.M w base ok x cs:=by rw [k51_open h];exact k51_mkM _ _ _ _
def Fi.at : List S51→ByteArray→Int→Nat→Option Nat
 | [],_,_,_=>none
 | x :: xs,key,id,i=>if (!(x.f0.toList == key.toList) || (!(x.f1 == id)))=true then Fi.at xs key id (i+1) else some i
def Fi.f (k : Nat) (l0_0 : List (S67)) (a0_1 : Int) (a1_0 : ByteArray) (a1_1 : Int) : Option ((List (S67))×Int×Int):=(F8.f k l0_0 a0_1 a1_0 a1_1).bind fun pl=>(if 0≤pl then (if pl<(l0_0.length : Int) then (if l0_0.length≤4611686018427387904∧((rd_T67 l0_0 pl).f1).length≤1000000 then (match Fi.at ((rd_T67 l0_0 pl).f1) a1_0 a1_1 0 with|none=>some (l0_0,a0_1,5)|some i=>((F7.f k l0_0 a0_1).bind fun t=>(if pl<(t.1.length : Int)∧t.1.length≤1000000 then (if ((rd_T67 l0_0 pl).f1).length=1∧1<t.1.length then some (((t.1.set pl.toNat (⟨(rd_T67 t.1 pl).f0,((rd_T67 l0_0 pl).f1).take i++((rd_T67 l0_0 pl).f1).drop (i+1)⟩ : S67)).take pl.toNat)++((t.1.set pl.toNat (⟨(rd_T67 t.1 pl).f0,((rd_T67 l0_0 pl).f1).take i++((rd_T67 l0_0 pl).f1).drop (i+1)⟩ : S67)).drop (pl.toNat+1)),t.2,0) else some (t.1.set pl.toNat (⟨(rd_T67 t.1 pl).f0,((rd_T67 l0_0 pl).f1).take i++((rd_T67 l0_0 pl).f1).drop (i+1)⟩ : S67),t.2,0)) else none))) else none) else none) else none)
theorem Fi.mono : ∀ a0 a1 a2 a3 k,LeO (Fi.f k a0 a1 a2 a3) (Fi.f (k+1) a0 a1 a2 a3):=by
 intro a0 a1 a2 a3 k;unfold Fi.f;refine zO (F8.mono _ _ _ _ _) (fun pl=>zP (zP (zP ?_ (zN _)) (zN _)) (zN _))
 cases Fi.at ((rd_T67 a0 pl).f1) a2 a3 0 with
 | none=>exact zQ _
 | some i=>exact zO (F7.mono _ _ _) (fun _=>zQ _)
set_option maxHeartbeats 16000000 in
set_option maxRecDepth 100000 in
theorem Fi.calls (k : Nat) (P0_0_ : Nat→Prop) (A0_0 : Option Addr) (c0_0 : Nat) (l0_0 : List (S67)) (a0_1 : Int) (a1_0 : ByteArray) (a1_1 : Int) (r1 : List (S67)) (r2 : Int) (r3 : Int) (w : World) (hs0_0 : Kd.V k67 67 w w.heap.size (fun k_=>P0_0_ k_) (.slice A0_0 l0_0.length c0_0) l0_0) (h : Fi.f k l0_0 a0_1 a1_0 a1_1=some (r1,r2,r3)) :
  Calls Try.prog 42 #[.agg #[.slice A0_0 l0_0.length c0_0,.int .i64 a0_1],.agg #[.string a1_0,.int .i64 a1_1]] w fun e w' => ∃ v0_ : Value,e = .returned (.tuple #[.agg #[v0_,.int .i64 r2],.int .i64 r3])∧Kd.V k67 67 w' w.heap.size (fun k_=>(P0_0_ k_∨w.heap.size≤k_)) v0_ r1∧Below w.heap.size w w':=by
 have hu35:=Try.underlying35;have hu51:=Try.underlying51;have mixed : Try.prog.follows Departure.mixedOrders=true:=by rfl
 have late : Try.prog.follows Departure.lateStores=true:=by rfl
 unfold Fi.f at h;obtain ⟨pl,hK,h⟩:=zT.mp h
 by_cases hK0 : 0≤pl
 case neg=>rw [if_neg hK0] at h;cases h
 rw [if_pos hK0] at h
 by_cases hK1 : pl<(l0_0.length : Int)
 case neg=>rw [if_neg hK1] at h;cases h
 rw [if_pos hK1] at h;obtain ⟨l,hl⟩ : ∃ l,l=(rd_T67 l0_0 pl).f1:=⟨_,rfl⟩;rw [← hl] at h
 by_cases hlm : l0_0.length≤4611686018427387904∧l.length≤1000000
 case neg=>rw [if_neg hlm] at h;cases h
 rw [if_pos hlm] at h;obtain ⟨-,hc0_0,hF0⟩:=Kd.V_at hs0_0;obtain ⟨ad,Al,cl,rfl,hxl,hlc,hFl⟩:=Fi.at_F hF0 pl hK0 hK1;rw [← hl] at hxl hlc hFl;have HF0:=zh hF0;have HFl:=zh hFl;have HXL:=zh hxl;have HLC:=zh hlc;have HLM:=zh hlm;have HL:=zh hl;obtain ⟨V,hV⟩ : ∃ V,V=((w.alloc (.cells #[.slice (some ad) l0_0.length c0_0,.int .i64 a0_1] 35)).alloc (.cells #[.string a1_0,.int .i64 a1_1] 51)).alloc (.cells #[.slice none 0 0,.int .i64 0] 35):=⟨_,rfl⟩;obtain ⟨h0,h1,h2,hBV⟩:=Fi.three w (.cells #[.slice (some ad) l0_0.length c0_0,.int .i64 a0_1] 35) (.cells #[.string a1_0,.int .i64 a1_1] 51) (.cells #[.slice none 0 0,.int .i64 0] 35);rw [← hV] at h0 h1 h2 hBV;obtain ⟨g0,hg0⟩ : ∃ g,g=w.heap.size:=⟨_,rfl⟩;rw [← hg0] at h0 h1 h2;obtain ⟨g1,hg1⟩ : ∃ g,g=g0+1:=⟨_,rfl⟩;rw [← hg1] at h1 h2;obtain ⟨g2,hg2⟩ : ∃ g,g=g1+1:=⟨_,rfl⟩;rw [← hg2] at h2;have hb0 : w.heap.size≤g0:=Nat.le_of_eq hg0.symm;have hb1 : w.heap.size≤g1:=by rw [hg1,hg0];exact Nat.le_add_right _ _
 have hb2 : w.heap.size≤g2:=by rw [hg2,hg1,hg0,Nat.add_assoc];exact Nat.le_add_right _ _
 have n02 : g0≠g2:=by omega
 have n10 : g1≠g0:=by omega
 have HB0:=zh hBV;have H0_0:=zh h0;have H1_0:=zh h1;have H2_0:=zh h2;have GB0:=zh hb0;have GB1:=zh hb1;have GB2:=zh hb2;have N02:=zh n02;have N10:=zh n10;have k0:=(zz h0 0).trans (show _=some (.slice (some ad) l0_0.length c0_0) from rfl);have k1:=(zz h0 1).trans (show _=some (.int .i64 a0_1) from rfl);have k2:=(zz h1 0).trans (show _=some (.string a1_0) from rfl);have k3:=(zz h1 1).trans (show _=some (.int .i64 a1_1) from rfl);clear h0 h1 h2 hBV hF0 hFl hxl hlc hlm hb0 hb1 hb2 n02 n10 hs0_0
 go_enter Try.func42,Try.ntmps42
 go_wp2_with fail
 rw [← hV];simp only [← hg0];simp only [← hg1];simp only [← hg2];clear hV hg0 hg1 hg2
 go_at_call 53
 refine (F8.calls k (some ad) c0_0 l0_0 a0_1 a1_0 a1_1 pl V (Kd.F_now (Kd.F_below HF0.out HB0.out)) hc0_0 hK).mono ?_;rintro e w1 ⟨rfl,hb_⟩;have HB1:=zh (zC HB0.out hb_);have H0_1:=zh (zD H0_0.out hb_);have H1_1:=zh (zD H1_0.out hb_);have H2_1:=zh (zD H2_0.out hb_);clear k0 k1 k2 k3 hb_ hK HB0 H0_0 H1_0 H2_0;have k0:=(zz H0_1.out 0).trans (show _=some (.slice (some ad) l0_0.length c0_0) from rfl);have kx:=(HB1.out.cell (zl w _ HXL.out)).trans HXL.out;have hp0:=eq_true hK0;have hp1:=eq_true hK1;clear hl
 go_wp2_with fail
 obtain ⟨res,hres⟩ : ∃ res,res=Fi.at l a1_0 a1_1 0:=⟨_,rfl⟩;rw [← hres] at h;have HH:=zh h;have HR0:=zh hres.symm;clear k0 kx h hres
 go_loopg [8] l.length (fun kq v8 w' => ∃ (i : Nat),v8 = .int .i64 (i : Int)∧Aside0 (kq+i=l.length)∧Aside0 (Fi.at (l.drop i) a1_0 a1_1 i=res)∧Aside0 (w'.heap[g0]? = some (.cells #[.slice (some ad) l0_0.length c0_0,.int .i64 a0_1] 35 (0,0)))∧Aside0 (w'.heap[g1]? = some (.cells #[.string a1_0,.int .i64 a1_1] 51 (0,0)))∧Aside0 (w'.heap[g2]? = some (.cells #[.slice none 0 0,.int .i64 0] 35 (0,0)))∧Aside0 (Below w.heap.size w w'))
 case atStart=>exact ⟨0,rfl,⟨jH⟩,⟨by rw [List.drop_zero];exact HR0.out⟩,H0_1,H1_1,H2_1,HB1⟩
 case round =>
  clear H0_1 H1_1 H2_1 HB1 HR0;obtain ⟨i,rfl,HI,HA,H0_2,H1_2,H2_2,HB2⟩:=hrel
  by_cases hil : i<l.length
  ·
   have c3 : decide ((i : Int)<(l.length : Int))=true:=decide_eq_true (Int.ofNat_lt.2 hil)
   have hi0 : (0≤(i : Int))=True:=eq_true (Int.natCast_nonneg i);have hi1 : ((i : Int)<(l.length : Int))=True:=eq_true (Int.ofNat_lt.2 hil);have hwi:=Fi.w_next i (Nat.le_trans (Nat.le_of_lt hil) (Nat.le_trans HLM.out.2 jC));have hwi2 : IntKind.i64.wrap ((i : Int)+1)=((i+1 : Nat) : Int):=(zG _).trans hwi;obtain ⟨kq,rfl⟩ : ∃ q,gk=q+1:=⟨gk - 1,by have:=HI.out;omega⟩;obtain ⟨ae,hAe,hx0_,hx1_⟩:=at_T51 (Kd.F_now HFl.out) (i : Int) (Int.natCast_nonneg _) (Int.ofNat_lt.2 hil)
   cases hAe
   rw [Int.toNat_natCast] at hx0_ hx1_;have hx0:=(HB2.out.cell (zl w _ hx0_)).trans hx0_;have hx1:=(HB2.out.cell (zl w _ hx1_)).trans hx1_;have hA:=HA.out;rw [List.drop_eq_getElem_cons hil] at hA;simp only [Fi.at] at hA
   have er : l[i]=rd_T51 l (i : Int):=by
    unfold rd_T51;rw [List.getD_eq_getElem?_getD,Int.toNat_natCast,List.getElem?_eq_getElem hil];rfl
   rw [er] at hA;have HA2:=zh hA;clear hA er HA hx0_ hx1_;have k2:=(zz H1_2.out 0).trans (show _=some (.string a1_0) from rfl);have k3:=(zz H1_2.out 1).trans (show _=some (.int .i64 a1_1) from rfl)
   go_wp2_with fail
   have HB3:=zh (zc HB2.out);have H0_3:=zh (zf H0_2.out);have H1_3:=zh (zf H1_2.out);have H2_3:=zh (zf H2_2.out);refine start_ (n:=6) (S:=fun w' => w'.cell? (ae.add (i*2))=some (.string (rd_T51 l (i : Int)).f0)∧w'.cell? ⟨(ae.add (i*2)).block,(ae.add (i*2)).off+1,none⟩=some (.int .i64 (rd_T51 l (i : Int)).f1)∧w'.cell? ⟨g1,0,none⟩=some (.string a1_0)∧w'.cell? ⟨g1,1,none⟩=some (.int .i64 a1_1)) (ds:=[]) (bm_ 0 6) jA rfl rfl ⟨hx0,hx1,k2,k3⟩ (fun hHeld=>?_);generalize wr.drew=w3 at HB3 H0_3 H1_3 H2_3 hHeld ⊢;clear hx0 hx1 k2 k3 HB2 H0_2 H1_2 H2_2;refine pure_ (i:=0) (N:=some 24) (v:=?_) (a':=?_) (bm_ 1 6) rfl rfl jA (fun _ _ _ h=>h) (Or.inl ⟨by rfl,?_⟩) ?_ ?_;rotate_left;exact jb;rotate_left;exact jc
   refine pure_ (i:=1) (N:=some 25) (v:=?_) (a':=?_) (bm_ 2 6) rfl rfl jA (fun _ _ _ h=>h) (Or.inl ⟨by rfl,?_⟩) ?_ ?_;rotate_left;exact jb;rotate_left;exact jc
   refine pure_ (i:=2) (N:=some 26) (v:=?_) (a':=?_) (bm_ 3 6) rfl rfl jA (fun _ _ _ h=>h) (Or.inl ⟨by rfl,?_⟩) ?_ ?_;rotate_left;exact jb;rotate_left;exact jc
   refine take_ (i:=3) (N:=some 27) (v:=?_) (a':=?_) (bm_ 4 6) rfl rfl jA (fun _ _ _ h=>h) (Or.inl ⟨by rfl,?_⟩) hHeld ?_ ?_;rotate_left
   ·
    rintro w' ⟨s0,s1,s2,s3⟩
    go_simp
    with_reducible rfl
   rotate_left
   exact jc
   refine take_ (i:=4) (N:=some 28) (v:=?_) (a':=?_) (bm_ 5 6) rfl rfl jA (fun _ _ _ h=>h) (Or.inl ⟨by rfl,?_⟩) hHeld ?_ ?_;rotate_left
   ·
    rintro w' ⟨s0,s1,s2,s3⟩
    go_simp
    with_reducible rfl
   rotate_left
   exact jc
   refine pure_ (i:=5) (N:=some 29) (v:=?_) (a':=?_) (bm_ 6 6) rfl rfl jA (fun _ _ _ h=>h) (Or.inl ⟨by rfl,?_⟩) ?_ ?_;rotate_left;exact jb;rotate_left;exact jc
   refine done_ jA ?_;obtain ⟨bA,hbA⟩ : ∃ b,b=(!((rd_T51 l (i : Int)).f0.toList == a1_0.toList) || (!((rd_T51 l (i : Int)).f1 == a1_1))):=⟨_,rfl⟩;rw [← hbA];have hA3:=HA2.out;rw [← hbA] at hA3;clear hbA HA2
   cases bA with
   | true =>
    have HA3 : Fi.at (l.drop (i+1)) a1_0 a1_1 (i+1)=res:=hA3;clear hA3
    go_wp2_with fail
    go_roundg kq
    case measure=>exact Nat.lt_succ_self _
    case rel=>exact ⟨i+1,by first|rfl|rw [hwi],⟨by have:=HI.out;omega⟩,⟨HA3⟩,H0_3,H1_3,H2_3,HB3⟩
   | false =>
    replace hA3 : some i=res:=hA3;subst hA3;have h:=HH.out;simp only at h;clear HH;obtain ⟨⟨T1,n1⟩,hT,h⟩:=zT.mp h;simp only at h
    by_cases hTb : pl<(T1.length : Int)∧T1.length≤1000000
    case neg=>rw [if_neg hTb] at h;cases h
    rw [if_pos hTb] at h;obtain ⟨hT1,hT2⟩:=hTb;have HH:=zh h;clear h;have k0:=(zz H0_3.out 0).trans (show _=some (.slice (some ad) l0_0.length c0_0) from rfl);have k1:=(zz H0_3.out 1).trans (show _=some (.int .i64 a0_1) from rfl);have f0:=zA H0_3.out 0;have f1:=zA H0_3.out 1
    go_wp2_with fail
    go_at_call 43
    refine (F7.calls k (some ad) c0_0 l0_0 a0_1 T1 n1 w3 (Kd.F_now (Kd.F_below HF0.out HB3.out)) hc0_0 hT).mono ?_;rintro e w4 ⟨v4,rfl,hS4,hb_⟩;have HB4:=zh (zC HB3.out hb_);have H0_4:=zh (zD H0_3.out hb_);have H2_4:=zh (zD H2_3.out hb_);have L0 : Aside0 (g0<w3.heap.size):=⟨yi H0_3.out⟩;have L2 : Aside0 (g2<w3.heap.size):=⟨yi H2_3.out⟩;obtain ⟨g,cg,rfl,gb,gl,cg_,hg_⟩:=Kd.S_form hS4 jH;have HN4:=zh (Kd.N_mono (Kd.S_N (Kd.S_lower (Kd.S_bound hS4) HB3.out.size)) (ok':=fun k_=>w3.heap.size≤k_) (fun _ hk=>hk.2.1));have GG:=zh gb;clear k0 k1 f0 f1 hS4 hb_ hT HB3 H0_3 H1_3 H2_3 hg_;have k0:=zz H0_4.out 0;have k1:=zz H0_4.out 1;have f0:=zA H0_4.out 0;have f1:=zA H0_4.out 1
    go_wp2_with fail
    have HB5 : Aside0 (Below w.heap.size w ((w4.setCell ⟨g0,0,none⟩ (.slice (some ⟨g,0,none⟩) T1.length cg)).setCell ⟨g0,1,none⟩ (.int .i64 n1))):=⟨zd (zd HB4.out GB0.out) GB0.out⟩;have H0_5 : Aside0 (((w4.setCell ⟨g0,0,none⟩ (.slice (some ⟨g,0,none⟩) T1.length cg)).setCell ⟨g0,1,none⟩ (.int .i64 n1)).heap[g0]? = some (.cells #[.slice (some ⟨g,0,none⟩) T1.length cg,.int .i64 n1] 35 (0,0))):=⟨blk_set (blk_set H0_4.out 0 _) 1 _⟩;have H2_5 : Aside0 (((w4.setCell ⟨g0,0,none⟩ (.slice (some ⟨g,0,none⟩) T1.length cg)).setCell ⟨g0,1,none⟩ (.int .i64 n1)).heap[g2]? = some (.cells #[.slice none 0 0,.int .i64 0] 35 (0,0))):=⟨(Below.heap_setCell _ ⟨g0,1,none⟩ _ g2 (Ne.symm N02.out)).trans ((Below.heap_setCell _ ⟨g0,0,none⟩ _ g2 (Ne.symm N02.out)).trans H2_4.out)⟩;have HN5 : Aside0 (Kd.N k67 67 ((w4.setCell ⟨g0,0,none⟩ (.slice (some ⟨g,0,none⟩) T1.length cg)).setCell ⟨g0,1,none⟩ (.int .i64 n1)) w.heap.size (fun k_=>w3.heap.size≤k_) (.slice (some ⟨g,0,none⟩) T1.length cg) T1):=⟨Kd.N_far (p:=⟨g0,1,none⟩) (Kd.N_far (p:=⟨g0,0,none⟩) HN4.out (fun _ hk e9=>by rw [e9] at hk;exact Nat.lt_irrefl _ (Nat.lt_of_lt_of_le L0.out hk)) _) (fun _ hk e9=>by rw [e9] at hk;exact Nat.lt_irrefl _ (Nat.lt_of_lt_of_le L0.out hk)) _⟩;have L35 : Aside0 (w3.heap.size≤((w4.setCell ⟨g0,0,none⟩ (.slice (some ⟨g,0,none⟩) T1.length cg)).setCell ⟨g0,1,none⟩ (.int .i64 n1)).heap.size):=⟨by simp;exact Nat.le_trans gb (Nat.le_of_lt gl)⟩;have GL5 : Aside0 (g<((w4.setCell ⟨g0,0,none⟩ (.slice (some ⟨g,0,none⟩) T1.length cg)).setCell ⟨g0,1,none⟩ (.int .i64 n1)).heap.size):=⟨by simpa using gl⟩;clear k0 k1 f0 f1 HB4 H0_4 H2_4 HN4 gb gl;generalize (w4.setCell ⟨g0,0,none⟩ (.slice (some ⟨g,0,none⟩) T1.length cg)).setCell ⟨g0,1,none⟩ (.int .i64 n1)=w5 at *;have HB6:=zh (zc HB5.out);have H0_6:=zh (zf H0_5.out);have H2_6:=zh (zf H2_5.out);have HN6:=zh (Kd.N_drew HN5.out);have L36 : Aside0 (w3.heap.size≤w5.drew.heap.size):=L35;have GL6 : Aside0 (g<w5.drew.heap.size):=GL5;have hTp1:=eq_true hT1;have hKp0:=eq_true hK0;have hi4 : (0 : Int)≤(i : Int):=Int.natCast_nonneg i;have hi5 : (i : Int)≤(l.length : Int):=Int.ofNat_le.2 (Nat.le_of_lt hil);obtain ⟨j,hj⟩ : ∃ j : Nat,j=i+1:=⟨_,rfl⟩;have hjw : IntKind.i64.wrap ((i : Int)+1)=(j : Int):=by rw [hj];exact hwi2
    have hjl : j≤l.length:=by rw [hj];exact hil
    have hi6 : (0 : Int)≤(j : Int):=Int.natCast_nonneg _;have hi7 : (j : Int)≤(l.length : Int):=Int.ofNat_le.2 hjl;have HJ:=zh hj;have HJL:=zh hjl;clear hwi hwi2 hj hjl;obtain ⟨i0_,hi0_,_,hsz_,_⟩:=info_parts info51;have hcut1:=cut_to (P:=Try.prog) 29 51 .i64 Try.underlying29 hi0_ (some ae) l.length cl (i : Int) hi4 hi5 HLC.out;have hcut2:=cut_from (P:=Try.prog) 29 51 .i64 Try.underlying29 hi0_ 2 hsz_ (some ae) l.length cl (j : Int) hi6 hi7;rw [Int.toNat_natCast] at hcut1 hcut2;have hC1:=Kd.F_imp HFl.out (fun _ hC=>Kd.C_take (m:=i) hC (Nat.le_of_lt hil));have hC2:=Kd.F_imp HFl.out (fun _ hC=>Kd.C_drop (c:=cl) (m:=j) hC HJL.out HLC.out);rw [zx,Nat.min_eq_left (Nat.le_of_lt hil)] at hC1;rw [zw] at hC2;obtain ⟨A2,hA2⟩ : ∃ A2,A2=(if cl=j then (some ae) else (some ae : Option Addr).map (·.add (j*2))):=⟨_,rfl⟩;rw [← hA2] at hcut2;replace hC2 : Kd.F k51 w (fun k_=>P0_0_ k_) A2 (l.length - j) (l.drop j):=by rw [hA2];exact hC2
    have HC1:=zh hC1;have HC2:=zh hC2;have HT1:=zh hT1;have HT2:=zh hT2;clear hC1 hC2 hA2 hi0_ hsz_ hT1 hT2
    go_wp2_with fail
    refine start_ (n:=16) (S:=fun w' => w'.cell? ⟨g0,0,none⟩=some (.slice (some ⟨g,0,none⟩) T1.length cg)) (ds:=[15]) (bm_ 0 16) jA rfl rfl ((zz H0_6.out 0).trans rfl) (fun hHeld=>?_);generalize w5.drew=w7 at HB6 H0_6 H2_6 HN6 L36 GL6 hHeld ⊢;have HB7:=HB6;have H0_7:=H0_6;have H2_7:=H2_6;have HN7:=HN6;clear HB5 H0_5 H2_5 HN5 L35 GL5 HB6 H0_6 H2_6 HN6;refine pure_ (i:=0) (N:=some 32) (v:=?_) (a':=?_) (bm_ 1 16) rfl rfl jA (fun _ _ _ h=>h) (Or.inl ⟨by rfl,?_⟩) ?_ ?_;rotate_left;exact jb;rotate_left;exact jc
    refine pure_ (i:=2) (N:=some 34) (v:=?_) (a':=?_) #[true,false,true,false,false,false,false,false,false,false,false,false,false,false,false,false] rfl rfl jA (fun _ _ _ h=>h) (Or.inl ⟨by rfl,?_⟩) ?_ ?_;rotate_left;exact jb;rotate_left;exact jc
    refine pure_ (i:=4) (N:=some 36) (v:=?_) (a':=?_) #[true,false,true,false,true,false,false,false,false,false,false,false,false,false,false,false] rfl rfl jA (fun _ _ _ h=>h) (Or.inl ⟨by rfl,?_⟩) ?_ ?_;rotate_left;exact jb;rotate_left;exact jc
    refine pure_ (i:=5) (N:=some 37) (v:=?_) (a':=?_) #[true,false,true,false,true,true,false,false,false,false,false,false,false,false,false,false] rfl rfl jA (fun _ _ _ h=>h) (Or.inl ⟨by rfl,?_⟩) ?_ ?_;rotate_left;exact jb;rotate_left;exact jc
    refine pure_ (i:=6) (N:=some 38) (v:=?_) (a':=?_) #[true,false,true,false,true,true,true,false,false,false,false,false,false,false,false,false] rfl rfl jA (fun _ _ _ h=>h) (Or.inl ⟨by rfl,?_⟩) ?_ ?_;rotate_left;exact jb;rotate_left;exact jc
    refine pure_ (i:=8) (N:=some 40) (v:=?_) (a':=?_) #[true,false,true,false,true,true,true,false,true,false,false,false,false,false,false,false] rfl rfl jA (fun _ _ _ h=>h) (Or.inl ⟨by rfl,?_⟩) ?_ ?_;rotate_left;exact jb;rotate_left;exact jc
    refine pure_ (i:=9) (N:=some 41) (v:=?_) (a':=?_) #[true,false,true,false,true,true,true,false,true,true,false,false,false,false,false,false] rfl rfl jA (fun _ _ _ h=>h) (Or.inl ⟨by rfl,?_⟩) ?_ ?_;rotate_left;exact jb;rotate_left;exact jc
    refine pure_ (i:=10) (N:=some 42) (v:=?_) (a':=?_) #[true,false,true,false,true,true,true,false,true,true,true,false,false,false,false,false] rfl rfl jA (fun _ _ _ h=>h) (Or.inl ⟨by rfl,?_⟩) ?_ ?_;rotate_left;exact jb;rotate_left;exact jc
    refine pure_ (i:=11) (N:=some 43) (v:=?_) (a':=?_) #[true,false,true,false,true,true,true,false,true,true,true,true,false,false,false,false] rfl rfl jA (fun _ _ _ h=>h) (Or.inl ⟨by rfl,?_⟩) ?_ ?_;rotate_left;exact jb;rotate_left;exact jc
    refine take_ (i:=1) (N:=some 33) (v:=?_) (a':=?_) #[true,true,true,false,true,true,true,false,true,true,true,true,false,false,false,false] rfl rfl jA (fun _ _ _ h=>h) (Or.inl ⟨by rfl,?_⟩) hHeld ?_ ?_;rotate_left
    ·
     intro w' s0
     go_simp
     with_reducible rfl
    rotate_left
    exact jc
    refine one_ (i:=3) (N:=some 35) #[true,true,true,true,true,true,true,false,true,true,true,true,false,false,false,false] rfl rfl jA jC (fun K hK=>?_);refine Kd.R_lit_step k51 _ 51 ?hg (N:=35) ?hd (xs:=([] : List (S51))) (inner:=[]) (ok:=fun _=>True) (okp:=fun _=>True) ?hr ?hp (fun _ hk=>hk) trivial (Below.refl _ _) (ye _) (by simp) ?_;(case hd=>rfl);(case hg=>rfl);(case hr=>go_simp <;> rfl);(case hp=>exact (Reps.none _ _));intro va wa hRa hba hga_ hna_;clear hga_ hna_;refine hK.out _ _ ((zz (zD H0_7.out hba) 0).trans rfl) (fun hHeld=>?_);clear hK K;refine norm_ (a':=?_) ?_ ?_;rotate_left
    ·
     show Act.put _ (some 35) _=_
     simp only [Act.put,zi,zj,zk,zG,zH]
     rfl
    refine one_ (i:=7) (N:=some 39) (bm_ 12 16) rfl rfl jA jC (fun K hK=>?_);refine Kd.R_append_rows_step k51 (w0:=w7) w7.heap.size (by rfl) (.tmp 35) (.tmp 38) 29 51 (.agg #[(.string ⟨#[]⟩),(.int .i64 0)]) 24 rfl Try.underlying29 info51 rfl jC jC va ([] : List (S51)) (l.take i) (some ae) i cl (fun _=>True) (fun _=>False) (by rfl) (by rfl) hRa (Kd.F_now (Kd.F_below HC1.out (zC HB7.out hba))) (fun x cs h9=>Fi.K_M x cs h9) (fun _ h9=>h9.elim) (fun _ _=>trivial) hba hba.size (by have:=HLM.out.2;simp;omega) ?_;intro vb wb hRb hbb hg_ hat_;clear hg_ hat_;refine hK.out _ _ ((zz (zD H0_7.out hbb) 0).trans rfl) (fun hHeld=>?_);clear hK K;refine norm_ (a':=?_) ?_ ?_;rotate_left
    ·
     show Act.put _ (some 39) _=_
     simp only [Act.put,zi,zj,zk,zG,zH]
     rfl
    refine one_ (i:=12) (N:=some 44) (bm_ 13 16) rfl rfl jA jC (fun K hK=>?_);refine Kd.R_append_rows_step k51 (w0:=w7) w7.heap.size (by rfl) (.tmp 39) (.tmp 43) 29 51 (.agg #[(.string ⟨#[]⟩),(.int .i64 0)]) 24 rfl Try.underlying29 info51 rfl jC jC vb ([]++l.take i) (l.drop j) A2 (l.length - j) (cl - j) (fun _=>True) (fun _=>False) (by rfl) (by rfl) hRb (Kd.F_now (Kd.F_below HC2.out (zC HB7.out hbb))) (fun x cs h9=>Fi.K_M x cs h9) (fun _ h9=>h9.elim) (fun _ _=>trivial) hbb hbb.size (by have:=HLM.out.2;simp;omega) ?_;intro vc wc hRc hbc hg_ hat_;clear hg_ hat_;obtain ⟨X,hX⟩ : ∃ X : List (S51),X=([]++l.take i)++l.drop j:=⟨_,rfl⟩;rw [← hX] at hRc;have HX:=zh hX;clear hX;obtain ⟨Ac,cc,rfl⟩:=yk hRc;have hce:=(zz (zD H0_7.out hbc) 0).trans (show _=some (.slice (some ⟨g,0,none⟩) T1.length cg) from rfl);obtain ⟨ce,hcl_,hFK_,hcc_,hfr_⟩:=Kd.N_elem (Kd.N_below HN7.out hbc) z67 pl hK0 HT1.out;obtain ⟨A9,c9,rfl,-,-⟩:=k67_openF hFK_;have q9 : wc.cell? ⟨g,pl.toNat*2+1,none⟩=some (.slice A9 (rd_T67 T1 pl).f1.length c9):=hcc_ 1 _ rfl;have f9 : wc.frozen? ⟨g,pl.toNat*2+1,none⟩=false:=hfr_ 1;refine hK.out _ _ (hce) (fun hHeld=>?_);clear hK K;refine norm_ (a':=?_) ?_ ?_;rotate_left
    ·
     show Act.put _ (some 44) _=_
     simp only [Act.put,zi,zj,zk,zG,zH]
     rfl
    refine pure_ (i:=13) (N:=some 45) (v:=?_) (a':=?_) (bm_ 14 16) rfl rfl jA (fun _ _ _ h=>h) (Or.inl ⟨by rfl,?_⟩) ?_ ?_;rotate_left;exact jb;rotate_left;exact jc
    refine pure_ (i:=14) (N:=some 46) (v:=?_) (a':=?_) (bm_ 15 16) rfl rfl jA (fun _ _ _ h=>h) (Or.inl ⟨by rfl,?_⟩) ?_ ?_;rotate_left;exact jb;rotate_left;exact jc
    refine last_ (i:=15) (N:=none) (bm_ 16 16) rfl rfl jA jC (fun K hK=>?_);refine skip_ (w1:=?_) (by rfl) rfl ?_ ?_;rotate_left
    ·
     go_simp
     rfl
    refine hK.out _ _ ?_;clear hK K;refine done_ jA ?_;have hFc : Kd.F k51 wc (fun k_=>w7.heap.size≤k_) Ac X.length X:=Kd.F_mono (Kd.R_F (Kd.R_bound hRc)) (fun _ hk=>hk.2.1)
    obtain ⟨hN8,hG8⟩ : Kd.N k67 67 (wc.setCell ⟨g,pl.toNat*2+1,none⟩ (.slice Ac X.length cc)) w.heap.size (fun k_=>w3.heap.size≤k_) (.slice (some ⟨g,0,none⟩) T1.length cg) (T1.set pl.toNat (⟨(rd_T67 T1 pl).f0,X⟩ : S67))∧wc.grownBy (wc.setCell ⟨g,pl.toNat*2+1,none⟩ (.slice Ac X.length cc)) (some g) :=
     Kd.N_seg (Kd.N_below HN7.out hbc) pl hK0 HT1.out (c:=[.int .i64 (rd_T67 T1 pl).f0,.slice A9 (rd_T67 T1 pl).f1.length c9]) (seg:=[.slice Ac X.length cc]) (j:=1) rfl hcc_ (show 1+1≤2 from by decide) (x':=(⟨(rd_T67 T1 pl).f0,X⟩ : S67)) (okp:=fun k_=>w7.heap.size≤k_) (k67_mkF wc _ (⟨(rd_T67 T1 pl).f0,X⟩ : S67) (yh hRc).2.1 hFc) (fun k_ hk=>⟨Nat.le_trans L36.out hk,fun e9=>by rw [e9] at hk;exact Nat.lt_irrefl _ (Nat.lt_of_lt_of_le GL6.out hk)⟩)
    have hgw : w.heap.size≤g:=Nat.le_trans GB0.out (Nat.le_trans (Nat.le_of_lt L0.out) GG.out);have g0g : g0≠g:=fun e9=>Nat.lt_irrefl _ (Nat.lt_of_lt_of_le L0.out (e9 ▸ GG.out));have g2g : g2≠g:=fun e9=>Nat.lt_irrefl _ (Nat.lt_of_lt_of_le L2.out (e9 ▸ GG.out));have HN8:=zh hN8;have HB8 : Aside0 (Below w.heap.size w (wc.setCell ⟨g,pl.toNat*2+1,none⟩ (.slice Ac X.length cc))):=⟨zd (zC HB7.out hbc) hgw⟩;have H0_8 : Aside0 ((wc.setCell ⟨g,pl.toNat*2+1,none⟩ (.slice Ac X.length cc)).heap[g0]? = some (.cells #[.slice (some ⟨g,0,none⟩) T1.length cg,.int .i64 n1] 35 (0,0))):=⟨(Below.heap_setCell _ ⟨g,_,none⟩ _ g0 g0g).trans (zD H0_7.out hbc)⟩;have H2_8 : Aside0 ((wc.setCell ⟨g,pl.toNat*2+1,none⟩ (.slice Ac X.length cc)).heap[g2]? = some (.cells #[.slice none 0 0,.int .i64 0] 35 (0,0))):=⟨(Below.heap_setCell _ ⟨g,_,none⟩ _ g2 g2g).trans (zD H2_7.out hbc)⟩;have L38 : Aside0 (w3.heap.size≤(wc.setCell ⟨g,pl.toNat*2+1,none⟩ (.slice Ac X.length cc)).heap.size):=⟨by simp;exact Nat.le_trans L36.out hbc.size⟩;clear hcut1 hcut2 hN8 hG8 hFc hRa hRb hRc hba hbb hbc hce hcl_ hFK_ hcc_ hfr_ q9 f9 HB7 H0_7 H2_7 HN7 g0g g2g hgw;generalize wc.setCell ⟨g,pl.toNat*2+1,none⟩ (.slice Ac X.length cc)=w8 at *;have h:=HH.out;have hXe : l.take i++l.drop (i+1)=X:=by rw [HX.out,List.nil_append,HJ.out]
    have q0:=(zz H0_8.out 0).trans (show _=some (.slice (some ⟨g,0,none⟩) T1.length cg) from rfl)
    by_cases hl1 : l.length=1∧1<T1.length
    ·
     rw [if_pos hl1,hXe] at h
     simp only [Option.some.injEq,Prod.mk.injEq] at h;obtain ⟨hr1,rfl,rfl⟩:=h;have HR1:=zh hr1;clear hr1;obtain ⟨hl1,hl2⟩:=hl1;have c5 : ((l.length : Int) == 1)=true:=ya.mpr jH;have c5n : (l.length == 1)=true:=ya.mpr hl1;have c6 : decide ((1 : Int)<(T1.length : Int))=true:=decide_eq_true jH;have c6n : decide (1<T1.length)=true:=decide_eq_true hl2;have HL1:=zh hl1;clear hl1 hl2 hXe
     go_wp2_with fail
     clear q0;obtain ⟨Y,hY⟩ : ∃ Y,Y=T1.set pl.toNat (⟨(rd_T67 T1 pl).f0,X⟩ : S67):=⟨_,rfl⟩;have hYl : Y.length=T1.length:=by rw [hY,List.length_set]
     have HN9:=zh (Kd.N_drew HN8.out);rw [← hY] at HN9;have HYL:=zh hYl;have HB9:=zh (zc HB8.out);have H0_9:=zh (zf H0_8.out);have H2_9:=zh (zf H2_8.out);have L39 : Aside0 (w3.heap.size≤w8.drew.heap.size):=L38;obtain ⟨Kn,rfl⟩ : ∃ Kn : Nat,pl=(Kn : Int):=⟨pl.toNat,(Int.toNat_of_nonneg hK0).symm⟩;have hKn : Kn<T1.length:=Int.ofNat_lt.1 HT1.out;have hKw:=Fi.w_next Kn (Nat.le_trans (Nat.le_of_lt hKn) (Nat.le_trans HT2.out jC));have hKw2 : IntKind.i64.wrap ((Kn : Int)+1)=((Kn+1 : Nat) : Int):=(zG _).trans hKw;have hi4 : (0 : Int)≤(Kn : Int):=Int.natCast_nonneg _;have hi5 : (Kn : Int)≤(T1.length : Int):=Int.ofNat_le.2 (Nat.le_of_lt hKn);obtain ⟨j2,hj2⟩ : ∃ j : Nat,j=Kn+1:=⟨_,rfl⟩;have hjw2 : IntKind.i64.wrap ((Kn : Int)+1)=(j2 : Int):=by rw [hj2];exact hKw2
     have hjl2 : j2≤T1.length:=by rw [hj2];exact hKn
     have hi6 : (0 : Int)≤(j2 : Int):=Int.natCast_nonneg _;have hi7 : (j2 : Int)≤(T1.length : Int):=Int.ofNat_le.2 hjl2;obtain ⟨i0_,hi0_,_,hsz_,_⟩:=info_parts info67;have hcgl : T1.length≤cg:=(Kd.N_reads' HN9.out).2.1;have hcut1:=cut_to (P:=Try.prog) 33 67 .i64 Try.underlying33 hi0_ (some ⟨g,0,none⟩) T1.length cg (Kn : Int) hi4 hi5 hcgl;have hcut2:=cut_from (P:=Try.prog) 33 67 .i64 Try.underlying33 hi0_ 2 hsz_ (some ⟨g,0,none⟩) T1.length cg (j2 : Int) hi6 hi7;rw [Int.toNat_natCast] at hcut1 hcut2;have hFY:=Kd.F_bound (Kd.N_F HN9.out);rw [← hYl] at hFY;have hC1:=Kd.F_imp hFY (fun _ hC=>Kd.C_take (m:=Kn) hC (by rw [hYl];exact Nat.le_of_lt hKn));have hC2:=Kd.F_imp hFY (fun _ hC=>Kd.C_drop (c:=cg) (m:=j2) hC (by rw [hYl];exact hjl2) (by rw [hYl];exact hcgl));rw [zx,Nat.min_eq_left (by rw [hYl];exact Nat.le_of_lt hKn)] at hC1;rw [zw,hYl] at hC2;obtain ⟨A2,hA2⟩ : ∃ A2,A2=(if cg=j2 then (some (⟨g,0,none⟩ : Addr)) else (some (⟨g,0,none⟩ : Addr)).map (·.add (j2*2))):=⟨_,rfl⟩;rw [← hA2] at hcut2;replace hC2 : Kd.F k67 w8.drew (fun k_=>w3.heap.size≤k_∧k_<w8.drew.heap.size) A2 (T1.length - j2) (Y.drop j2):=by rw [hA2];exact hC2
     have HJ2:=zh hj2;have HYR : Aside0 (Y.take Kn++Y.drop (Kn+1)=r1):=⟨by rw [hY];exact HR1.out⟩;clear HR1;have HC1:=zh hC1;have HC2:=zh hC2;clear hC1 hC2 hA2 hi0_ hsz_ hFY hcgl hY hYl hKw hKw2 hj2 hjl2 HN8 HN9;refine start_ (n:=14) (S:=fun w' => w'.cell? ⟨g0,0,none⟩=some (.slice (some ⟨g,0,none⟩) T1.length cg)) (ds:=[13]) (bm_ 0 14) jA rfl rfl ((zz H0_9.out 0).trans rfl) (fun hHeld=>?_);generalize w8.drew=w9 at HB9 H0_9 H2_9 L39 HC1 HC2 hHeld ⊢;refine pure_ (i:=1) (N:=some 57) (v:=?_) (a':=?_) #[false,true,false,false,false,false,false,false,false,false,false,false,false,false] rfl rfl jA (fun _ _ _ h=>h) (Or.inl ⟨by rfl,?_⟩) ?_ ?_;rotate_left;exact jb;rotate_left;exact jc
     refine pure_ (i:=3) (N:=some 59) (v:=?_) (a':=?_) #[false,true,false,true,false,false,false,false,false,false,false,false,false,false] rfl rfl jA (fun _ _ _ h=>h) (Or.inl ⟨by rfl,?_⟩) ?_ ?_;rotate_left;exact jb;rotate_left;exact jc
     refine pure_ (i:=6) (N:=some 62) (v:=?_) (a':=?_) #[false,true,false,true,false,false,true,false,false,false,false,false,false,false] rfl rfl jA (fun _ _ _ h=>h) (Or.inl ⟨by rfl,?_⟩) ?_ ?_;rotate_left;exact jb;rotate_left;exact jc
     refine pure_ (i:=8) (N:=some 64) (v:=?_) (a':=?_) #[false,true,false,true,false,false,true,false,true,false,false,false,false,false] rfl rfl jA (fun _ _ _ h=>h) (Or.inl ⟨by rfl,?_⟩) ?_ ?_;rotate_left;exact jb;rotate_left;exact jc
     refine pure_ (i:=9) (N:=some 65) (v:=?_) (a':=?_) #[false,true,false,true,false,false,true,false,true,true,false,false,false,false] rfl rfl jA (fun _ _ _ h=>h) (Or.inl ⟨by rfl,?_⟩) ?_ ?_;rotate_left;exact jb;rotate_left;exact jc
     refine take_ (i:=2) (N:=some 58) (v:=?_) (a':=?_) #[false,true,true,true,false,false,true,false,true,true,false,false,false,false] rfl rfl jA (fun _ _ _ h=>h) (Or.inl ⟨by rfl,?_⟩) hHeld ?_ ?_;rotate_left
     ·
      intro w' s0
      go_simp
      with_reducible rfl
     rotate_left
     exact jc
     refine pure_ (i:=4) (N:=some 60) (v:=?_) (a':=?_) #[false,true,true,true,true,false,true,false,true,true,false,false,false,false] rfl rfl jA (fun _ _ _ h=>h) (Or.inl ⟨by rfl,?_⟩) ?_ ?_;rotate_left;exact jb;rotate_left;exact jc
     refine take_ (i:=7) (N:=some 63) (v:=?_) (a':=?_) #[false,true,true,true,true,false,true,true,true,true,false,false,false,false] rfl rfl jA (fun _ _ _ h=>h) (Or.inl ⟨by rfl,?_⟩) hHeld ?_ ?_;rotate_left
     ·
      intro w' s0
      go_simp
      with_reducible rfl
     rotate_left
     exact jc
     refine pure_ (i:=10) (N:=some 66) (v:=?_) (a':=?_) #[false,true,true,true,true,false,true,true,true,true,true,false,false,false] rfl rfl jA (fun _ _ _ h=>h) (Or.inl ⟨by rfl,?_⟩) ?_ ?_;rotate_left;exact jb;rotate_left;exact jc
     refine one_ (i:=0) (N:=some 56) #[true,true,true,true,true,false,true,true,true,true,true,false,false,false] rfl rfl jA jC (fun K hK=>?_);refine Kd.N_lit_step k67 _ 67 ?hg (N':=56) ?hd (xs:=([] : List (S67))) (inner:=[]) (ok:=fun k_=>w3.heap.size≤k_) (okp:=fun k_=>w3.heap.size≤k_) ?hr ?hp (fun _ hk=>hk) L39.out (Below.refl w9.heap.size w9) (ye _) (by simp) ?_;(case hd=>rfl);(case hg=>rfl);(case hr=>go_simp <;> rfl);(case hp=>exact (Reps.none _ _));intro va wa hNa hba hga_ hna_;clear hga_ hna_;refine hK.out _ _ ((zz (zD H0_9.out hba) 0).trans rfl) (fun hHeld=>?_);clear hK K;refine norm_ (a':=?_) ?_ ?_;rotate_left
     ·
      show Act.put _ (some 56) _=_
      simp only [Act.put,zi,zj,zk,zG,zH]
      rfl
     refine one_ (i:=5) (N:=some 61) (bm_ 11 14) rfl rfl jA jC (fun K hK=>?_);refine Kd.N_append_rows_step k67 (w0:=w9) w9.heap.size (by rfl) (.tmp 56) (.tmp 60) 33 67 (.agg #[(.int .i64 0),(.slice none 0 0)]) 32 rfl Try.underlying33 info67 rfl jC jC va ([] : List (S67)) (Y.take Kn) (some ⟨g,0,none⟩) Kn cg (fun k_=>w3.heap.size≤k_) (fun k_=>w3.heap.size≤k_∧k_<w9.heap.size) (by rfl) (by rfl) hNa (Kd.F_below HC1.out hba) (fun k_ hk=>⟨hk.1,fun e9=>Nat.lt_irrefl _ (Nat.lt_of_lt_of_le hk.2 (Kd.N_base hNa k_ e9.symm))⟩) (fun _ hk=>Nat.le_trans L39.out (Nat.le_trans hba.size hk)) hba hba.size (by have:=HT2.out;have:=HYL.out;simp;omega) ?_;intro vb wb hNb hbb hg_ hat_;clear hg_ hat_;refine hK.out _ _ ((zz (zD H0_9.out hbb) 0).trans rfl) (fun hHeld=>?_);clear hK K;refine norm_ (a':=?_) ?_ ?_;rotate_left
     ·
      show Act.put _ (some 61) _=_
      simp only [Act.put,zi,zj,zk,zG,zH]
      rfl
     refine one_ (i:=11) (N:=some 67) (bm_ 12 14) rfl rfl jA jC (fun K hK=>?_);refine Kd.N_append_rows_step k67 (w0:=w9) w9.heap.size (by rfl) (.tmp 61) (.tmp 66) 33 67 (.agg #[(.int .i64 0),(.slice none 0 0)]) 32 rfl Try.underlying33 info67 rfl jC jC vb ([]++Y.take Kn) (Y.drop j2) A2 (T1.length - j2) (cg - j2) (fun k_=>w3.heap.size≤k_) (fun k_=>w3.heap.size≤k_∧k_<w9.heap.size) (by rfl) (by rfl) hNb (Kd.F_below HC2.out hbb) (fun k_ hk=>⟨hk.1,fun e9=>Nat.lt_irrefl _ (Nat.lt_of_lt_of_le hk.2 (Kd.N_base hNb k_ e9.symm))⟩) (fun _ hk=>Nat.le_trans L39.out (Nat.le_trans hbb.size hk)) hbb hbb.size (by have:=HT2.out;have:=HYL.out;simp;omega) ?_;intro vc wc hNc hbc hg_ hat_;clear hg_ hat_;obtain ⟨Z,hZ⟩ : ∃ Z : List (S67),Z=([]++Y.take Kn)++Y.drop j2:=⟨_,rfl⟩;rw [← hZ] at hNc;have HZ:=zh hZ;clear hZ;obtain ⟨Ac,cc,rfl⟩:=Kd.N_slice hNc;have hce:=(zz (zD H0_9.out hbc) 0).trans (show _=some (.slice (some ⟨g,0,none⟩) T1.length cg) from rfl);have f9:=zA (zD H0_9.out hbc) 0;refine hK.out _ _ (hce) (fun hHeld=>?_);clear hK K;refine norm_ (a':=?_) ?_ ?_;rotate_left
     ·
      show Act.put _ (some 67) _=_
      simp only [Act.put,zi,zj,zk,zG,zH]
      rfl
     refine pure_ (i:=12) (N:=some 68) (v:=?_) (a':=?_) (bm_ 13 14) rfl rfl jA (fun _ _ _ h=>h) (Or.inl ⟨by rfl,?_⟩) ?_ ?_;rotate_left;exact jb;rotate_left;exact jc
     refine last_ (i:=13) (N:=none) (bm_ 14 14) rfl rfl jA jC (fun K hK=>?_);refine skip_ (w1:=?_) (by rfl) rfl ?_ ?_;rotate_left
     ·
      go_simp
      rfl
     refine hK.out _ _ ?_;clear hK K;refine done_ jA ?_;have hZe : Y.take Kn++Y.drop (Kn+1)=Z:=by rw [HZ.out,List.nil_append,HJ2.out]
     obtain rfl : Z=r1:=hZe.symm.trans HYR.out;have H0_10 : Aside0 ((wc.setCell ⟨g0,0,none⟩ (.slice Ac Z.length cc)).heap[g0]? = some (.cells #[.slice Ac Z.length cc,.int .i64 n1] 35 (0,0))):=⟨blk_set (zD H0_9.out hbc) 0 _⟩;have H2_10 : Aside0 ((wc.setCell ⟨g0,0,none⟩ (.slice Ac Z.length cc)).heap[g2]? = some (.cells #[.slice none 0 0,.int .i64 0] 35 (0,0))):=⟨(Below.heap_setCell _ ⟨g0,_,none⟩ _ g2 (Ne.symm N02.out)).trans (zD H2_9.out hbc)⟩;have HB10 : Aside0 (Below w.heap.size w (wc.setCell ⟨g0,0,none⟩ (.slice Ac Z.length cc))):=⟨zd (zC HB9.out hbc) GB0.out⟩;have HV10 : Aside0 (Kd.V k67 67 (wc.setCell ⟨g0,0,none⟩ (.slice Ac Z.length cc)) w.heap.size (fun k_=>w3.heap.size≤k_) (.slice Ac Z.length cc) Z):=⟨Kd.V_far (p:=⟨g0,0,none⟩) (Kd.N_V hNc) (fun _ hk e9=>by rw [e9] at hk;exact Nat.lt_irrefl _ (Nat.lt_of_lt_of_le L0.out hk)) _⟩;have L310 : Aside0 (w3.heap.size≤w3.heap.size):=⟨ye _⟩;clear hcut1 hcut2 hZe hNa hNb hNc hba hbb hbc hce f9 HB9 H0_9 H2_9;generalize wc.setCell ⟨g0,0,none⟩ (.slice Ac Z.length cc)=w10 at *;have k0:=zz H0_10.out 0;have k1:=zz H0_10.out 1;have k2:=zz H2_10.out 0;have k3:=zz H2_10.out 1;have f0:=zA H2_10.out 0;have f1:=zA H2_10.out 1
     go_wp2_with fail
     refine bodyPost_ret (results_ct rfl _ _ g2 35 #[.slice Ac Z.length cc,.int .i64 n1] (0,0) _ rfl (blk_set (blk_set H2_10.out 0 (.slice Ac Z.length cc)) 1 (.int .i64 n1)) hu35 rfl jA) rfl ?_;exact ⟨_,rfl,Kd.V_mono (Kd.V_far (p:=⟨g2,1,none⟩) (Kd.V_far (p:=⟨g2,0,none⟩) HV10.out (fun _ hk e9=>by rw [e9] at hk;exact Nat.lt_irrefl _ (Nat.lt_of_lt_of_le L2.out hk)) _) (fun _ hk e9=>by rw [e9] at hk;exact Nat.lt_irrefl _ (Nat.lt_of_lt_of_le L2.out hk)) _) (fun _ hk => .inr (Nat.le_trans GB0.out (Nat.le_trans (Nat.le_of_lt L0.out) hk))),zd (zd HB10.out GB2.out) GB2.out⟩
    rw [if_neg hl1,hXe] at h;simp only [Option.some.injEq,Prod.mk.injEq] at h;obtain ⟨hY,rfl,rfl⟩:=h;have k0:=zz H0_8.out 0;have k1:=zz H0_8.out 1;have k2:=zz H2_8.out 0;have k3:=zz H2_8.out 1;have f0:=zA H2_8.out 0;have f1:=zA H2_8.out 1;have HV8:=zh (Kd.N_V (base':=w.heap.size) HN8.out);rw [hY] at HV8
    have hfin : ∀ W1,W1=(w8.setCell ⟨g2,0,none⟩ (.slice (some ⟨g,0,none⟩) T1.length cg)).setCell ⟨g2,1,none⟩ (.int .i64 n1)→Kd.V k67 67 W1 w.heap.size (fun k_=>(P0_0_ k_∨w.heap.size≤k_)) (.slice (some ⟨g,0,none⟩) T1.length cg) r1∧Below w.heap.size w W1:=fun W1 e9=>by
     rw [e9];exact ⟨Kd.V_mono (Kd.V_far (p:=⟨g2,1,none⟩) (Kd.V_far (p:=⟨g2,0,none⟩) HV8.out (fun _ hk e9=>by rw [e9] at hk;exact Nat.lt_irrefl _ (Nat.lt_of_lt_of_le L2.out hk)) _) (fun _ hk e9=>by rw [e9] at hk;exact Nat.lt_irrefl _ (Nat.lt_of_lt_of_le L2.out hk)) _) (fun _ hk => .inr (Nat.le_trans GB0.out (Nat.le_trans (Nat.le_of_lt L0.out) hk))),zd (zd HB8.out GB2.out) GB2.out⟩
    have HFIN:=zh hfin;clear hfin hY hXe
    by_cases hl3 : l.length=1
    ·
     have c5 : ((l.length : Int) == 1)=true:=ya.mpr jH
     have c5n : (l.length == 1)=true:=ya.mpr hl3;have c6 : decide ((1 : Int)<(T1.length : Int))=false:=decide_eq_false (fun h9=>hl1 ⟨hl3,jH⟩);have c6n : decide (1<T1.length)=false:=decide_eq_false (fun h9=>hl1 ⟨hl3,h9⟩);clear hl1 hl3
     go_wp2_with fail
     refine bodyPost_ret (results_ct rfl _ _ g2 35 #[.slice (some ⟨g,0,none⟩) T1.length cg,.int .i64 n1] (0,0) _ rfl (blk_set (blk_set H2_8.out 0 (.slice (some ⟨g,0,none⟩) T1.length cg)) 1 (.int .i64 n1)) hu35 rfl jA) rfl ?_;exact ⟨_,rfl,HFIN.out _ rfl⟩
    have c5 : ((l.length : Int) == 1)=false:=zY.mpr jH;have c5n : (l.length == 1)=false:=zY.mpr hl3;clear hl1 hl3
    go_wp2_with fail
    refine bodyPost_ret (results_ct rfl _ _ g2 35 #[.slice (some ⟨g,0,none⟩) T1.length cg,.int .i64 n1] (0,0) _ rfl (blk_set (blk_set H2_8.out 0 (.slice (some ⟨g,0,none⟩) T1.length cg)) 1 (.int .i64 n1)) hu35 rfl jA) rfl ?_;exact ⟨_,rfl,HFIN.out _ rfl⟩
  have c3 : decide ((i : Int)<(l.length : Int))=false:=decide_eq_false (fun h9=>hil (Int.ofNat_lt.1 h9));have hA:=HA.out;rw [List.drop_of_length_le (Nat.le_of_not_lt hil)] at hA;simp only [Fi.at] at hA;subst hA;have h:=HH.out;simp only [Option.some.injEq,Prod.mk.injEq] at h;obtain ⟨rfl,rfl,rfl⟩:=h;have k0:=zz H0_2.out 0;have k1:=zz H0_2.out 1;have k2:=zz H2_2.out 0;have k3:=zz H2_2.out 1;have f0:=zA H2_2.out 0;have f1:=zA H2_2.out 1
  go_wp2_with fail
  refine bodyPost_ret (results_ct rfl _ _ g2 35 #[.slice (some ad) l0_0.length c0_0,.int .i64 a0_1] (0,0) _ rfl (blk_set (blk_set H2_2.out 0 (.slice (some ad) l0_0.length c0_0)) 1 (.int .i64 a0_1)) hu35 rfl jA) rfl ?_;exact ⟨_,rfl,Kd.V_mk hc0_0 (Kd.F_mono (Kd.F_far (p:=⟨g2,1,none⟩) (Kd.F_far (p:=⟨g2,0,none⟩) (Kd.F_below (Kd.F_bound HF0.out) HB2.out) (fun _ hk e9=>by rw [e9] at hk;exact Nat.lt_irrefl _ (Nat.lt_of_lt_of_le hk.2 GB2.out)) _) (fun _ hk e9=>by rw [e9] at hk;exact Nat.lt_irrefl _ (Nat.lt_of_lt_of_le hk.2 GB2.out)) _) (fun _ hk => .inl hk.1)),zd (zd HB2.out GB2.out) GB2.out⟩

end Go.Proofs.Ytamikhmpfmgofaa.Q
end
section
namespace Go.Proofs.Ytamikhmpfmgofaa.Q
open Go.RowKit Go.Proofs.YtamikhmpfmgofaaW.PrintWords Go.Proofs.YtamikhmpfmgofaaW.PrintLast Go.Proofs.YtamikhmpfmgofaaW.PrintMore
attribute [local go_sem] max2_int min2_int max_two min_two max_three min_three max_four min_four max2_str min2_str str_geq str_gtr str_leq
set_option linter.unusedVariables false
set_option linter.unusedSimpArgs false

def Fj.j0 : Nat→Bool→List (S67)→Int→ByteArray→Int→Option ((List (S67))×Int×Int)
 | 0,_,_,_,_,_=>none
 | k+1,x15,x451000,x451001,x452000,x452001=>if x15=true then (some (([] : List (S67)),0,1)) else ((Fi.f k x451000 x451001 x452000 x452001).bind fun bt455=>((F7.f k bt455.1 bt455.2.1).bind fun bt461=>(some (bt461.1,bt461.2,bt455.2.2))))
def Fj.f (k : Nat) (l0_0 : List (S67)) (a0_1 : Int) (a1_0 : ByteArray) (a1_1 : Int) : Option ((List (S67))×Int×Int):=(F0.f k l0_0 a0_1).bind fun t453=>(if t453=true then ((F08.f a1_0 a1_1).bind fun t454=>(Fj.j0 k (!t454) l0_0 a0_1 a1_0 a1_1)) else (Fj.j0 k true l0_0 a0_1 a1_0 a1_1))
theorem Fj.mono_l : ∀ k,(∀ y0 y1 y2 y3 y4,LeO (Fj.j0 k y0 y1 y2 y3 y4) (Fj.j0 (k+1) y0 y1 y2 y3 y4))
 | 0=>fun _ _ _ _ _ r h=>by simp [Fj.j0] at h
 | k+1=>by
  have ih0:=Fj.mono_l k;intro y0 y1 y2 y3 y4;unfold Fj.j0
  repeat' first|(with_reducible first|exact ih0 _ _ _ _ _|exact F0.mono _ _ _|exact Fi.mono _ _ _ _ _|exact F7.mono _ _ _|exact zQ _|exact zN _|refine zP ?_ ?_|refine zO ?_ (fun _=>?_))|refine zP ?_ ?_|refine zO ?_ (fun _=>?_)
theorem Fj.mono : ∀ a0 a1 a2 a3 k,LeO (Fj.f k a0 a1 a2 a3) (Fj.f (k+1) a0 a1 a2 a3):=by
 intro a0 a1 a2 a3 k;have ih0:=Fj.mono_l k;unfold Fj.f
 repeat' first|(with_reducible first|exact ih0 _ _ _ _ _|exact F0.mono _ _ _|exact Fi.mono _ _ _ _ _|exact F7.mono _ _ _|exact zQ _|exact zN _|refine zP ?_ ?_|refine zO ?_ (fun _=>?_))|refine zP ?_ ?_|refine zO ?_ (fun _=>?_)
set_option maxHeartbeats 8000000 in
set_option maxRecDepth 100000 in
theorem Fj.calls (k : Nat) (A0_0 : Option Addr) (c0_0 : Nat) (l0_0 : List (S67)) (a0_1 : Int) (a1_0 : ByteArray) (a1_1 : Int) (r1 : List (S67)) (r2 : Int) (r3 : Int) (w : World) (hr0_0 : Kd.C k67 w A0_0 l0_0.length l0_0) (hc0_0 : l0_0.length≤c0_0) (h : Fj.f k l0_0 a0_1 a1_0 a1_1=some (r1,r2,r3)) :
  Calls Try.prog 21 #[.agg #[.slice A0_0 l0_0.length c0_0,.int .i64 a0_1],.agg #[.string a1_0,.int .i64 a1_1]] w fun e w' => ∃ v0_ : Value,e = .returned (.tuple #[.agg #[v0_,.int .i64 r2],.int .i64 r3])∧Kd.S k67 67 w' w.heap.size (fun _=>True) v0_ r1∧Below w.heap.size w w':=by
 have hu35:=Try.underlying35;have hu51:=Try.underlying51;have HR0_0:=zh hr0_0;have HC0_0:=zh hc0_0;clear hr0_0 hc0_0;have HB:=zh (Below.refl w.heap.size w);have H : ((F0.f k l0_0 a0_1).bind fun t453=>(if t453=true then ((F08.f a1_0 a1_1).bind fun t454=>(Fj.j0 k (!t454) l0_0 a0_1 a1_0 a1_1)) else (Fj.j0 k true l0_0 a0_1 a1_0 a1_1)))=some (r1,r2,r3):=h;clear h;have HC3:=zh H;clear H
 go_enter Try.func21,Try.ntmps21
 go_upto_region 1 with (first|((with_reducible refine zK (N:=2) rfl ?_);refine zI ?hg (N:=2) ?hd (cs:=#[.slice A0_0 l0_0.length c0_0,.int .i64 a0_1]) (t:=35) ?hr ?_;(case hd=>rfl);(case hg=>rfl);(case hr=>go_simp <;> rfl);intro gb450 hg w4 hbox hb;have BK450:=zh (hbox);have hH_:=cH jE hb hg;have GW450:=zh hH_.1;have GE450:=GW450;replace HB:=zh hH_.2;clear hb hbox hg hH_)|((with_reducible refine zK (N:=3) rfl ?_);refine zI ?hg (N:=3) ?hd (cs:=#[.string a1_0,.int .i64 a1_1]) (t:=51) ?hr ?_;(case hd=>rfl);(case hg=>rfl);(case hr=>go_simp <;> rfl);intro gb451 hg w5 hbox hb;have BK451:=zh (hbox);have hH_:=cH (by repeat (with_reducible first|exact HB.out|apply za|apply zb|apply zc|refine zd ?_ GE450.out)) hb hg;have GW451:=zh hH_.1;have GE451:=GW451;replace HB:=zh hH_.2;have NB450_451:=zh ((jAw : gb450≠gb451));have NB451_450:=zh NB450_451.out.symm;replace BK450:=zh (cD BK450.out jU hb);clear hb hbox hg hH_)|((with_reducible refine zK (N:=4) rfl ?_);refine zI ?hg (N:=4) ?hd (cs:=#[.slice none 0 0,.int .i64 0]) (t:=35) ?hr ?_;(case hd=>rfl);(case hg=>rfl);(case hr=>go_simp <;> rfl);intro gb452 hg w6 hbox hb;have BK452:=zh (hbox);have hH_:=cH (by repeat (with_reducible first|exact HB.out|apply za|apply zb|apply zc|refine zd ?_ GE450.out|refine zd ?_ GE451.out)) hb hg;have GW452:=zh hH_.1;have GE452:=GW452;replace HB:=zh hH_.2;have NB450_452:=zh ((jAw : gb450≠gb452));have NB452_450:=zh NB450_452.out.symm;replace BK450:=zh (cD BK450.out jU hb);have NB451_452:=zh ((jBM : gb451≠gb452));have NB452_451:=zh NB451_452.out.symm;replace BK451:=zh (cD BK451.out jX hb);clear hb hbox hg hH_))
 (try simp only [Act.put,zi,zj,zk])
 go_cut [15] (fun v15 wc => ∃ (kq : Nat) (x15_2 : Bool),v15 = .bool x15_2∧Aside0 (Fj.j0 kq x15_2 l0_0 a0_1 a1_0 a1_1=some (r1,r2,r3))∧Aside0 (kq≤k)∧Aside0 (wc.heap[gb450]? = some (.cells #[(.slice A0_0 l0_0.length c0_0),.int .i64 a0_1] 35 (0,0)))∧Aside0 (wc.heap[gb451]? = some (.cells #[.string a1_0,.int .i64 a1_1] 51 (0,0)))∧Aside0 (wc.heap[gb452]? = some (.cells #[(.slice none 0 0),.int .i64 0] 35 (0,0)))∧Aside0 (Below w.heap.size w wc))
 case first =>
  have H:=HC3.out;clear HC3;replace H:=zT.mp H;obtain ⟨t453,A70,H⟩:=H;have A7:=zh A70;clear A70
  by_cases c8 : t453=true
  ·
   subst c8
   rw [if_pos rfl] at H;replace H:=zT.mp H;obtain ⟨t454,A90,H⟩:=H;have A9:=zh A90;clear A90;have H':=zh H;clear H;have hnb10:=NB450_451.out;have hnc10:=NB451_450.out;have hnb11:=NB450_452.out;have hnc11:=NB452_450.out;obtain ⟨hcz12_0,hcz12_1,hfz12_0,hfz12_1⟩:=cB2 BK450.out
   go_wp2_with (first|((with_reducible refine zJ (f:=28) rfl ?_);refine yj (some 9) rfl rfl Try.func28 jA rfl #[.agg #[.slice A0_0 l0_0.length c0_0,.int .i64 a0_1]] rfl jF ?_;(with_reducible refine (F0.calls k  _ _ l0_0 a0_1 true _ ?side1 ?side2 A7.out).mono ?_);(case side1=>repeat (first|exact (Kd.C_below HR0_0.out HB.out)|(with_reducible refine Kd.C_alloc ?_ _)|(with_reducible refine Kd.C_drewN ?_ _)|(with_reducible refine Kd.C_drew ?_)));(case side2=>exact HC0_0.out);rintro e w13 ⟨rfl,hb⟩;refine ⟨_,rfl,?_⟩;replace BK450:=zh (cD BK450.out jU hb);replace BK451:=zh (cD BK451.out jX hb);replace BK452:=zh (cD BK452.out jg hb);replace HB:=zh (zC jY hb);(try clear hb);(try clear hb2);(try clear hk);(try clear hi);have hnb14:=NB451_452.out;have hnc14:=NB452_451.out;obtain ⟨hcz15_0,hcz15_1,hfz15_0,hfz15_1⟩:=cB2 BK451.out)|(go_at_call 41;(with_reducible refine (F08.calls  a1_0 a1_1 t454 _ A9.out).mono ?_);rintro e w16 ⟨rfl,hb⟩;replace BK450:=zh (cD BK450.out jU hb);replace BK451:=zh (cD BK451.out jX hb);replace BK452:=zh (cD BK452.out jg hb);replace HB:=zh (zC jY hb);(try clear hb);(try clear hb2);(try clear hk);(try clear hi)))
   go_meet
   case rel=>exact ⟨_,(!t454),jD,H',⟨ju⟩,⟨jU⟩,⟨jX⟩,⟨jg⟩,⟨jY⟩⟩
  replace c8:=yb.mpr c8;subst c8;rw [if_neg (show ¬ (false=true) by decide)] at H;have H':=zh H;clear H;have hnb17:=NB450_451.out;have hnc17:=NB451_450.out;have hnb18:=NB450_452.out;have hnc18:=NB452_450.out;obtain ⟨hcz19_0,hcz19_1,hfz19_0,hfz19_1⟩:=cB2 BK450.out
  go_wp2_with (first|((with_reducible refine zJ (f:=28) rfl ?_);refine yj (some 9) rfl rfl Try.func28 jA rfl #[.agg #[.slice A0_0 l0_0.length c0_0,.int .i64 a0_1]] rfl jF ?_;(with_reducible refine (F0.calls k  _ _ l0_0 a0_1 false _ ?side1 ?side2 A7.out).mono ?_);(case side1=>repeat (first|exact (Kd.C_below HR0_0.out HB.out)|(with_reducible refine Kd.C_alloc ?_ _)|(with_reducible refine Kd.C_drewN ?_ _)|(with_reducible refine Kd.C_drew ?_)));(case side2=>exact HC0_0.out);rintro e w20 ⟨rfl,hb⟩;refine ⟨_,rfl,?_⟩;replace BK450:=zh (cD BK450.out jU hb);replace BK451:=zh (cD BK451.out jX hb);replace BK452:=zh (cD BK452.out jg hb);replace HB:=zh (zC jY hb);(try clear hb);(try clear hb2);(try clear hk);(try clear hi)))
  go_meet
  case rel=>exact ⟨_,(true),jD,H',⟨ju⟩,⟨jU⟩,⟨jX⟩,⟨jg⟩,⟨jY⟩⟩
 case rest =>
  clear HC3
  try clear c1 c2
  try clear p2
  try clear c8 c10 c11 c14 c17 c18
  try clear hcz12_0 hcz12_1
  try clear hcz15_0 hcz15_1
  try clear hcz19_0 hcz19_1
  try clear hfz12_0 hfz12_1
  try clear hfz15_0 hfz15_1
  try clear hfz19_0 hfz19_1
  obtain ⟨kq,x15_2,rfl,HA,HJ2,BK450,BK451,BK452,HB⟩:=hcut
  cases kq with
  | zero=>exact absurd HA.out (by simp [Fj.j0])
  | succ kj2 =>
   have H:=HA.out;clear HA;simp only [Fj.j0] at H
   by_cases c21 : x15_2=true
   ·
    subst c21
    rw [if_pos rfl] at H;simp only [Option.some.injEq,Prod.mk.injEq] at H;obtain ⟨rfl,rfl,rfl⟩:=H;have hnb22:=NB452_450.out;have hnc22:=NB450_452.out;have hnb23:=NB452_451.out;have hnc23:=NB451_452.out;obtain ⟨hcz24_0,hcz24_1,hfz24_0,hfz24_1⟩:=cB2 BK452.out
    go_wp2
    refine bodyPost_ret (results_ct rfl _ _ gb452 35 #[.slice none 0 0,.int .i64 0] (0,0) _ rfl (by (with_reducible repeat first|apply ze|apply zf|apply zg);refine zL (cs:=#[.slice none 0 0,.int .i64 0]) ?_ 1 _ rfl;(with_reducible repeat first|apply ze|apply zf|apply zg);refine zL (cs:=#[.slice none 0 0,.int .i64 0]) ?_ 0 _ rfl;(with_reducible repeat first|apply ze|apply zf|apply zg);exact BK452.out) Try.underlying35 rfl jA) rfl ?_;exact ⟨_,jG,jBN,jY⟩
   replace c21:=yb.mpr c21;subst c21;rw [if_neg (show ¬ (false=true) by decide)] at H;replace H:=zT.mp H;obtain ⟨⟨t455,t458,t459⟩,A250,H⟩:=H;have A25:=zh A250;clear A250;replace H:=zT.mp H;obtain ⟨⟨t461,t464⟩,A260,H⟩:=H;have A26:=zh A260;clear A260;simp only [Option.some.injEq,Prod.mk.injEq] at H;obtain ⟨rfl,rfl,rfl⟩:=H;have hnb27:=NB450_451.out;have hnc27:=NB451_450.out;have hnb28:=NB450_452.out;have hnc28:=NB452_450.out;obtain ⟨hcz29_0,hcz29_1,hfz29_0,hfz29_1⟩:=cB2 BK450.out;have hnb30:=NB451_452.out;have hnc30:=NB452_451.out;obtain ⟨hcz31_0,hcz31_1,hfz31_0,hfz31_1⟩:=cB2 BK451.out
   go_wp2_with (first|((with_reducible refine zJ (f:=42) rfl ?_);refine yj (some 20) rfl rfl Try.func42 jA rfl #[.agg #[.slice A0_0 l0_0.length c0_0,.int .i64 a0_1],.agg #[.string a1_0,.int .i64 a1_1]] rfl jF ?_;(with_reducible refine (Fi.calls kj2  (fun k_=>k_<w.heap.size) _ _ l0_0 a0_1 a1_0 a1_1 t455 t458 t459 _ ?side1 A25.out).mono ?_);(case side1=>exact Kd.V_mk HC0_0.out (Kd.F_below (Kd.C_F k67_heap HR0_0.out) jY));rintro e w32 ⟨v456,rfl,ho0,hb⟩;refine ⟨_,rfl,?_⟩;have HO457:=zh (Kd.V_lower (Kd.V_mono (ok':=fun k_=>k_≠gb450∧k_≠gb451∧k_≠gb452) ho0 (fun k_ hk_=>⟨Or.elim hk_ (fun hs_=>fun e_=>Nat.not_le.2 hs_ (by rw [e_];exact GW450.out)) (fun hn_=>(Kd.freshB (g:=gb450) (o:=.cells #[.slice A0_0 l0_0.length c0_0,.int .i64 a0_1] 35 (0,0)) jU k_ hn_)),Or.elim hk_ (fun hs_=>fun e_=>Nat.not_le.2 hs_ (by rw [e_];exact GW451.out)) (fun hn_=>(Kd.freshB (g:=gb451) (o:=.cells #[.string a1_0,.int .i64 a1_1] 51 (0,0)) jX k_ hn_)),Or.elim hk_ (fun hs_=>fun e_=>Nat.not_le.2 hs_ (by rw [e_];exact GW452.out)) (fun hn_=>(Kd.freshB (g:=gb452) (o:=.cells #[.slice none 0 0,.int .i64 0] 35 (0,0)) jg k_ hn_))⟩)) (zB jY));replace BK450:=zh (cD BK450.out jU hb);replace BK451:=zh (cD BK451.out jX hb);replace BK452:=zh (cD BK452.out jg hb);replace HB:=zh (zC jY hb);(try clear hb);(try clear hb2);(try clear hk);(try clear hi);(try clear ho0))|((with_reducible refine zK (N:=6) rfl ?_);refine zI ?hg (N:=6) ?hd (cs:=#[.slice none 0 0,.int .i64 0]) (t:=35) ?hr ?_;(case hd=>rfl);(case hg=>rfl);(case hr=>go_simp <;> rfl);intro gb460 hg w33 hbox hb;replace HO457:=zh (Kd.V_below (Kd.V_elderB (by (with_reducible repeat (first|apply Kd.V_alloc|apply Kd.V_drewN|apply Kd.V_drew));exact HO457.out) gb460 (Nat.le_of_eq hg.symm)) hb);have BK460:=zh (hbox);have hH_:=cH jY hb hg;have GW460:=zh hH_.1;have GE460:=GW460;replace HB:=zh hH_.2;have NB450_460:=zh ((jAw : gb450≠gb460));have NB460_450:=zh NB450_460.out.symm;replace BK450:=zh (cD BK450.out jU hb);have NB451_460:=zh ((jBM : gb451≠gb460));have NB460_451:=zh NB451_460.out.symm;replace BK451:=zh (cD BK451.out jX hb);have NB452_460:=zh ((by rw [hg];exact yc (yi (g:=gb452) (o:=.cells #[.slice none 0 0,.int .i64 0] 35 (0,0)) jg) : gb452≠gb460));have NB460_452:=zh NB452_460.out.symm;replace BK452:=zh (cD BK452.out jg hb);clear hb hbox hg hH_;obtain ⟨Ao34,co34,eo34⟩:=Kd.V_slice HO457.out;subst eo34;have hnb35:=NB460_450.out;have hnc35:=NB450_460.out;have hnb36:=NB460_451.out;have hnc36:=NB451_460.out;have hnb37:=NB460_452.out;have hnc37:=NB452_460.out;obtain ⟨hcz38_0,hcz38_1,hfz38_0,hfz38_1⟩:=cB2 BK460.out)|((with_reducible refine zJ (f:=43) rfl ?_);refine yj (some 24) rfl rfl Try.func43 jA rfl #[.agg #[.slice Ao34 t455.length co34,.int .i64 t458]] rfl jF ?_;(with_reducible refine (F7.calls kj2  _ _ t455 t458 t461 t464 _ ?side1 ?side2 A26.out).mono ?_);(case side1=>refine (Kd.V_reads' (e:=67) (base:=w.heap.size) (ok:=fun k_=>((k_≠gb450∧(k_≠gb451∧k_≠gb452))∧k_≠gb460)) (n:=t455.length) (c:=co34) ?_).2.2;exact jBO);(case side2=>exact (Kd.V_reads' HO457.out).2.1);rintro e w39 ⟨v462,rfl,ho0,hb⟩;refine ⟨_,rfl,?_⟩;replace HO457:=zh (Kd.V_elder' jBO (Kd.S_base ho0) hb);have HO463:=zh (Kd.S_lower (Kd.S_newB ho0 (g:=gb451) (o:=.cells #[.string a1_0,.int .i64 a1_1] 51 (0,0)) jBP) (zB jAx));replace BK450:=zh (cD BK450.out (by (with_reducible repeat first|apply ze|apply zf|apply zg);refine cS2 ?_ NB450_460.out;(with_reducible repeat first|apply ze|apply zf|apply zg);exact BK450.out) hb);replace BK451:=zh (cD BK451.out jBP hb);replace BK452:=zh (cD BK452.out (by (with_reducible repeat first|apply ze|apply zf|apply zg);refine cS2 ?_ NB452_460.out;(with_reducible repeat first|apply ze|apply zf|apply zg);exact BK452.out) hb);replace BK460:=zh (zD (g:=gb460) (o:=.cells #[.slice Ao34 t455.length co34,.int .i64 t458] 35 (0,0)) (by (with_reducible repeat first|apply ze|apply zf|apply zg);refine zL (cs:=#[.slice Ao34 t455.length co34,.int .i64 0]) ?_ 1 _ rfl;(with_reducible repeat first|apply ze|apply zf|apply zg);refine zL (cs:=#[.slice none 0 0,.int .i64 0]) ?_ 0 _ rfl;(with_reducible repeat first|apply ze|apply zf|apply zg);exact BK460.out) hb);replace HB:=zh (zC jAx hb);(try clear hb);(try clear hb2);(try clear hk);(try clear hi);(try clear ho0);obtain ⟨Ao40,co40,eo40⟩:=Kd.S_slice HO463.out;subst eo40;obtain ⟨hcz41_0,hcz41_1,hfz41_0,hfz41_1⟩:=cB2 BK452.out))
   refine bodyPost_ret (results_ct rfl _ _ gb452 35 #[.slice Ao40 t461.length co40,.int .i64 t464] (0,0) _ rfl (by (with_reducible repeat first|apply ze|apply zf|apply zg);refine zL (cs:=#[.slice Ao40 t461.length co40,.int .i64 0]) ?_ 1 _ rfl;(with_reducible repeat first|apply ze|apply zf|apply zg);refine zL (cs:=#[.slice none 0 0,.int .i64 0]) ?_ 0 _ rfl;(with_reducible repeat first|apply ze|apply zf|apply zg);exact BK452.out) Try.underlying35 rfl jA) rfl ?_;exact ⟨_,jG,by (with_reducible repeat (first|apply Kd.S_alloc|apply Kd.S_drewN|apply Kd.S_drew));exact Kd.S_mono (Kd.S_far (p:=⟨gb452,1,none⟩) (Kd.S_far (p:=⟨gb452,0,none⟩) (Kd.S_types HO463.out BK452.out jC) (fun _ hk=>hk.2) (.slice Ao40 t461.length co40)) (fun _ hk=>hk.2) (.int .i64 t464)) (fun _ hk=>trivial),jAx⟩

end Go.Proofs.Ytamikhmpfmgofaa.Q
end

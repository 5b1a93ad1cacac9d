/- Texts of this claim, merged by a program of this session. -/
import Derived.Test.YtdjnplkpahgnmaaKLawFnKeysp25
section
namespace Go.Proofs.Ytdjnplkpahgnmaa.Q
open Go.RowKit Go.Proofs.YtdjnplkpahgnmaaW.PrintWords Go.Proofs.YtdjnplkpahgnmaaW.PrintLast Go.Proofs.YtdjnplkpahgnmaaW.PrintMore
attribute [local go_sem] max2_int min2_int max_two min_two max_three min_three max_four min_four max2_str min2_str str_geq str_gtr str_leq
set_option linter.unusedVariables false
set_option linter.unusedSimpArgs false

def Fv.l0 (G : Int→Int→ByteArray→Int→Int→ByteArray→Option (Int)) : Nat→List (S68)→List (S68)→List (S68)→Int→Int→Option (Int)
 | 0,_,_,_,_,_=>none
 | k+1,x0,x1,x11,x12,x13=>if x13<x12 then (if 0≤x13 then (if x13<(x11.length : Int) then (if x13 ≥ (x1.length : Int) then (some 1) else (if x13<(x1.length : Int) then ((F0h.f k G ((rd_T68 x11 x13).f0) ((rd_T68 x11 x13).f1.f0) ((rd_T68 x11 x13).f1.f1) ((rd_T68 x11 x13).f1.f2) ((rd_T68 x1 x13).f0) ((rd_T68 x1 x13).f1.f0) ((rd_T68 x1 x13).f1.f1) ((rd_T68 x1 x13).f1.f2)).bind fun t413=>(if t413=0 then (Fv.l0 G k x0 x1 x11 x12 (wrap64 (x13+1))) else (some t413))) else (none))) else (none)) else (none)) else (if (x0.length : Int)<(x1.length : Int) then (some (-1)) else (some 0))
def Fv.f (k : Nat) (G : Int→Int→ByteArray→Int→Int→ByteArray→Option (Int)) (l0 : List (S68)) (l1 : List (S68))  : Option (Int):=Fv.l0 G k l0 l1 l0 (l0.length : Int) 0
theorem Fv.mono_l : ∀ (G G' : Int→Int→ByteArray→Int→Int→ByteArray→Option (Int)) (hG : ∀ y0 y1 y2 y3 y4 y5,LeO (G y0 y1 y2 y3 y4 y5) (G' y0 y1 y2 y3 y4 y5)),∀ k,(∀ y0 y1 y2 y3 y4,LeO (Fv.l0 G k y0 y1 y2 y3 y4) (Fv.l0 G' (k+1) y0 y1 y2 y3 y4))
 | G,G',hG,0=>fun _ _ _ _ _ r h=>by simp [Fv.l0] at h
 | G,G',hG,k+1=>by
  have ih0:=Fv.mono_l G G' hG k;intro y0 y1 y2 y3 y4;unfold Fv.l0
  repeat' first|(with_reducible first|exact ih0 _ _ _ _ _|exact hG _ _ _ _ _ _|exact F0h.mono _ _ hG _ _ _ _ _ _ _ _ _|exact zQ _|exact zN _|refine zP ?_ ?_|refine zO ?_ (fun _=>?_))|refine zP ?_ ?_|refine zO ?_ (fun _=>?_)
theorem Fv.mono : ∀ (G G' : Int→Int→ByteArray→Int→Int→ByteArray→Option (Int)) (hG : ∀ y0 y1 y2 y3 y4 y5,LeO (G y0 y1 y2 y3 y4 y5) (G' y0 y1 y2 y3 y4 y5)),∀ a0 a1 k,LeO (Fv.f k G a0 a1) (Fv.f (k+1) G' a0 a1):=by
 intro G G' hG a0 a1 k;have ih0:=Fv.mono_l G G' hG k;unfold Fv.f
 repeat' first|(with_reducible first|exact ih0 _ _ _ _ _|exact hG _ _ _ _ _ _|exact F0h.mono _ _ hG _ _ _ _ _ _ _ _ _|exact zQ _|exact zN _|refine zP ?_ ?_|refine zO ?_ (fun _=>?_))|refine zP ?_ ?_|refine zO ?_ (fun _=>?_)
set_option maxHeartbeats 8000000 in
set_option maxRecDepth 100000 in
theorem Fv.calls (k : Nat) (G : Int→Int→ByteArray→Int→Int→ByteArray→Option (Int)) (hG : ∀ (a0_0 : Int) (a0_1 : Int) (a0_2 : ByteArray) (a1_0 : Int) (a1_1 : Int) (a1_2 : ByteArray) (r : Int) (w : World) (h : G a0_0 a0_1 a0_2 a1_0 a1_1 a1_2=some r),Calls Try.prog 13 #[.agg #[.int .i64 a0_0,.int .i64 a0_1,.string a0_2],.agg #[.int .i64 a1_0,.int .i64 a1_1,.string a1_2]] w fun e w' => e = .returned (.int .i64 r)∧Below w.heap.size w w') (A0 : Option Addr) (c0 : Nat) (l0 : List (S68)) (A1 : Option Addr) (c1 : Nat) (l1 : List (S68))  (r : Int) (w : World) (hr0 : Kd.C k68 w A0 l0.length l0) (hc0 : l0.length≤c0) (hr1 : Kd.C k68 w A1 l1.length l1) (hc1 : l1.length≤c1) (h : Fv.f k G l0 l1=some r) :
  Calls Try.prog 36 #[.slice A0 l0.length c0,.slice A1 l1.length c1,.func (.func 37) #[] #[]] w fun e w' => e = .returned (.int .i64 r)∧Below w.heap.size w w':=by
 have hu68:=Try.underlying68;have HR0:=zh hr0;have HC0:=zh hc0;clear hr0 hc0;have HR1:=zh hr1;have HC1:=zh hc1;clear hr1 hc1;have HB:=zh (Below.refl w.heap.size w);have H : (Fv.l0 G k l0 l1 l0 (l0.length : Int) 0)=some r:=h;clear h;have H':=zh H;clear H
 go_enter Try.func36,Try.ntmps36
 go_wp2
 go_loopg [13] k (fun kq v13 w' => ∃ (x13_1 : Int),v13 = .int .i64 x13_1∧Aside0 (Fv.l0 G kq l0 l1 l0 (l0.length : Int) x13_1=some r)∧Aside0 (kq≤k)∧Aside0 (Below w.heap.size w w'))
 case atStart=>exact ⟨(0),jE,H',⟨ye _⟩,⟨jD⟩⟩
 case round =>
  clear H'
  try clear c1
  try clear p2
  try clear c3
  obtain ⟨x13_1,rfl,HA,HK1,HB⟩:=hrel
  cases gk with
  | zero=>exact absurd HA.out (by simp [Fv.l0])
  | succ k1 =>
   have H:=HA.out;clear HA;simp only [Fv.l0] at H
   by_cases c4 : x13_1<(l0.length : Int)
   ·
    rw [if_pos c4] at H
    have c4b0 : decide (x13_1<(l0.length : Int))=true:=decide_eq_true c4;clear c4
    by_cases c5 : 0≤x13_1
    ·
     rw [if_pos c5] at H
     have c5b0 : decide (0≤x13_1)=true:=decide_eq_true c5;clear c5
     by_cases c6 : x13_1<(l0.length : Int)
     ·
      rw [if_pos c6] at H
      have c6b0 : decide (x13_1<(l0.length : Int))=true:=decide_eq_true c6;clear c6
      by_cases c7 : x13_1 ≥ (l1.length : Int)
      ·
       rw [if_pos c7] at H
       have c7b0 : decide ((l1.length : Int)≤x13_1)=true:=decide_eq_true c7;clear c7;obtain rfl:=zU H;have p409 : 0≤(x13_1 : Int):=zy jF;have q409 : x13_1<(l0.length : Int):=zy jF;obtain ⟨ad409,e409,hx409_0,hx409_1,hx409_2,hx409_3⟩:=at_T68 HR0.out x13_1 p409 q409
       cases e409
       replace hx409_0:=(HB.out.cell (zl w _ hx409_0)).trans hx409_0;replace hx409_1:=(HB.out.cell (zl w _ hx409_1)).trans hx409_1;replace hx409_2:=(HB.out.cell (zl w _ hx409_2)).trans hx409_2;replace hx409_3:=(HB.out.cell (zl w _ hx409_3)).trans hx409_3;replace p409:=eq_true p409;replace q409:=eq_true q409
       go_wp2_with (first|((with_reducible refine zK (N:=8) rfl ?_);refine zI ?hg (N:=8) ?hd (cs:=#[.string (⟨#[]⟩ : ByteArray),.int .i64 0,.int .i64 0,.string (⟨#[]⟩ : ByteArray)]) (t:=68) ?hr ?_;(case hd=>rfl);(case hg=>rfl);(case hr=>go_simp <;> rfl);intro gb410 hg w8 hbox hb;have BK410:=zh (hbox);have hH_:=cH jD hb hg;have GW410:=zh hH_.1;have GE410:=GW410;replace HB:=zh hH_.2;clear hb hbox hg hH_;obtain ⟨hcz9_0,hcz9_1,hcz9_2,hcz9_3,hfz9_0,hfz9_1,hfz9_2,hfz9_3⟩:=cB4 BK410.out))
       go_ret
       exact ⟨jG,jA7⟩
      rw [if_neg c7] at H;have c7b0 : decide ((l1.length : Int)≤x13_1)=false:=decide_eq_false c7;clear c7
      by_cases c10 : x13_1<(l1.length : Int)
      ·
       rw [if_pos c10] at H
       have c10b0 : decide (x13_1<(l1.length : Int))=true:=decide_eq_true c10;clear c10;replace H:=zT.mp H;obtain ⟨t413,A110,H⟩:=H;have A11:=zh A110;clear A110
       by_cases c12 : t413=0
       ·
        rw [if_pos c12] at H
        have c12b0 : (t413 == 0)=true:=ya.mpr c12;have c12b1 : (t413 != 0)=false:=zX.mpr c12;clear c12;have H':=zh H;clear H;have p409 : 0≤(x13_1 : Int):=zy jF;have q409 : x13_1<(l0.length : Int):=zy jF;obtain ⟨ad409,e409,hx409_0,hx409_1,hx409_2,hx409_3⟩:=at_T68 HR0.out x13_1 p409 q409
        cases e409
        replace hx409_0:=(HB.out.cell (zl w _ hx409_0)).trans hx409_0;replace hx409_1:=(HB.out.cell (zl w _ hx409_1)).trans hx409_1;replace hx409_2:=(HB.out.cell (zl w _ hx409_2)).trans hx409_2;replace hx409_3:=(HB.out.cell (zl w _ hx409_3)).trans hx409_3;replace p409:=eq_true p409;replace q409:=eq_true q409
        go_wp2_with (first|((with_reducible refine zK (N:=8) rfl ?_);refine zI ?hg (N:=8) ?hd (cs:=#[.string (⟨#[]⟩ : ByteArray),.int .i64 0,.int .i64 0,.string (⟨#[]⟩ : ByteArray)]) (t:=68) ?hr ?_;(case hd=>rfl);(case hg=>rfl);(case hr=>go_simp <;> rfl);intro gb410 hg w13 hbox hb;have BK410:=zh (hbox);have hH_:=cH jD hb hg;have GW410:=zh hH_.1;have GE410:=GW410;replace HB:=zh hH_.2;clear hb hbox hg hH_;obtain ⟨hcz14_0,hcz14_1,hcz14_2,hcz14_3,hfz14_0,hfz14_1,hfz14_2,hfz14_3⟩:=cB4 BK410.out;have p411 : 0≤(x13_1 : Int):=zy jF;have q411 : x13_1<(l1.length : Int):=zy jF;obtain ⟨ad411,e411,hx411_0,hx411_1,hx411_2,hx411_3⟩:=at_T68 HR1.out x13_1 p411 q411;cases e411;have hn411_0 : ad411.block≠gb410:=yc (Nat.lt_of_lt_of_le jAC GW410.out);have hn411_1 : ad411.block≠gb410:=yc (Nat.lt_of_lt_of_le jAC GW410.out);have hn411_2 : ad411.block≠gb410:=yc (Nat.lt_of_lt_of_le jAC GW410.out);have hn411_3 : ad411.block≠gb410:=yc (Nat.lt_of_lt_of_le jAC GW410.out);replace hx411_0:=(HB.out.cell (zl w _ hx411_0)).trans hx411_0;replace hx411_1:=(HB.out.cell (zl w _ hx411_1)).trans hx411_1;replace hx411_2:=(HB.out.cell (zl w _ hx411_2)).trans hx411_2;replace hx411_3:=(HB.out.cell (zl w _ hx411_3)).trans hx411_3;replace hx411_0:=(zR (p:=⟨gb410,0,none⟩) jAD (.string ((rd_T68 l0 x13_1).f0))).trans hx411_0;replace hx411_1:=(zR (p:=⟨gb410,0,none⟩) jAD (.string ((rd_T68 l0 x13_1).f0))).trans hx411_1;replace hx411_2:=(zR (p:=⟨gb410,0,none⟩) jAD (.string ((rd_T68 l0 x13_1).f0))).trans hx411_2;replace hx411_3:=(zR (p:=⟨gb410,0,none⟩) jAD (.string ((rd_T68 l0 x13_1).f0))).trans hx411_3;replace hx411_0:=(zR (p:=⟨gb410,1,none⟩) jAE (.int .i64 ((rd_T68 l0 x13_1).f1.f0))).trans hx411_0;replace hx411_1:=(zR (p:=⟨gb410,1,none⟩) jAE (.int .i64 ((rd_T68 l0 x13_1).f1.f0))).trans hx411_1;replace hx411_2:=(zR (p:=⟨gb410,1,none⟩) jAE (.int .i64 ((rd_T68 l0 x13_1).f1.f0))).trans hx411_2;replace hx411_3:=(zR (p:=⟨gb410,1,none⟩) jAE (.int .i64 ((rd_T68 l0 x13_1).f1.f0))).trans hx411_3;replace hx411_0:=(zR (p:=⟨gb410,2,none⟩) jAF (.int .i64 ((rd_T68 l0 x13_1).f1.f1))).trans hx411_0;replace hx411_1:=(zR (p:=⟨gb410,2,none⟩) jAF (.int .i64 ((rd_T68 l0 x13_1).f1.f1))).trans hx411_1;replace hx411_2:=(zR (p:=⟨gb410,2,none⟩) jAF (.int .i64 ((rd_T68 l0 x13_1).f1.f1))).trans hx411_2;replace hx411_3:=(zR (p:=⟨gb410,2,none⟩) jAF (.int .i64 ((rd_T68 l0 x13_1).f1.f1))).trans hx411_3;replace hx411_0:=(zR (p:=⟨gb410,3,none⟩) jAo (.string ((rd_T68 l0 x13_1).f1.f2))).trans hx411_0;replace hx411_1:=(zR (p:=⟨gb410,3,none⟩) jAo (.string ((rd_T68 l0 x13_1).f1.f2))).trans hx411_1;replace hx411_2:=(zR (p:=⟨gb410,3,none⟩) jAo (.string ((rd_T68 l0 x13_1).f1.f2))).trans hx411_2;replace hx411_3:=(zR (p:=⟨gb410,3,none⟩) jAo (.string ((rd_T68 l0 x13_1).f1.f2))).trans hx411_3;clear hn411_0 hn411_1 hn411_2 hn411_3;replace p411:=eq_true p411;replace q411:=eq_true q411)|((with_reducible refine zK (N:=9) rfl ?_);refine zI ?hg (N:=9) ?hd (cs:=#[.string (⟨#[]⟩ : ByteArray),.int .i64 0,.int .i64 0,.string (⟨#[]⟩ : ByteArray)]) (t:=68) ?hr ?_;(case hd=>rfl);(case hg=>rfl);(case hr=>go_simp <;> rfl);intro gb412 hg w15 hbox hb;have BK412:=zh (hbox);have hH_:=cH jA7 hb hg;have GW412:=zh hH_.1;have GE412:=GW412;replace HB:=zh hH_.2;have NB410_412:=zh ((jCw : gb410≠gb412));have NB412_410:=zh NB410_412.out.symm;replace BK410:=zh (zD (g:=gb410) (o:=.cells #[.string ((rd_T68 l0 x13_1).f0),.int .i64 ((rd_T68 l0 x13_1).f1.f0),.int .i64 ((rd_T68 l0 x13_1).f1.f1),.string ((rd_T68 l0 x13_1).f1.f2)] 68 (0,0)) jB7 hb);clear hb hbox hg hH_;have hnb16:=NB412_410.out;have hnc16:=NB410_412.out;obtain ⟨hcz17_0,hcz17_1,hcz17_2,hcz17_3,hfz17_0,hfz17_1,hfz17_2,hfz17_3⟩:=cB4 BK412.out;obtain ⟨hcz18_0,hcz18_1,hcz18_2,hcz18_3,hfz18_0,hfz18_1,hfz18_2,hfz18_3⟩:=cB4 BK410.out)|(go_at_call 37;(with_reducible refine (F0h.calls k1 G hG ((rd_T68 l0 x13_1).f0) ((rd_T68 l0 x13_1).f1.f0) ((rd_T68 l0 x13_1).f1.f1) ((rd_T68 l0 x13_1).f1.f2) ((rd_T68 l1 x13_1).f0) ((rd_T68 l1 x13_1).f1.f0) ((rd_T68 l1 x13_1).f1.f1) ((rd_T68 l1 x13_1).f1.f2) t413 _ A11.out).mono ?_);rintro e w19 ⟨rfl,hb⟩;replace BK410:=zh (cD BK410.out jCx hb);replace BK412:=zh (zD (g:=gb412) (o:=.cells #[.string ((rd_T68 l1 x13_1).f0),.int .i64 ((rd_T68 l1 x13_1).f1.f0),.int .i64 ((rd_T68 l1 x13_1).f1.f1),.string ((rd_T68 l1 x13_1).f1.f2)] 68 (0,0)) jCy hb);replace HB:=zh (zC jAn hb);(try clear hb);(try clear hb2);(try clear hk);(try clear hi)))
        go_roundg k1
        case measure=>have:=HK1.out;omega
        case rel=>exact ⟨(wrap64 (x13_1+1)),jE,H',⟨jN⟩,⟨jAn⟩⟩
       rw [if_neg c12] at H;have c12b0 : (t413 == 0)=false:=zY.mpr c12;have c12b1 : (t413 != 0)=true:=zZ.mpr c12;obtain rfl:=zU H;have p409 : 0≤(x13_1 : Int):=zy jF;have q409 : x13_1<(l0.length : Int):=zy jF;obtain ⟨ad409,e409,hx409_0,hx409_1,hx409_2,hx409_3⟩:=at_T68 HR0.out x13_1 p409 q409
       cases e409
       replace hx409_0:=(HB.out.cell (zl w _ hx409_0)).trans hx409_0;replace hx409_1:=(HB.out.cell (zl w _ hx409_1)).trans hx409_1;replace hx409_2:=(HB.out.cell (zl w _ hx409_2)).trans hx409_2;replace hx409_3:=(HB.out.cell (zl w _ hx409_3)).trans hx409_3;replace p409:=eq_true p409;replace q409:=eq_true q409
       go_wp2_with (first|((with_reducible refine zK (N:=8) rfl ?_);refine zI ?hg (N:=8) ?hd (cs:=#[.string (⟨#[]⟩ : ByteArray),.int .i64 0,.int .i64 0,.string (⟨#[]⟩ : ByteArray)]) (t:=68) ?hr ?_;(case hd=>rfl);(case hg=>rfl);(case hr=>go_simp <;> rfl);intro gb410 hg w20 hbox hb;have BK410:=zh (hbox);have hH_:=cH jD hb hg;have GW410:=zh hH_.1;have GE410:=GW410;replace HB:=zh hH_.2;clear hb hbox hg hH_;obtain ⟨hcz21_0,hcz21_1,hcz21_2,hcz21_3,hfz21_0,hfz21_1,hfz21_2,hfz21_3⟩:=cB4 BK410.out;have p411 : 0≤(x13_1 : Int):=zy jF;have q411 : x13_1<(l1.length : Int):=zy jF;obtain ⟨ad411,e411,hx411_0,hx411_1,hx411_2,hx411_3⟩:=at_T68 HR1.out x13_1 p411 q411;cases e411;have hn411_0 : ad411.block≠gb410:=yc (Nat.lt_of_lt_of_le jAC GW410.out);have hn411_1 : ad411.block≠gb410:=yc (Nat.lt_of_lt_of_le jAC GW410.out);have hn411_2 : ad411.block≠gb410:=yc (Nat.lt_of_lt_of_le jAC GW410.out);have hn411_3 : ad411.block≠gb410:=yc (Nat.lt_of_lt_of_le jAC GW410.out);replace hx411_0:=(HB.out.cell (zl w _ hx411_0)).trans hx411_0;replace hx411_1:=(HB.out.cell (zl w _ hx411_1)).trans hx411_1;replace hx411_2:=(HB.out.cell (zl w _ hx411_2)).trans hx411_2;replace hx411_3:=(HB.out.cell (zl w _ hx411_3)).trans hx411_3;replace hx411_0:=(zR (p:=⟨gb410,0,none⟩) jAD (.string ((rd_T68 l0 x13_1).f0))).trans hx411_0;replace hx411_1:=(zR (p:=⟨gb410,0,none⟩) jAD (.string ((rd_T68 l0 x13_1).f0))).trans hx411_1;replace hx411_2:=(zR (p:=⟨gb410,0,none⟩) jAD (.string ((rd_T68 l0 x13_1).f0))).trans hx411_2;replace hx411_3:=(zR (p:=⟨gb410,0,none⟩) jAD (.string ((rd_T68 l0 x13_1).f0))).trans hx411_3;replace hx411_0:=(zR (p:=⟨gb410,1,none⟩) jAE (.int .i64 ((rd_T68 l0 x13_1).f1.f0))).trans hx411_0;replace hx411_1:=(zR (p:=⟨gb410,1,none⟩) jAE (.int .i64 ((rd_T68 l0 x13_1).f1.f0))).trans hx411_1;replace hx411_2:=(zR (p:=⟨gb410,1,none⟩) jAE (.int .i64 ((rd_T68 l0 x13_1).f1.f0))).trans hx411_2;replace hx411_3:=(zR (p:=⟨gb410,1,none⟩) jAE (.int .i64 ((rd_T68 l0 x13_1).f1.f0))).trans hx411_3;replace hx411_0:=(zR (p:=⟨gb410,2,none⟩) jAF (.int .i64 ((rd_T68 l0 x13_1).f1.f1))).trans hx411_0;replace hx411_1:=(zR (p:=⟨gb410,2,none⟩) jAF (.int .i64 ((rd_T68 l0 x13_1).f1.f1))).trans hx411_1;replace hx411_2:=(zR (p:=⟨gb410,2,none⟩) jAF (.int .i64 ((rd_T68 l0 x13_1).f1.f1))).trans hx411_2;replace hx411_3:=(zR (p:=⟨gb410,2,none⟩) jAF (.int .i64 ((rd_T68 l0 x13_1).f1.f1))).trans hx411_3;replace hx411_0:=(zR (p:=⟨gb410,3,none⟩) jAo (.string ((rd_T68 l0 x13_1).f1.f2))).trans hx411_0;replace hx411_1:=(zR (p:=⟨gb410,3,none⟩) jAo (.string ((rd_T68 l0 x13_1).f1.f2))).trans hx411_1;replace hx411_2:=(zR (p:=⟨gb410,3,none⟩) jAo (.string ((rd_T68 l0 x13_1).f1.f2))).trans hx411_2;replace hx411_3:=(zR (p:=⟨gb410,3,none⟩) jAo (.string ((rd_T68 l0 x13_1).f1.f2))).trans hx411_3;clear hn411_0 hn411_1 hn411_2 hn411_3;replace p411:=eq_true p411;replace q411:=eq_true q411)|((with_reducible refine zK (N:=9) rfl ?_);refine zI ?hg (N:=9) ?hd (cs:=#[.string (⟨#[]⟩ : ByteArray),.int .i64 0,.int .i64 0,.string (⟨#[]⟩ : ByteArray)]) (t:=68) ?hr ?_;(case hd=>rfl);(case hg=>rfl);(case hr=>go_simp <;> rfl);intro gb412 hg w22 hbox hb;have BK412:=zh (hbox);have hH_:=cH jA7 hb hg;have GW412:=zh hH_.1;have GE412:=GW412;replace HB:=zh hH_.2;have NB410_412:=zh ((jCw : gb410≠gb412));have NB412_410:=zh NB410_412.out.symm;replace BK410:=zh (zD (g:=gb410) (o:=.cells #[.string ((rd_T68 l0 x13_1).f0),.int .i64 ((rd_T68 l0 x13_1).f1.f0),.int .i64 ((rd_T68 l0 x13_1).f1.f1),.string ((rd_T68 l0 x13_1).f1.f2)] 68 (0,0)) jB7 hb);clear hb hbox hg hH_;have hnb23:=NB412_410.out;have hnc23:=NB410_412.out;obtain ⟨hcz24_0,hcz24_1,hcz24_2,hcz24_3,hfz24_0,hfz24_1,hfz24_2,hfz24_3⟩:=cB4 BK412.out;obtain ⟨hcz25_0,hcz25_1,hcz25_2,hcz25_3,hfz25_0,hfz25_1,hfz25_2,hfz25_3⟩:=cB4 BK410.out)|(go_at_call 37;(with_reducible refine (F0h.calls k1 G hG ((rd_T68 l0 x13_1).f0) ((rd_T68 l0 x13_1).f1.f0) ((rd_T68 l0 x13_1).f1.f1) ((rd_T68 l0 x13_1).f1.f2) ((rd_T68 l1 x13_1).f0) ((rd_T68 l1 x13_1).f1.f0) ((rd_T68 l1 x13_1).f1.f1) ((rd_T68 l1 x13_1).f1.f2) t413 _ A11.out).mono ?_);rintro e w26 ⟨rfl,hb⟩;replace BK410:=zh (cD BK410.out jCx hb);replace BK412:=zh (zD (g:=gb412) (o:=.cells #[.string ((rd_T68 l1 x13_1).f0),.int .i64 ((rd_T68 l1 x13_1).f1.f0),.int .i64 ((rd_T68 l1 x13_1).f1.f1),.string ((rd_T68 l1 x13_1).f1.f2)] 68 (0,0)) jCy hb);replace HB:=zh (zC jAn hb);(try clear hb);(try clear hb2);(try clear hk);(try clear hi)))
       go_ret
       exact ⟨jG,jAn⟩
      rw [if_neg c10] at H;exact absurd H (by simp)
     rw [if_neg c6] at H;exact absurd H (by simp)
    rw [if_neg c5] at H;exact absurd H (by simp)
   rw [if_neg c4] at H;have c4b0 : decide (x13_1<(l0.length : Int))=false:=decide_eq_false c4;clear c4
   by_cases c27 : (l0.length : Int)<(l1.length : Int)
   ·
    rw [if_pos c27] at H
    have c27b0 : decide ((l0.length : Int)<(l1.length : Int))=true:=decide_eq_true c27;have c27b1 : decide (l0.length<l1.length)=true:=decide_eq_true (zV.mp c27);clear c27;obtain rfl:=zU H
    go_wp2
    go_ret
    exact ⟨jG,jD⟩
   rw [if_neg c27] at H;have c27b0 : decide ((l0.length : Int)<(l1.length : Int))=false:=decide_eq_false c27;have c27b1 : decide (l0.length<l1.length)=false:=decide_eq_false (fun h=>c27 (zV.mpr h));clear c27;obtain rfl:=zU H
   go_wp2
   go_ret
   exact ⟨jG,jD⟩


def F3.f : Nat→Int→Int→ByteArray→Int→Int→ByteArray→Option (Int)
 | 0,_,_,_,_,_,_=>none
 | k+1,a0_0,a0_1,a0_2,a1_0,a1_1,a1_2=>(F0n.f a0_0 a1_0).bind fun t416=>((F0n.f a0_1 a1_1).bind fun t417=>((Fs.f k (([t416,t417] : List Int))).bind fun t421=>(if t421=0 then (if a0_0=4 then ((Fa.f k a0_0 a0_1 a0_2).bind fun bt422=>((Fa.f k a1_0 a1_1 a1_2).bind fun bt426=>((Fw.f k (F3.f k) bt422.1 bt426.1).bind fun t430=>(some t430)))) else (if a0_0=5 then ((F4.f k a0_0 a0_1 a0_2).bind fun bt431=>((F4.f k a1_0 a1_1 a1_2).bind fun bt435=>((Fv.f k (F3.f k) bt431.1 bt435.1).bind fun t439=>(some t439)))) else ((strings_Compare.f a0_2 a1_2).bind fun t440=>(some t440)))) else (some t421))))
theorem F3.mono_l : ∀ k,(∀ y0 y1 y2 y3 y4 y5,LeO (F3.f k y0 y1 y2 y3 y4 y5) (F3.f (k+1) y0 y1 y2 y3 y4 y5))
 | 0=>fun _ _ _ _ _ _ r h=>by simp [F3.f] at h
 | k+1=>by
  have ih0:=F3.mono_l k;intro y0 y1 y2 y3 y4 y5;unfold F3.f
  repeat' first|(with_reducible first|exact ih0 _ _ _ _ _ _|exact Fs.mono _ _|exact Fa.mono _ _ _ _|exact F4.mono _ _ _ _|exact Fw.mono _ _ ih0 _ _ _|exact Fv.mono _ _ ih0 _ _ _|exact zQ _|exact zN _|refine zP ?_ ?_|refine zO ?_ (fun _=>?_))|refine zP ?_ ?_|refine zO ?_ (fun _=>?_)
theorem F3.mono : ∀ a0 a1 a2 a3 a4 a5 k,LeO (F3.f k a0 a1 a2 a3 a4 a5) (F3.f (k+1) a0 a1 a2 a3 a4 a5):=by
 intro a0 a1 a2 a3 a4 a5 k;have ih0:=F3.mono_l k;exact ih0 a0 a1 a2 a3 a4 a5
def F3.T1 : Bool×List (List Nat×List Nat):=(true,[([],[]),([0],[0]),([],[]),([2],[2]),([1,3],[1,3]),([],[]),([5],[5]),([],[]),([7],[7]),([6,8,4],[6,8]),([4,9],[4,9]),([10,9],[10]),([11,11,0,1,2,3,4,5,6,7,8,9,10,11],[11])])
def F3.B1 : List Nat:=[0,1,0,4,15,0,32,0,128,511,1023,2047,4095]
theorem F3.tab1 : rtab .any (opsOf Try.f13 1)=F3.T1:=by kernel_rfl
theorem F3.bits1 : waitsOk F3.T1.2 F3.B1=true:=by kernel_rfl
set_option maxHeartbeats 8000000 in
set_option maxRecDepth 100000 in
theorem F3.calls (k : Nat) : ∀ (a0_0 : Int) (a0_1 : Int) (a0_2 : ByteArray) (a1_0 : Int) (a1_1 : Int) (a1_2 : ByteArray) (r : Int) (w : World) (h : F3.f k a0_0 a0_1 a0_2 a1_0 a1_1 a1_2=some r),
  Calls Try.prog 13 #[.agg #[.int .i64 a0_0,.int .i64 a0_1,.string a0_2],.agg #[.int .i64 a1_0,.int .i64 a1_1,.string a1_2]] w fun e w' => e = .returned (.int .i64 r)∧Below w.heap.size w w':=by
 induction k using Nat.strongRecOn with
 | _ k ih =>
 intro a0_0 a0_1 a0_2 a1_0 a1_1 a1_2 r w h
 cases k with
 | zero=>exact absurd h (by simp [F3.f])
 | succ k =>
 simp only [F3.f] at h;have hu24:=Try.underlying24;have HB:=zh (Below.refl w.heap.size w);have H : ((F0n.f a0_0 a1_0).bind fun t416=>((F0n.f a0_1 a1_1).bind fun t417=>((Fs.f k (([t416,t417] : List Int))).bind fun t421=>(if t421=0 then (if a0_0=4 then ((Fa.f k a0_0 a0_1 a0_2).bind fun bt422=>((Fa.f k a1_0 a1_1 a1_2).bind fun bt426=>((Fw.f k (F3.f k) bt422.1 bt426.1).bind fun t430=>(some t430)))) else (if a0_0=5 then ((F4.f k a0_0 a0_1 a0_2).bind fun bt431=>((F4.f k a1_0 a1_1 a1_2).bind fun bt435=>((Fv.f k (F3.f k) bt431.1 bt435.1).bind fun t439=>(some t439)))) else ((strings_Compare.f a0_2 a1_2).bind fun t440=>(some t440)))) else (some t421)))))=some r:=h;clear h;replace H:=zT.mp H;obtain ⟨t416,A30,H⟩:=H;have A3:=zh A30;clear A30;replace H:=zT.mp H;obtain ⟨t417,A40,H⟩:=H;have A4:=zh A40;clear A40;obtain ⟨y418,hy418⟩ : ∃ y_ : List Int,y_=(([t416,t417] : List Int)):=⟨_,rfl⟩;replace H : ((Fs.f k y418).bind fun t421=>(if t421=0 then (if a0_0=4 then ((Fa.f k a0_0 a0_1 a0_2).bind fun bt422=>((Fa.f k a1_0 a1_1 a1_2).bind fun bt426=>((Fw.f k (F3.f k) bt422.1 bt426.1).bind fun t430=>(some t430)))) else (if a0_0=5 then ((F4.f k a0_0 a0_1 a0_2).bind fun bt431=>((F4.f k a1_0 a1_1 a1_2).bind fun bt435=>((Fv.f k (F3.f k) bt431.1 bt435.1).bind fun t439=>(some t439)))) else ((strings_Compare.f a0_2 a1_2).bind fun t440=>(some t440)))) else (some t421)))=some r:=by first|(rw [hy418];with_reducible exact H)|(have H2_:=(Option.bind_some _ _).symm.trans H;rw [hy418];with_reducible exact H2_)|(have H2_:=(Option.bind_some _ _).symm.trans H;with_reducible exact H2_)|with_reducible exact H|(rw [hy418];exact H)|exact H
 have Ny418:=zh hy418;clear hy418;replace H:=zT.mp H;obtain ⟨t421,A50,H⟩:=H;have A5:=zh A50;clear A50
 by_cases c6 : t421=0
 ·
  rw [if_pos c6] at H
  have c6b0 : (t421 == 0)=true:=ya.mpr c6;have c6b1 : (t421 != 0)=false:=zX.mpr c6;clear c6
  by_cases c7 : a0_0=4
  ·
   rw [if_pos c7] at H
   have c7b0 : (a0_0 == 4)=true:=ya.mpr c7;have c7b1 : (a0_0 != 4)=false:=zX.mpr c7;clear c7;replace H:=zT.mp H;obtain ⟨⟨t422,t425⟩,A80,H⟩:=H;have A8:=zh A80;clear A80;replace H:=zT.mp H;obtain ⟨⟨t426,t429⟩,A90,H⟩:=H;have A9:=zh A90;clear A90;replace H:=zT.mp H;obtain ⟨t430,A100,H⟩:=H;have A10:=zh A100;clear A100;obtain rfl:=zU H
   go_enter Try.func13,Try.ntmps13
   try go_wp2_with (first|((with_reducible refine zK (N:=2) rfl ?_);refine zI ?hg (N:=2) ?hd (cs:=#[.int .i64 a0_0,.int .i64 a0_1,.string a0_2]) (t:=24) ?hr ?_;(case hd=>rfl);(case hg=>rfl);(case hr=>go_simp <;> rfl);intro gb414 hg w11 hbox hb;have BK414:=zh (hbox);have hH_:=cH jD hb hg;have GW414:=zh hH_.1;have GE414:=GW414;replace HB:=zh hH_.2;clear hb hbox hg hH_)|((with_reducible refine zK (N:=3) rfl ?_);refine zI ?hg (N:=3) ?hd (cs:=#[.int .i64 a1_0,.int .i64 a1_1,.string a1_2]) (t:=24) ?hr ?_;(case hd=>rfl);(case hg=>rfl);(case hr=>go_simp <;> rfl);intro gb415 hg w12 hbox hb;have BK415:=zh (hbox);have hH_:=cH jBd hb hg;have GW415:=zh hH_.1;have GE415:=GW415;replace HB:=zh hH_.2;have NB414_415:=zh ((jBe : gb414≠gb415));have NB415_414:=zh NB414_415.out.symm;replace BK414:=zh (cD BK414.out jv hb);clear hb hbox hg hH_))
   replace BK414:=zh (zf BK414.out);replace BK415:=zh (zf BK415.out);replace HB:=zh (zc HB.out);refine start_ (n:=13) (S:=fun w' => w'.cell? ⟨gb414,0,none⟩=some (.int .i64 a0_0)∧w'.cell? ⟨gb414,1,none⟩=some (.int .i64 a0_1)∧w'.cell? ⟨gb414,2,none⟩=some (.string a0_2)∧w'.cell? ⟨gb415,0,none⟩=some (.int .i64 a1_0)∧w'.cell? ⟨gb415,1,none⟩=some (.int .i64 a1_1)∧w'.cell? ⟨gb415,2,none⟩=some (.string a1_2)) (ds:=[]) (bm_ 0 13) jA rfl rfl ⟨(zz BK414.out 0).trans rfl,(zz BK414.out 1).trans rfl,(zz BK414.out 2).trans rfl,(zz BK415.out 0).trans rfl,(zz BK415.out 1).trans rfl,(zz BK415.out 2).trans rfl⟩ (fun hHeld=>?_);refine with_tabW F3.tab1 F3.bits1 (fun HT_ HW_=>?_);generalize w12.drew=w13 at BK414 BK415 HB hHeld ⊢;refine pure_ (i:=0) (N:=some 14) (v:=?_) (a':=?_) (bm_ 1 13) rfl rfl (any_of HT_.out jA) (fun _ _ _ h=>h) (Or.inl ⟨by rfl,?_⟩) ?_ ?_;rotate_left;exact jb;rotate_left;exact jc
   refine pure_ (i:=2) (N:=some 16) (v:=?_) (a':=?_) #[true,false,true,false,false,false,false,false,false,false,false,false,false] rfl rfl (any_of HT_.out jA) (fun _ _ _ h=>h) (Or.inl ⟨by rfl,?_⟩) ?_ ?_;rotate_left;exact jb;rotate_left;exact jc
   refine pure_ (i:=5) (N:=some 19) (v:=?_) (a':=?_) #[true,false,true,false,false,true,false,false,false,false,false,false,false] rfl rfl (any_of HT_.out jA) (fun _ _ _ h=>h) (Or.inl ⟨by rfl,?_⟩) ?_ ?_;rotate_left;exact jb;rotate_left;exact jc
   refine pure_ (i:=7) (N:=some 21) (v:=?_) (a':=?_) #[true,false,true,false,false,true,false,true,false,false,false,false,false] rfl rfl (any_of HT_.out jA) (fun _ _ _ h=>h) (Or.inl ⟨by rfl,?_⟩) ?_ ?_;rotate_left;exact jb;rotate_left;exact jc
   refine take_ (i:=1) (N:=some 15) (v:=?_) (a':=?_) #[true,true,true,false,false,true,false,true,false,false,false,false,false] rfl rfl (yo HT_.out HW_.out jA) (fun _ _ _ h=>h) (Or.inl ⟨by rfl,?_⟩) hHeld ?_ ?_;rotate_left
   ·
    rintro w' ⟨s0,s1,s2,s3,s4,s5⟩
    go_simp
    with_reducible rfl
   rotate_left
   exact jc
   refine take_ (i:=3) (N:=some 17) (v:=?_) (a':=?_) #[true,true,true,true,false,true,false,true,false,false,false,false,false] rfl rfl (yo HT_.out HW_.out jA) (fun _ _ _ h=>h) (Or.inl ⟨by rfl,?_⟩) hHeld ?_ ?_;rotate_left
   ·
    rintro w' ⟨s0,s1,s2,s3,s4,s5⟩
    go_simp
    with_reducible rfl
   rotate_left
   exact jc
   refine take_ (i:=6) (N:=some 20) (v:=?_) (a':=?_) #[true,true,true,true,false,true,true,true,false,false,false,false,false] rfl rfl (yo HT_.out HW_.out jA) (fun _ _ _ h=>h) (Or.inl ⟨by rfl,?_⟩) hHeld ?_ ?_;rotate_left
   ·
    rintro w' ⟨s0,s1,s2,s3,s4,s5⟩
    go_simp
    with_reducible rfl
   rotate_left
   exact jc
   refine take_ (i:=8) (N:=some 22) (v:=?_) (a':=?_) #[true,true,true,true,false,true,true,true,true,false,false,false,false] rfl rfl (yo HT_.out HW_.out jA) (fun _ _ _ h=>h) (Or.inl ⟨by rfl,?_⟩) hHeld ?_ ?_;rotate_left
   ·
    rintro w' ⟨s0,s1,s2,s3,s4,s5⟩
    go_simp
    with_reducible rfl
   rotate_left
   exact jc
   refine one_ (i:=4) (N:=some 18) (bm_ 9 13) rfl rfl (one_of HT_.out jA) jC (fun K hK=>?_);refine goes_ Try.func32 jA rfl #[.int .i64 a0_0,.int .i64 a1_0] (by rfl) rfl rfl jB ?_
   with_reducible refine (F0n.calls  a0_0 a1_0 t416 _ A3.out).mono ?_
   rintro e w' ⟨rfl,⟨nd,rfl⟩⟩;refine ⟨_,rfl,?_⟩;refine hK.out _ _ ⟨(zz BK414.out 0).trans rfl,(zz BK414.out 1).trans rfl,(zz BK414.out 2).trans rfl,(zz BK415.out 0).trans rfl,(zz BK415.out 1).trans rfl,(zz BK415.out 2).trans rfl⟩ (fun hHeld=>?_);clear hK K;refine norm_ (a':=?_) ?_ ?_;rotate_left
   ·
    show Act.put _ (some 18) _=_
    simp only [Act.put,zi,zj,zk,zG,zH]
    rfl
   refine one_ (i:=9) (N:=some 23) (bm_ 10 13) rfl rfl (one_of HT_.out jA) jC (fun K hK=>?_);refine goes_ Try.func32 jA rfl #[.int .i64 a0_1,.int .i64 a1_1] (by rfl) rfl rfl jB ?_
   with_reducible refine (F0n.calls  a0_1 a1_1 t417 _ A4.out).mono ?_
   rintro e w' ⟨rfl,⟨nd,rfl⟩⟩;refine ⟨_,rfl,?_⟩;refine hK.out _ _ ⟨(zz BK414.out 0).trans rfl,(zz BK414.out 1).trans rfl,(zz BK414.out 2).trans rfl,(zz BK415.out 0).trans rfl,(zz BK415.out 1).trans rfl,(zz BK415.out 2).trans rfl⟩ (fun hHeld=>?_);clear hK K;refine norm_ (a':=?_) ?_ ?_;rotate_left
   ·
    show Act.put _ (some 23) _=_
    simp only [Act.put,zi,zj,zk,zG,zH]
    rfl
   refine one_ (i:=10) (N:=some 24) (bm_ 11 13) rfl rfl (one_of HT_.out jA) jC (fun K hK=>?_);refine Kd.R_lit_step (Kd.int .i64) _ 3 ?hg (N:=24) ?hd (xs:=([t416,t417] : List Int)) (inner:=[.int .i64 t416,.int .i64 t417]) (ok:=fun _=>True) (okp:=fun _=>True) ?hr ?hp (fun _ hk=>hk) trivial (Below.refl _ _) (ye _) (by simp) ?_;(case hd=>rfl);(case hg=>rfl);(case hr=>go_simp <;> rfl);(case hp=>exact (Reps.one (show Kd.M (Kd.int .i64) _ _ _ t416 [.int .i64 t416] from rfl) (Reps.one (show Kd.M (Kd.int .i64) _ _ _ t417 [.int .i64 t417] from rfl) (Reps.none _ _))));intro v419 w14 ho15 hb hg_ hnew_;clear hg_ hnew_;(first|rw [← Ny418.out] at ho15|(simp only [Int.reduceToNat] at ho15;rw [← Ny418.out] at ho15));have HO420:=zh (yy ho15 (zB jp));replace BK414:=zh (cD BK414.out jv hb);replace BK415:=zh (cD BK415.out jAS hb);replace HB:=zh (zC jp hb);clear hb ho15;obtain ⟨Ao16,co16,eo16⟩:=yk HO420.out;(first|subst eo16|(injection eo16 with f1_ f2_ f3_;have f4_:=f1_.symm;have f5_:=f3_.symm;clear f1_ f2_ f3_;subst f4_;subst f5_));refine hK.out _ _ ⟨(zz BK414.out 0).trans rfl,(zz BK414.out 1).trans rfl,(zz BK414.out 2).trans rfl,(zz BK415.out 0).trans rfl,(zz BK415.out 1).trans rfl,(zz BK415.out 2).trans rfl⟩ (fun hHeld=>?_);clear hK K;refine norm_ (a':=?_) ?_ ?_;rotate_left
   ·
    show Act.put _ (some 24) _=_
    simp only [Act.put,zi,zj,zk,zG,zH]
    rfl
   refine one_ (i:=11) (N:=some 25) (bm_ 12 13) rfl rfl (one_of HT_.out jA) jC (fun K hK=>?_);refine goes_ Try.func31 jA rfl #[.slice Ao16 y418.length co16] (by rfl) rfl rfl jB ?_
   with_reducible refine (Fs.calls k  _ _ y418 t421 _ ?side1 ?side2 A5.out).mono ?_
   (case side1=>repeat (first|exact (yh HO420.out).2.2|(with_reducible refine Kd.C_alloc ?_ _)|(with_reducible refine Kd.C_drewN ?_ _)|(with_reducible refine Kd.C_drew ?_)))
   (case side2=>exact (yh HO420.out).2.1)
   rintro e w' ⟨rfl,⟨nd,rfl⟩⟩;refine ⟨_,rfl,?_⟩;refine hK.out _ _ ⟨(zz BK414.out 0).trans rfl,(zz BK414.out 1).trans rfl,(zz BK414.out 2).trans rfl,(zz BK415.out 0).trans rfl,(zz BK415.out 1).trans rfl,(zz BK415.out 2).trans rfl⟩ (fun hHeld=>?_);clear hK K;refine norm_ (a':=?_) ?_ ?_;rotate_left
   ·
    show Act.put _ (some 25) _=_
    simp only [Act.put,zi,zj,zk,zG,zH]
    rfl
   refine pure_ (i:=12) (N:=some 5) (v:=?_) (a':=?_) (bm_ 13 13) rfl rfl (any_of HT_.out jA) (fun _ _ _ h=>h) (Or.inl ⟨by rfl,?_⟩) ?_ ?_;rotate_left;exact jb;rotate_left;exact jc
   refine done_ (done_of HT_.out jA) ?_;have hnb17:=NB414_415.out;have hnc17:=NB415_414.out;obtain ⟨hcz18_0,hcz18_1,hcz18_2,hfz18_0,hfz18_1,hfz18_2⟩:=cB3 BK414.out
   try go_wp2_with (first|((with_reducible refine zJ (f:=33) rfl ?_);refine yj (some 35) rfl rfl Try.func33 jA rfl #[.agg #[.int .i64 a0_0,.int .i64 a0_1,.string a0_2]] rfl jB ?_;(with_reducible refine (Fa.calls k  a0_0 a0_1 a0_2 t422 t425 _ A8.out).mono ?_);rintro e w19 ⟨v423,rfl,ho0,hb⟩;refine ⟨_,rfl,?_⟩;replace HO420:=zh (yg jA8 hb);have HO424:=zh (yy (Kd.R_newB (Kd.R_newB ho0 (g:=gb414) (o:=.cells #[.int .i64 a0_0,.int .i64 a0_1,.string a0_2] 24 (0,0)) jv) (g:=gb415) (o:=.cells #[.int .i64 a1_0,.int .i64 a1_1,.string a1_2] 24 (0,0)) jAS) (zB jp));replace BK414:=zh (cD BK414.out jv hb);replace BK415:=zh (cD BK415.out jAS hb);replace HB:=zh (zC jp hb);(try clear hb);(try clear hb2);(try clear hk);(try clear hi);(try clear ho0);obtain ⟨hcz20_0,hcz20_1,hcz20_2,hfz20_0,hfz20_1,hfz20_2⟩:=cB3 BK415.out)|((with_reducible refine zJ (f:=33) rfl ?_);refine yj (some 40) rfl rfl Try.func33 jA rfl #[.agg #[.int .i64 a1_0,.int .i64 a1_1,.string a1_2]] rfl jB ?_;(with_reducible refine (Fa.calls k  a1_0 a1_1 a1_2 t426 t429 _ A9.out).mono ?_);rintro e w21 ⟨v427,rfl,ho0,hb⟩;refine ⟨_,rfl,?_⟩;replace HO420:=zh (yg jA8 hb);have HO428:=zh (yy (Kd.R_newB (Kd.R_newB (Kd.R_new' ho0 (Kd.R_lt jB8)) (g:=gb414) (o:=.cells #[.int .i64 a0_0,.int .i64 a0_1,.string a0_2] 24 (0,0)) jv) (g:=gb415) (o:=.cells #[.int .i64 a1_0,.int .i64 a1_1,.string a1_2] 24 (0,0)) jAS) (zB jp));replace HO424:=zh (Kd.R_elder' jB8 (Kd.R_base ho0) hb);replace BK414:=zh (cD BK414.out jv hb);replace BK415:=zh (cD BK415.out jAS hb);replace HB:=zh (zC jp hb);(try clear hb);(try clear hb2);(try clear hk);(try clear hi);(try clear ho0);obtain ⟨Ao22,co22,eo22⟩:=yk HO424.out;subst eo22;obtain ⟨Ao23,co23,eo23⟩:=yk HO428.out;subst eo23)|((with_reducible refine zJ (f:=34) rfl ?_);refine yj (some 45) rfl rfl Try.func34 jA rfl #[.slice Ao22 t422.length co22,.slice Ao23 t426.length co23,.func (.func 13) #[] #[]] rfl jB ?_;(with_reducible refine (Fw.calls k (F3.f k) (ih k jH) _ _ t422 _ _ t426  t430 _ ?side1 ?side2 ?side3 ?side4 A10.out).mono ?_);(case side1=>repeat (first|exact (yh HO424.out).2.2|(with_reducible refine Kd.C_alloc ?_ _)|(with_reducible refine Kd.C_drewN ?_ _)|(with_reducible refine Kd.C_drew ?_)));(case side2=>exact (yh HO424.out).2.1);(case side3=>repeat (first|exact (yh HO428.out).2.2|(with_reducible refine Kd.C_alloc ?_ _)|(with_reducible refine Kd.C_drewN ?_ _)|(with_reducible refine Kd.C_drew ?_)));(case side4=>exact (yh HO428.out).2.1);rintro e w24 ⟨rfl,hb⟩;refine ⟨_,rfl,?_⟩;replace HO420:=zh (yg jA8 hb);replace HO424:=zh (yg jB8 hb);replace HO428:=zh (yg (by (with_reducible repeat (first|apply zm|apply zn|apply zo));exact HO428.out) hb);replace BK414:=zh (cD BK414.out jv hb);replace BK415:=zh (cD BK415.out jAS hb);replace HB:=zh (zC jp hb);(try clear hb);(try clear hb2);(try clear hk);(try clear hi)))
   go_ret
   exact ⟨jG,jp⟩
  rw [if_neg c7] at H;have c7b0 : (a0_0 == 4)=false:=zY.mpr c7;have c7b1 : (a0_0 != 4)=true:=zZ.mpr c7
  by_cases c25 : a0_0=5
  ·
   rw [if_pos c25] at H
   have c25b0 : (a0_0 == 5)=true:=ya.mpr c25;have c25b1 : (a0_0 != 5)=false:=zX.mpr c25;clear c25;replace H:=zT.mp H;obtain ⟨⟨t431,t434⟩,A260,H⟩:=H;have A26:=zh A260;clear A260;replace H:=zT.mp H;obtain ⟨⟨t435,t438⟩,A270,H⟩:=H;have A27:=zh A270;clear A270;replace H:=zT.mp H;obtain ⟨t439,A280,H⟩:=H;have A28:=zh A280;clear A280;obtain rfl:=zU H
   go_enter Try.func13,Try.ntmps13
   try go_wp2_with (first|((with_reducible refine zK (N:=2) rfl ?_);refine zI ?hg (N:=2) ?hd (cs:=#[.int .i64 a0_0,.int .i64 a0_1,.string a0_2]) (t:=24) ?hr ?_;(case hd=>rfl);(case hg=>rfl);(case hr=>go_simp <;> rfl);intro gb414 hg w29 hbox hb;have BK414:=zh (hbox);have hH_:=cH jD hb hg;have GW414:=zh hH_.1;have GE414:=GW414;replace HB:=zh hH_.2;clear hb hbox hg hH_)|((with_reducible refine zK (N:=3) rfl ?_);refine zI ?hg (N:=3) ?hd (cs:=#[.int .i64 a1_0,.int .i64 a1_1,.string a1_2]) (t:=24) ?hr ?_;(case hd=>rfl);(case hg=>rfl);(case hr=>go_simp <;> rfl);intro gb415 hg w30 hbox hb;have BK415:=zh (hbox);have hH_:=cH jBd hb hg;have GW415:=zh hH_.1;have GE415:=GW415;replace HB:=zh hH_.2;have NB414_415:=zh ((jBe : gb414≠gb415));have NB415_414:=zh NB414_415.out.symm;replace BK414:=zh (cD BK414.out jv hb);clear hb hbox hg hH_))
   replace BK414:=zh (zf BK414.out);replace BK415:=zh (zf BK415.out);replace HB:=zh (zc HB.out);refine start_ (n:=13) (S:=fun w' => w'.cell? ⟨gb414,0,none⟩=some (.int .i64 a0_0)∧w'.cell? ⟨gb414,1,none⟩=some (.int .i64 a0_1)∧w'.cell? ⟨gb414,2,none⟩=some (.string a0_2)∧w'.cell? ⟨gb415,0,none⟩=some (.int .i64 a1_0)∧w'.cell? ⟨gb415,1,none⟩=some (.int .i64 a1_1)∧w'.cell? ⟨gb415,2,none⟩=some (.string a1_2)) (ds:=[]) (bm_ 0 13) jA rfl rfl ⟨(zz BK414.out 0).trans rfl,(zz BK414.out 1).trans rfl,(zz BK414.out 2).trans rfl,(zz BK415.out 0).trans rfl,(zz BK415.out 1).trans rfl,(zz BK415.out 2).trans rfl⟩ (fun hHeld=>?_);refine with_tabW F3.tab1 F3.bits1 (fun HT_ HW_=>?_);generalize w30.drew=w31 at BK414 BK415 HB hHeld ⊢;refine pure_ (i:=0) (N:=some 14) (v:=?_) (a':=?_) (bm_ 1 13) rfl rfl (any_of HT_.out jA) (fun _ _ _ h=>h) (Or.inl ⟨by rfl,?_⟩) ?_ ?_;rotate_left;exact jb;rotate_left;exact jc
   refine pure_ (i:=2) (N:=some 16) (v:=?_) (a':=?_) #[true,false,true,false,false,false,false,false,false,false,false,false,false] rfl rfl (any_of HT_.out jA) (fun _ _ _ h=>h) (Or.inl ⟨by rfl,?_⟩) ?_ ?_;rotate_left;exact jb;rotate_left;exact jc
   refine pure_ (i:=5) (N:=some 19) (v:=?_) (a':=?_) #[true,false,true,false,false,true,false,false,false,false,false,false,false] rfl rfl (any_of HT_.out jA) (fun _ _ _ h=>h) (Or.inl ⟨by rfl,?_⟩) ?_ ?_;rotate_left;exact jb;rotate_left;exact jc
   refine pure_ (i:=7) (N:=some 21) (v:=?_) (a':=?_) #[true,false,true,false,false,true,false,true,false,false,false,false,false] rfl rfl (any_of HT_.out jA) (fun _ _ _ h=>h) (Or.inl ⟨by rfl,?_⟩) ?_ ?_;rotate_left;exact jb;rotate_left;exact jc
   refine take_ (i:=1) (N:=some 15) (v:=?_) (a':=?_) #[true,true,true,false,false,true,false,true,false,false,false,false,false] rfl rfl (yo HT_.out HW_.out jA) (fun _ _ _ h=>h) (Or.inl ⟨by rfl,?_⟩) hHeld ?_ ?_;rotate_left
   ·
    rintro w' ⟨s0,s1,s2,s3,s4,s5⟩
    go_simp
    with_reducible rfl
   rotate_left
   exact jc
   refine take_ (i:=3) (N:=some 17) (v:=?_) (a':=?_) #[true,true,true,true,false,true,false,true,false,false,false,false,false] rfl rfl (yo HT_.out HW_.out jA) (fun _ _ _ h=>h) (Or.inl ⟨by rfl,?_⟩) hHeld ?_ ?_;rotate_left
   ·
    rintro w' ⟨s0,s1,s2,s3,s4,s5⟩
    go_simp
    with_reducible rfl
   rotate_left
   exact jc
   refine take_ (i:=6) (N:=some 20) (v:=?_) (a':=?_) #[true,true,true,true,false,true,true,true,false,false,false,false,false] rfl rfl (yo HT_.out HW_.out jA) (fun _ _ _ h=>h) (Or.inl ⟨by rfl,?_⟩) hHeld ?_ ?_;rotate_left
   ·
    rintro w' ⟨s0,s1,s2,s3,s4,s5⟩
    go_simp
    with_reducible rfl
   rotate_left
   exact jc
   refine take_ (i:=8) (N:=some 22) (v:=?_) (a':=?_) #[true,true,true,true,false,true,true,true,true,false,false,false,false] rfl rfl (yo HT_.out HW_.out jA) (fun _ _ _ h=>h) (Or.inl ⟨by rfl,?_⟩) hHeld ?_ ?_;rotate_left
   ·
    rintro w' ⟨s0,s1,s2,s3,s4,s5⟩
    go_simp
    with_reducible rfl
   rotate_left
   exact jc
   refine one_ (i:=4) (N:=some 18) (bm_ 9 13) rfl rfl (one_of HT_.out jA) jC (fun K hK=>?_);refine goes_ Try.func32 jA rfl #[.int .i64 a0_0,.int .i64 a1_0] (by rfl) rfl rfl jB ?_
   with_reducible refine (F0n.calls  a0_0 a1_0 t416 _ A3.out).mono ?_
   rintro e w' ⟨rfl,⟨nd,rfl⟩⟩;refine ⟨_,rfl,?_⟩;refine hK.out _ _ ⟨(zz BK414.out 0).trans rfl,(zz BK414.out 1).trans rfl,(zz BK414.out 2).trans rfl,(zz BK415.out 0).trans rfl,(zz BK415.out 1).trans rfl,(zz BK415.out 2).trans rfl⟩ (fun hHeld=>?_);clear hK K;refine norm_ (a':=?_) ?_ ?_;rotate_left
   ·
    show Act.put _ (some 18) _=_
    simp only [Act.put,zi,zj,zk,zG,zH]
    rfl
   refine one_ (i:=9) (N:=some 23) (bm_ 10 13) rfl rfl (one_of HT_.out jA) jC (fun K hK=>?_);refine goes_ Try.func32 jA rfl #[.int .i64 a0_1,.int .i64 a1_1] (by rfl) rfl rfl jB ?_
   with_reducible refine (F0n.calls  a0_1 a1_1 t417 _ A4.out).mono ?_
   rintro e w' ⟨rfl,⟨nd,rfl⟩⟩;refine ⟨_,rfl,?_⟩;refine hK.out _ _ ⟨(zz BK414.out 0).trans rfl,(zz BK414.out 1).trans rfl,(zz BK414.out 2).trans rfl,(zz BK415.out 0).trans rfl,(zz BK415.out 1).trans rfl,(zz BK415.out 2).trans rfl⟩ (fun hHeld=>?_);clear hK K;refine norm_ (a':=?_) ?_ ?_;rotate_left
   ·
    show Act.put _ (some 23) _=_
    simp only [Act.put,zi,zj,zk,zG,zH]
    rfl
   refine one_ (i:=10) (N:=some 24) (bm_ 11 13) rfl rfl (one_of HT_.out jA) jC (fun K hK=>?_);refine Kd.R_lit_step (Kd.int .i64) _ 3 ?hg (N:=24) ?hd (xs:=([t416,t417] : List Int)) (inner:=[.int .i64 t416,.int .i64 t417]) (ok:=fun _=>True) (okp:=fun _=>True) ?hr ?hp (fun _ hk=>hk) trivial (Below.refl _ _) (ye _) (by simp) ?_;(case hd=>rfl);(case hg=>rfl);(case hr=>go_simp <;> rfl);(case hp=>exact (Reps.one (show Kd.M (Kd.int .i64) _ _ _ t416 [.int .i64 t416] from rfl) (Reps.one (show Kd.M (Kd.int .i64) _ _ _ t417 [.int .i64 t417] from rfl) (Reps.none _ _))));intro v419 w32 ho33 hb hg_ hnew_;clear hg_ hnew_;(first|rw [← Ny418.out] at ho33|(simp only [Int.reduceToNat] at ho33;rw [← Ny418.out] at ho33));have HO420:=zh (yy ho33 (zB jp));replace BK414:=zh (cD BK414.out jv hb);replace BK415:=zh (cD BK415.out jAS hb);replace HB:=zh (zC jp hb);clear hb ho33;obtain ⟨Ao34,co34,eo34⟩:=yk HO420.out;(first|subst eo34|(injection eo34 with f1_ f2_ f3_;have f4_:=f1_.symm;have f5_:=f3_.symm;clear f1_ f2_ f3_;subst f4_;subst f5_));refine hK.out _ _ ⟨(zz BK414.out 0).trans rfl,(zz BK414.out 1).trans rfl,(zz BK414.out 2).trans rfl,(zz BK415.out 0).trans rfl,(zz BK415.out 1).trans rfl,(zz BK415.out 2).trans rfl⟩ (fun hHeld=>?_);clear hK K;refine norm_ (a':=?_) ?_ ?_;rotate_left
   ·
    show Act.put _ (some 24) _=_
    simp only [Act.put,zi,zj,zk,zG,zH]
    rfl
   refine one_ (i:=11) (N:=some 25) (bm_ 12 13) rfl rfl (one_of HT_.out jA) jC (fun K hK=>?_);refine goes_ Try.func31 jA rfl #[.slice Ao34 y418.length co34] (by rfl) rfl rfl jB ?_
   with_reducible refine (Fs.calls k  _ _ y418 t421 _ ?side1 ?side2 A5.out).mono ?_
   (case side1=>repeat (first|exact (yh HO420.out).2.2|(with_reducible refine Kd.C_alloc ?_ _)|(with_reducible refine Kd.C_drewN ?_ _)|(with_reducible refine Kd.C_drew ?_)))
   (case side2=>exact (yh HO420.out).2.1)
   rintro e w' ⟨rfl,⟨nd,rfl⟩⟩;refine ⟨_,rfl,?_⟩;refine hK.out _ _ ⟨(zz BK414.out 0).trans rfl,(zz BK414.out 1).trans rfl,(zz BK414.out 2).trans rfl,(zz BK415.out 0).trans rfl,(zz BK415.out 1).trans rfl,(zz BK415.out 2).trans rfl⟩ (fun hHeld=>?_);clear hK K;refine norm_ (a':=?_) ?_ ?_;rotate_left
   ·
    show Act.put _ (some 25) _=_
    simp only [Act.put,zi,zj,zk,zG,zH]
    rfl
   refine pure_ (i:=12) (N:=some 5) (v:=?_) (a':=?_) (bm_ 13 13) rfl rfl (any_of HT_.out jA) (fun _ _ _ h=>h) (Or.inl ⟨by rfl,?_⟩) ?_ ?_;rotate_left;exact jb;rotate_left;exact jc
   refine done_ (done_of HT_.out jA) ?_;have hnb35:=NB414_415.out;have hnc35:=NB415_414.out;obtain ⟨hcz36_0,hcz36_1,hcz36_2,hfz36_0,hfz36_1,hfz36_2⟩:=cB3 BK414.out
   try go_wp2_with (first|((with_reducible refine zJ (f:=35) rfl ?_);refine yj (some 50) rfl rfl Try.func35 jA rfl #[.agg #[.int .i64 a0_0,.int .i64 a0_1,.string a0_2]] rfl jB ?_;(with_reducible refine (F4.calls k  a0_0 a0_1 a0_2 t431 t434 _ A26.out).mono ?_);rintro e w37 ⟨v432,rfl,ho0,hb⟩;refine ⟨_,rfl,?_⟩;replace HO420:=zh (yg jA8 hb);have HO433:=zh (yy ho0 (zB jp));replace BK414:=zh (cD BK414.out jv hb);replace BK415:=zh (cD BK415.out jAS hb);replace HB:=zh (zC jp hb);(try clear hb);(try clear hb2);(try clear hk);(try clear hi);(try clear ho0);obtain ⟨hcz38_0,hcz38_1,hcz38_2,hfz38_0,hfz38_1,hfz38_2⟩:=cB3 BK415.out)|((with_reducible refine zJ (f:=35) rfl ?_);refine yj (some 55) rfl rfl Try.func35 jA rfl #[.agg #[.int .i64 a1_0,.int .i64 a1_1,.string a1_2]] rfl jB ?_;(with_reducible refine (F4.calls k  a1_0 a1_1 a1_2 t435 t438 _ A27.out).mono ?_);rintro e w39 ⟨v436,rfl,ho0,hb⟩;refine ⟨_,rfl,?_⟩;replace HO420:=zh (yg jA8 hb);have HO437:=zh (yy (Kd.R_new' ho0 (Kd.R_lt jB9)) (zB jp));replace HO433:=zh (Kd.R_elder' jB9 (Kd.R_base ho0) hb);replace BK414:=zh (cD BK414.out jv hb);replace BK415:=zh (cD BK415.out jAS hb);replace HB:=zh (zC jp hb);(try clear hb);(try clear hb2);(try clear hk);(try clear hi);(try clear ho0);obtain ⟨Ao40,co40,eo40⟩:=yk HO433.out;subst eo40;obtain ⟨Ao41,co41,eo41⟩:=yk HO437.out;subst eo41)|((with_reducible refine zJ (f:=36) rfl ?_);refine yj (some 60) rfl rfl Try.func36 jA rfl #[.slice Ao40 t431.length co40,.slice Ao41 t435.length co41,.func (.func 37) #[] #[]] rfl jB ?_;(with_reducible refine (Fv.calls k (F3.f k) (ih k jH) _ _ t431 _ _ t435  t439 _ ?side1 ?side2 ?side3 ?side4 A28.out).mono ?_);(case side1=>repeat (first|exact (yh HO433.out).2.2|(with_reducible refine Kd.C_alloc ?_ _)|(with_reducible refine Kd.C_drewN ?_ _)|(with_reducible refine Kd.C_drew ?_)));(case side2=>exact (yh HO433.out).2.1);(case side3=>repeat (first|exact (yh HO437.out).2.2|(with_reducible refine Kd.C_alloc ?_ _)|(with_reducible refine Kd.C_drewN ?_ _)|(with_reducible refine Kd.C_drew ?_)));(case side4=>exact (yh HO437.out).2.1);rintro e w42 ⟨rfl,hb⟩;refine ⟨_,rfl,?_⟩;replace HO420:=zh (yg jA8 hb);replace HO433:=zh (yg jB9 hb);replace HO437:=zh (yg (by (with_reducible repeat (first|apply zm|apply zn|apply zo));exact HO437.out) hb);replace BK414:=zh (cD BK414.out jv hb);replace BK415:=zh (cD BK415.out jAS hb);replace HB:=zh (zC jp hb);(try clear hb);(try clear hb2);(try clear hk);(try clear hi)))
   go_ret
   exact ⟨jG,jp⟩
  rw [if_neg c25] at H;have c25b0 : (a0_0 == 5)=false:=zY.mpr c25;have c25b1 : (a0_0 != 5)=true:=zZ.mpr c25;replace H:=zT.mp H;obtain ⟨t440,A430,H⟩:=H;have A43:=zh A430;clear A430;obtain rfl:=zU H
  go_enter Try.func13,Try.ntmps13
  try go_wp2_with (first|((with_reducible refine zK (N:=2) rfl ?_);refine zI ?hg (N:=2) ?hd (cs:=#[.int .i64 a0_0,.int .i64 a0_1,.string a0_2]) (t:=24) ?hr ?_;(case hd=>rfl);(case hg=>rfl);(case hr=>go_simp <;> rfl);intro gb414 hg w44 hbox hb;have BK414:=zh (hbox);have hH_:=cH jD hb hg;have GW414:=zh hH_.1;have GE414:=GW414;replace HB:=zh hH_.2;clear hb hbox hg hH_)|((with_reducible refine zK (N:=3) rfl ?_);refine zI ?hg (N:=3) ?hd (cs:=#[.int .i64 a1_0,.int .i64 a1_1,.string a1_2]) (t:=24) ?hr ?_;(case hd=>rfl);(case hg=>rfl);(case hr=>go_simp <;> rfl);intro gb415 hg w45 hbox hb;have BK415:=zh (hbox);have hH_:=cH jBd hb hg;have GW415:=zh hH_.1;have GE415:=GW415;replace HB:=zh hH_.2;have NB414_415:=zh ((jBe : gb414≠gb415));have NB415_414:=zh NB414_415.out.symm;replace BK414:=zh (cD BK414.out jv hb);clear hb hbox hg hH_))
  replace BK414:=zh (zf BK414.out);replace BK415:=zh (zf BK415.out);replace HB:=zh (zc HB.out);refine start_ (n:=13) (S:=fun w' => w'.cell? ⟨gb414,0,none⟩=some (.int .i64 a0_0)∧w'.cell? ⟨gb414,1,none⟩=some (.int .i64 a0_1)∧w'.cell? ⟨gb414,2,none⟩=some (.string a0_2)∧w'.cell? ⟨gb415,0,none⟩=some (.int .i64 a1_0)∧w'.cell? ⟨gb415,1,none⟩=some (.int .i64 a1_1)∧w'.cell? ⟨gb415,2,none⟩=some (.string a1_2)) (ds:=[]) (bm_ 0 13) jA rfl rfl ⟨(zz BK414.out 0).trans rfl,(zz BK414.out 1).trans rfl,(zz BK414.out 2).trans rfl,(zz BK415.out 0).trans rfl,(zz BK415.out 1).trans rfl,(zz BK415.out 2).trans rfl⟩ (fun hHeld=>?_);refine with_tabW F3.tab1 F3.bits1 (fun HT_ HW_=>?_);generalize w45.drew=w46 at BK414 BK415 HB hHeld ⊢;refine pure_ (i:=0) (N:=some 14) (v:=?_) (a':=?_) (bm_ 1 13) rfl rfl (any_of HT_.out jA) (fun _ _ _ h=>h) (Or.inl ⟨by rfl,?_⟩) ?_ ?_;rotate_left;exact jb;rotate_left;exact jc
  refine pure_ (i:=2) (N:=some 16) (v:=?_) (a':=?_) #[true,false,true,false,false,false,false,false,false,false,false,false,false] rfl rfl (any_of HT_.out jA) (fun _ _ _ h=>h) (Or.inl ⟨by rfl,?_⟩) ?_ ?_;rotate_left;exact jb;rotate_left;exact jc
  refine pure_ (i:=5) (N:=some 19) (v:=?_) (a':=?_) #[true,false,true,false,false,true,false,false,false,false,false,false,false] rfl rfl (any_of HT_.out jA) (fun _ _ _ h=>h) (Or.inl ⟨by rfl,?_⟩) ?_ ?_;rotate_left;exact jb;rotate_left;exact jc
  refine pure_ (i:=7) (N:=some 21) (v:=?_) (a':=?_) #[true,false,true,false,false,true,false,true,false,false,false,false,false] rfl rfl (any_of HT_.out jA) (fun _ _ _ h=>h) (Or.inl ⟨by rfl,?_⟩) ?_ ?_;rotate_left;exact jb;rotate_left;exact jc
  refine take_ (i:=1) (N:=some 15) (v:=?_) (a':=?_) #[true,true,true,false,false,true,false,true,false,false,false,false,false] rfl rfl (yo HT_.out HW_.out jA) (fun _ _ _ h=>h) (Or.inl ⟨by rfl,?_⟩) hHeld ?_ ?_;rotate_left
  ·
   rintro w' ⟨s0,s1,s2,s3,s4,s5⟩
   go_simp
   with_reducible rfl
  rotate_left
  exact jc
  refine take_ (i:=3) (N:=some 17) (v:=?_) (a':=?_) #[true,true,true,true,false,true,false,true,false,false,false,false,false] rfl rfl (yo HT_.out HW_.out jA) (fun _ _ _ h=>h) (Or.inl ⟨by rfl,?_⟩) hHeld ?_ ?_;rotate_left
  ·
   rintro w' ⟨s0,s1,s2,s3,s4,s5⟩
   go_simp
   with_reducible rfl
  rotate_left
  exact jc
  refine take_ (i:=6) (N:=some 20) (v:=?_) (a':=?_) #[true,true,true,true,false,true,true,true,false,false,false,false,false] rfl rfl (yo HT_.out HW_.out jA) (fun _ _ _ h=>h) (Or.inl ⟨by rfl,?_⟩) hHeld ?_ ?_;rotate_left
  ·
   rintro w' ⟨s0,s1,s2,s3,s4,s5⟩
   go_simp
   with_reducible rfl
  rotate_left
  exact jc
  refine take_ (i:=8) (N:=some 22) (v:=?_) (a':=?_) #[true,true,true,true,false,true,true,true,true,false,false,false,false] rfl rfl (yo HT_.out HW_.out jA) (fun _ _ _ h=>h) (Or.inl ⟨by rfl,?_⟩) hHeld ?_ ?_;rotate_left
  ·
   rintro w' ⟨s0,s1,s2,s3,s4,s5⟩
   go_simp
   with_reducible rfl
  rotate_left
  exact jc
  refine one_ (i:=4) (N:=some 18) (bm_ 9 13) rfl rfl (one_of HT_.out jA) jC (fun K hK=>?_);refine goes_ Try.func32 jA rfl #[.int .i64 a0_0,.int .i64 a1_0] (by rfl) rfl rfl jB ?_
  with_reducible refine (F0n.calls  a0_0 a1_0 t416 _ A3.out).mono ?_
  rintro e w' ⟨rfl,⟨nd,rfl⟩⟩;refine ⟨_,rfl,?_⟩;refine hK.out _ _ ⟨(zz BK414.out 0).trans rfl,(zz BK414.out 1).trans rfl,(zz BK414.out 2).trans rfl,(zz BK415.out 0).trans rfl,(zz BK415.out 1).trans rfl,(zz BK415.out 2).trans rfl⟩ (fun hHeld=>?_);clear hK K;refine norm_ (a':=?_) ?_ ?_;rotate_left
  ·
   show Act.put _ (some 18) _=_
   simp only [Act.put,zi,zj,zk,zG,zH]
   rfl
  refine one_ (i:=9) (N:=some 23) (bm_ 10 13) rfl rfl (one_of HT_.out jA) jC (fun K hK=>?_);refine goes_ Try.func32 jA rfl #[.int .i64 a0_1,.int .i64 a1_1] (by rfl) rfl rfl jB ?_
  with_reducible refine (F0n.calls  a0_1 a1_1 t417 _ A4.out).mono ?_
  rintro e w' ⟨rfl,⟨nd,rfl⟩⟩;refine ⟨_,rfl,?_⟩;refine hK.out _ _ ⟨(zz BK414.out 0).trans rfl,(zz BK414.out 1).trans rfl,(zz BK414.out 2).trans rfl,(zz BK415.out 0).trans rfl,(zz BK415.out 1).trans rfl,(zz BK415.out 2).trans rfl⟩ (fun hHeld=>?_);clear hK K;refine norm_ (a':=?_) ?_ ?_;rotate_left
  ·
   show Act.put _ (some 23) _=_
   simp only [Act.put,zi,zj,zk,zG,zH]
   rfl
  refine one_ (i:=10) (N:=some 24) (bm_ 11 13) rfl rfl (one_of HT_.out jA) jC (fun K hK=>?_);refine Kd.R_lit_step (Kd.int .i64) _ 3 ?hg (N:=24) ?hd (xs:=([t416,t417] : List Int)) (inner:=[.int .i64 t416,.int .i64 t417]) (ok:=fun _=>True) (okp:=fun _=>True) ?hr ?hp (fun _ hk=>hk) trivial (Below.refl _ _) (ye _) (by simp) ?_;(case hd=>rfl);(case hg=>rfl);(case hr=>go_simp <;> rfl);(case hp=>exact (Reps.one (show Kd.M (Kd.int .i64) _ _ _ t416 [.int .i64 t416] from rfl) (Reps.one (show Kd.M (Kd.int .i64) _ _ _ t417 [.int .i64 t417] from rfl) (Reps.none _ _))));intro v419 w47 ho48 hb hg_ hnew_;clear hg_ hnew_;(first|rw [← Ny418.out] at ho48|(simp only [Int.reduceToNat] at ho48;rw [← Ny418.out] at ho48));have HO420:=zh (yy ho48 (zB jp));replace BK414:=zh (cD BK414.out jv hb);replace BK415:=zh (cD BK415.out jAS hb);replace HB:=zh (zC jp hb);clear hb ho48;obtain ⟨Ao49,co49,eo49⟩:=yk HO420.out;(first|subst eo49|(injection eo49 with f1_ f2_ f3_;have f4_:=f1_.symm;have f5_:=f3_.symm;clear f1_ f2_ f3_;subst f4_;subst f5_));refine hK.out _ _ ⟨(zz BK414.out 0).trans rfl,(zz BK414.out 1).trans rfl,(zz BK414.out 2).trans rfl,(zz BK415.out 0).trans rfl,(zz BK415.out 1).trans rfl,(zz BK415.out 2).trans rfl⟩ (fun hHeld=>?_);clear hK K;refine norm_ (a':=?_) ?_ ?_;rotate_left
  ·
   show Act.put _ (some 24) _=_
   simp only [Act.put,zi,zj,zk,zG,zH]
   rfl
  refine one_ (i:=11) (N:=some 25) (bm_ 12 13) rfl rfl (one_of HT_.out jA) jC (fun K hK=>?_);refine goes_ Try.func31 jA rfl #[.slice Ao49 y418.length co49] (by rfl) rfl rfl jB ?_
  with_reducible refine (Fs.calls k  _ _ y418 t421 _ ?side1 ?side2 A5.out).mono ?_
  (case side1=>repeat (first|exact (yh HO420.out).2.2|(with_reducible refine Kd.C_alloc ?_ _)|(with_reducible refine Kd.C_drewN ?_ _)|(with_reducible refine Kd.C_drew ?_)))
  (case side2=>exact (yh HO420.out).2.1)
  rintro e w' ⟨rfl,⟨nd,rfl⟩⟩;refine ⟨_,rfl,?_⟩;refine hK.out _ _ ⟨(zz BK414.out 0).trans rfl,(zz BK414.out 1).trans rfl,(zz BK414.out 2).trans rfl,(zz BK415.out 0).trans rfl,(zz BK415.out 1).trans rfl,(zz BK415.out 2).trans rfl⟩ (fun hHeld=>?_);clear hK K;refine norm_ (a':=?_) ?_ ?_;rotate_left
  ·
   show Act.put _ (some 25) _=_
   simp only [Act.put,zi,zj,zk,zG,zH]
   rfl
  refine pure_ (i:=12) (N:=some 5) (v:=?_) (a':=?_) (bm_ 13 13) rfl rfl (any_of HT_.out jA) (fun _ _ _ h=>h) (Or.inl ⟨by rfl,?_⟩) ?_ ?_;rotate_left;exact jb;rotate_left;exact jc
  refine done_ (done_of HT_.out jA) ?_;have hnb50:=NB414_415.out;have hnc50:=NB415_414.out;obtain ⟨hcz51_0,hcz51_1,hcz51_2,hfz51_0,hfz51_1,hfz51_2⟩:=cB3 BK414.out;obtain ⟨hcz52_0,hcz52_1,hcz52_2,hfz52_0,hfz52_1,hfz52_2⟩:=cB3 BK415.out
  try go_wp2_with (first|((with_reducible refine zJ (f:=38) rfl ?_);refine yj (some 65) rfl rfl Try.func38 jA rfl #[.string a0_2,.string a1_2] rfl jB ?_;(with_reducible refine (strings_Compare.calls  a0_2 a1_2 t440 _ A43.out).mono ?_);rintro e w' ⟨rfl,⟨nd,rfl⟩⟩;refine ⟨_,rfl,?_⟩))
  go_ret
  exact ⟨jG,jp⟩
 rw [if_neg c6] at H;have c6b0 : (t421 == 0)=false:=zY.mpr c6;have c6b1 : (t421 != 0)=true:=zZ.mpr c6;obtain rfl:=zU H
 go_enter Try.func13,Try.ntmps13
 try go_wp2_with (first|((with_reducible refine zK (N:=2) rfl ?_);refine zI ?hg (N:=2) ?hd (cs:=#[.int .i64 a0_0,.int .i64 a0_1,.string a0_2]) (t:=24) ?hr ?_;(case hd=>rfl);(case hg=>rfl);(case hr=>go_simp <;> rfl);intro gb414 hg w53 hbox hb;have BK414:=zh (hbox);have hH_:=cH jD hb hg;have GW414:=zh hH_.1;have GE414:=GW414;replace HB:=zh hH_.2;clear hb hbox hg hH_)|((with_reducible refine zK (N:=3) rfl ?_);refine zI ?hg (N:=3) ?hd (cs:=#[.int .i64 a1_0,.int .i64 a1_1,.string a1_2]) (t:=24) ?hr ?_;(case hd=>rfl);(case hg=>rfl);(case hr=>go_simp <;> rfl);intro gb415 hg w54 hbox hb;have BK415:=zh (hbox);have hH_:=cH jBd hb hg;have GW415:=zh hH_.1;have GE415:=GW415;replace HB:=zh hH_.2;have NB414_415:=zh ((jBe : gb414≠gb415));have NB415_414:=zh NB414_415.out.symm;replace BK414:=zh (cD BK414.out jv hb);clear hb hbox hg hH_))
 replace BK414:=zh (zf BK414.out);replace BK415:=zh (zf BK415.out);replace HB:=zh (zc HB.out);refine start_ (n:=13) (S:=fun w' => w'.cell? ⟨gb414,0,none⟩=some (.int .i64 a0_0)∧w'.cell? ⟨gb414,1,none⟩=some (.int .i64 a0_1)∧w'.cell? ⟨gb414,2,none⟩=some (.string a0_2)∧w'.cell? ⟨gb415,0,none⟩=some (.int .i64 a1_0)∧w'.cell? ⟨gb415,1,none⟩=some (.int .i64 a1_1)∧w'.cell? ⟨gb415,2,none⟩=some (.string a1_2)) (ds:=[]) (bm_ 0 13) jA rfl rfl ⟨(zz BK414.out 0).trans rfl,(zz BK414.out 1).trans rfl,(zz BK414.out 2).trans rfl,(zz BK415.out 0).trans rfl,(zz BK415.out 1).trans rfl,(zz BK415.out 2).trans rfl⟩ (fun hHeld=>?_);refine with_tabW F3.tab1 F3.bits1 (fun HT_ HW_=>?_);generalize w54.drew=w55 at BK414 BK415 HB hHeld ⊢;refine pure_ (i:=0) (N:=some 14) (v:=?_) (a':=?_) (bm_ 1 13) rfl rfl (any_of HT_.out jA) (fun _ _ _ h=>h) (Or.inl ⟨by rfl,?_⟩) ?_ ?_;rotate_left;exact jb;rotate_left;exact jc
 refine pure_ (i:=2) (N:=some 16) (v:=?_) (a':=?_) #[true,false,true,false,false,false,false,false,false,false,false,false,false] rfl rfl (any_of HT_.out jA) (fun _ _ _ h=>h) (Or.inl ⟨by rfl,?_⟩) ?_ ?_;rotate_left;exact jb;rotate_left;exact jc
 refine pure_ (i:=5) (N:=some 19) (v:=?_) (a':=?_) #[true,false,true,false,false,true,false,false,false,false,false,false,false] rfl rfl (any_of HT_.out jA) (fun _ _ _ h=>h) (Or.inl ⟨by rfl,?_⟩) ?_ ?_;rotate_left;exact jb;rotate_left;exact jc
 refine pure_ (i:=7) (N:=some 21) (v:=?_) (a':=?_) #[true,false,true,false,false,true,false,true,false,false,false,false,false] rfl rfl (any_of HT_.out jA) (fun _ _ _ h=>h) (Or.inl ⟨by rfl,?_⟩) ?_ ?_;rotate_left;exact jb;rotate_left;exact jc
 refine take_ (i:=1) (N:=some 15) (v:=?_) (a':=?_) #[true,true,true,false,false,true,false,true,false,false,false,false,false] rfl rfl (yo HT_.out HW_.out jA) (fun _ _ _ h=>h) (Or.inl ⟨by rfl,?_⟩) hHeld ?_ ?_;rotate_left
 ·
  rintro w' ⟨s0,s1,s2,s3,s4,s5⟩
  go_simp
  with_reducible rfl
 rotate_left
 exact jc
 refine take_ (i:=3) (N:=some 17) (v:=?_) (a':=?_) #[true,true,true,true,false,true,false,true,false,false,false,false,false] rfl rfl (yo HT_.out HW_.out jA) (fun _ _ _ h=>h) (Or.inl ⟨by rfl,?_⟩) hHeld ?_ ?_;rotate_left
 ·
  rintro w' ⟨s0,s1,s2,s3,s4,s5⟩
  go_simp
  with_reducible rfl
 rotate_left
 exact jc
 refine take_ (i:=6) (N:=some 20) (v:=?_) (a':=?_) #[true,true,true,true,false,true,true,true,false,false,false,false,false] rfl rfl (yo HT_.out HW_.out jA) (fun _ _ _ h=>h) (Or.inl ⟨by rfl,?_⟩) hHeld ?_ ?_;rotate_left
 ·
  rintro w' ⟨s0,s1,s2,s3,s4,s5⟩
  go_simp
  with_reducible rfl
 rotate_left
 exact jc
 refine take_ (i:=8) (N:=some 22) (v:=?_) (a':=?_) #[true,true,true,true,false,true,true,true,true,false,false,false,false] rfl rfl (yo HT_.out HW_.out jA) (fun _ _ _ h=>h) (Or.inl ⟨by rfl,?_⟩) hHeld ?_ ?_;rotate_left
 ·
  rintro w' ⟨s0,s1,s2,s3,s4,s5⟩
  go_simp
  with_reducible rfl
 rotate_left
 exact jc
 refine one_ (i:=4) (N:=some 18) (bm_ 9 13) rfl rfl (one_of HT_.out jA) jC (fun K hK=>?_);refine goes_ Try.func32 jA rfl #[.int .i64 a0_0,.int .i64 a1_0] (by rfl) rfl rfl jB ?_
 with_reducible refine (F0n.calls  a0_0 a1_0 t416 _ A3.out).mono ?_
 rintro e w' ⟨rfl,⟨nd,rfl⟩⟩;refine ⟨_,rfl,?_⟩;refine hK.out _ _ ⟨(zz BK414.out 0).trans rfl,(zz BK414.out 1).trans rfl,(zz BK414.out 2).trans rfl,(zz BK415.out 0).trans rfl,(zz BK415.out 1).trans rfl,(zz BK415.out 2).trans rfl⟩ (fun hHeld=>?_);clear hK K;refine norm_ (a':=?_) ?_ ?_;rotate_left
 ·
  show Act.put _ (some 18) _=_
  simp only [Act.put,zi,zj,zk,zG,zH]
  rfl
 refine one_ (i:=9) (N:=some 23) (bm_ 10 13) rfl rfl (one_of HT_.out jA) jC (fun K hK=>?_);refine goes_ Try.func32 jA rfl #[.int .i64 a0_1,.int .i64 a1_1] (by rfl) rfl rfl jB ?_
 with_reducible refine (F0n.calls  a0_1 a1_1 t417 _ A4.out).mono ?_
 rintro e w' ⟨rfl,⟨nd,rfl⟩⟩;refine ⟨_,rfl,?_⟩;refine hK.out _ _ ⟨(zz BK414.out 0).trans rfl,(zz BK414.out 1).trans rfl,(zz BK414.out 2).trans rfl,(zz BK415.out 0).trans rfl,(zz BK415.out 1).trans rfl,(zz BK415.out 2).trans rfl⟩ (fun hHeld=>?_);clear hK K;refine norm_ (a':=?_) ?_ ?_;rotate_left
 ·
  show Act.put _ (some 23) _=_
  simp only [Act.put,zi,zj,zk,zG,zH]
  rfl
 refine one_ (i:=10) (N:=some 24) (bm_ 11 13) rfl rfl (one_of HT_.out jA) jC (fun K hK=>?_);refine Kd.R_lit_step (Kd.int .i64) _ 3 ?hg (N:=24) ?hd (xs:=([t416,t417] : List Int)) (inner:=[.int .i64 t416,.int .i64 t417]) (ok:=fun _=>True) (okp:=fun _=>True) ?hr ?hp (fun _ hk=>hk) trivial (Below.refl _ _) (ye _) (by simp) ?_;(case hd=>rfl);(case hg=>rfl);(case hr=>go_simp <;> rfl);(case hp=>exact (Reps.one (show Kd.M (Kd.int .i64) _ _ _ t416 [.int .i64 t416] from rfl) (Reps.one (show Kd.M (Kd.int .i64) _ _ _ t417 [.int .i64 t417] from rfl) (Reps.none _ _))));intro v419 w56 ho57 hb hg_ hnew_;clear hg_ hnew_;(first|rw [← Ny418.out] at ho57|(simp only [Int.reduceToNat] at ho57;rw [← Ny418.out] at ho57));have HO420:=zh (yy ho57 (zB jp));replace BK414:=zh (cD BK414.out jv hb);replace BK415:=zh (cD BK415.out jAS hb);replace HB:=zh (zC jp hb);clear hb ho57;obtain ⟨Ao58,co58,eo58⟩:=yk HO420.out;(first|subst eo58|(injection eo58 with f1_ f2_ f3_;have f4_:=f1_.symm;have f5_:=f3_.symm;clear f1_ f2_ f3_;subst f4_;subst f5_));refine hK.out _ _ ⟨(zz BK414.out 0).trans rfl,(zz BK414.out 1).trans rfl,(zz BK414.out 2).trans rfl,(zz BK415.out 0).trans rfl,(zz BK415.out 1).trans rfl,(zz BK415.out 2).trans rfl⟩ (fun hHeld=>?_);clear hK K;refine norm_ (a':=?_) ?_ ?_;rotate_left
 ·
  show Act.put _ (some 24) _=_
  simp only [Act.put,zi,zj,zk,zG,zH]
  rfl
 refine one_ (i:=11) (N:=some 25) (bm_ 12 13) rfl rfl (one_of HT_.out jA) jC (fun K hK=>?_);refine goes_ Try.func31 jA rfl #[.slice Ao58 y418.length co58] (by rfl) rfl rfl jB ?_
 with_reducible refine (Fs.calls k  _ _ y418 t421 _ ?side1 ?side2 A5.out).mono ?_
 (case side1=>repeat (first|exact (yh HO420.out).2.2|(with_reducible refine Kd.C_alloc ?_ _)|(with_reducible refine Kd.C_drewN ?_ _)|(with_reducible refine Kd.C_drew ?_)))
 (case side2=>exact (yh HO420.out).2.1)
 rintro e w' ⟨rfl,⟨nd,rfl⟩⟩;refine ⟨_,rfl,?_⟩;refine hK.out _ _ ⟨(zz BK414.out 0).trans rfl,(zz BK414.out 1).trans rfl,(zz BK414.out 2).trans rfl,(zz BK415.out 0).trans rfl,(zz BK415.out 1).trans rfl,(zz BK415.out 2).trans rfl⟩ (fun hHeld=>?_);clear hK K;refine norm_ (a':=?_) ?_ ?_;rotate_left
 ·
  show Act.put _ (some 25) _=_
  simp only [Act.put,zi,zj,zk,zG,zH]
  rfl
 refine pure_ (i:=12) (N:=some 5) (v:=?_) (a':=?_) (bm_ 13 13) rfl rfl (any_of HT_.out jA) (fun _ _ _ h=>h) (Or.inl ⟨by rfl,?_⟩) ?_ ?_;rotate_left;exact jb;rotate_left;exact jc
 refine done_ (done_of HT_.out jA) ?_
 try go_wp2
 go_ret
 exact ⟨jG,jp⟩


def F0l.f (k : Nat) (a0_0 : Int) (a0_1 : Int) (a0_2 : ByteArray) (a1_0 : Int) (a1_1 : Int) (a1_2 : ByteArray) : Option (Int×Int):=(F09.f k (([(⟨a0_0,a0_1,a0_2⟩ : S24),(⟨a1_0,a1_1,a1_2⟩ : S24)] : List (S24)))).bind fun t446=>(if t446=true then ((F3.f k a0_0 a0_1 a0_2 a1_0 a1_1 a1_2).bind fun t447=>(some (t447,0))) else (some (0,1)))
theorem F0l.mono : ∀ a0 a1 a2 a3 a4 a5 k,LeO (F0l.f k a0 a1 a2 a3 a4 a5) (F0l.f (k+1) a0 a1 a2 a3 a4 a5):=by
 intro a0 a1 a2 a3 a4 a5 k;unfold F0l.f
 repeat' first|(with_reducible first|exact F09.mono _ _|exact F3.mono _ _ _ _ _ _ _|exact zQ _|exact zN _|refine zP ?_ ?_|refine zO ?_ (fun _=>?_))|refine zP ?_ ?_|refine zO ?_ (fun _=>?_)
set_option maxHeartbeats 8000000 in
set_option maxRecDepth 100000 in
theorem F0l.calls (k : Nat) (a0_0 : Int) (a0_1 : Int) (a0_2 : ByteArray) (a1_0 : Int) (a1_1 : Int) (a1_2 : ByteArray) (r1 : Int) (r2 : Int) (w : World) (h : F0l.f k a0_0 a0_1 a0_2 a1_0 a1_1 a1_2=some (r1,r2)) :
  Calls Try.prog 5 #[.agg #[.int .i64 a0_0,.int .i64 a0_1,.string a0_2],.agg #[.int .i64 a1_0,.int .i64 a1_1,.string a1_2]] w fun e w' => e = .returned (.tuple #[.int .i64 r1,.int .i64 r2])∧Below w.heap.size w w':=by
 have hu24:=Try.underlying24;have HB:=zh (Below.refl w.heap.size w);have H : ((F09.f k (([(⟨a0_0,a0_1,a0_2⟩ : S24),(⟨a1_0,a1_1,a1_2⟩ : S24)] : List (S24)))).bind fun t446=>(if t446=true then ((F3.f k a0_0 a0_1 a0_2 a1_0 a1_1 a1_2).bind fun t447=>(some (t447,0))) else (some (0,1))))=some (r1,r2):=h;clear h;obtain ⟨y443,hy443⟩ : ∃ y_ : List (S24),y_=(([(⟨a0_0,a0_1,a0_2⟩ : S24),(⟨a1_0,a1_1,a1_2⟩ : S24)] : List (S24))):=⟨_,rfl⟩;replace H : ((F09.f k y443).bind fun t446=>(if t446=true then ((F3.f k a0_0 a0_1 a0_2 a1_0 a1_1 a1_2).bind fun t447=>(some (t447,0))) else (some (0,1))))=some (r1,r2):=by first|(rw [hy443];with_reducible exact H)|(have H2_:=(Option.bind_some _ _).symm.trans H;rw [hy443];with_reducible exact H2_)|(have H2_:=(Option.bind_some _ _).symm.trans H;with_reducible exact H2_)|with_reducible exact H|(rw [hy443];exact H)|exact H
 have Ny443:=zh hy443;clear hy443;replace H:=zT.mp H;obtain ⟨t446,A30,H⟩:=H;have A3:=zh A30;clear A30
 by_cases c4 : t446=true
 ·
  subst c4
  rw [if_pos rfl] at H;replace H:=zT.mp H;obtain ⟨t447,A50,H⟩:=H;have A5:=zh A50;clear A50;simp only [Option.some.injEq,Prod.mk.injEq] at H;obtain ⟨rfl,rfl⟩:=H
  go_enter Try.func5,Try.ntmps5
  go_wp2_with (first|((with_reducible refine zK (N:=2) rfl ?_);refine zI ?hg (N:=2) ?hd (cs:=#[.int .i64 a0_0,.int .i64 a0_1,.string a0_2]) (t:=24) ?hr ?_;(case hd=>rfl);(case hg=>rfl);(case hr=>go_simp <;> rfl);intro gb441 hg w6 hbox hb;have BK441:=zh (hbox);have hH_:=cH jD hb hg;have GW441:=zh hH_.1;have GE441:=GW441;replace HB:=zh hH_.2;clear hb hbox hg hH_)|((with_reducible refine zK (N:=3) rfl ?_);refine zI ?hg (N:=3) ?hd (cs:=#[.int .i64 a1_0,.int .i64 a1_1,.string a1_2]) (t:=24) ?hr ?_;(case hd=>rfl);(case hg=>rfl);(case hr=>go_simp <;> rfl);intro gb442 hg w7 hbox hb;have BK442:=zh (hbox);have hH_:=cH jCz hb hg;have GW442:=zh hH_.1;have GE442:=GW442;replace HB:=zh hH_.2;have NB441_442:=zh ((jC0 : gb441≠gb442));have NB442_441:=zh NB441_442.out.symm;replace BK441:=zh (cD BK441.out jAX hb);clear hb hbox hg hH_;have hnb8:=NB441_442.out;have hnc8:=NB442_441.out;obtain ⟨hcz9_0,hcz9_1,hcz9_2,hfz9_0,hfz9_1,hfz9_2⟩:=cB3 BK441.out;obtain ⟨hcz10_0,hcz10_1,hcz10_2,hfz10_0,hfz10_1,hfz10_2⟩:=cB3 BK442.out)|((with_reducible refine zK (N:=8) rfl ?_);refine Kd.R_lit k24 _ 24 ?hg (N:=8) ?hd (xs:=([(⟨a0_0,a0_1,a0_2⟩ : S24),(⟨a1_0,a1_1,a1_2⟩ : S24)] : List (S24))) (inner:=[.int .i64 a0_0,.int .i64 a0_1,.string a0_2,.int .i64 a1_0,.int .i64 a1_1,.string a1_2]) (ok:=fun _=>True) (okp:=fun _=>True) ?hr ?hp (fun _ hk=>hk) trivial (Below.refl _ _) (ye _) (by simp) ?_;(case hd=>rfl);(case hg=>rfl);(case hr=>go_simp <;> rfl);(case hp=>exact (Reps.c3 (show Kd.M k24 _ _ _ (⟨a0_0,a0_1,a0_2⟩ : S24) [.int .i64 a0_0,.int .i64 a0_1,.string a0_2] from (k24_mkM _ _ _ (⟨a0_0,a0_1,a0_2⟩ : S24) )) (Reps.c3 (show Kd.M k24 _ _ _ (⟨a1_0,a1_1,a1_2⟩ : S24) [.int .i64 a1_0,.int .i64 a1_1,.string a1_2] from (k24_mkM _ _ _ (⟨a1_0,a1_1,a1_2⟩ : S24) )) (Reps.none _ _))));intro v444 w11 ho12 hb hg_ hnew_;clear hg_ hnew_;(first|rw [← Ny443.out] at ho12|(simp only [Int.reduceToNat] at ho12;rw [← Ny443.out] at ho12));have HO445:=zh (yy (Kd.R_newB (Kd.R_newB ho12 (g:=gb441) (o:=.cells #[.int .i64 a0_0,.int .i64 a0_1,.string a0_2] 24 (0,0)) jAX) (g:=gb442) (o:=.cells #[.int .i64 a1_0,.int .i64 a1_1,.string a1_2] 24 (0,0)) jAw) (zB jAc));replace BK441:=zh (cD BK441.out jAX hb);replace BK442:=zh (cD BK442.out jAw hb);replace HB:=zh (zC jAc hb);clear hb ho12;obtain ⟨Ao13,co13,eo13⟩:=yk HO445.out;subst eo13)|((with_reducible refine zJ (f:=12) rfl ?_);refine yj (some 9) rfl rfl Try.func12 jA rfl #[.slice Ao13 y443.length co13] rfl jB ?_;(with_reducible refine (F09.calls k  _ _ y443 true _ ?side1 ?side2 A3.out).mono ?_);(case side1=>repeat (first|exact (yh HO445.out).2.2|(with_reducible refine Kd.C_alloc ?_ _)|(with_reducible refine Kd.C_drewN ?_ _)|(with_reducible refine Kd.C_drew ?_)));(case side2=>exact (yh HO445.out).2.1);rintro e w14 ⟨rfl,hb⟩;refine ⟨_,rfl,?_⟩;replace HO445:=zh (yg jCA hb);replace BK441:=zh (cD BK441.out jAX hb);replace BK442:=zh (cD BK442.out jAw hb);replace HB:=zh (zC jAc hb);(try clear hb);(try clear hb2);(try clear hk);(try clear hi);obtain ⟨hcz15_0,hcz15_1,hcz15_2,hfz15_0,hfz15_1,hfz15_2⟩:=cB3 BK441.out;obtain ⟨hcz16_0,hcz16_1,hcz16_2,hfz16_0,hfz16_1,hfz16_2⟩:=cB3 BK442.out)|((with_reducible refine zJ (f:=13) rfl ?_);refine yj (some 13) rfl rfl Try.func13 jA rfl #[.agg #[.int .i64 a0_0,.int .i64 a0_1,.string a0_2],.agg #[.int .i64 a1_0,.int .i64 a1_1,.string a1_2]] rfl jB ?_;(with_reducible refine (F3.calls k  a0_0 a0_1 a0_2 a1_0 a1_1 a1_2 t447 _ A5.out).mono ?_);rintro e w17 ⟨rfl,hb⟩;refine ⟨_,rfl,?_⟩;replace HO445:=zh (yg jCA hb);replace BK441:=zh (cD BK441.out jAX hb);replace BK442:=zh (cD BK442.out jAw hb);replace HB:=zh (zC jAc hb);(try clear hb);(try clear hb2);(try clear hk);(try clear hi)))
  go_ret2
  exact ⟨jG,jAc⟩
 replace c4:=yb.mpr c4;subst c4;rw [if_neg (show ¬ (false=true) by decide)] at H;simp only [Option.some.injEq,Prod.mk.injEq] at H;obtain ⟨rfl,rfl⟩:=H
 go_enter Try.func5,Try.ntmps5
 go_wp2_with (first|((with_reducible refine zK (N:=2) rfl ?_);refine zI ?hg (N:=2) ?hd (cs:=#[.int .i64 a0_0,.int .i64 a0_1,.string a0_2]) (t:=24) ?hr ?_;(case hd=>rfl);(case hg=>rfl);(case hr=>go_simp <;> rfl);intro gb441 hg w18 hbox hb;have BK441:=zh (hbox);have hH_:=cH jD hb hg;have GW441:=zh hH_.1;have GE441:=GW441;replace HB:=zh hH_.2;clear hb hbox hg hH_)|((with_reducible refine zK (N:=3) rfl ?_);refine zI ?hg (N:=3) ?hd (cs:=#[.int .i64 a1_0,.int .i64 a1_1,.string a1_2]) (t:=24) ?hr ?_;(case hd=>rfl);(case hg=>rfl);(case hr=>go_simp <;> rfl);intro gb442 hg w19 hbox hb;have BK442:=zh (hbox);have hH_:=cH jCz hb hg;have GW442:=zh hH_.1;have GE442:=GW442;replace HB:=zh hH_.2;have NB441_442:=zh ((jC0 : gb441≠gb442));have NB442_441:=zh NB441_442.out.symm;replace BK441:=zh (cD BK441.out jAX hb);clear hb hbox hg hH_;have hnb20:=NB441_442.out;have hnc20:=NB442_441.out;obtain ⟨hcz21_0,hcz21_1,hcz21_2,hfz21_0,hfz21_1,hfz21_2⟩:=cB3 BK441.out;obtain ⟨hcz22_0,hcz22_1,hcz22_2,hfz22_0,hfz22_1,hfz22_2⟩:=cB3 BK442.out)|((with_reducible refine zK (N:=8) rfl ?_);refine Kd.R_lit k24 _ 24 ?hg (N:=8) ?hd (xs:=([(⟨a0_0,a0_1,a0_2⟩ : S24),(⟨a1_0,a1_1,a1_2⟩ : S24)] : List (S24))) (inner:=[.int .i64 a0_0,.int .i64 a0_1,.string a0_2,.int .i64 a1_0,.int .i64 a1_1,.string a1_2]) (ok:=fun _=>True) (okp:=fun _=>True) ?hr ?hp (fun _ hk=>hk) trivial (Below.refl _ _) (ye _) (by simp) ?_;(case hd=>rfl);(case hg=>rfl);(case hr=>go_simp <;> rfl);(case hp=>exact (Reps.c3 (show Kd.M k24 _ _ _ (⟨a0_0,a0_1,a0_2⟩ : S24) [.int .i64 a0_0,.int .i64 a0_1,.string a0_2] from (k24_mkM _ _ _ (⟨a0_0,a0_1,a0_2⟩ : S24) )) (Reps.c3 (show Kd.M k24 _ _ _ (⟨a1_0,a1_1,a1_2⟩ : S24) [.int .i64 a1_0,.int .i64 a1_1,.string a1_2] from (k24_mkM _ _ _ (⟨a1_0,a1_1,a1_2⟩ : S24) )) (Reps.none _ _))));intro v444 w23 ho24 hb hg_ hnew_;clear hg_ hnew_;(first|rw [← Ny443.out] at ho24|(simp only [Int.reduceToNat] at ho24;rw [← Ny443.out] at ho24));have HO445:=zh (yy (Kd.R_newB (Kd.R_newB ho24 (g:=gb441) (o:=.cells #[.int .i64 a0_0,.int .i64 a0_1,.string a0_2] 24 (0,0)) jAX) (g:=gb442) (o:=.cells #[.int .i64 a1_0,.int .i64 a1_1,.string a1_2] 24 (0,0)) jAw) (zB jAc));replace BK441:=zh (cD BK441.out jAX hb);replace BK442:=zh (cD BK442.out jAw hb);replace HB:=zh (zC jAc hb);clear hb ho24;obtain ⟨Ao25,co25,eo25⟩:=yk HO445.out;subst eo25)|((with_reducible refine zJ (f:=12) rfl ?_);refine yj (some 9) rfl rfl Try.func12 jA rfl #[.slice Ao25 y443.length co25] rfl jB ?_;(with_reducible refine (F09.calls k  _ _ y443 false _ ?side1 ?side2 A3.out).mono ?_);(case side1=>repeat (first|exact (yh HO445.out).2.2|(with_reducible refine Kd.C_alloc ?_ _)|(with_reducible refine Kd.C_drewN ?_ _)|(with_reducible refine Kd.C_drew ?_)));(case side2=>exact (yh HO445.out).2.1);rintro e w26 ⟨rfl,hb⟩;refine ⟨_,rfl,?_⟩;replace HO445:=zh (yg jCA hb);replace BK441:=zh (cD BK441.out jAX hb);replace BK442:=zh (cD BK442.out jAw hb);replace HB:=zh (zC jAc hb);(try clear hb);(try clear hb2);(try clear hk);(try clear hi)))
 go_ret2
 exact ⟨jG,jAc⟩


def F08.row (l0 : List Int) (n : Nat) : List Int:=(l0.take n).map (fun c=>(255 - c) % 256)++l0.drop n
def F08.f (l0 : List Int) (a1 : Bool) : Option (ByteArray):=if l0.length≤140737488355328 then (some (strOfNums (if a1=true then F08.row l0 l0.length else l0))) else (none)
theorem F08.row_length (l0 : List Int) (n : Nat) : (F08.row l0 n).length=l0.length:=by
 simp [F08.row];omega
theorem F08.row_next (l0 : List Int) (n : Nat) (h : n<l0.length) : (F08.row l0 n).set n ((255 - rdOf (0 : Int) (F08.row l0 n) (n : Int)) % 256)=F08.row l0 (n+1):=by
 have e : rdOf (0 : Int) (F08.row l0 n) (n : Int)=l0[n]:=by
  unfold rdOf F08.row;rw [List.getD_eq_getElem?_getD,Int.toNat_natCast,List.getElem?_append_right (by simp;omega)];simp [h,Nat.min_eq_left (Nat.le_of_lt h)]
 rw [e];unfold F08.row;have hm : ((l0.take n).map (fun c=>(255 - c) % 256)).length=n:=by simp;omega
 rw [List.set_append,if_neg jH,hm,Nat.sub_self,List.take_succ_eq_append_getElem h,List.drop_eq_getElem_cons h,zj,List.map_append,List.append_assoc]
 rfl
set_option maxRecDepth 100000 in
set_option maxHeartbeats 2000000 in
theorem F08.calls (P0_ : Nat→Prop) (u9000_ : Value) (l0 : List Int) (a1 : Bool) (r : ByteArray) (w0 w : World) (hB : Below w0.heap.size w0 w) (ho0 : Kd.R (Kd.int .u8) 5 w w0.heap.size P0_ u9000_ l0) (h : F08.f l0 a1=some r) :
  Calls Try.prog 40 #[u9000_,.bool a1] w fun e w' => e = .returned (.string r)∧Below w0.heap.size w0 w' ∧ Kept w w' (fun k_=>P0_ k_):=by
 have HK:=zh (Kept.refl w (fun k_=>P0_ k_));have HB:=zh hB;clear hB;unfold F08.f at h
 by_cases hl : ¬ l0.length≤140737488355328
 ·
  rw [if_neg hl] at h;exact absurd h (by simp)
 rw [Decidable.not_not] at hl;rw [if_pos hl] at h;obtain rfl:=zU h;clear h
 cases a1 with
 | false =>
  obtain ⟨A,c,rfl⟩:=yk ho0;have hcv:=own_string (P:=Try.prog) Try.underlying22 Try.underlying5 Try.underlying9 (Kd.own_of_R ho0)
  go_enter Try.func40,Try.ntmps40
  go_wp2
  go_ret
  exact ⟨jE,HB.out,HK.out⟩
 | true =>
  obtain ⟨A,c,rfl⟩:=yk ho0;have hr0 : F08.row l0 0=l0:=by simp [F08.row]
  go_enter Try.func40,Try.ntmps40
  go_wp2
  go_loopg [10] l0.length (fun kq v10 w' => ∃ (i : Nat),v10 = .int .i64 (i : Int)∧Aside0 (kq+i=l0.length)∧Aside0 (Kd.R (Kd.int .u8) 5 w' w0.heap.size P0_ (.slice A l0.length c) (F08.row l0 i))∧Aside0 (Kept w w' (fun k_=>P0_ k_))∧Aside0 (Below w0.heap.size w0 w'))
  case atStart=>exact ⟨0,rfl,⟨jH⟩,⟨by rw [hr0];exact ho0⟩,HK,HB⟩
  case round =>
   obtain ⟨i,rfl,HI,HO,HK,HB⟩:=hrel;have hlen:=F08.row_length l0 i
   by_cases c3 : i<l0.length
   ·
    have c3b : decide ((i : Int)<(l0.length : Int))=true:=decide_eq_true jH
    obtain ⟨g,co,eo,gb,gl,cl,HG⟩:=Kd.R_form HO.out jH;rw [hlen] at eo;injection eo with ea _ ec;subst ea;subst ec;obtain ⟨hc,hf⟩:=Kd.R_celln (0 : Int) HO.out (i : Int) jH jH;obtain ⟨hR,hg⟩:=Kd.R_putg HO.out (i : Int) ((255 - rdOf (0 : Int) (F08.row l0 i) (i : Int)) % 256);rw [Int.toNat_natCast,F08.row_next l0 i c3] at hR;rw [Int.toNat_natCast] at hc hf hg;have h0 : (0≤(i : Int))=True:=eq_true jH;have hlt : ((i : Int)<(l0.length : Int))=True:=eq_true jH;have hP : P0_ g:=HO.out.1 g rfl;have hw : wrap64 ((i : Int)+1)=((i+1 : Nat) : Int):=by unfold wrap64;omega
    obtain ⟨kq,rfl⟩ : ∃ kq,gk=kq+1:=⟨gk - 1,by have:=HI.out;omega⟩
    go_wp2
    go_roundg kq
    case measure=>omega
    case rel=>exact ⟨i+1,by first|rfl|rw [hw]|simp,⟨by have:=HI.out;omega⟩,⟨hR⟩,⟨zs HK.out (.inl hP) _⟩,⟨zd HB.out gb⟩⟩
   have c3b : decide ((i : Int)<(l0.length : Int))=false:=decide_eq_false jH;have hil : i=l0.length:=by have:=HI.out;omega
   subst hil;have hcv:=own_string (P:=Try.prog) Try.underlying22 Try.underlying5 Try.underlying9 (Kd.own_of_R HO.out)
   go_wp2
   go_ret
   exact ⟨jE,HB.out,HK.out⟩


def Fy.l0 : Nat→Int→List Int→Int→Option (List Int)
 | 0,_,_,_=>none
 | k+1,x0,x3,x6=>if x6<8 then (if 0≤(wrap64 (56 - (wrap64 (8*x6)))) then (if 0≤x6 then (if x6<(x3.length : Int) then (Fy.l0 k x0 (x3.set (x6 : Int).toNat ((shr .i64 x0 (wrap64 (56 - (wrap64 (8*x6))))) % 256)) (wrap64 (x6+1))) else (none)) else (none)) else (none)) else (some x3)
def Fy.f (k : Nat) (a0 : Int) : Option (List Int):=if 8≤281474976710656 then (Fy.l0 k a0 (List.replicate 8 0) 0) else (none)
theorem Fy.mono_l : ∀ k,(∀ y0 y1 y2,LeO (Fy.l0 k y0 y1 y2) (Fy.l0 (k+1) y0 y1 y2))
 | 0=>fun _ _ _ r h=>by simp [Fy.l0] at h
 | k+1=>by
  have ih0:=Fy.mono_l k;intro y0 y1 y2;unfold Fy.l0
  repeat' first|(with_reducible first|exact ih0 _ _ _|exact zQ _|exact zN _|refine zP ?_ ?_|refine zO ?_ (fun _=>?_))|refine zP ?_ ?_|refine zO ?_ (fun _=>?_)
theorem Fy.mono : ∀ a0 k,LeO (Fy.f k a0) (Fy.f (k+1) a0):=by
 intro a0 k;have ih0:=Fy.mono_l k;unfold Fy.f
 repeat' first|(with_reducible first|exact ih0 _ _ _|exact zQ _|exact zN _|refine zP ?_ ?_|refine zO ?_ (fun _=>?_))|refine zP ?_ ?_|refine zO ?_ (fun _=>?_)
set_option maxHeartbeats 8000000 in
set_option maxRecDepth 100000 in
theorem Fy.calls (k : Nat) (a0 : Int) (r : List Int) (w : World) (h : Fy.f k a0=some r) :
  Calls Try.prog 62 #[.int .i64 a0] w fun e w' => ∃ v0_ : Value,e = .returned (v0_)∧Kd.R (Kd.int .u8) 5 w' w.heap.size (fun _=>True) v0_ r∧Below w.heap.size w w':=by
 have HB:=zh (Below.refl w.heap.size w);have H : (if 8≤281474976710656 then (Fy.l0 k a0 (List.replicate 8 0) 0) else (none))=some r:=h;clear h
 by_cases c2 : 8≤281474976710656
 ·
  rw [if_pos c2] at H
  have c2b0:=eq_true c2;have c2b1 : decide (8≤281474976710656)=true:=decide_eq_true c2;clear c2;obtain ⟨y448,hy448⟩ : ∃ y_ : List Int,y_=(List.replicate 8 0):=⟨_,rfl⟩;replace H : (Fy.l0 k a0 y448 0)=some r:=by first|(rw [hy448];with_reducible exact H)|(have H2_:=(Option.bind_some _ _).symm.trans H;rw [hy448];with_reducible exact H2_)|(have H2_:=(Option.bind_some _ _).symm.trans H;with_reducible exact H2_)|with_reducible exact H|(rw [hy448];exact H)|exact H
  have Ny448:=zh hy448;clear hy448;have H':=zh H;clear H
  go_enter Try.func62,Try.ntmps62
  go_wp2_with (first|((with_reducible refine zK (N:=5) rfl ?_);refine Kd.R_make (Kd.int .u8) _ 5 rfl (N:=5) rfl 22 _ _ rfl 8 rfl rfl Try.underlying22 (.int .u8 0) 1 info5 rfl jC jH 0 (ok:=fun _=>True) (okp:=fun _=>True) rfl (fun _ hk=>hk) trivial jH jH (Below.refl _ _) (ye _) ?_;intro v449 w3 ho4 hb hg_ hnew_;clear hg_ hnew_;(first|rw [← Ny448.out] at ho4|(simp only [Int.reduceToNat] at ho4;rw [← Ny448.out] at ho4));have HO450:=zh (yy ho4 (zB jD));replace HB:=zh (zC jD hb);clear hb ho4))
  go_loopg [6] k (fun kq v6 w' => ∃ (x3_1 : List Int) (x6_1 : Int),v6 = .int .i64 x6_1∧Aside0 (Fy.l0 kq a0 x3_1 x6_1=some r)∧Aside0 (kq≤k)∧Aside0 (Kd.R (Kd.int .u8) 5 w' w.heap.size (fun _=>True) v449 x3_1)∧Aside0 (Below w.heap.size w w'))
  case atStart=>exact ⟨(y448),(0),jE,H',⟨ye _⟩,⟨by (with_reducible repeat (first|apply zm|apply zn|apply zo));exact HO450.out⟩,⟨jD⟩⟩
  case round =>
   clear H'
   try clear c2 c2b0 c2b1
   try clear p2
   obtain ⟨x3_1,x6_1,rfl,HA,HK1,HO_3,HB⟩:=hrel
   cases gk with
   | zero=>exact absurd HA.out (by simp [Fy.l0])
   | succ k1 =>
    have H:=HA.out;clear HA;simp only [Fy.l0] at H
    by_cases c5 : x6_1<8
    ·
     rw [if_pos c5] at H
     have c5b0 : decide (x6_1<8)=true:=decide_eq_true c5;clear c5;obtain ⟨ji6,hji6⟩ : ∃ j_ : Int,(wrap64 (56 - (wrap64 (8*x6_1))))=j_:=⟨_,rfl⟩;replace H : (if 0≤(ji6) then (if 0≤x6_1 then (if x6_1<(x3_1.length : Int) then (Fy.l0 k1 a0 (x3_1.set (x6_1 : Int).toNat ((shr .i64 a0 (ji6)) % 256)) (wrap64 (x6_1+1))) else (none)) else (none)) else (none))=some r:=by first|(rw [hji6] at H;exact H)|(simp only [hji6] at H ⊢;exact H)
     have hji6w : (IntKind.i64.wrap (56 - (wrap64 (8*x6_1))))=ji6:=(zG _).trans hji6
     by_cases c7 : 0≤(ji6)
     ·
      rw [if_pos c7] at H
      have c7b0:=eq_true c7;have c7b1 : decide (0≤(ji6))=true:=decide_eq_true c7;clear c7;obtain ⟨ji8,hji8⟩ : ∃ j_ : Int,(shr .i64 a0 (ji6))=j_:=⟨_,rfl⟩;replace H : (if 0≤x6_1 then (if x6_1<(x3_1.length : Int) then (Fy.l0 k1 a0 (x3_1.set (x6_1 : Int).toNat ((ji8) % 256)) (wrap64 (x6_1+1))) else (none)) else (none))=some r:=by first|(rw [hji8] at H;exact H)|(simp only [hji8] at H ⊢;exact H)
      have hji8_ : (a0 / 2 ^ min (ji6).toNat 64)=ji8:=hji8;have hji8z : (ji6)≤64→(a0 / 2 ^ (ji6).toNat)=ji8:=shr_small hji8
      by_cases c9 : 0≤x6_1
      ·
       rw [if_pos c9] at H
       have c9b0 : decide (0≤x6_1)=true:=decide_eq_true c9;clear c9
       by_cases c10 : x6_1<(x3_1.length : Int)
       ·
        rw [if_pos c10] at H
        have c10b0 : decide (x6_1<(x3_1.length : Int))=true:=decide_eq_true c10;clear c10;obtain ⟨y451,hy451⟩ : ∃ y_ : List Int,y_=(x3_1.set (x6_1 : Int).toNat ((ji8) % 256)):=⟨_,rfl⟩;replace H : (Fy.l0 k1 a0 y451 (wrap64 (x6_1+1)))=some r:=by first|(rw [hy451];with_reducible exact H)|(have H2_:=(Option.bind_some _ _).symm.trans H;rw [hy451];with_reducible exact H2_)|(have H2_:=(Option.bind_some _ _).symm.trans H;with_reducible exact H2_)|with_reducible exact H|(rw [hy451];exact H)|exact H
        have Ny451:=zh hy451;clear hy451;have H':=zh H;clear H;have p11 : 0≤(x6_1 : Int):=zy jF;have q11 : (x6_1 : Int)<((x3_1.length : Int) : Int):=zy jF;obtain ⟨go11,co11,eo11,gb11,gl11,cl11,HG11⟩:=Kd.R_form HO_3.out jH;(first|cases eo11|(injection eo11 with ea_ en_ ec_;(first|subst ea_|(injection ea_ with ea_;subst ea_));subst ec_;clear en_));have GB11:=zh gb11;have GG11:=zh HG11;clear gb11 gl11 HG11;obtain ⟨hx11_0,hf11_0⟩:=Kd.R_celln 0 HO_3.out (x6_1 : Int) p11 q11;replace p11:=eq_true p11;replace q11:=eq_true q11;have HP12:=Kd.R_putg HO_3.out (x6_1 : Int) ((ji8) % 256)
        go_wp2_with (first|((with_reducible refine gate_store (t:=5) (p:=17) rfl ?_);refine store_event (t:=5) (p:=17) (v:=?vo_w13) (w1:=(wr.setCell ⟨go11,(x6_1 : Int).toNat,none⟩ (.int .u8 ((ji8) % 256)))) ?hg ?ho ?hn ?hr ?_;(case ho=>rfl);(case hg=>rfl);(case hn=>rfl);(case hr=>go_simp <;> rfl);intro w13 hw;have hg : wr.grownBy w13 (some go11):=(by rw [hw];exact HP12.2);have hp_ : Kd.R (Kd.int .u8) 5 w13 w.heap.size (fun _=>True) (.slice (some ⟨go11,0,none⟩) x3_1.length co11) y451:=(by rw [hw,Ny451.out];exact HP12.1);clear HP12;replace HO_3:=zh (hp_);replace HB:=zh ((by rw [hw];exact zd (HB.out) GB11.out : Below w.heap.size w w13));clear hg hw hp_))
        go_roundg k1
        case measure=>have:=HK1.out;omega
        case rel=>exact ⟨(y451),(wrap64 (x6_1+1)),jE,H',⟨jN⟩,⟨jAx⟩,⟨jD⟩⟩
       rw [if_neg c10] at H;exact absurd H (by simp)
      rw [if_neg c9] at H;exact absurd H (by simp)
     rw [if_neg c7] at H;exact absurd H (by simp)
    rw [if_neg c5] at H;have c5b0 : decide (x6_1<8)=false:=decide_eq_false c5;clear c5;obtain rfl:=zU H
    go_wp2
    go_ret
    exact ⟨_,jG,jAx,jD⟩
 rw [if_neg c2] at H;exact absurd H (by simp)


def Ft.l0 : Nat→List Int→ByteArray→Int→Int→Option (List Int)
 | 0,_,_,_,_=>none
 | k+1,x0,x1,x7,x8=>if x8<x7 then (if 0≤x8 then (if x8<(x1.size : Int) then (if x0.length<140737488355328 then ((some (x0 ++ [bt x1 x8] : List Int)).bind fun y452=>(if (bt x1 x8)=0 then (if y452.length<140737488355328 then (Ft.l0 k (y452 ++ [255]) x1 x7 (wrap64 (x8+1))) else (none)) else (Ft.l0 k y452 x1 x7 (wrap64 (x8+1))))) else (none)) else (none)) else (none)) else ((some (([0,0] : List Int) : List Int)).bind fun y458=>(if x0.length+y458.length<140737488355328 then (some (x0++y458)) else (none)))
def Ft.f (k : Nat) (l0 : List Int) (a1 : ByteArray) : Option (List Int):=Ft.l0 k l0 a1 (a1.size : Int) 0
theorem Ft.mono_l : ∀ k,(∀ y0 y1 y2 y3,LeO (Ft.l0 k y0 y1 y2 y3) (Ft.l0 (k+1) y0 y1 y2 y3))
 | 0=>fun _ _ _ _ r h=>by simp [Ft.l0] at h
 | k+1=>by
  have ih0:=Ft.mono_l k;intro y0 y1 y2 y3;unfold Ft.l0
  repeat' first|(with_reducible first|exact ih0 _ _ _ _|exact zQ _|exact zN _|refine zP ?_ ?_|refine zO ?_ (fun _=>?_))|refine zP ?_ ?_|refine zO ?_ (fun _=>?_)
theorem Ft.mono : ∀ a0 a1 k,LeO (Ft.f k a0 a1) (Ft.f (k+1) a0 a1):=by
 intro a0 a1 k;have ih0:=Ft.mono_l k;unfold Ft.f
 repeat' first|(with_reducible first|exact ih0 _ _ _ _|exact zQ _|exact zN _|refine zP ?_ ?_|refine zO ?_ (fun _=>?_))|refine zP ?_ ?_|refine zO ?_ (fun _=>?_)
set_option maxHeartbeats 8000000 in
set_option maxRecDepth 100000 in
theorem Ft.calls (k : Nat) (P0_ : Nat→Prop) (u9000_ : Value) (l0 : List Int) (a1 : ByteArray) (r : List Int) (w0 w : World) (hB : Below w0.heap.size w0 w) (ho0 : Kd.R (Kd.int .u8) 5 w w0.heap.size P0_ u9000_ l0) (h : Ft.f k l0 a1=some r) :
  Calls Try.prog 63 #[u9000_,.string a1] w fun e w' => ∃ v0_ : Value,e = .returned (v0_)∧Kd.R (Kd.int .u8) 5 w' w0.heap.size (fun k_=>(P0_ k_∨w.heap.size≤k_)) v0_ r∧Below w0.heap.size w0 w' ∧ Kept w w' (fun k_=>P0_ k_):=by
 have HO0:=zh (show Kd.R (Kd.int .u8) 5 w w0.heap.size (fun k_=>(P0_ k_∨w.heap.size≤k_)) u9000_ l0 from zM ho0 (fun k_ hk=>(.inl hk)));have HK:=zh (Kept.refl w (fun k_=>P0_ k_));have HW0:=zh hB.size;have HB:=zh hB;clear hB;have H : (Ft.l0 k l0 a1 (a1.size : Int) 0)=some r:=h;clear h;have H':=zh H;clear H
 go_enter Try.func63,Try.ntmps63
 go_wp2
 go_loopg [0,8] k (fun kq v0 v8 w' => ∃ (x0_1 : List Int) (x8_1 : Int),v8 = .int .i64 x8_1∧Aside0 (Ft.l0 kq x0_1 a1 (a1.size : Int) x8_1=some r)∧Aside0 (kq≤k)∧Aside0 (Kd.R (Kd.int .u8) 5 w' w0.heap.size (fun k_=>(P0_ k_∨w.heap.size≤k_)) v0 x0_1)∧Aside0 (Kept w w' (fun k_=>P0_ k_))∧Aside0 (Below w0.heap.size w0 w'))
 case atStart=>exact ⟨(l0),(0),jE,H',⟨ye _⟩,⟨jAG⟩,⟨jz⟩,⟨jD⟩⟩
 case round =>
  clear H'
  try clear p2
  obtain ⟨x0_1,x8_1,rfl,HA,HK1,HO_0,HK,HB⟩:=hrel
  cases gk with
  | zero=>exact absurd HA.out (by simp [Ft.l0])
  | succ k1 =>
   have H:=HA.out;clear HA;simp only [Ft.l0] at H
   by_cases c3 : x8_1<(a1.size : Int)
   ·
    rw [if_pos c3] at H
    have c3b0 : decide (x8_1<(a1.size : Int))=true:=decide_eq_true c3;clear c3
    by_cases c4 : 0≤x8_1
    ·
     rw [if_pos c4] at H
     have c4b0 : decide (0≤x8_1)=true:=decide_eq_true c4;clear c4
     by_cases c5 : x8_1<(a1.size : Int)
     ·
      rw [if_pos c5] at H
      have c5b0 : decide (x8_1<(a1.size : Int))=true:=decide_eq_true c5;clear c5
      by_cases c7 : x0_1.length<140737488355328
      ·
       rw [if_pos c7] at H
       have LMc7:=zh c7;clear c7;obtain ⟨y452,hy452⟩ : ∃ y_ : List Int,y_=(x0_1 ++ [bt a1 x8_1]):=⟨_,rfl⟩;replace H : (if (bt a1 x8_1)=0 then (if y452.length<140737488355328 then (Ft.l0 k1 (y452 ++ [255]) a1 (a1.size : Int) (wrap64 (x8_1+1))) else (none)) else (Ft.l0 k1 y452 a1 (a1.size : Int) (wrap64 (x8_1+1))))=some r:=by first|(rw [hy452];with_reducible exact H)|(have H2_:=(Option.bind_some _ _).symm.trans H;rw [hy452];with_reducible exact H2_)|(have H2_:=(Option.bind_some _ _).symm.trans H;with_reducible exact H2_)|with_reducible exact H|(rw [hy452];exact H)|exact H
       have Ny452:=zh hy452;clear hy452
       by_cases c9 : (bt a1 x8_1)=0
       ·
        rw [if_pos c9] at H
        have c9b0 : ((bt a1 x8_1) == 0)=true:=ya.mpr c9;have c9b1 : ((bt a1 x8_1) != 0)=false:=zX.mpr c9;clear c9
        by_cases c10 : y452.length<140737488355328
        ·
         rw [if_pos c10] at H
         have LMc10:=zh c10;clear c10;obtain ⟨y455,hy455⟩ : ∃ y_ : List Int,y_=(y452 ++ [255]):=⟨_,rfl⟩;replace H : (Ft.l0 k1 y455 a1 (a1.size : Int) (wrap64 (x8_1+1)))=some r:=by first|(rw [hy455];with_reducible exact H)|(have H2_:=(Option.bind_some _ _).symm.trans H;rw [hy455];with_reducible exact H2_)|(have H2_:=(Option.bind_some _ _).symm.trans H;with_reducible exact H2_)|with_reducible exact H|(rw [hy455];exact H)|exact H
         have Ny455:=zh hy455;clear hy455;have H':=zh H;clear H;have p6:=ja (0≤(x8_1 : Int));have q6:=ja (x8_1<(a1.size : Int));have hx6:=bt_at a1 x8_1
         go_wp2_with (first|((with_reducible refine yB (b:=.append) (xs:=#[.tmp 11,.tmp 15]) rfl ?_);at_builtin;refine Kd.R_append (Kd.int .u8) (w0:=w0) w0.heap.size rfl (.tmp 11) (.tmp 15) 22 5 (.int .u8 0) 1 rfl Try.underlying22 info5 rfl jC jH u0 x0_1 (bt a1 x8_1) [.int .u8 (bt a1 x8_1)] (fun k_=>(P0_ k_∨w.heap.size≤k_)) (fun _=>False) rfl rfl ?aP (fun _ hk=>hk.elim) ?aF ?aO ?aB ?aS ?aL ?_;(case aP=>exact rfl);(case aB=>exact jD);(case aF=>exact (fun k_ hk=>(.inr (Nat.le_trans jA9 hk))));(case aO=>exact jAH);(case aS=>exact (zB jD));(case aL=>have:=LMc7.out;omega);intro v453 w11 ho hb hg hat;rw [← Ny452.out] at ho;replace HB:=zh (hb);replace HK:=zh (yA (S:=(fun k_=>P0_ k_)) hg jz (fun k_ e_=>(HO_0.out.1 k_ e_)));have HO454:=zh (ho);clear HO_0 ho hb hg hat;have p8:=ja (0≤(x8_1 : Int));have q8:=ja (x8_1<(a1.size : Int));have hx8:=bt_at a1 x8_1)|((with_reducible refine yB (b:=.append) (xs:=#[.tmp 21,.tmp 22]) rfl ?_);at_builtin;refine Kd.R_append (Kd.int .u8) (w0:=w0) w0.heap.size rfl (.tmp 21) (.tmp 22) 22 5 (.int .u8 0) 1 rfl Try.underlying22 info5 rfl jC jH v453 y452 255 [.int .u8 255] (fun k_=>(P0_ k_∨w.heap.size≤k_)) (fun _=>False) rfl rfl ?aP (fun _ hk=>hk.elim) ?aF ?aO ?aB ?aS ?aL ?_;(case aP=>exact rfl);(case aB=>exact jD);(case aF=>exact (fun k_ hk=>(.inr (Nat.le_trans jA9 hk))));(case aO=>exact jC1);(case aS=>exact (zB jD));(case aL=>have:=LMc10.out;omega);intro v456 w12 ho hb hg hat;rw [← Ny455.out] at ho;replace HB:=zh (hb);replace HK:=zh (yA (S:=(fun k_=>P0_ k_)) hg jz (fun k_ e_=>(HO454.out.1 k_ e_)));have HO457:=zh (ho);clear HO454 ho hb hg hat))
         go_roundg k1
         case measure=>have:=HK1.out;omega
         case rel=>exact ⟨(y455),(wrap64 (x8_1+1)),jE,H',⟨jN⟩,⟨by (with_reducible repeat (first|apply zm|apply zn|apply zo));exact HO457.out⟩,⟨jz⟩,⟨jD⟩⟩
        rw [if_neg c10] at H;exact absurd H (by simp)
       rw [if_neg c9] at H;have c9b0 : ((bt a1 x8_1) == 0)=false:=zY.mpr c9;have c9b1 : ((bt a1 x8_1) != 0)=true:=zZ.mpr c9;have H':=zh H;clear H;have p6:=ja (0≤(x8_1 : Int));have q6:=ja (x8_1<(a1.size : Int));have hx6:=bt_at a1 x8_1
       go_wp2_with (first|((with_reducible refine yB (b:=.append) (xs:=#[.tmp 11,.tmp 15]) rfl ?_);at_builtin;refine Kd.R_append (Kd.int .u8) (w0:=w0) w0.heap.size rfl (.tmp 11) (.tmp 15) 22 5 (.int .u8 0) 1 rfl Try.underlying22 info5 rfl jC jH u0 x0_1 (bt a1 x8_1) [.int .u8 (bt a1 x8_1)] (fun k_=>(P0_ k_∨w.heap.size≤k_)) (fun _=>False) rfl rfl ?aP (fun _ hk=>hk.elim) ?aF ?aO ?aB ?aS ?aL ?_;(case aP=>exact rfl);(case aB=>exact jD);(case aF=>exact (fun k_ hk=>(.inr (Nat.le_trans jA9 hk))));(case aO=>exact jAH);(case aS=>exact (zB jD));(case aL=>have:=LMc7.out;omega);intro v453 w13 ho hb hg hat;rw [← Ny452.out] at ho;replace HB:=zh (hb);replace HK:=zh (yA (S:=(fun k_=>P0_ k_)) hg jz (fun k_ e_=>(HO_0.out.1 k_ e_)));have HO454:=zh (ho);clear HO_0 ho hb hg hat;have p8:=ja (0≤(x8_1 : Int));have q8:=ja (x8_1<(a1.size : Int));have hx8:=bt_at a1 x8_1))
       go_roundg k1
       case measure=>have:=HK1.out;omega
       case rel=>exact ⟨(y452),(wrap64 (x8_1+1)),jE,H',⟨jN⟩,⟨jC1⟩,⟨jz⟩,⟨jD⟩⟩
      rw [if_neg c7] at H;exact absurd H (by simp)
     rw [if_neg c5] at H;exact absurd H (by simp)
    rw [if_neg c4] at H;exact absurd H (by simp)
   rw [if_neg c3] at H;have c3b0 : decide (x8_1<(a1.size : Int))=false:=decide_eq_false c3;clear c3;obtain ⟨y458,hy458⟩ : ∃ y_ : List Int,y_=(([0,0] : List Int)):=⟨_,rfl⟩;replace H : (if x0_1.length+y458.length<140737488355328 then (some (x0_1++y458)) else (none))=some r:=by first|(rw [hy458];with_reducible exact H)|(have H2_:=(Option.bind_some _ _).symm.trans H;rw [hy458];with_reducible exact H2_)|(have H2_:=(Option.bind_some _ _).symm.trans H;with_reducible exact H2_)|with_reducible exact H|(rw [hy458];exact H)|exact H
   have Ny458:=zh hy458;clear hy458
   by_cases c14 : x0_1.length+y458.length<140737488355328
   ·
    rw [if_pos c14] at H
    have LMc14:=zh c14;clear c14;obtain ⟨y461,hy461⟩ : ∃ y_ : List Int,y_=(x0_1++y458):=⟨_,rfl⟩;replace H : (some y461)=some r:=by first|(rw [hy461];with_reducible exact H)|(have H2_:=(Option.bind_some _ _).symm.trans H;rw [hy461];with_reducible exact H2_)|(have H2_:=(Option.bind_some _ _).symm.trans H;with_reducible exact H2_)|with_reducible exact H|(rw [hy461];exact H)|exact H
    have Ny461:=zh hy461;clear hy461;obtain rfl:=zU H
    go_wp2_with (first|((with_reducible refine zK (N:=26) rfl ?_);refine Kd.R_lit (Kd.int .u8) _ 5 ?hg (N:=26) ?hd (xs:=([0,0] : List Int)) (inner:=[.int .u8 0,.int .u8 0]) (ok:=fun _=>True) (okp:=fun _=>True) ?hr ?hp (fun _ hk=>hk) trivial (Below.refl _ _) (ye _) (by simp) ?_;(case hd=>rfl);(case hg=>rfl);(case hr=>go_simp <;> rfl);(case hp=>exact (Reps.one (show Kd.M (Kd.int .u8) _ _ _ 0 [.int .u8 0] from rfl) (Reps.one (show Kd.M (Kd.int .u8) _ _ _ 0 [.int .u8 0] from rfl) (Reps.none _ _))));intro v459 w15 ho16 hb hg_ hnew_;clear hg_ hnew_;(first|rw [← Ny458.out] at ho16|(simp only [Int.reduceToNat] at ho16;rw [← Ny458.out] at ho16));have HO460:=zh (yy (Kd.R_new' (Kd.R_newM (M:=fun k_=>(P0_ k_∨w.heap.size≤k_)) ho16 jA9 (fun k_ h_ => .inr h_)) (Kd.R_lt jAH)) (zB jD));replace HO_0:=zh (Kd.R_elder' jAH (Kd.R_base ho16) hb);replace HK:=zh (Kept.below (S:=(fun k_=>P0_ k_)) jz hb);replace HB:=zh (zC jD hb);clear hb ho16;obtain ⟨Ao18,co18,eo18⟩:=yk HO460.out;subst eo18)|((with_reducible refine yB (b:=.append) (xs:=#[.tmp 25,.tmp 26]) rfl ?_);at_builtin;refine Kd.R_append_rows (Kd.int .u8) (w0:=w0) w0.heap.size rfl (.tmp 25) (.tmp 26) 22 5 (.int .u8 0) 1 rfl Try.underlying22 info5 rfl jC jH u0 x0_1 y458 _ _ _ (fun k_=>(P0_ k_∨w.heap.size≤k_)∧some k_≠(.slice Ao18 y458.length co18 : Value).ownBlock) (fun _=>False) rfl rfl ?aO ?aR (fun _ _ h=>h) (fun _ h=>h.elim) ?aF ?aB ?aS ?aL ?_;(case aR=>repeat (first|exact (yh HO460.out).2.2|(with_reducible refine Kd.C_alloc ?_ _)|(with_reducible refine Kd.C_drewN ?_ _)|(with_reducible refine Kd.C_drew ?_)));(case aB=>exact jD);(case aF=>exact (fun k_ hk=>⟨(.inr (Nat.le_trans jA9 hk)),Kd.fresh' (Kd.R_lt (by (with_reducible repeat (first|apply zm|apply zn|apply zo));exact HO460.out)) k_ hk⟩));(case aO=>exact jAH);(case aS=>exact (zB jD));(case aL=>have:=LMc14.out;omega);intro v462 w17 ho hb hg hat;rw [← Ny461.out] at ho;replace HO460:=zh (Kd.R_after (ok:=(fun k_=>(P0_ k_∨w.heap.size≤k_))) (by (with_reducible repeat (first|apply zm|apply zn|apply zo));exact zM HO460.out (fun _ hk=>⟨hk.1.1,hk.2⟩)) hg hat);replace HB:=zh (hb);replace HK:=zh (yA (S:=(fun k_=>P0_ k_)) hg jz (fun k_ e_=>(HO_0.out.1 k_ e_).1));have HO463:=zh (ho);clear HO_0 ho hb hg hat))
    go_ret
    exact ⟨_,jG,by (with_reducible repeat (first|apply zm|apply zn|apply zo));exact zM HO463.out (fun _ hk=>hk.1),jD,jz⟩
   rw [if_neg c14] at H;exact absurd H (by simp)

end Go.Proofs.Ytdjnplkpahgnmaa.Q
end
section
namespace Go.Proofs.Ytdjnplkpahgnmaa.Q
open Go.RowKit Go.Proofs.YtdjnplkpahgnmaaW.PrintWords Go.Proofs.YtdjnplkpahgnmaaW.PrintLast Go.Proofs.YtdjnplkpahgnmaaW.PrintMore
attribute [local go_sem] max2_int min2_int max_two min_two max_three min_three max_four min_four max2_str min2_str str_geq str_gtr str_leq   -- for this text's walks alone
set_option linter.unusedVariables false
set_option linter.unusedSimpArgs false

mutual
def F9.l0 : Nat→List Int→List (S24)→Int→Int→Option (List Int)
 | 0,_,_,_,_=>none
 | k+1,x0,x51,x52,x53=>if x53<x52 then (if 0≤x53 then (if x53<(x51.length : Int) then ((F9.f k x0 ((rd_T24 x51 x53).f0) ((rd_T24 x51 x53).f1) ((rd_T24 x51 x53).f2)).bind fun t486=>(F9.l0 k t486 x51 x52 (wrap64 (x53+1)))) else (none)) else (none)) else (if x0.length<140737488355328 then (some (x0 ++ [0])) else (none))
def F9.l1 : Nat→List Int→List (S68)→Int→Int→Option (List Int)
 | 0,_,_,_,_=>none
 | k+1,x0,x71,x72,x73=>if x73<x72 then (if 0≤x73 then (if x73<(x71.length : Int) then (if x0.length<140737488355328 then ((Ft.f k (x0 ++ [1]) ((rd_T68 x71 x73).f0)).bind fun t501=>((F9.f k t501 ((rd_T68 x71 x73).f1.f0) ((rd_T68 x71 x73).f1.f1) ((rd_T68 x71 x73).f1.f2)).bind fun t504=>(F9.l1 k t504 x71 x72 (wrap64 (x73+1))))) else (none)) else (none)) else (none)) else (if x0.length<140737488355328 then (some (x0 ++ [0])) else (none))
def F9.f : Nat→List Int→Int→Int→ByteArray→Option (List Int)
 | 0,_,_,_,_=>none
 | k+1,l0,a1_0,a1_1,a1_2=>if l0.length<140737488355328 then ((some (l0 ++ [(wrap64 (a1_0+1)) % 256] : List Int)).bind fun y465=>(if a1_0=1 then (if y465.length<140737488355328 then (some (y465 ++ [(a1_1) % 256])) else (none)) else (if a1_0=2 then ((Fy.f k (wrap64 (a1_1+4611686018427387904))).bind fun t471=>(if y465.length+t471.length<140737488355328 then (some (y465++t471)) else (none))) else (if a1_0=3 then ((Ft.f k y465 a1_2).bind fun t477=>(some t477)) else (if a1_0=4 then ((Fa.f k a1_0 a1_1 a1_2).bind fun bt480=>(F9.l0 k y465 bt480.1 (bt480.1.length : Int) 0)) else (if a1_0=5 then ((F4.f k a1_0 a1_1 a1_2).bind fun bt492=>(F9.l1 k y465 bt492.1 (bt492.1.length : Int) 0)) else (some y465))))))) else (none)
end
theorem F9.mono_l : ∀ k,(∀ y0 y1 y2 y3,LeO (F9.f k y0 y1 y2 y3) (F9.f (k+1) y0 y1 y2 y3))∧(∀ y0 y1 y2 y3,LeO (F9.l0 k y0 y1 y2 y3) (F9.l0 (k+1) y0 y1 y2 y3))∧(∀ y0 y1 y2 y3,LeO (F9.l1 k y0 y1 y2 y3) (F9.l1 (k+1) y0 y1 y2 y3))
 | 0=>⟨fun _ _ _ _ r h=>by simp [F9.f] at h,fun _ _ _ _ r h=>by simp [F9.l0] at h,fun _ _ _ _ r h=>by simp [F9.l1] at h⟩
 | k+1=>by
  obtain ⟨ih0,ih1,ih2⟩:=F9.mono_l k;refine ⟨?_,?_,?_⟩
  ·
   intro y0 y1 y2 y3
   unfold F9.f
   repeat' first|(with_reducible first|exact ih0 _ _ _ _|exact ih1 _ _ _ _|exact ih2 _ _ _ _|exact Fa.mono _ _ _ _|exact F4.mono _ _ _ _|exact Fy.mono _ _|exact Ft.mono _ _ _|exact zQ _|exact zN _|refine zP ?_ ?_|refine zO ?_ (fun _=>?_))|refine zP ?_ ?_|refine zO ?_ (fun _=>?_)
  ·
   intro y0 y1 y2 y3
   unfold F9.l0
   repeat' first|(with_reducible first|exact ih0 _ _ _ _|exact ih1 _ _ _ _|exact ih2 _ _ _ _|exact Fa.mono _ _ _ _|exact F4.mono _ _ _ _|exact Fy.mono _ _|exact Ft.mono _ _ _|exact zQ _|exact zN _|refine zP ?_ ?_|refine zO ?_ (fun _=>?_))|refine zP ?_ ?_|refine zO ?_ (fun _=>?_)
  intro y0 y1 y2 y3;unfold F9.l1
  repeat' first|(with_reducible first|exact ih0 _ _ _ _|exact ih1 _ _ _ _|exact ih2 _ _ _ _|exact Fa.mono _ _ _ _|exact F4.mono _ _ _ _|exact Fy.mono _ _|exact Ft.mono _ _ _|exact zQ _|exact zN _|refine zP ?_ ?_|refine zO ?_ (fun _=>?_))|refine zP ?_ ?_|refine zO ?_ (fun _=>?_)
theorem F9.mono : ∀ a0 a1 a2 a3 k,LeO (F9.f k a0 a1 a2 a3) (F9.f (k+1) a0 a1 a2 a3):=by
 intro a0 a1 a2 a3 k;obtain ⟨ih0,ih1,ih2⟩:=F9.mono_l k;exact ih0 a0 a1 a2 a3
def F9.T22 : Bool×List (List Nat×List Nat):=(true,[([],[]),([],[]),([0,1],[0,1]),([],[]),([3],[3]),([2,4,2],[2,4]),([],[]),([6],[6]),([5,7,5],[5,7]),([8,8,0,1,2,3,4,5,6,7,8],[0,8])])
def F9.B22 : List Nat:=[0,0,3,0,8,31,0,64,255,511]
theorem F9.tab22 : rtab .any (opsOf Try.f41 22)=F9.T22:=by kernel_rfl
theorem F9.bits22 : waitsOk F9.T22.2 F9.B22=true:=by kernel_rfl
set_option maxHeartbeats 8000000 in
set_option maxRecDepth 100000 in
theorem F9.calls (k : Nat) : ∀ (P0_ : Nat→Prop) (u9000_ : Value) (l0 : List Int) (a1_0 : Int) (a1_1 : Int) (a1_2 : ByteArray) (r : List Int) (w0 w : World) (hB : Below w0.heap.size w0 w) (ho0 : Kd.R (Kd.int .u8) 5 w w0.heap.size P0_ u9000_ l0) (h : F9.f k l0 a1_0 a1_1 a1_2=some r),
  Calls Try.prog 41 #[u9000_,.agg #[.int .i64 a1_0,.int .i64 a1_1,.string a1_2]] w fun e w' => ∃ v0_ : Value,e = .returned (v0_)∧Kd.R (Kd.int .u8) 5 w' w0.heap.size (fun k_=>(P0_ k_∨w.heap.size≤k_)) v0_ r∧Below w0.heap.size w0 w' ∧ Kept w w' (fun k_=>P0_ k_):=by
 induction k using Nat.strongRecOn with
 | _ k ih =>
 intro P0_ u9000_ l0 a1_0 a1_1 a1_2 r w0 w hB ho0 h
 cases k with
 | zero=>exact absurd h (by simp [F9.f])
 | succ k =>
 simp only [F9.f] at h;have hu24:=Try.underlying24;have hu68:=Try.underlying68;have HO0:=zh (show Kd.R (Kd.int .u8) 5 w w0.heap.size (fun k_=>(P0_ k_∨w.heap.size≤k_)) u9000_ l0 from zM ho0 (fun k_ hk=>(.inl hk)));have HK:=zh (Kept.refl w (fun k_=>P0_ k_));have HW0:=zh hB.size;have HB:=zh hB;clear hB;have H : (if l0.length<140737488355328 then ((some (l0 ++ [(wrap64 (a1_0+1)) % 256] : List Int)).bind fun y465=>(if a1_0=1 then (if y465.length<140737488355328 then (some (y465 ++ [(a1_1) % 256])) else (none)) else (if a1_0=2 then ((Fy.f k (wrap64 (a1_1+4611686018427387904))).bind fun t471=>(if y465.length+t471.length<140737488355328 then (some (y465++t471)) else (none))) else (if a1_0=3 then ((Ft.f k y465 a1_2).bind fun t477=>(some t477)) else (if a1_0=4 then ((Fa.f k a1_0 a1_1 a1_2).bind fun bt480=>(F9.l0 k y465 bt480.1 (bt480.1.length : Int) 0)) else (if a1_0=5 then ((F4.f k a1_0 a1_1 a1_2).bind fun bt492=>(F9.l1 k y465 bt492.1 (bt492.1.length : Int) 0)) else (some y465))))))) else (none))=some r:=h;clear h
 by_cases c3 : l0.length<140737488355328
 ·
  rw [if_pos c3] at H
  have LMc3:=zh c3;clear c3;obtain ⟨y465,hy465⟩ : ∃ y_ : List Int,y_=(l0 ++ [(wrap64 (a1_0+1)) % 256]):=⟨_,rfl⟩;replace H : (if a1_0=1 then (if y465.length<140737488355328 then (some (y465 ++ [(a1_1) % 256])) else (none)) else (if a1_0=2 then ((Fy.f k (wrap64 (a1_1+4611686018427387904))).bind fun t471=>(if y465.length+t471.length<140737488355328 then (some (y465++t471)) else (none))) else (if a1_0=3 then ((Ft.f k y465 a1_2).bind fun t477=>(some t477)) else (if a1_0=4 then ((Fa.f k a1_0 a1_1 a1_2).bind fun bt480=>(F9.l0 k y465 bt480.1 (bt480.1.length : Int) 0)) else (if a1_0=5 then ((F4.f k a1_0 a1_1 a1_2).bind fun bt492=>(F9.l1 k y465 bt492.1 (bt492.1.length : Int) 0)) else (some y465))))))=some r:=by first|(rw [hy465];with_reducible exact H)|(have H2_:=(Option.bind_some _ _).symm.trans H;rw [hy465];with_reducible exact H2_)|(have H2_:=(Option.bind_some _ _).symm.trans H;with_reducible exact H2_)|with_reducible exact H|(rw [hy465];exact H)|exact H
  have Ny465:=zh hy465;clear hy465
  by_cases c4 : a1_0=1
  ·
   rw [if_pos c4] at H
   have c4b0 : (a1_0 == 1)=true:=ya.mpr c4;have c4b1 : (a1_0 != 1)=false:=zX.mpr c4;clear c4
   by_cases c5 : y465.length<140737488355328
   ·
    rw [if_pos c5] at H
    have LMc5:=zh c5;clear c5;obtain ⟨y468,hy468⟩ : ∃ y_ : List Int,y_=(y465 ++ [(a1_1) % 256]):=⟨_,rfl⟩;replace H : (some y468)=some r:=by first|(rw [hy468];with_reducible exact H)|(have H2_:=(Option.bind_some _ _).symm.trans H;rw [hy468];with_reducible exact H2_)|(have H2_:=(Option.bind_some _ _).symm.trans H;with_reducible exact H2_)|with_reducible exact H|(rw [hy468];exact H)|exact H
    have Ny468:=zh hy468;clear hy468;obtain rfl:=zU H
    go_enter Try.func41,Try.ntmps41
    go_wp2_with (first|((with_reducible refine zK (N:=3) rfl ?_);refine zI ?hg (N:=3) ?hd (cs:=#[.int .i64 a1_0,.int .i64 a1_1,.string a1_2]) (t:=24) ?hr ?_;(case hd=>rfl);(case hg=>rfl);(case hr=>go_simp <;> rfl);intro gb464 hg w6 hbox hb;replace HO0:=zh (yg jAG hb);have BK464:=zh (hbox);have GW464:=zh ((jBA : w.heap.size≤gb464));replace HK:=zh (Kept.below (S:=(fun k_=>P0_ k_)) jz hb);have GE464:=zh ((jBB : w0.heap.size≤gb464));replace HB:=zh (zC jD hb);clear hb hbox hg;obtain ⟨hcz7_0,hcz7_1,hcz7_2,hfz7_0,hfz7_1,hfz7_2⟩:=cB3 BK464.out)|((with_reducible refine yB (b:=.append) (xs:=#[.tmp 13,.tmp 18]) rfl ?_);at_builtin;refine Kd.R_append (Kd.int .u8) (w0:=w0) w0.heap.size rfl (.tmp 13) (.tmp 18) 22 5 (.int .u8 0) 1 rfl Try.underlying22 info5 rfl jC jH u9000_ l0 ((wrap64 (a1_0+1)) % 256) [.int .u8 ((wrap64 (a1_0+1)) % 256)] (fun k_=>(P0_ k_∨w.heap.size≤k_)) (fun _=>False) rfl rfl ?aP (fun _ hk=>hk.elim) ?aF ?aO ?aB ?aS ?aL ?_;(case aP=>exact rfl);(case aB=>exact jR);(case aF=>exact (fun k_ hk=>(.inr (Nat.le_trans jAA hk))));(case aO=>exact jAG);(case aS=>exact (zB jR));(case aL=>have:=LMc3.out;omega);intro v466 w8 ho hb hg hat;rw [← Ny465.out] at ho;replace BK464:=zh (yw (g:=gb464) (o:=.cells #[.int .i64 a1_0,.int .i64 a1_1,.string a1_2] 24 (0,0)) je hg (Kd.R_ne HO0.out BK464.out jC));replace HB:=zh (hb);replace HK:=zh (yA (S:=(fun k_=>P0_ k_)) hg jk (fun k_ e_=>(HO0.out.1 k_ e_)));have HO467:=zh (ho);clear HO0 ho hb hg hat;obtain ⟨hcz9_0,hcz9_1,hcz9_2,hfz9_0,hfz9_1,hfz9_2⟩:=cB3 BK464.out)|((with_reducible refine yB (b:=.append) (xs:=#[.tmp 24,.tmp 28]) rfl ?_);at_builtin;refine Kd.R_append (Kd.int .u8) (w0:=w0) w0.heap.size rfl (.tmp 24) (.tmp 28) 22 5 (.int .u8 0) 1 rfl Try.underlying22 info5 rfl jC jH v466 y465 ((a1_1) % 256) [.int .u8 ((a1_1) % 256)] (fun k_=>(P0_ k_∨w.heap.size≤k_)) (fun _=>False) rfl rfl ?aP (fun _ hk=>hk.elim) ?aF ?aO ?aB ?aS ?aL ?_;(case aP=>exact rfl);(case aB=>exact jR);(case aF=>exact (fun k_ hk=>(.inr (Nat.le_trans jAA hk))));(case aO=>exact jAd);(case aS=>exact (zB jR));(case aL=>have:=LMc5.out;omega);intro v469 w10 ho hb hg hat;rw [← Ny468.out] at ho;replace BK464:=zh (yw (g:=gb464) (o:=.cells #[.int .i64 a1_0,.int .i64 a1_1,.string a1_2] 24 (0,0)) je hg (Kd.R_ne HO467.out BK464.out jC));replace HB:=zh (hb);replace HK:=zh (yA (S:=(fun k_=>P0_ k_)) hg jk (fun k_ e_=>(HO467.out.1 k_ e_)));have HO470:=zh (ho);clear HO467 ho hb hg hat))
    go_ret
    exact ⟨_,jG,by (with_reducible repeat (first|apply zm|apply zn|apply zo));exact HO470.out,jR,jk⟩
   rw [if_neg c5] at H;exact absurd H (by simp)
  rw [if_neg c4] at H;have c4b0 : (a1_0 == 1)=false:=zY.mpr c4;have c4b1 : (a1_0 != 1)=true:=zZ.mpr c4
  by_cases c11 : a1_0=2
  ·
   rw [if_pos c11] at H
   have c11b0 : (a1_0 == 2)=true:=ya.mpr c11;have c11b1 : (a1_0 != 2)=false:=zX.mpr c11;clear c11;replace H:=zT.mp H;obtain ⟨t471,A120,H⟩:=H;have A12:=zh A120;clear A120
   by_cases c13 : y465.length+t471.length<140737488355328
   ·
    rw [if_pos c13] at H
    have LMc13:=zh c13;clear c13;obtain ⟨y474,hy474⟩ : ∃ y_ : List Int,y_=(y465++t471):=⟨_,rfl⟩;replace H : (some y474)=some r:=by first|(rw [hy474];with_reducible exact H)|(have H2_:=(Option.bind_some _ _).symm.trans H;rw [hy474];with_reducible exact H2_)|(have H2_:=(Option.bind_some _ _).symm.trans H;with_reducible exact H2_)|with_reducible exact H|(rw [hy474];exact H)|exact H
    have Ny474:=zh hy474;clear hy474;obtain rfl:=zU H
    go_enter Try.func41,Try.ntmps41
    go_wp2_with (first|((with_reducible refine zK (N:=3) rfl ?_);refine zI ?hg (N:=3) ?hd (cs:=#[.int .i64 a1_0,.int .i64 a1_1,.string a1_2]) (t:=24) ?hr ?_;(case hd=>rfl);(case hg=>rfl);(case hr=>go_simp <;> rfl);intro gb464 hg w14 hbox hb;replace HO0:=zh (yg jAG hb);have BK464:=zh (hbox);have GW464:=zh ((jBA : w.heap.size≤gb464));replace HK:=zh (Kept.below (S:=(fun k_=>P0_ k_)) jz hb);have GE464:=zh ((jBB : w0.heap.size≤gb464));replace HB:=zh (zC jD hb);clear hb hbox hg;obtain ⟨hcz15_0,hcz15_1,hcz15_2,hfz15_0,hfz15_1,hfz15_2⟩:=cB3 BK464.out)|((with_reducible refine yB (b:=.append) (xs:=#[.tmp 13,.tmp 18]) rfl ?_);at_builtin;refine Kd.R_append (Kd.int .u8) (w0:=w0) w0.heap.size rfl (.tmp 13) (.tmp 18) 22 5 (.int .u8 0) 1 rfl Try.underlying22 info5 rfl jC jH u9000_ l0 ((wrap64 (a1_0+1)) % 256) [.int .u8 ((wrap64 (a1_0+1)) % 256)] (fun k_=>(P0_ k_∨w.heap.size≤k_)) (fun _=>False) rfl rfl ?aP (fun _ hk=>hk.elim) ?aF ?aO ?aB ?aS ?aL ?_;(case aP=>exact rfl);(case aB=>exact jR);(case aF=>exact (fun k_ hk=>(.inr (Nat.le_trans jAA hk))));(case aO=>exact jAG);(case aS=>exact (zB jR));(case aL=>have:=LMc3.out;omega);intro v466 w16 ho hb hg hat;rw [← Ny465.out] at ho;replace BK464:=zh (yw (g:=gb464) (o:=.cells #[.int .i64 a1_0,.int .i64 a1_1,.string a1_2] 24 (0,0)) je hg (Kd.R_ne HO0.out BK464.out jC));replace HB:=zh (hb);replace HK:=zh (yA (S:=(fun k_=>P0_ k_)) hg jk (fun k_ e_=>(HO0.out.1 k_ e_)));have HO467:=zh (ho);clear HO0 ho hb hg hat;obtain ⟨hcz17_0,hcz17_1,hcz17_2,hfz17_0,hfz17_1,hfz17_2⟩:=cB3 BK464.out)|((with_reducible refine zJ (f:=62) rfl ?_);refine yj (some 36) rfl rfl Try.func62 jA rfl #[.int .i64 (wrap64 (a1_1+4611686018427387904))] rfl jB ?_;(with_reducible refine (Fy.calls k  (wrap64 (a1_1+4611686018427387904)) t471 _ A12.out).mono ?_);rintro e w18 ⟨v472,rfl,ho0,hb⟩;refine ⟨_,rfl,?_⟩;have HO473:=zh (yy (Kd.R_new' (Kd.R_newM (M:=fun k_=>(P0_ k_∨w.heap.size≤k_)) ho0 jAA (fun k_ h_ => .inr h_)) (Kd.R_lt jAd)) (zB jR));replace HO467:=zh (Kd.R_elder' jAd (Kd.R_base ho0) hb);replace BK464:=zh (cD BK464.out je hb);replace HK:=zh (Kept.below (S:=(fun k_=>P0_ k_)) jk hb);replace HB:=zh (zC jR hb);(try clear hb);(try clear hb2);(try clear hk);(try clear hi);(try clear ho0);obtain ⟨Ao20,co20,eo20⟩:=yk HO473.out;subst eo20)|((with_reducible refine yB (b:=.append) (xs:=#[.tmp 32,.tmp 36]) rfl ?_);at_builtin;refine Kd.R_append_rows (Kd.int .u8) (w0:=w0) w0.heap.size rfl (.tmp 32) (.tmp 36) 22 5 (.int .u8 0) 1 rfl Try.underlying22 info5 rfl jC jH v466 y465 t471 _ _ _ (fun k_=>(P0_ k_∨w.heap.size≤k_)∧some k_≠(.slice Ao20 t471.length co20 : Value).ownBlock) (fun _=>False) rfl rfl ?aO ?aR (fun _ _ h=>h) (fun _ h=>h.elim) ?aF ?aB ?aS ?aL ?_;(case aR=>repeat (first|exact (yh HO473.out).2.2|(with_reducible refine Kd.C_alloc ?_ _)|(with_reducible refine Kd.C_drewN ?_ _)|(with_reducible refine Kd.C_drew ?_)));(case aB=>exact jR);(case aF=>exact (fun k_ hk=>⟨(.inr (Nat.le_trans jAA hk)),Kd.fresh' (Kd.R_lt (by (with_reducible repeat (first|apply zm|apply zn|apply zo));exact HO473.out)) k_ hk⟩));(case aO=>exact jAd);(case aS=>exact (zB jR));(case aL=>have:=LMc13.out;omega);intro v475 w19 ho hb hg hat;rw [← Ny474.out] at ho;replace BK464:=zh (yw (g:=gb464) (o:=.cells #[.int .i64 a1_0,.int .i64 a1_1,.string a1_2] 24 (0,0)) je hg (Kd.R_ne HO467.out BK464.out jC));replace HO473:=zh (Kd.R_after (ok:=(fun k_=>(P0_ k_∨w.heap.size≤k_))) (by (with_reducible repeat (first|apply zm|apply zn|apply zo));exact zM HO473.out (fun _ hk=>⟨hk.1.1,hk.2⟩)) hg hat);replace HB:=zh (hb);replace HK:=zh (yA (S:=(fun k_=>P0_ k_)) hg jk (fun k_ e_=>(HO467.out.1 k_ e_).1));have HO476:=zh (ho);clear HO467 ho hb hg hat))
    go_ret
    exact ⟨_,jG,by (with_reducible repeat (first|apply zm|apply zn|apply zo));exact zM HO476.out (fun _ hk=>hk.1),jR,jk⟩
   rw [if_neg c13] at H;exact absurd H (by simp)
  rw [if_neg c11] at H;have c11b0 : (a1_0 == 2)=false:=zY.mpr c11;have c11b1 : (a1_0 != 2)=true:=zZ.mpr c11
  by_cases c21 : a1_0=3
  ·
   rw [if_pos c21] at H
   have c21b0 : (a1_0 == 3)=true:=ya.mpr c21;have c21b1 : (a1_0 != 3)=false:=zX.mpr c21;clear c21;replace H:=zT.mp H;obtain ⟨t477,A220,H⟩:=H;have A22:=zh A220;clear A220;obtain rfl:=zU H
   go_enter Try.func41,Try.ntmps41
   go_wp2_with (first|((with_reducible refine zK (N:=3) rfl ?_);refine zI ?hg (N:=3) ?hd (cs:=#[.int .i64 a1_0,.int .i64 a1_1,.string a1_2]) (t:=24) ?hr ?_;(case hd=>rfl);(case hg=>rfl);(case hr=>go_simp <;> rfl);intro gb464 hg w23 hbox hb;replace HO0:=zh (yg jAG hb);have BK464:=zh (hbox);have GW464:=zh ((jBA : w.heap.size≤gb464));replace HK:=zh (Kept.below (S:=(fun k_=>P0_ k_)) jz hb);have GE464:=zh ((jBB : w0.heap.size≤gb464));replace HB:=zh (zC jD hb);clear hb hbox hg;obtain ⟨hcz24_0,hcz24_1,hcz24_2,hfz24_0,hfz24_1,hfz24_2⟩:=cB3 BK464.out)|((with_reducible refine yB (b:=.append) (xs:=#[.tmp 13,.tmp 18]) rfl ?_);at_builtin;refine Kd.R_append (Kd.int .u8) (w0:=w0) w0.heap.size rfl (.tmp 13) (.tmp 18) 22 5 (.int .u8 0) 1 rfl Try.underlying22 info5 rfl jC jH u9000_ l0 ((wrap64 (a1_0+1)) % 256) [.int .u8 ((wrap64 (a1_0+1)) % 256)] (fun k_=>(P0_ k_∨w.heap.size≤k_)) (fun _=>False) rfl rfl ?aP (fun _ hk=>hk.elim) ?aF ?aO ?aB ?aS ?aL ?_;(case aP=>exact rfl);(case aB=>exact jR);(case aF=>exact (fun k_ hk=>(.inr (Nat.le_trans jAA hk))));(case aO=>exact jAG);(case aS=>exact (zB jR));(case aL=>have:=LMc3.out;omega);intro v466 w25 ho hb hg hat;rw [← Ny465.out] at ho;replace BK464:=zh (yw (g:=gb464) (o:=.cells #[.int .i64 a1_0,.int .i64 a1_1,.string a1_2] 24 (0,0)) je hg (Kd.R_ne HO0.out BK464.out jC));replace HB:=zh (hb);replace HK:=zh (yA (S:=(fun k_=>P0_ k_)) hg jk (fun k_ e_=>(HO0.out.1 k_ e_)));have HO467:=zh (ho);clear HO0 ho hb hg hat;obtain ⟨hcz26_0,hcz26_1,hcz26_2,hfz26_0,hfz26_1,hfz26_2⟩:=cB3 BK464.out;obtain ⟨Ao27,co27,eo27⟩:=yk HO467.out;subst eo27)|((with_reducible refine zJ (f:=63) rfl ?_);refine yj (some 43) rfl rfl Try.func63 jA rfl #[.slice Ao27 y465.length co27,.string a1_2] rfl jB ?_;(with_reducible refine (Ft.calls k  (fun k_=>some k_=(.slice Ao27 y465.length co27 : Value).ownBlock) (.slice Ao27 y465.length co27) y465 a1_2 t477 w0 _ ?side1 ?side2 A22.out).mono ?_);(case side1=>repeat (with_reducible first|exact HB.out|apply za|apply zb|apply zc|refine zd ?_ GE464.out));(case side2=>exact Kd.R_tight rfl HO467.out);rintro e w28 ⟨v478,rfl,ho0,hb,hkp⟩;refine ⟨_,rfl,?_⟩;replace BK464:=zh (blk_kept je hkp (fun hs_=>(fun e_=>(Kd.R_ne HO467.out BK464.out jC) e_) hs_));have HO479:=zh (zM (ok':=fun k_=>(P0_ k_∨w.heap.size≤k_)) ho0 (fun k_ hk_=>Or.elim hk_ (fun hs_=>(HO467.out.1 k_ (hs_).symm)) (fun hn_=>(.inr (Nat.le_trans jAA hn_)))));replace HK:=zh (Kept.then_ (S:=(fun k_=>P0_ k_)) jk hkp (fun k_ hs_=>(fun e_=>(HO467.out.1 k_ e_.symm)) hs_));replace HB:=zh (hb);clear HO467;(try clear hb);(try clear hkp);(try clear ho0)))
   go_ret
   exact ⟨_,jG,by (with_reducible repeat (first|apply zm|apply zn|apply zo));exact HO479.out,jR,jk⟩
  rw [if_neg c21] at H;have c21b0 : (a1_0 == 3)=false:=zY.mpr c21;have c21b1 : (a1_0 != 3)=true:=zZ.mpr c21
  by_cases c29 : a1_0=4
  ·
   rw [if_pos c29] at H
   have c29b0 : (a1_0 == 4)=true:=ya.mpr c29;have c29b1 : (a1_0 != 4)=false:=zX.mpr c29;clear c29;replace H:=zT.mp H;obtain ⟨⟨t480,t483⟩,A300,H⟩:=H;have A30:=zh A300;clear A300;have H':=zh H;clear H
   go_enter Try.func41,Try.ntmps41
   go_wp2_with (first|((with_reducible refine zK (N:=3) rfl ?_);refine zI ?hg (N:=3) ?hd (cs:=#[.int .i64 a1_0,.int .i64 a1_1,.string a1_2]) (t:=24) ?hr ?_;(case hd=>rfl);(case hg=>rfl);(case hr=>go_simp <;> rfl);intro gb464 hg w31 hbox hb;replace HO0:=zh (yg jAG hb);have BK464:=zh (hbox);have GW464:=zh ((jBA : w.heap.size≤gb464));replace HK:=zh (Kept.below (S:=(fun k_=>P0_ k_)) jz hb);have GE464:=zh ((jBB : w0.heap.size≤gb464));replace HB:=zh (zC jD hb);clear hb hbox hg;obtain ⟨hcz32_0,hcz32_1,hcz32_2,hfz32_0,hfz32_1,hfz32_2⟩:=cB3 BK464.out)|((with_reducible refine yB (b:=.append) (xs:=#[.tmp 13,.tmp 18]) rfl ?_);at_builtin;refine Kd.R_append (Kd.int .u8) (w0:=w0) w0.heap.size rfl (.tmp 13) (.tmp 18) 22 5 (.int .u8 0) 1 rfl Try.underlying22 info5 rfl jC jH u9000_ l0 ((wrap64 (a1_0+1)) % 256) [.int .u8 ((wrap64 (a1_0+1)) % 256)] (fun k_=>(P0_ k_∨w.heap.size≤k_)) (fun _=>False) rfl rfl ?aP (fun _ hk=>hk.elim) ?aF ?aO ?aB ?aS ?aL ?_;(case aP=>exact rfl);(case aB=>exact jR);(case aF=>exact (fun k_ hk=>(.inr (Nat.le_trans jAA hk))));(case aO=>exact jAG);(case aS=>exact (zB jR));(case aL=>have:=LMc3.out;omega);intro v466 w33 ho hb hg hat;rw [← Ny465.out] at ho;replace BK464:=zh (yw (g:=gb464) (o:=.cells #[.int .i64 a1_0,.int .i64 a1_1,.string a1_2] 24 (0,0)) je hg (Kd.R_ne HO0.out BK464.out jC));replace HB:=zh (hb);replace HK:=zh (yA (S:=(fun k_=>P0_ k_)) hg jk (fun k_ e_=>(HO0.out.1 k_ e_)));have HO467:=zh (ho);clear HO0 ho hb hg hat;obtain ⟨hcz34_0,hcz34_1,hcz34_2,hfz34_0,hfz34_1,hfz34_2⟩:=cB3 BK464.out)|((with_reducible refine zJ (f:=33) rfl ?_);refine yj (some 48) rfl rfl Try.func33 jA rfl #[.agg #[.int .i64 a1_0,.int .i64 a1_1,.string a1_2]] rfl jB ?_;(with_reducible refine (Fa.calls k  a1_0 a1_1 a1_2 t480 t483 _ A30.out).mono ?_);rintro e w35 ⟨v481,rfl,ho0,hb⟩;refine ⟨_,rfl,?_⟩;replace HO467:=zh (yg jAd hb);have HO482:=zh (yy (Kd.R_newB (Kd.R_newM (M:=fun k_=>(P0_ k_∨w.heap.size≤k_)) ho0 jAA (fun k_ h_ => .inr h_)) (g:=gb464) (o:=.cells #[.int .i64 a1_0,.int .i64 a1_1,.string a1_2] 24 (0,0)) je) (zB jR));replace BK464:=zh (cD BK464.out je hb);replace HK:=zh (Kept.below (S:=(fun k_=>P0_ k_)) jk hb);replace HB:=zh (zC jR hb);(try clear hb);(try clear hb2);(try clear hk);(try clear hi);(try clear ho0);obtain ⟨Ao36,co36,eo36⟩:=yk HO482.out;subst eo36))
   go_loopg [0,53] k (fun kq v0 v53 w' => ∃ (x0_1 : List Int) (x53_1 : Int),v53 = .int .i64 x53_1∧Aside0 (F9.l0 kq x0_1 t480 (t480.length : Int) x53_1=some r)∧Aside0 (kq≤k)∧Aside0 (Kd.R (Kd.int .u8) 5 w' w0.heap.size (fun k_=>(P0_ k_∨w.heap.size≤k_)) v0 x0_1)∧Aside0 (Kd.R k24 24 w' w0.heap.size (fun k_=>(P0_ k_∨w.heap.size≤k_)∧k_≠gb464) (.slice Ao36 t480.length co36) t480)∧Aside0 (w'.heap[gb464]? = some (.cells #[.int .i64 a1_0,.int .i64 a1_1,.string a1_2] 24 (0,0)))∧Aside0 (Kept w w' (fun k_=>P0_ k_))∧Aside0 (Below w0.heap.size w0 w'))
   case atStart=>exact ⟨(y465),(0),jE,H',⟨ye _⟩,⟨jAd⟩,⟨by (with_reducible repeat (first|apply zm|apply zn|apply zo));exact zM HO482.out (fun _ hk=>⟨hk.1.1,hk.2⟩)⟩,⟨je⟩,⟨jk⟩,⟨jR⟩⟩
   case round =>
    clear H'
    try clear c1 c2
    try clear p2
    try clear c3 c4 c4b0 c4b1 c5 c6
    try clear p6
    try clear c11 c11b0 c11b1 c13 c21 c21b0 c21b1 c29 c29b0 c29b1 c33
    try clear hcz15_0 hcz15_1 hcz15_2
    try clear hcz17_0 hcz17_1 hcz17_2
    try clear hcz24_0 hcz24_1 hcz24_2
    try clear hcz26_0 hcz26_1 hcz26_2
    try clear hcz32_0 hcz32_1 hcz32_2
    try clear hcz34_0 hcz34_1 hcz34_2
    try clear hcz7_0 hcz7_1 hcz7_2
    try clear hcz9_0 hcz9_1 hcz9_2
    try clear hfz15_0 hfz15_1 hfz15_2
    try clear hfz17_0 hfz17_1 hfz17_2
    try clear hfz24_0 hfz24_1 hfz24_2
    try clear hfz26_0 hfz26_1 hfz26_2
    try clear hfz32_0 hfz32_1 hfz32_2
    try clear hfz34_0 hfz34_1 hfz34_2
    try clear hfz7_0 hfz7_1 hfz7_2
    try clear hfz9_0 hfz9_1 hfz9_2
    obtain ⟨x0_1,x53_1,rfl,HA,HK1,HO_0,HO_51,BK464,HK,HB⟩:=hrel
    cases gk with
    | zero=>exact absurd HA.out (by simp [F9.l0])
    | succ k1 =>
     have H:=HA.out;clear HA;simp only [F9.l0] at H
     by_cases c37 : x53_1<(t480.length : Int)
     ·
      rw [if_pos c37] at H
      have c37b0 : decide (x53_1<(t480.length : Int))=true:=decide_eq_true c37;clear c37
      by_cases c38 : 0≤x53_1
      ·
       rw [if_pos c38] at H
       have c38b0 : decide (0≤x53_1)=true:=decide_eq_true c38;clear c38
       by_cases c39 : x53_1<(t480.length : Int)
       ·
        rw [if_pos c39] at H
        have c39b0 : decide (x53_1<(t480.length : Int))=true:=decide_eq_true c39;clear c39;replace H:=zT.mp H;obtain ⟨t486,A400,H⟩:=H;have A40:=zh A400;clear A400;have H':=zh H;clear H;have p484 : 0≤(x53_1 : Int):=zy jF;have q484 : x53_1<(t480.length : Int):=zy jF;obtain ⟨ad484,e484,hx484_0,hx484_1,hx484_2⟩:=at_T24 (yh HO_51.out).2.2 x53_1 p484 q484
        cases e484
        replace p484:=eq_true p484;replace q484:=eq_true q484
        go_wp2_with (first|((with_reducible refine zK (N:=8) rfl ?_);refine zI ?hg (N:=8) ?hd (cs:=#[.int .i64 0,.int .i64 0,.string (⟨#[]⟩ : ByteArray)]) (t:=24) ?hr ?_;(case hd=>rfl);(case hg=>rfl);(case hr=>go_simp <;> rfl);intro gb485 hg w41 hbox hb;replace HO_0:=zh (yg jAH hb);replace HO_51:=zh (yg (Kd.R_elderB jC2 gb485 (Nat.le_of_eq hg.symm)) hb);have BK485:=zh (hbox);have GW485:=zh ((jC3 : w.heap.size≤gb485));replace HK:=zh (Kept.below (S:=(fun k_=>P0_ k_)) jk hb);have GE485:=zh ((jC4 : w0.heap.size≤gb485));replace HB:=zh (zC jR hb);have NB464_485:=zh ((jC5 : gb464≠gb485));have NB485_464:=zh NB464_485.out.symm;replace BK464:=zh (cD BK464.out je hb);clear hb hbox hg;have hnb42:=NB485_464.out;have hnc42:=NB464_485.out;obtain ⟨hcz43_0,hcz43_1,hcz43_2,hfz43_0,hfz43_1,hfz43_2⟩:=cB3 BK485.out)|((with_reducible refine gate_store (t:=24) (p:=8) rfl ?_);refine store_event (t:=24) (p:=8) (v:=?vo_w44) (w1:=(((w41.setCell ⟨gb485,0,none⟩ (.int .i64 ((rd_T24 t480 x53_1).f0))).setCell ⟨gb485,1,none⟩ (.int .i64 ((rd_T24 t480 x53_1).f1))).setCell ⟨gb485,2,none⟩ (.string ((rd_T24 t480 x53_1).f2)))) ?hg ?ho ?hn ?hr ?_;(case ho=>rfl);(case hg=>rfl);(case hn=>rfl);(case hr=>go_simp <;> rfl);intro w44 hw;replace HO_0 : Aside0 (Kd.R (Kd.int .u8) 5 w44 w0.heap.size (fun k_=>(P0_ k_∨w.heap.size≤k_)) u0 x0_1):=⟨(by rw [hw];exact (by (with_reducible repeat (first|apply zm|apply zn|apply zo));exact zM (zE (p:=⟨gb485,2,none⟩) (zE (p:=⟨gb485,1,none⟩) (zE (p:=⟨gb485,0,none⟩) (yf HO_0.out BK485.out jC) (fun _ hk=>hk.2) (.int .i64 ((rd_T24 t480 x53_1).f0))) (fun _ hk=>hk.2) (.int .i64 ((rd_T24 t480 x53_1).f1))) (fun _ hk=>hk.2) (.string ((rd_T24 t480 x53_1).f2))) (fun _ hk=>hk.1)))⟩;replace HO_51 : Aside0 (Kd.R k24 24 w44 w0.heap.size (fun k_=>(P0_ k_∨w.heap.size≤k_)∧k_≠gb464∧k_≠gb485) (.slice (some ad484) t480.length co36) t480):=⟨(by rw [hw];exact (by (with_reducible repeat (first|apply zm|apply zn|apply zo));exact zM (zE (p:=⟨gb485,2,none⟩) (zE (p:=⟨gb485,1,none⟩) (zE (p:=⟨gb485,0,none⟩) (zM HO_51.out (fun k_ hk=>(⟨hk,hk.2⟩ : _∧k_≠gb485))) (fun _ hk=>hk.2) (.int .i64 ((rd_T24 t480 x53_1).f0))) (fun _ hk=>hk.2) (.int .i64 ((rd_T24 t480 x53_1).f1))) (fun _ hk=>hk.2) (.string ((rd_T24 t480 x53_1).f2))) (fun _ hk=>⟨hk.1.1.1,⟨hk.1.1.2,hk.1.2⟩⟩)))⟩;replace BK464 : Aside0 (w44.heap[gb464]? = some (.cells #[.int .i64 a1_0,.int .i64 a1_1,.string a1_2] 24 (0,0))):=⟨(by rw [hw];exact (by (with_reducible repeat first|apply ze|apply zf|apply zg);refine cS3 ?_ NB464_485.out;(with_reducible repeat first|apply ze|apply zf|apply zg);exact BK464.out))⟩;replace BK485 : Aside0 (w44.heap[gb485]? = some (.cells #[.int .i64 ((rd_T24 t480 x53_1).f0),.int .i64 ((rd_T24 t480 x53_1).f1),.string ((rd_T24 t480 x53_1).f2)] 24 (0,0))):=⟨(by rw [hw];exact (by (with_reducible repeat first|apply ze|apply zf|apply zg);refine zL (cs:=#[.int .i64 ((rd_T24 t480 x53_1).f0),.int .i64 ((rd_T24 t480 x53_1).f1),.string (⟨#[]⟩ : ByteArray)]) ?_ 2 _ rfl;(with_reducible repeat first|apply ze|apply zf|apply zg);refine zL (cs:=#[.int .i64 ((rd_T24 t480 x53_1).f0),.int .i64 0,.string (⟨#[]⟩ : ByteArray)]) ?_ 1 _ rfl;(with_reducible repeat first|apply ze|apply zf|apply zg);refine zL (cs:=#[.int .i64 0,.int .i64 0,.string (⟨#[]⟩ : ByteArray)]) ?_ 0 _ rfl;(with_reducible repeat first|apply ze|apply zf|apply zg);exact BK485.out))⟩;replace HK : Aside0 (Kept w w44 (fun k_=>P0_ k_)):=⟨(by rw [hw];exact jCB)⟩;replace HB : Aside0 (Below w0.heap.size w0 w44):=⟨(by rw [hw];exact jC6)⟩;clear hw;obtain ⟨hcz45_0,hcz45_1,hcz45_2,hfz45_0,hfz45_1,hfz45_2⟩:=cB3 BK485.out;obtain ⟨Ao46,co46,eo46⟩:=yk HO_0.out;subst eo46)|((with_reducible refine zJ (f:=41) rfl ?_);refine yj (some 59) rfl rfl Try.func41 jA rfl #[.slice Ao46 x0_1.length co46,.agg #[.int .i64 ((rd_T24 t480 x53_1).f0),.int .i64 ((rd_T24 t480 x53_1).f1),.string ((rd_T24 t480 x53_1).f2)]] rfl jB ?_;(with_reducible refine (ih k1 jN  (fun k_=>some k_=(.slice Ao46 x0_1.length co46 : Value).ownBlock) (.slice Ao46 x0_1.length co46) x0_1 ((rd_T24 t480 x53_1).f0) ((rd_T24 t480 x53_1).f1) ((rd_T24 t480 x53_1).f2) t486 w0 _ ?side1 ?side2 A40.out).mono ?_);(case side1=>repeat (with_reducible first|exact HB.out|apply za|apply zb|apply zc|refine zd ?_ GE464.out|refine zd ?_ GE485.out));(case side2=>exact Kd.R_tight rfl HO_0.out);rintro e w47 ⟨v487,rfl,ho0,hb,hkp⟩;refine ⟨_,rfl,?_⟩;replace HO_51:=zh (zM (ok':=fun k_=>(P0_ k_∨w.heap.size≤k_)∧k_≠gb464∧k_≠gb485) (Kd.R_keptB ((Kd.R_apart' HO_51.out (Kd.R_typed HO_0.out) jC)) hkp (fun k_ hk_ hs_=>(hk_.2) hs_)) (fun k_ hk_=>⟨hk_.1.1.1,hk_.1.1.2.1,hk_.1.1.2.2⟩));replace BK464:=zh (blk_kept je hkp (fun hs_=>(fun e_=>(Kd.R_ne HO_0.out BK464.out jC) e_) hs_));replace BK485:=zh (blk_kept (by (with_reducible repeat first|apply ze|apply zf|apply zg);exact BK485.out) hkp (fun hs_=>(fun e_=>(Kd.R_ne HO_0.out BK485.out jC) e_) hs_));have HO488:=zh (zM (ok':=fun k_=>(P0_ k_∨w.heap.size≤k_)) ho0 (fun k_ hk_=>Or.elim hk_ (fun hs_=>(HO_0.out.1 k_ (hs_).symm)) (fun hn_=>(.inr (Nat.le_trans (by first|exact HK.out.1|exact (show Kept w _ (fun k_=>P0_ k_) from by repeat (with_reducible first|exact HK.out|apply zr|apply zp|apply zq|refine zs ?_ (.inr GW464.out) _|refine zs ?_ (.inr GW485.out) _)).1) hn_)))));replace HK:=zh (Kept.then_ (S:=(fun k_=>P0_ k_)) jCB hkp (fun k_ hs_=>(fun e_=>(HO_0.out.1 k_ e_.symm)) hs_));replace HB:=zh (hb);clear HO_0;(try clear hb);(try clear hkp);(try clear ho0)))
        go_roundg k1
        case measure=>have:=HK1.out;omega
        case rel=>exact ⟨(t486),(wrap64 (x53_1+1)),jE,H',⟨jN⟩,⟨by (with_reducible repeat (first|apply zm|apply zn|apply zo));exact HO488.out⟩,⟨by (with_reducible repeat (first|apply zm|apply zn|apply zo));exact zM HO_51.out (fun _ hk=>⟨hk.1,hk.2.1⟩)⟩,⟨je⟩,⟨jCB⟩,⟨jC6⟩⟩
       rw [if_neg c39] at H;exact absurd H (by simp)
      rw [if_neg c38] at H;exact absurd H (by simp)
     rw [if_neg c37] at H;have c37b0 : decide (x53_1<(t480.length : Int))=false:=decide_eq_false c37;clear c37
     by_cases c48 : x0_1.length<140737488355328
     ·
      rw [if_pos c48] at H
      have LMc48:=zh c48;clear c48;obtain ⟨y489,hy489⟩ : ∃ y_ : List Int,y_=(x0_1 ++ [0]):=⟨_,rfl⟩;replace H : (some y489)=some r:=by first|(rw [hy489];with_reducible exact H)|(have H2_:=(Option.bind_some _ _).symm.trans H;rw [hy489];with_reducible exact H2_)|(have H2_:=(Option.bind_some _ _).symm.trans H;with_reducible exact H2_)|with_reducible exact H|(rw [hy489];exact H)|exact H
      have Ny489:=zh hy489;clear hy489;obtain rfl:=zU H
      go_wp2_with (first|((with_reducible refine yB (b:=.append) (xs:=#[.tmp 61,.tmp 62]) rfl ?_);at_builtin;refine Kd.R_append (Kd.int .u8) (w0:=w0) w0.heap.size rfl (.tmp 61) (.tmp 62) 22 5 (.int .u8 0) 1 rfl Try.underlying22 info5 rfl jC jH u0 x0_1 0 [.int .u8 0] (fun k_=>(P0_ k_∨w.heap.size≤k_)) (fun _=>False) rfl rfl ?aP (fun _ hk=>hk.elim) ?aF ?aO ?aB ?aS ?aL ?_;(case aP=>exact rfl);(case aB=>exact jR);(case aF=>exact (fun k_ hk=>(.inr (Nat.le_trans jAA hk))));(case aO=>exact jAH);(case aS=>exact (zB jR));(case aL=>have:=LMc48.out;omega);intro v490 w49 ho hb hg hat;rw [← Ny489.out] at ho;replace HO_51:=zh (Kd.R_over' jC2 (Kd.R_typed jAH) jC hg);replace BK464:=zh (yw (g:=gb464) (o:=.cells #[.int .i64 a1_0,.int .i64 a1_1,.string a1_2] 24 (0,0)) je hg (Kd.R_ne HO_0.out BK464.out jC));replace HB:=zh (hb);replace HK:=zh (yA (S:=(fun k_=>P0_ k_)) hg jk (fun k_ e_=>(HO_0.out.1 k_ e_)));have HO491:=zh (ho);clear HO_0 ho hb hg hat))
      go_ret
      exact ⟨_,jG,by (with_reducible repeat (first|apply zm|apply zn|apply zo));exact HO491.out,jR,jk⟩
     rw [if_neg c48] at H;exact absurd H (by simp)
  rw [if_neg c29] at H;have c29b0 : (a1_0 == 4)=false:=zY.mpr c29;have c29b1 : (a1_0 != 4)=true:=zZ.mpr c29
  by_cases c50 : a1_0=5
  ·
   rw [if_pos c50] at H
   have c50b0 : (a1_0 == 5)=true:=ya.mpr c50;have c50b1 : (a1_0 != 5)=false:=zX.mpr c50;clear c50;replace H:=zT.mp H;obtain ⟨⟨t492,t495⟩,A510,H⟩:=H;have A51:=zh A510;clear A510;have H':=zh H;clear H
   go_enter Try.func41,Try.ntmps41
   go_wp2_with (first|((with_reducible refine zK (N:=3) rfl ?_);refine zI ?hg (N:=3) ?hd (cs:=#[.int .i64 a1_0,.int .i64 a1_1,.string a1_2]) (t:=24) ?hr ?_;(case hd=>rfl);(case hg=>rfl);(case hr=>go_simp <;> rfl);intro gb464 hg w52 hbox hb;replace HO0:=zh (yg jAG hb);have BK464:=zh (hbox);have GW464:=zh ((jBA : w.heap.size≤gb464));replace HK:=zh (Kept.below (S:=(fun k_=>P0_ k_)) jz hb);have GE464:=zh ((jBB : w0.heap.size≤gb464));replace HB:=zh (zC jD hb);clear hb hbox hg;obtain ⟨hcz53_0,hcz53_1,hcz53_2,hfz53_0,hfz53_1,hfz53_2⟩:=cB3 BK464.out)|((with_reducible refine yB (b:=.append) (xs:=#[.tmp 13,.tmp 18]) rfl ?_);at_builtin;refine Kd.R_append (Kd.int .u8) (w0:=w0) w0.heap.size rfl (.tmp 13) (.tmp 18) 22 5 (.int .u8 0) 1 rfl Try.underlying22 info5 rfl jC jH u9000_ l0 ((wrap64 (a1_0+1)) % 256) [.int .u8 ((wrap64 (a1_0+1)) % 256)] (fun k_=>(P0_ k_∨w.heap.size≤k_)) (fun _=>False) rfl rfl ?aP (fun _ hk=>hk.elim) ?aF ?aO ?aB ?aS ?aL ?_;(case aP=>exact rfl);(case aB=>exact jR);(case aF=>exact (fun k_ hk=>(.inr (Nat.le_trans jAA hk))));(case aO=>exact jAG);(case aS=>exact (zB jR));(case aL=>have:=LMc3.out;omega);intro v466 w54 ho hb hg hat;rw [← Ny465.out] at ho;replace BK464:=zh (yw (g:=gb464) (o:=.cells #[.int .i64 a1_0,.int .i64 a1_1,.string a1_2] 24 (0,0)) je hg (Kd.R_ne HO0.out BK464.out jC));replace HB:=zh (hb);replace HK:=zh (yA (S:=(fun k_=>P0_ k_)) hg jk (fun k_ e_=>(HO0.out.1 k_ e_)));have HO467:=zh (ho);clear HO0 ho hb hg hat;obtain ⟨hcz55_0,hcz55_1,hcz55_2,hfz55_0,hfz55_1,hfz55_2⟩:=cB3 BK464.out)|((with_reducible refine zJ (f:=35) rfl ?_);refine yj (some 68) rfl rfl Try.func35 jA rfl #[.agg #[.int .i64 a1_0,.int .i64 a1_1,.string a1_2]] rfl jB ?_;(with_reducible refine (F4.calls k  a1_0 a1_1 a1_2 t492 t495 _ A51.out).mono ?_);rintro e w56 ⟨v493,rfl,ho0,hb⟩;refine ⟨_,rfl,?_⟩;replace HO467:=zh (yg jAd hb);have HO494:=zh (yy (Kd.R_newM (M:=fun k_=>(P0_ k_∨w.heap.size≤k_)) ho0 jAA (fun k_ h_ => .inr h_)) (zB jR));replace BK464:=zh (cD BK464.out je hb);replace HK:=zh (Kept.below (S:=(fun k_=>P0_ k_)) jk hb);replace HB:=zh (zC jR hb);(try clear hb);(try clear hb2);(try clear hk);(try clear hi);(try clear ho0);obtain ⟨Ao57,co57,eo57⟩:=yk HO494.out;subst eo57))
   go_loopg [0,73] k (fun kq v0 v73 w' => ∃ (x0_1 : List Int) (x73_1 : Int),v73 = .int .i64 x73_1∧Aside0 (F9.l1 kq x0_1 t492 (t492.length : Int) x73_1=some r)∧Aside0 (kq≤k)∧Aside0 (Kd.R (Kd.int .u8) 5 w' w0.heap.size (fun k_=>(P0_ k_∨w.heap.size≤k_)) v0 x0_1)∧Aside0 (Kd.R k68 68 w' w0.heap.size (fun k_=>(P0_ k_∨w.heap.size≤k_)) (.slice Ao57 t492.length co57) t492)∧Aside0 (w'.heap[gb464]? = some (.cells #[.int .i64 a1_0,.int .i64 a1_1,.string a1_2] 24 (0,0)))∧Aside0 (Kept w w' (fun k_=>P0_ k_))∧Aside0 (Below w0.heap.size w0 w'))
   case atStart=>exact ⟨(y465),(0),jE,H',⟨ye _⟩,⟨jAd⟩,⟨by (with_reducible repeat (first|apply zm|apply zn|apply zo));exact zM HO494.out (fun _ hk=>hk.1)⟩,⟨je⟩,⟨jk⟩,⟨jR⟩⟩
   case round =>
    clear H'
    try clear c1 c2
    try clear p2
    try clear c3 c4 c4b0 c4b1
    try clear p4
    try clear q4
    try clear hx4
    try clear c5 c6
    try clear p6
    try clear c11 c11b0 c11b1 c13 c21 c21b0 c21b1 c29 c29b0 c29b1 c33 c35 c37 c37b0 c38 c38b0 c39 c39b0 c41 c42 c48
    try clear p48
    try clear q48
    try clear hx48
    try clear c50 c50b0 c50b1
    try clear hcz15_0 hcz15_1 hcz15_2
    try clear hcz17_0 hcz17_1 hcz17_2
    try clear hcz24_0 hcz24_1 hcz24_2
    try clear hcz26_0 hcz26_1 hcz26_2
    try clear hcz32_0 hcz32_1 hcz32_2
    try clear hcz34_0 hcz34_1 hcz34_2
    try clear hcz43_0 hcz43_1 hcz43_2
    try clear hcz45_0 hcz45_1 hcz45_2
    try clear hcz53_0 hcz53_1 hcz53_2
    try clear hcz55_0 hcz55_1 hcz55_2
    try clear hcz7_0 hcz7_1 hcz7_2
    try clear hcz9_0 hcz9_1 hcz9_2
    try clear hfz15_0 hfz15_1 hfz15_2
    try clear hfz17_0 hfz17_1 hfz17_2
    try clear hfz24_0 hfz24_1 hfz24_2
    try clear hfz26_0 hfz26_1 hfz26_2
    try clear hfz32_0 hfz32_1 hfz32_2
    try clear hfz34_0 hfz34_1 hfz34_2
    try clear hfz43_0 hfz43_1 hfz43_2
    try clear hfz45_0 hfz45_1 hfz45_2
    try clear hfz53_0 hfz53_1 hfz53_2
    try clear hfz55_0 hfz55_1 hfz55_2
    try clear hfz7_0 hfz7_1 hfz7_2
    try clear hfz9_0 hfz9_1 hfz9_2
    try clear hx484_0
    try clear hx484_1
    try clear hx484_2
    try clear p2
    try clear p484
    try clear p6
    try clear q484
    obtain ⟨x0_1,x73_1,rfl,HA,HK1,HO_0,HO_71,BK464,HK,HB⟩:=hrel
    cases gk with
    | zero=>exact absurd HA.out (by simp [F9.l1])
    | succ k1 =>
     have H:=HA.out;clear HA;simp only [F9.l1] at H
     by_cases c58 : x73_1<(t492.length : Int)
     ·
      rw [if_pos c58] at H
      have c58b0 : decide (x73_1<(t492.length : Int))=true:=decide_eq_true c58;clear c58
      by_cases c59 : 0≤x73_1
      ·
       rw [if_pos c59] at H
       have c59b0 : decide (0≤x73_1)=true:=decide_eq_true c59;clear c59
       by_cases c60 : x73_1<(t492.length : Int)
       ·
        rw [if_pos c60] at H
        have c60b0 : decide (x73_1<(t492.length : Int))=true:=decide_eq_true c60;clear c60
        by_cases c61 : x0_1.length<140737488355328
        ·
         rw [if_pos c61] at H
         have LMc61:=zh c61;clear c61;obtain ⟨y498,hy498⟩ : ∃ y_ : List Int,y_=(x0_1 ++ [1]):=⟨_,rfl⟩;replace H : ((Ft.f k1 y498 ((rd_T68 t492 x73_1).f0)).bind fun t501=>((F9.f k1 t501 ((rd_T68 t492 x73_1).f1.f0) ((rd_T68 t492 x73_1).f1.f1) ((rd_T68 t492 x73_1).f1.f2)).bind fun t504=>(F9.l1 k1 t504 t492 (t492.length : Int) (wrap64 (x73_1+1)))))=some r:=by first|(rw [hy498];with_reducible exact H)|(have H2_:=(Option.bind_some _ _).symm.trans H;rw [hy498];with_reducible exact H2_)|(have H2_:=(Option.bind_some _ _).symm.trans H;with_reducible exact H2_)|with_reducible exact H|(rw [hy498];exact H)|exact H
         have Ny498:=zh hy498;clear hy498;replace H:=zT.mp H;obtain ⟨t501,A620,H⟩:=H;have A62:=zh A620;clear A620;replace H:=zT.mp H;obtain ⟨t504,A630,H⟩:=H;have A63:=zh A630;clear A630;have H':=zh H;clear H;have p496 : 0≤(x73_1 : Int):=zy jF;have q496 : x73_1<(t492.length : Int):=zy jF;obtain ⟨ad496,e496,hx496_0,hx496_1,hx496_2,hx496_3⟩:=at_T68 (yh HO_71.out).2.2 x73_1 p496 q496
         cases e496
         replace p496:=eq_true p496;replace q496:=eq_true q496
         try go_wp2_with (first|((with_reducible refine zK (N:=12) rfl ?_);refine zI ?hg (N:=12) ?hd (cs:=#[.string (⟨#[]⟩ : ByteArray),.int .i64 0,.int .i64 0,.string (⟨#[]⟩ : ByteArray)]) (t:=68) ?hr ?_;(case hd=>rfl);(case hg=>rfl);(case hr=>go_simp <;> rfl);intro gb497 hg w64 hbox hb;replace HO_0:=zh (yg jAH hb);replace HO_71:=zh (yg (Kd.R_elderB jCC gb497 (Nat.le_of_eq hg.symm)) hb);have BK497:=zh (hbox);have GW497:=zh ((jC3 : w.heap.size≤gb497));replace HK:=zh (Kept.below (S:=(fun k_=>P0_ k_)) jk hb);have GE497:=zh ((jC4 : w0.heap.size≤gb497));replace HB:=zh (zC jR hb);have NB464_497:=zh ((jC5 : gb464≠gb497));have NB497_464:=zh NB464_497.out.symm;replace BK464:=zh (cD BK464.out je hb);clear hb hbox hg;have hnb65:=NB497_464.out;have hnc65:=NB464_497.out;obtain ⟨hcz66_0,hcz66_1,hcz66_2,hcz66_3,hfz66_0,hfz66_1,hfz66_2,hfz66_3⟩:=cB4 BK497.out))
         have n0_ : Aside0 (Kd.R (Kd.int .u8) 5 ((((w64.setCell ⟨gb497,0,none⟩ (.string ((rd_T68 t492 x73_1).f0))).setCell ⟨gb497,1,none⟩ (.int .i64 ((rd_T68 t492 x73_1).f1.f0))).setCell ⟨gb497,2,none⟩ (.int .i64 ((rd_T68 t492 x73_1).f1.f1))).setCell ⟨gb497,3,none⟩ (.string ((rd_T68 t492 x73_1).f1.f2))) w0.heap.size (fun k_=>(P0_ k_∨w.heap.size≤k_)) u0 x0_1):=⟨by (with_reducible repeat (first|apply zm|apply zn|apply zo));exact zM (zE (p:=⟨gb497,3,none⟩) (zE (p:=⟨gb497,2,none⟩) (zE (p:=⟨gb497,1,none⟩) (zE (p:=⟨gb497,0,none⟩) (yf HO_0.out BK497.out jC) (fun _ hk=>hk.2) (.string ((rd_T68 t492 x73_1).f0))) (fun _ hk=>hk.2) (.int .i64 ((rd_T68 t492 x73_1).f1.f0))) (fun _ hk=>hk.2) (.int .i64 ((rd_T68 t492 x73_1).f1.f1))) (fun _ hk=>hk.2) (.string ((rd_T68 t492 x73_1).f1.f2))) (fun _ hk=>hk.1)⟩;have n1_ : Aside0 (Kd.R k68 68 ((((w64.setCell ⟨gb497,0,none⟩ (.string ((rd_T68 t492 x73_1).f0))).setCell ⟨gb497,1,none⟩ (.int .i64 ((rd_T68 t492 x73_1).f1.f0))).setCell ⟨gb497,2,none⟩ (.int .i64 ((rd_T68 t492 x73_1).f1.f1))).setCell ⟨gb497,3,none⟩ (.string ((rd_T68 t492 x73_1).f1.f2))) w0.heap.size (fun k_=>(P0_ k_∨w.heap.size≤k_)∧k_≠gb497) (.slice (some ad496) t492.length co57) t492):=⟨by (with_reducible repeat (first|apply zm|apply zn|apply zo));exact zM (zE (p:=⟨gb497,3,none⟩) (zE (p:=⟨gb497,2,none⟩) (zE (p:=⟨gb497,1,none⟩) (zE (p:=⟨gb497,0,none⟩) (zM HO_71.out (fun k_ hk=>(⟨hk,hk.2⟩ : _∧k_≠gb497))) (fun _ hk=>hk.2) (.string ((rd_T68 t492 x73_1).f0))) (fun _ hk=>hk.2) (.int .i64 ((rd_T68 t492 x73_1).f1.f0))) (fun _ hk=>hk.2) (.int .i64 ((rd_T68 t492 x73_1).f1.f1))) (fun _ hk=>hk.2) (.string ((rd_T68 t492 x73_1).f1.f2))) (fun _ hk=>⟨hk.1.1,hk.1.2⟩)⟩;have n2_ : Aside0 (((((w64.setCell ⟨gb497,0,none⟩ (.string ((rd_T68 t492 x73_1).f0))).setCell ⟨gb497,1,none⟩ (.int .i64 ((rd_T68 t492 x73_1).f1.f0))).setCell ⟨gb497,2,none⟩ (.int .i64 ((rd_T68 t492 x73_1).f1.f1))).setCell ⟨gb497,3,none⟩ (.string ((rd_T68 t492 x73_1).f1.f2))).heap[gb464]? = some (.cells #[.int .i64 a1_0,.int .i64 a1_1,.string a1_2] 24 (0,0))):=⟨by (with_reducible repeat first|apply ze|apply zf|apply zg);refine cS4 ?_ NB464_497.out;(with_reducible repeat first|apply ze|apply zf|apply zg);exact BK464.out⟩;have n3_ : Aside0 (((((w64.setCell ⟨gb497,0,none⟩ (.string ((rd_T68 t492 x73_1).f0))).setCell ⟨gb497,1,none⟩ (.int .i64 ((rd_T68 t492 x73_1).f1.f0))).setCell ⟨gb497,2,none⟩ (.int .i64 ((rd_T68 t492 x73_1).f1.f1))).setCell ⟨gb497,3,none⟩ (.string ((rd_T68 t492 x73_1).f1.f2))).heap[gb497]? = some (.cells #[.string ((rd_T68 t492 x73_1).f0),.int .i64 ((rd_T68 t492 x73_1).f1.f0),.int .i64 ((rd_T68 t492 x73_1).f1.f1),.string ((rd_T68 t492 x73_1).f1.f2)] 68 (0,0))):=⟨by (with_reducible repeat first|apply ze|apply zf|apply zg);refine zL (cs:=#[.string ((rd_T68 t492 x73_1).f0),.int .i64 ((rd_T68 t492 x73_1).f1.f0),.int .i64 ((rd_T68 t492 x73_1).f1.f1),.string (⟨#[]⟩ : ByteArray)]) ?_ 3 _ rfl;(with_reducible repeat first|apply ze|apply zf|apply zg);refine zL (cs:=#[.string ((rd_T68 t492 x73_1).f0),.int .i64 ((rd_T68 t492 x73_1).f1.f0),.int .i64 0,.string (⟨#[]⟩ : ByteArray)]) ?_ 2 _ rfl;(with_reducible repeat first|apply ze|apply zf|apply zg);refine zL (cs:=#[.string ((rd_T68 t492 x73_1).f0),.int .i64 0,.int .i64 0,.string (⟨#[]⟩ : ByteArray)]) ?_ 1 _ rfl;(with_reducible repeat first|apply ze|apply zf|apply zg);refine zL (cs:=#[.string (⟨#[]⟩ : ByteArray),.int .i64 0,.int .i64 0,.string (⟨#[]⟩ : ByteArray)]) ?_ 0 _ rfl;(with_reducible repeat first|apply ze|apply zf|apply zg);exact BK497.out⟩;have n4_ : Aside0 (Kept w ((((w64.setCell ⟨gb497,0,none⟩ (.string ((rd_T68 t492 x73_1).f0))).setCell ⟨gb497,1,none⟩ (.int .i64 ((rd_T68 t492 x73_1).f1.f0))).setCell ⟨gb497,2,none⟩ (.int .i64 ((rd_T68 t492 x73_1).f1.f1))).setCell ⟨gb497,3,none⟩ (.string ((rd_T68 t492 x73_1).f1.f2))) (fun k_=>P0_ k_)):=⟨jBJ⟩;have n5_ : Aside0 (Below w0.heap.size w0 ((((w64.setCell ⟨gb497,0,none⟩ (.string ((rd_T68 t492 x73_1).f0))).setCell ⟨gb497,1,none⟩ (.int .i64 ((rd_T68 t492 x73_1).f1.f0))).setCell ⟨gb497,2,none⟩ (.int .i64 ((rd_T68 t492 x73_1).f1.f1))).setCell ⟨gb497,3,none⟩ (.string ((rd_T68 t492 x73_1).f1.f2)))):=⟨jBf⟩;(try clear HO_0);(try clear HO_71);(try clear BK464);(try clear BK497);(try clear HK);(try clear HB);generalize ((((w64.setCell ⟨gb497,0,none⟩ (.string ((rd_T68 t492 x73_1).f0))).setCell ⟨gb497,1,none⟩ (.int .i64 ((rd_T68 t492 x73_1).f1.f0))).setCell ⟨gb497,2,none⟩ (.int .i64 ((rd_T68 t492 x73_1).f1.f1))).setCell ⟨gb497,3,none⟩ (.string ((rd_T68 t492 x73_1).f1.f2)))=w67 at n0_ n1_ n2_ n3_ n4_ n5_ ⊢;have HO_0:=n0_;have HO_71:=n1_;have BK464:=n2_;have BK497:=n3_;have HK:=n4_;have HB:=n5_;clear n0_ n1_ n2_ n3_ n4_ n5_;replace HO_0:=zh (zo HO_0.out);replace HO_71:=zh (zo HO_71.out);replace BK464:=zh (zf BK464.out);replace BK497:=zh (zf BK497.out);replace HK:=zh (zq HK.out);replace HB:=zh (zc HB.out);refine start_ (n:=10) (S:=fun w' => w'.cell? ⟨gb497,0,none⟩=some (.string ((rd_T68 t492 x73_1).f0))∧w'.cell? ⟨gb497,1,none⟩=some (.int .i64 ((rd_T68 t492 x73_1).f1.f0))∧w'.cell? ⟨gb497,2,none⟩=some (.int .i64 ((rd_T68 t492 x73_1).f1.f1))∧w'.cell? ⟨gb497,3,none⟩=some (.string ((rd_T68 t492 x73_1).f1.f2))) (ds:=[]) (bm_ 0 10) jA rfl rfl ⟨(zz BK497.out 0).trans rfl,(zz BK497.out 1).trans rfl,(zz BK497.out 2).trans rfl,(zz BK497.out 3).trans rfl⟩ (fun hHeld=>?_);refine with_tabW F9.tab22 F9.bits22 (fun HT_ HW_=>?_);generalize w67.drew=w68 at HO_0 HO_71 BK464 BK497 HK HB hHeld ⊢;refine pure_ (i:=0) (N:=some 77) (v:=?_) (a':=?_) (bm_ 1 10) rfl rfl (any_of HT_.out jA) (fun _ _ _ h=>h) (Or.inl ⟨by rfl,?_⟩) ?_ ?_;rotate_left;exact jb;rotate_left;exact jc
         refine pure_ (i:=3) (N:=some 80) (v:=?_) (a':=?_) #[true,false,false,true,false,false,false,false,false,false] rfl rfl (any_of HT_.out jA) (fun _ _ _ h=>h) (Or.inl ⟨by rfl,?_⟩) ?_ ?_;rotate_left;exact jb;rotate_left;exact jc
         refine pure_ (i:=6) (N:=some 83) (v:=?_) (a':=?_) #[true,false,false,true,false,false,true,false,false,false] rfl rfl (any_of HT_.out jA) (fun _ _ _ h=>h) (Or.inl ⟨by rfl,?_⟩) ?_ ?_;rotate_left;exact jb;rotate_left;exact jc
         refine take_ (i:=4) (N:=some 81) (v:=?_) (a':=?_) #[true,false,false,true,true,false,true,false,false,false] rfl rfl (yo HT_.out HW_.out jA) (fun _ _ _ h=>h) (Or.inl ⟨by rfl,?_⟩) hHeld ?_ ?_;rotate_left
         ·
          rintro w' ⟨s0,s1,s2,s3⟩
          go_simp
          with_reducible rfl
         rotate_left
         exact jc
         refine take_ (i:=7) (N:=some 84) (v:=?_) (a':=?_) #[true,false,false,true,true,false,true,true,false,false] rfl rfl (yo HT_.out HW_.out jA) (fun _ _ _ h=>h) (Or.inl ⟨by rfl,?_⟩) hHeld ?_ ?_;rotate_left
         ·
          rintro w' ⟨s0,s1,s2,s3⟩
          go_simp
          with_reducible rfl
         rotate_left
         exact jc
         refine one_ (i:=1) (N:=some 78) #[true,true,false,true,true,false,true,true,false,false] rfl rfl (one_of HT_.out jA) jC (fun K hK=>?_);refine value_ (w1:=?_) (v:=?_) (by rfl) rfl ?_ ?_;rotate_left 2
         ·
          go_simp
          constructor
          ·
           rfl
          rfl
         refine hK.out _ _ ⟨(zz (zg BK497.out _) 0).trans rfl,(zz (zg BK497.out _) 1).trans rfl,(zz (zg BK497.out _) 2).trans rfl,(zz (zg BK497.out _) 3).trans rfl⟩ (fun hHeld=>?_);clear hK K;refine norm_ (a':=?_) ?_ ?_;rotate_left
         ·
          show Act.put _ (some 78) _=_
          simp only [Act.put,zi,zj,zk,zG,zH]
          rfl
         refine one_ (i:=2) (N:=some 79) #[true,true,true,true,true,false,true,true,false,false] rfl rfl (one_of HT_.out jA) jC (fun K hK=>?_);refine Kd.R_append_step (Kd.int .u8) (w0:=w0) w0.heap.size (by rfl) (.tmp 77) (.tmp 78) 22 5 (.int .u8 0) 1 rfl Try.underlying22 info5 rfl jC jH u0 x0_1 1 [.int .u8 1] (fun k_=>(P0_ k_∨w.heap.size≤k_)) (fun _=>False) rfl rfl ?aP (fun _ hk=>hk.elim) ?aF ?aO ?aB ?aS ?aL ?_;(case aP=>exact rfl)
         (case aB=>exact jBf)
         (case aF=>exact (fun k_ hk=>(.inr (Nat.le_trans jCD hk))))
         (case aO=>exact jAH)
         (case aS=>exact (zB jBf))
         (case aL=>have:=LMc61.out;omega)
         intro v499 w69 ho hb hg hat;rw [← Ny498.out] at ho;replace HO_71:=zh (Kd.R_over' jCC (Kd.R_typed jAH) jC hg);replace BK464:=zh (yw (g:=gb464) (o:=.cells #[.int .i64 a1_0,.int .i64 a1_1,.string a1_2] 24 (0,0)) je hg (Kd.R_ne HO_0.out BK464.out jC));replace BK497:=zh (yw (g:=gb497) (o:=.cells #[.string ((rd_T68 t492 x73_1).f0),.int .i64 ((rd_T68 t492 x73_1).f1.f0),.int .i64 ((rd_T68 t492 x73_1).f1.f1),.string ((rd_T68 t492 x73_1).f1.f2)] 68 (0,0)) jCE hg (Kd.R_ne HO_0.out BK497.out jC));replace HB:=zh (hb);replace HK:=zh (yA (S:=(fun k_=>P0_ k_)) hg jBJ (fun k_ e_=>(HO_0.out.1 k_ e_)));have HO500:=zh (ho);clear HO_0 ho hb hg hat;obtain ⟨Ao70,co70,eo70⟩:=yk HO500.out;(first|subst eo70|(injection eo70 with f1_ f2_ f3_;have f4_:=f1_.symm;have f5_:=f3_.symm;clear f1_ f2_ f3_;subst f4_;subst f5_));refine hK.out _ _ ⟨(zz BK497.out 0).trans rfl,(zz BK497.out 1).trans rfl,(zz BK497.out 2).trans rfl,(zz BK497.out 3).trans rfl⟩ (fun hHeld=>?_);clear hK K;refine norm_ (a':=?_) ?_ ?_;rotate_left
         ·
          show Act.put _ (some 79) _=_
          simp only [Act.put,zi,zj,zk,zG,zH]
          rfl
         refine one_ (i:=5) (N:=some 82) (bm_ 8 10) rfl rfl (one_of HT_.out jA) jC (fun K hK=>?_);refine goes_ Try.func63 jA rfl #[.slice Ao70 y498.length co70,.string ((rd_T68 t492 x73_1).f0)] (by rfl) rfl rfl jB ?_
         with_reducible refine (Ft.calls k1  (fun k_=>some k_=(.slice Ao70 y498.length co70 : Value).ownBlock) (.slice Ao70 y498.length co70) y498 ((rd_T68 t492 x73_1).f0) t501 w0 _ ?side1 ?side2 A62.out).mono ?_
         (case side1=>repeat (with_reducible first|exact HB.out|apply za|apply zb|apply zc|refine zd ?_ GE464.out|refine zd ?_ GE497.out))
         (case side2=>exact Kd.R_tight rfl HO500.out)
         rintro e w71 ⟨v502,rfl,ho0,hb,hkp⟩;refine ⟨_,rfl,?_⟩;replace HO_71:=zh (zM (ok':=fun k_=>(P0_ k_∨w.heap.size≤k_)∧k_≠gb497) (Kd.R_keptB ((Kd.R_apart' HO_71.out (Kd.R_typed HO500.out) jC)) hkp (fun k_ hk_ hs_=>(hk_.2) hs_)) (fun k_ hk_=>⟨hk_.1.1.1,hk_.1.1.2⟩));replace BK464:=zh (blk_kept je hkp (fun hs_=>(fun e_=>(Kd.R_ne HO500.out BK464.out jC) e_) hs_));replace BK497:=zh (blk_kept jCE hkp (fun hs_=>(fun e_=>(Kd.R_ne HO500.out BK497.out jC) e_) hs_));have HO503:=zh (zM (ok':=fun k_=>(P0_ k_∨w.heap.size≤k_)) ho0 (fun k_ hk_=>Or.elim hk_ (fun hs_=>(HO500.out.1 k_ (hs_).symm)) (fun hn_=>(.inr (Nat.le_trans jCD hn_)))));replace HK:=zh (Kept.then_ (S:=(fun k_=>P0_ k_)) jBJ hkp (fun k_ hs_=>(fun e_=>(HO500.out.1 k_ e_.symm)) hs_));replace HB:=zh (hb);clear HO500;(try clear hb);(try clear hkp);(try clear ho0);obtain ⟨Ao72,co72,eo72⟩:=yk HO503.out;(first|subst eo72|(injection eo72 with f1_ f2_ f3_;have f4_:=f1_.symm;have f5_:=f3_.symm;clear f1_ f2_ f3_;subst f4_;subst f5_));refine hK.out _ _ ⟨(zz BK497.out 0).trans rfl,(zz BK497.out 1).trans rfl,(zz BK497.out 2).trans rfl,(zz BK497.out 3).trans rfl⟩ (fun hHeld=>?_);clear hK K;refine norm_ (a':=?_) ?_ ?_;rotate_left
         ·
          show Act.put _ (some 82) _=_
          simp only [Act.put,zi,zj,zk,zG,zH]
          rfl
         refine one_ (i:=8) (N:=some 85) (bm_ 9 10) rfl rfl (one_of HT_.out jA) jC (fun K hK=>?_);refine goes_ Try.func41 jA rfl #[.slice Ao72 t501.length co72,.agg #[.int .i64 ((rd_T68 t492 x73_1).f1.f0),.int .i64 ((rd_T68 t492 x73_1).f1.f1),.string ((rd_T68 t492 x73_1).f1.f2)]] (by rfl) rfl rfl jB ?_
         with_reducible refine (ih k1 jN  (fun k_=>some k_=(.slice Ao72 t501.length co72 : Value).ownBlock) (.slice Ao72 t501.length co72) t501 ((rd_T68 t492 x73_1).f1.f0) ((rd_T68 t492 x73_1).f1.f1) ((rd_T68 t492 x73_1).f1.f2) t504 w0 _ ?side1 ?side2 A63.out).mono ?_
         (case side1=>repeat (with_reducible first|exact HB.out|apply za|apply zb|apply zc|refine zd ?_ GE464.out|refine zd ?_ GE497.out))
         (case side2=>exact Kd.R_tight rfl HO503.out)
         rintro e w73 ⟨v505,rfl,ho0,hb,hkp⟩;refine ⟨_,rfl,?_⟩;replace HO_71:=zh (zM (ok':=fun k_=>(P0_ k_∨w.heap.size≤k_)∧k_≠gb497) (Kd.R_keptB ((Kd.R_apart' HO_71.out (Kd.R_typed HO503.out) jC)) hkp (fun k_ hk_ hs_=>(hk_.2) hs_)) (fun k_ hk_=>⟨hk_.1.1.1,hk_.1.1.2⟩));replace BK464:=zh (blk_kept je hkp (fun hs_=>(fun e_=>(Kd.R_ne HO503.out BK464.out jC) e_) hs_));replace BK497:=zh (blk_kept jCE hkp (fun hs_=>(fun e_=>(Kd.R_ne HO503.out BK497.out jC) e_) hs_));have HO506:=zh (zM (ok':=fun k_=>(P0_ k_∨w.heap.size≤k_)) ho0 (fun k_ hk_=>Or.elim hk_ (fun hs_=>(HO503.out.1 k_ (hs_).symm)) (fun hn_=>(.inr (Nat.le_trans jCD hn_)))));replace HK:=zh (Kept.then_ (S:=(fun k_=>P0_ k_)) jBJ hkp (fun k_ hs_=>(fun e_=>(HO503.out.1 k_ e_.symm)) hs_));replace HB:=zh (hb);clear HO503;(try clear hb);(try clear hkp);(try clear ho0);refine hK.out _ _ ⟨(zz BK497.out 0).trans rfl,(zz BK497.out 1).trans rfl,(zz BK497.out 2).trans rfl,(zz BK497.out 3).trans rfl⟩ (fun hHeld=>?_);clear hK K;refine norm_ (a':=?_) ?_ ?_;rotate_left
         ·
          show Act.put _ (some 85) _=_
          simp only [Act.put,zi,zj,zk,zG,zH]
          rfl
         refine pure_ (i:=9) (N:=some 0) (v:=?_) (a':=?_) (bm_ 10 10) rfl rfl (any_of HT_.out jA) (fun _ _ _ h=>h) (Or.inl ⟨by rfl,?_⟩) ?_ ?_;rotate_left;exact jb;rotate_left;exact jc
         refine done_ (done_of HT_.out jA) ?_
         try go_wp2
         go_roundg k1
         case measure=>have:=HK1.out;omega
         case rel=>exact ⟨(t504),(wrap64 (x73_1+1)),jE,H',⟨jN⟩,⟨by (with_reducible repeat (first|apply zm|apply zn|apply zo));exact HO506.out⟩,⟨by (with_reducible repeat (first|apply zm|apply zn|apply zo));exact zM HO_71.out (fun _ hk=>hk.1)⟩,⟨je⟩,⟨jBJ⟩,⟨jBf⟩⟩
        rw [if_neg c61] at H;exact absurd H (by simp)
       rw [if_neg c60] at H;exact absurd H (by simp)
      rw [if_neg c59] at H;exact absurd H (by simp)
     rw [if_neg c58] at H;have c58b0 : decide (x73_1<(t492.length : Int))=false:=decide_eq_false c58;clear c58
     by_cases c74 : x0_1.length<140737488355328
     ·
      rw [if_pos c74] at H
      have LMc74:=zh c74;clear c74;obtain ⟨y507,hy507⟩ : ∃ y_ : List Int,y_=(x0_1 ++ [0]):=⟨_,rfl⟩;replace H : (some y507)=some r:=by first|(rw [hy507];with_reducible exact H)|(have H2_:=(Option.bind_some _ _).symm.trans H;rw [hy507];with_reducible exact H2_)|(have H2_:=(Option.bind_some _ _).symm.trans H;with_reducible exact H2_)|with_reducible exact H|(rw [hy507];exact H)|exact H
      have Ny507:=zh hy507;clear hy507;obtain rfl:=zU H
      go_wp2_with (first|((with_reducible refine yB (b:=.append) (xs:=#[.tmp 87,.tmp 88]) rfl ?_);at_builtin;refine Kd.R_append (Kd.int .u8) (w0:=w0) w0.heap.size rfl (.tmp 87) (.tmp 88) 22 5 (.int .u8 0) 1 rfl Try.underlying22 info5 rfl jC jH u0 x0_1 0 [.int .u8 0] (fun k_=>(P0_ k_∨w.heap.size≤k_)) (fun _=>False) rfl rfl ?aP (fun _ hk=>hk.elim) ?aF ?aO ?aB ?aS ?aL ?_;(case aP=>exact rfl);(case aB=>exact jR);(case aF=>exact (fun k_ hk=>(.inr (Nat.le_trans jAA hk))));(case aO=>exact jAH);(case aS=>exact (zB jR));(case aL=>have:=LMc74.out;omega);intro v508 w75 ho hb hg hat;rw [← Ny507.out] at ho;replace HO_71:=zh (Kd.R_over' jCC (Kd.R_typed jAH) jC hg);replace BK464:=zh (yw (g:=gb464) (o:=.cells #[.int .i64 a1_0,.int .i64 a1_1,.string a1_2] 24 (0,0)) je hg (Kd.R_ne HO_0.out BK464.out jC));replace HB:=zh (hb);replace HK:=zh (yA (S:=(fun k_=>P0_ k_)) hg jk (fun k_ e_=>(HO_0.out.1 k_ e_)));have HO509:=zh (ho);clear HO_0 ho hb hg hat))
      go_ret
      exact ⟨_,jG,by (with_reducible repeat (first|apply zm|apply zn|apply zo));exact HO509.out,jR,jk⟩
     rw [if_neg c74] at H;exact absurd H (by simp)
  rw [if_neg c50] at H;have c50b0 : (a1_0 == 5)=false:=zY.mpr c50;have c50b1 : (a1_0 != 5)=true:=zZ.mpr c50;obtain rfl:=zU H
  go_enter Try.func41,Try.ntmps41
  go_wp2_with (first|((with_reducible refine zK (N:=3) rfl ?_);refine zI ?hg (N:=3) ?hd (cs:=#[.int .i64 a1_0,.int .i64 a1_1,.string a1_2]) (t:=24) ?hr ?_;(case hd=>rfl);(case hg=>rfl);(case hr=>go_simp <;> rfl);intro gb464 hg w76 hbox hb;replace HO0:=zh (yg jAG hb);have BK464:=zh (hbox);have GW464:=zh ((jBA : w.heap.size≤gb464));replace HK:=zh (Kept.below (S:=(fun k_=>P0_ k_)) jz hb);have GE464:=zh ((jBB : w0.heap.size≤gb464));replace HB:=zh (zC jD hb);clear hb hbox hg;obtain ⟨hcz77_0,hcz77_1,hcz77_2,hfz77_0,hfz77_1,hfz77_2⟩:=cB3 BK464.out)|((with_reducible refine yB (b:=.append) (xs:=#[.tmp 13,.tmp 18]) rfl ?_);at_builtin;refine Kd.R_append (Kd.int .u8) (w0:=w0) w0.heap.size rfl (.tmp 13) (.tmp 18) 22 5 (.int .u8 0) 1 rfl Try.underlying22 info5 rfl jC jH u9000_ l0 ((wrap64 (a1_0+1)) % 256) [.int .u8 ((wrap64 (a1_0+1)) % 256)] (fun k_=>(P0_ k_∨w.heap.size≤k_)) (fun _=>False) rfl rfl ?aP (fun _ hk=>hk.elim) ?aF ?aO ?aB ?aS ?aL ?_;(case aP=>exact rfl);(case aB=>exact jR);(case aF=>exact (fun k_ hk=>(.inr (Nat.le_trans jAA hk))));(case aO=>exact jAG);(case aS=>exact (zB jR));(case aL=>have:=LMc3.out;omega);intro v466 w78 ho hb hg hat;rw [← Ny465.out] at ho;replace BK464:=zh (yw (g:=gb464) (o:=.cells #[.int .i64 a1_0,.int .i64 a1_1,.string a1_2] 24 (0,0)) je hg (Kd.R_ne HO0.out BK464.out jC));replace HB:=zh (hb);replace HK:=zh (yA (S:=(fun k_=>P0_ k_)) hg jk (fun k_ e_=>(HO0.out.1 k_ e_)));have HO467:=zh (ho);clear HO0 ho hb hg hat;obtain ⟨hcz79_0,hcz79_1,hcz79_2,hfz79_0,hfz79_1,hfz79_2⟩:=cB3 BK464.out))
  go_ret
  exact ⟨_,jG,jAd,jR,jk⟩
 rw [if_neg c3] at H;exact absurd H (by simp)

end Go.Proofs.Ytdjnplkpahgnmaa.Q
end
section
namespace Go.Proofs.Ytdjnplkpahgnmaa.Q
open Go.RowKit Go.Proofs.YtdjnplkpahgnmaaW.PrintWords Go.Proofs.YtdjnplkpahgnmaaW.PrintLast Go.Proofs.YtdjnplkpahgnmaaW.PrintMore
attribute [local go_sem] max2_int min2_int max_two min_two max_three min_three max_four min_four max2_str min2_str str_geq str_gtr str_leq
set_option linter.unusedVariables false
set_option linter.unusedSimpArgs false

def F0q.f (k : Nat) (a0_0 : Int) (a0_1 : Int) (a0_2 : ByteArray) (a1 : Bool) : Option (ByteArray):=(F9.f k ([] : List Int) a0_0 a0_1 a0_2).bind fun t511=>((F08.f t511 a1).bind fun t514=>(some t514))
theorem F0q.mono : ∀ a0 a1 a2 a3 k,LeO (F0q.f k a0 a1 a2 a3) (F0q.f (k+1) a0 a1 a2 a3):=by
 intro a0 a1 a2 a3 k;unfold F0q.f
 repeat' first|(with_reducible first|exact F9.mono _ _ _ _ _|exact zQ _|exact zN _|refine zP ?_ ?_|refine zO ?_ (fun _=>?_))|refine zP ?_ ?_|refine zO ?_ (fun _=>?_)
set_option maxHeartbeats 8000000 in
set_option maxRecDepth 100000 in
theorem F0q.calls (k : Nat) (a0_0 : Int) (a0_1 : Int) (a0_2 : ByteArray) (a1 : Bool) (r : ByteArray) (w : World) (h : F0q.f k a0_0 a0_1 a0_2 a1=some r) :
  Calls Try.prog 15 #[.agg #[.int .i64 a0_0,.int .i64 a0_1,.string a0_2],.bool a1] w fun e w' => e = .returned (.string r)∧Below w.heap.size w w':=by
 have hu24:=Try.underlying24;have HB:=zh (Below.refl w.heap.size w);have H : ((F9.f k ([] : List Int) a0_0 a0_1 a0_2).bind fun t511=>((F08.f t511 a1).bind fun t514=>(some t514)))=some r:=h;clear h;replace H:=zT.mp H;obtain ⟨t511,A30,H⟩:=H;have A3:=zh A30;clear A30;replace H:=zT.mp H;obtain ⟨t514,A40,H⟩:=H;have A4:=zh A40;clear A40;obtain rfl:=zU H
 go_enter Try.func15,Try.ntmps15
 go_wp2_with (first|((with_reducible refine zK (N:=2) rfl ?_);refine zI ?hg (N:=2) ?hd (cs:=#[.int .i64 a0_0,.int .i64 a0_1,.string a0_2]) (t:=24) ?hr ?_;(case hd=>rfl);(case hg=>rfl);(case hr=>go_simp <;> rfl);intro gb510 hg w5 hbox hb;have BK510:=zh (hbox);have hH_:=cH jD hb hg;have GW510:=zh hH_.1;have GE510:=GW510;replace HB:=zh hH_.2;clear hb hbox hg hH_;obtain ⟨hcz6_0,hcz6_1,hcz6_2,hfz6_0,hfz6_1,hfz6_2⟩:=cB3 BK510.out)|((with_reducible refine zJ (f:=41) rfl ?_);refine yj (some 6) rfl rfl Try.func41 jA rfl #[.slice none 0 0,.agg #[.int .i64 a0_0,.int .i64 a0_1,.string a0_2]] rfl jB ?_;(refine (F9.calls k  (fun k_=>some k_=(.slice none 0 0 : Value).ownBlock) (.slice none 0 0) ([] : List Int) a0_0 a0_1 a0_2 t511 w _ ?side1 ?side2 A3.out).mono ?_);(case side1=>repeat (with_reducible first|exact HB.out|apply za|apply zb|apply zc|refine zd ?_ GE510.out));(case side2=>exact Kd.R_nil _ _ _ _ _);rintro e w7 ⟨v512,rfl,ho0,hb,hkp⟩;refine ⟨_,rfl,?_⟩;replace BK510:=zh (blk_kept jC7 hkp (fun hs_=>(fun e_=>by simp [Value.ownBlock] at e_) hs_));have HO513:=zh (zM (ok':=fun k_=>True) ho0 (fun k_ hk_=>trivial));replace HB:=zh (hb);(try clear hb);(try clear hkp);(try clear ho0);obtain ⟨Ao8,co8,eo8⟩:=yk HO513.out;subst eo8)|((with_reducible refine zJ (f:=40) rfl ?_);refine yj (some 8) rfl rfl Try.func40 jA rfl #[.slice Ao8 t511.length co8,.bool a1] rfl jB ?_;(with_reducible refine (F08.calls  (fun k_=>some k_=(.slice Ao8 t511.length co8 : Value).ownBlock) (.slice Ao8 t511.length co8) t511 a1 t514 w _ ?side1 ?side2 A4.out).mono ?_);(case side1=>repeat (with_reducible first|exact HB.out|apply za|apply zb|apply zc|refine zd ?_ GE510.out));(case side2=>exact Kd.R_tight rfl HO513.out);rintro e w9 ⟨rfl,hb,hkp⟩;refine ⟨_,rfl,?_⟩;replace BK510:=zh (blk_kept jC7 hkp (fun hs_=>(fun e_=>(Kd.R_ne HO513.out BK510.out jC) e_) hs_));replace HB:=zh (hb);clear HO513;(try clear hb);(try clear hkp)))
 go_ret
 exact ⟨jG,by repeat (with_reducible first|exact HB.out|apply za|apply zb|apply zc|refine zd ?_ GE510.out)⟩


def Fd.f (k : Nat) (a0_0 : Int) (a0_1 : Int) (a0_2 : ByteArray) (a1 : Bool) : Option (ByteArray×Int):=(F0o.f k a0_0 a0_1 a0_2).bind fun t516=>(if t516=true then ((F0q.f k a0_0 a0_1 a0_2 a1).bind fun t517=>(some (t517,0))) else (some ((⟨#[]⟩ : ByteArray),1)))
theorem Fd.mono : ∀ a0 a1 a2 a3 k,LeO (Fd.f k a0 a1 a2 a3) (Fd.f (k+1) a0 a1 a2 a3):=by
 intro a0 a1 a2 a3 k;unfold Fd.f
 repeat' first|(with_reducible first|exact F0o.mono _ _ _ _|exact F0q.mono _ _ _ _ _|exact zQ _|exact zN _|refine zP ?_ ?_|refine zO ?_ (fun _=>?_))|refine zP ?_ ?_|refine zO ?_ (fun _=>?_)
set_option maxHeartbeats 8000000 in
set_option maxRecDepth 100000 in
theorem Fd.calls (k : Nat) (a0_0 : Int) (a0_1 : Int) (a0_2 : ByteArray) (a1 : Bool) (r1 : ByteArray) (r2 : Int) (w : World) (h : Fd.f k a0_0 a0_1 a0_2 a1=some (r1,r2)) :
  Calls Try.prog 6 #[.agg #[.int .i64 a0_0,.int .i64 a0_1,.string a0_2],.bool a1] w fun e w' => e = .returned (.tuple #[.string r1,.int .i64 r2])∧Below w.heap.size w w':=by
 have hu24:=Try.underlying24;have HB:=zh (Below.refl w.heap.size w);have H : ((F0o.f k a0_0 a0_1 a0_2).bind fun t516=>(if t516=true then ((F0q.f k a0_0 a0_1 a0_2 a1).bind fun t517=>(some (t517,0))) else (some ((⟨#[]⟩ : ByteArray),1))))=some (r1,r2):=h;clear h;replace H:=zT.mp H;obtain ⟨t516,A30,H⟩:=H;have A3:=zh A30;clear A30
 by_cases c4 : t516=true
 ·
  subst c4
  rw [if_pos rfl] at H;replace H:=zT.mp H;obtain ⟨t517,A50,H⟩:=H;have A5:=zh A50;clear A50;simp only [Option.some.injEq,Prod.mk.injEq] at H;obtain ⟨rfl,rfl⟩:=H
  go_enter Try.func6,Try.ntmps6
  go_wp2_with (first|((with_reducible refine zK (N:=2) rfl ?_);refine zI ?hg (N:=2) ?hd (cs:=#[.int .i64 a0_0,.int .i64 a0_1,.string a0_2]) (t:=24) ?hr ?_;(case hd=>rfl);(case hg=>rfl);(case hr=>go_simp <;> rfl);intro gb515 hg w6 hbox hb;have BK515:=zh (hbox);have hH_:=cH jD hb hg;have GW515:=zh hH_.1;have GE515:=GW515;replace HB:=zh hH_.2;clear hb hbox hg hH_;obtain ⟨hcz7_0,hcz7_1,hcz7_2,hfz7_0,hfz7_1,hfz7_2⟩:=cB3 BK515.out)|((with_reducible refine zJ (f:=14) rfl ?_);refine yj (some 7) rfl rfl Try.func14 jA rfl #[.agg #[.int .i64 a0_0,.int .i64 a0_1,.string a0_2]] rfl jB ?_;(with_reducible refine (F0o.calls k  a0_0 a0_1 a0_2 true _ A3.out).mono ?_);rintro e w8 ⟨rfl,hb⟩;refine ⟨_,rfl,?_⟩;replace BK515:=zh (cD BK515.out jCF hb);replace HB:=zh (zC jBK hb);(try clear hb);(try clear hb2);(try clear hk);(try clear hi);obtain ⟨hcz9_0,hcz9_1,hcz9_2,hfz9_0,hfz9_1,hfz9_2⟩:=cB3 BK515.out)|((with_reducible refine zJ (f:=15) rfl ?_);refine yj (some 11) rfl rfl Try.func15 jA rfl #[.agg #[.int .i64 a0_0,.int .i64 a0_1,.string a0_2],.bool a1] rfl jB ?_;(with_reducible refine (F0q.calls k  a0_0 a0_1 a0_2 a1 t517 _ A5.out).mono ?_);rintro e w10 ⟨rfl,hb⟩;refine ⟨_,rfl,?_⟩;replace BK515:=zh (cD BK515.out jCF hb);replace HB:=zh (zC jBK hb);(try clear hb);(try clear hb2);(try clear hk);(try clear hi)))
  go_ret2
  exact ⟨jG,jBK⟩
 replace c4:=yb.mpr c4;subst c4;rw [if_neg (show ¬ (false=true) by decide)] at H;simp only [Option.some.injEq,Prod.mk.injEq] at H;obtain ⟨rfl,rfl⟩:=H
 go_enter Try.func6,Try.ntmps6
 go_wp2_with (first|((with_reducible refine zK (N:=2) rfl ?_);refine zI ?hg (N:=2) ?hd (cs:=#[.int .i64 a0_0,.int .i64 a0_1,.string a0_2]) (t:=24) ?hr ?_;(case hd=>rfl);(case hg=>rfl);(case hr=>go_simp <;> rfl);intro gb515 hg w11 hbox hb;have BK515:=zh (hbox);have hH_:=cH jD hb hg;have GW515:=zh hH_.1;have GE515:=GW515;replace HB:=zh hH_.2;clear hb hbox hg hH_;obtain ⟨hcz12_0,hcz12_1,hcz12_2,hfz12_0,hfz12_1,hfz12_2⟩:=cB3 BK515.out)|((with_reducible refine zJ (f:=14) rfl ?_);refine yj (some 7) rfl rfl Try.func14 jA rfl #[.agg #[.int .i64 a0_0,.int .i64 a0_1,.string a0_2]] rfl jB ?_;(with_reducible refine (F0o.calls k  a0_0 a0_1 a0_2 false _ A3.out).mono ?_);rintro e w13 ⟨rfl,hb⟩;refine ⟨_,rfl,?_⟩;replace BK515:=zh (cD BK515.out jCF hb);replace HB:=zh (zC jBK hb);(try clear hb);(try clear hb2);(try clear hk);(try clear hi)))
 go_ret2
 exact ⟨jG,jBK⟩


def F02.l0 : Nat→ByteArray→List Int→Int→Option (ByteArray)
 | 0,_,_,_=>none
 | k+1,x0,x3,x4=>if x4<(x0.size : Int) then (if 0≤x4 then (if x3.length<140737488355328 then (F02.l0 k x0 (x3 ++ [(255 - (bt x0 x4)) % 256]) (wrap64 (x4+1))) else (none)) else (none)) else (some (strOfNums x3))
def F02.f (k : Nat) (a0 : ByteArray) : Option (ByteArray):=F02.l0 k a0 (([] : List Int)) 0
theorem F02.mono_l : ∀ k,(∀ y0 y1 y2,LeO (F02.l0 k y0 y1 y2) (F02.l0 (k+1) y0 y1 y2))
 | 0=>fun _ _ _ r h=>by simp [F02.l0] at h
 | k+1=>by
  have ih0:=F02.mono_l k;intro y0 y1 y2;unfold F02.l0
  repeat' first|(with_reducible first|exact ih0 _ _ _|exact zQ _|exact zN _|refine zP ?_ ?_|refine zO ?_ (fun _=>?_))|refine zP ?_ ?_|refine zO ?_ (fun _=>?_)
theorem F02.mono : ∀ a0 k,LeO (F02.f k a0) (F02.f (k+1) a0):=by
 intro a0 k;have ih0:=F02.mono_l k;unfold F02.f
 repeat' first|(with_reducible first|exact ih0 _ _ _|exact zQ _|exact zN _|refine zP ?_ ?_|refine zO ?_ (fun _=>?_))|refine zP ?_ ?_|refine zO ?_ (fun _=>?_)
set_option maxHeartbeats 8000000 in
set_option maxRecDepth 100000 in
theorem F02.calls (k : Nat) (a0 : ByteArray) (r : ByteArray) (w : World) (h : F02.f k a0=some r) :
  Calls Try.prog 43 #[.string a0] w fun e w' => e = .returned (.string r)∧Below w.heap.size w w':=by
 have HB:=zh (Below.refl w.heap.size w);have H : (F02.l0 k a0 (([] : List Int)) 0)=some r:=h;clear h;obtain ⟨y518,hy518⟩ : ∃ y_ : List Int,y_=(([] : List Int)):=⟨_,rfl⟩;replace H : (F02.l0 k a0 y518 0)=some r:=by first|(rw [hy518];with_reducible exact H)|(have H2_:=(Option.bind_some _ _).symm.trans H;rw [hy518];with_reducible exact H2_)|(have H2_:=(Option.bind_some _ _).symm.trans H;with_reducible exact H2_)|with_reducible exact H|(rw [hy518];exact H)|exact H
 have Ny518:=zh hy518;clear hy518;have H':=zh H;clear H
 go_enter Try.func43,Try.ntmps43
 go_wp2_with (first|((with_reducible refine zK (N:=5) rfl ?_);refine Kd.R_lit (Kd.int .u8) _ 5 ?hg (N:=5) ?hd (xs:=([] : List Int)) (inner:=[]) (ok:=fun _=>True) (okp:=fun _=>True) ?hr ?hp (fun _ hk=>hk) trivial (Below.refl _ _) (ye _) (by simp) ?_;(case hd=>rfl);(case hg=>rfl);(case hr=>go_simp <;> rfl);(case hp=>exact (Reps.none _ _));intro v519 w2 ho3 hb hg_ hnew_;clear hg_ hnew_;(first|rw [← Ny518.out] at ho3|(simp only [Int.reduceToNat] at ho3;rw [← Ny518.out] at ho3));have HO520:=zh (yy ho3 (zB jD));replace HB:=zh (zC jD hb);clear hb ho3))
 go_loopg [3,4] k (fun kq v3 v4 w' => ∃ (x3_1 : List Int) (x4_1 : Int),v4 = .int .i64 x4_1∧Aside0 (F02.l0 kq a0 x3_1 x4_1=some r)∧Aside0 (kq≤k)∧Aside0 (Kd.R (Kd.int .u8) 5 w' w.heap.size (fun _=>True) v3 x3_1)∧Aside0 (Below w.heap.size w w'))
 case atStart=>exact ⟨(y518),(0),jE,H',⟨ye _⟩,⟨by (with_reducible repeat (first|apply zm|apply zn|apply zo));exact HO520.out⟩,⟨jD⟩⟩
 case round =>
  clear H'
  try clear p2
  obtain ⟨x3_1,x4_1,rfl,HA,HK1,HO_3,HB⟩:=hrel
  cases gk with
  | zero=>exact absurd HA.out (by simp [F02.l0])
  | succ k1 =>
   have H:=HA.out;clear HA;simp only [F02.l0] at H
   by_cases c4 : x4_1<(a0.size : Int)
   ·
    rw [if_pos c4] at H
    have c4b0 : decide (x4_1<(a0.size : Int))=true:=decide_eq_true c4;clear c4
    by_cases c5 : 0≤x4_1
    ·
     rw [if_pos c5] at H
     have c5b0 : decide (0≤x4_1)=true:=decide_eq_true c5;clear c5
     by_cases c7 : x3_1.length<140737488355328
     ·
      rw [if_pos c7] at H
      have LMc7:=zh c7;clear c7;obtain ⟨y521,hy521⟩ : ∃ y_ : List Int,y_=(x3_1 ++ [(255 - (bt a0 x4_1)) % 256]):=⟨_,rfl⟩;replace H : (F02.l0 k1 a0 y521 (wrap64 (x4_1+1)))=some r:=by first|(rw [hy521];with_reducible exact H)|(have H2_:=(Option.bind_some _ _).symm.trans H;rw [hy521];with_reducible exact H2_)|(have H2_:=(Option.bind_some _ _).symm.trans H;with_reducible exact H2_)|with_reducible exact H|(rw [hy521];exact H)|exact H
      have Ny521:=zh hy521;clear hy521;have H':=zh H;clear H;have p6:=ja (0≤(x4_1 : Int));have q6:=ja (x4_1<(a0.size : Int));have hx6:=bt_at a0 x4_1
      go_wp2_with (first|((with_reducible refine yB (b:=.append) (xs:=#[.tmp 12,.tmp 17]) rfl ?_);at_builtin;refine Kd.R_append (Kd.int .u8) (w0:=w) w.heap.size rfl (.tmp 12) (.tmp 17) 22 5 (.int .u8 0) 1 rfl Try.underlying22 info5 rfl jC jH u3 x3_1 ((255 - (bt a0 x4_1)) % 256) [.int .u8 ((255 - (bt a0 x4_1)) % 256)] (fun _=>True) (fun _=>False) rfl rfl ?aP (fun _ hk=>hk.elim) ?aF ?aO ?aB ?aS ?aL ?_;(case aP=>exact rfl);(case aB=>exact jD);(case aF=>exact (fun _ _=>trivial));(case aO=>exact jAx);(case aS=>exact (zB jD));(case aL=>have:=LMc7.out;omega);intro v522 w8 ho hb hg hat;rw [← Ny521.out] at ho;replace HB:=zh (hb);have HO523:=zh (ho);clear HO_3 ho hb hg hat))
      go_roundg k1
      case measure=>have:=HK1.out;omega
      case rel=>exact ⟨(y521),(wrap64 (x4_1+1)),jE,H',⟨jN⟩,⟨by (with_reducible repeat (first|apply zm|apply zn|apply zo));exact HO523.out⟩,⟨jD⟩⟩
     rw [if_neg c7] at H;exact absurd H (by simp)
    rw [if_neg c5] at H;exact absurd H (by simp)
   rw [if_neg c4] at H;have c4b0 : decide (x4_1<(a0.size : Int))=false:=decide_eq_false c4;clear c4;obtain rfl:=zU H;have hcv9:=own_string (P:=Try.prog) Try.underlying22 Try.underlying5 Try.underlying9 (Kd.own_of_R HO_3.out)
   go_wp2
   go_ret
   exact ⟨jG,jD⟩


def Fu.l0 : Nat→ByteArray→List Int→Int→Option (ByteArray)
 | 0,_,_,_=>none
 | k+1,x0,x3,x4=>if x4<(x0.size : Int) then (if 0≤x4 then (if x3.length<140737488355328 then ((some (x3 ++ [bt x0 x4] : List Int)).bind fun y527=>(if (bt x0 x4)=0 then (if y527.length<140737488355328 then (Fu.l0 k x0 (y527 ++ [255]) (wrap64 (x4+1))) else (none)) else (Fu.l0 k x0 y527 (wrap64 (x4+1))))) else (none)) else (none)) else ((some (([0,0] : List Int) : List Int)).bind fun y533=>(if x3.length+y533.length<140737488355328 then (some (strOfNums (x3++y533))) else (none)))
def Fu.f (k : Nat) (a0 : ByteArray) : Option (ByteArray):=Fu.l0 k a0 (([] : List Int)) 0
theorem Fu.mono_l : ∀ k,(∀ y0 y1 y2,LeO (Fu.l0 k y0 y1 y2) (Fu.l0 (k+1) y0 y1 y2))
 | 0=>fun _ _ _ r h=>by simp [Fu.l0] at h
 | k+1=>by
  have ih0:=Fu.mono_l k;intro y0 y1 y2;unfold Fu.l0
  repeat' first|(with_reducible first|exact ih0 _ _ _|exact zQ _|exact zN _|refine zP ?_ ?_|refine zO ?_ (fun _=>?_))|refine zP ?_ ?_|refine zO ?_ (fun _=>?_)
theorem Fu.mono : ∀ a0 k,LeO (Fu.f k a0) (Fu.f (k+1) a0):=by
 intro a0 k;have ih0:=Fu.mono_l k;unfold Fu.f
 repeat' first|(with_reducible first|exact ih0 _ _ _|exact zQ _|exact zN _|refine zP ?_ ?_|refine zO ?_ (fun _=>?_))|refine zP ?_ ?_|refine zO ?_ (fun _=>?_)
set_option maxHeartbeats 8000000 in
set_option maxRecDepth 100000 in
theorem Fu.calls (k : Nat) (a0 : ByteArray) (r : ByteArray) (w : World) (h : Fu.f k a0=some r) :
  Calls Try.prog 69 #[.string a0] w fun e w' => e = .returned (.string r)∧Below w.heap.size w w':=by
 have HB:=zh (Below.refl w.heap.size w);have H : (Fu.l0 k a0 (([] : List Int)) 0)=some r:=h;clear h;obtain ⟨y524,hy524⟩ : ∃ y_ : List Int,y_=(([] : List Int)):=⟨_,rfl⟩;replace H : (Fu.l0 k a0 y524 0)=some r:=by first|(rw [hy524];with_reducible exact H)|(have H2_:=(Option.bind_some _ _).symm.trans H;rw [hy524];with_reducible exact H2_)|(have H2_:=(Option.bind_some _ _).symm.trans H;with_reducible exact H2_)|with_reducible exact H|(rw [hy524];exact H)|exact H
 have Ny524:=zh hy524;clear hy524;have H':=zh H;clear H
 go_enter Try.func69,Try.ntmps69
 go_wp2_with (first|((with_reducible refine zK (N:=5) rfl ?_);refine Kd.R_lit (Kd.int .u8) _ 5 ?hg (N:=5) ?hd (xs:=([] : List Int)) (inner:=[]) (ok:=fun _=>True) (okp:=fun _=>True) ?hr ?hp (fun _ hk=>hk) trivial (Below.refl _ _) (ye _) (by simp) ?_;(case hd=>rfl);(case hg=>rfl);(case hr=>go_simp <;> rfl);(case hp=>exact (Reps.none _ _));intro v525 w2 ho3 hb hg_ hnew_;clear hg_ hnew_;(first|rw [← Ny524.out] at ho3|(simp only [Int.reduceToNat] at ho3;rw [← Ny524.out] at ho3));have HO526:=zh (yy ho3 (zB jD));replace HB:=zh (zC jD hb);clear hb ho3))
 go_loopg [3,4] k (fun kq v3 v4 w' => ∃ (x3_1 : List Int) (x4_1 : Int),v4 = .int .i64 x4_1∧Aside0 (Fu.l0 kq a0 x3_1 x4_1=some r)∧Aside0 (kq≤k)∧Aside0 (Kd.R (Kd.int .u8) 5 w' w.heap.size (fun _=>True) v3 x3_1)∧Aside0 (Below w.heap.size w w'))
 case atStart=>exact ⟨(y524),(0),jE,H',⟨ye _⟩,⟨by (with_reducible repeat (first|apply zm|apply zn|apply zo));exact HO526.out⟩,⟨jD⟩⟩
 case round =>
  clear H'
  try clear p2
  obtain ⟨x3_1,x4_1,rfl,HA,HK1,HO_3,HB⟩:=hrel
  cases gk with
  | zero=>exact absurd HA.out (by simp [Fu.l0])
  | succ k1 =>
   have H:=HA.out;clear HA;simp only [Fu.l0] at H
   by_cases c4 : x4_1<(a0.size : Int)
   ·
    rw [if_pos c4] at H
    have c4b0 : decide (x4_1<(a0.size : Int))=true:=decide_eq_true c4;clear c4
    by_cases c5 : 0≤x4_1
    ·
     rw [if_pos c5] at H
     have c5b0 : decide (0≤x4_1)=true:=decide_eq_true c5;clear c5
     by_cases c7 : x3_1.length<140737488355328
     ·
      rw [if_pos c7] at H
      have LMc7:=zh c7;clear c7;obtain ⟨y527,hy527⟩ : ∃ y_ : List Int,y_=(x3_1 ++ [bt a0 x4_1]):=⟨_,rfl⟩;replace H : (if (bt a0 x4_1)=0 then (if y527.length<140737488355328 then (Fu.l0 k1 a0 (y527 ++ [255]) (wrap64 (x4_1+1))) else (none)) else (Fu.l0 k1 a0 y527 (wrap64 (x4_1+1))))=some r:=by first|(rw [hy527];with_reducible exact H)|(have H2_:=(Option.bind_some _ _).symm.trans H;rw [hy527];with_reducible exact H2_)|(have H2_:=(Option.bind_some _ _).symm.trans H;with_reducible exact H2_)|with_reducible exact H|(rw [hy527];exact H)|exact H
      have Ny527:=zh hy527;clear hy527
      by_cases c9 : (bt a0 x4_1)=0
      ·
       rw [if_pos c9] at H
       have c9b0 : ((bt a0 x4_1) == 0)=true:=ya.mpr c9;have c9b1 : ((bt a0 x4_1) != 0)=false:=zX.mpr c9;clear c9
       by_cases c10 : y527.length<140737488355328
       ·
        rw [if_pos c10] at H
        have LMc10:=zh c10;clear c10;obtain ⟨y530,hy530⟩ : ∃ y_ : List Int,y_=(y527 ++ [255]):=⟨_,rfl⟩;replace H : (Fu.l0 k1 a0 y530 (wrap64 (x4_1+1)))=some r:=by first|(rw [hy530];with_reducible exact H)|(have H2_:=(Option.bind_some _ _).symm.trans H;rw [hy530];with_reducible exact H2_)|(have H2_:=(Option.bind_some _ _).symm.trans H;with_reducible exact H2_)|with_reducible exact H|(rw [hy530];exact H)|exact H
        have Ny530:=zh hy530;clear hy530;have H':=zh H;clear H;have p6:=ja (0≤(x4_1 : Int));have q6:=ja (x4_1<(a0.size : Int));have hx6:=bt_at a0 x4_1
        go_wp2_with (first|((with_reducible refine yB (b:=.append) (xs:=#[.tmp 12,.tmp 16]) rfl ?_);at_builtin;refine Kd.R_append (Kd.int .u8) (w0:=w) w.heap.size rfl (.tmp 12) (.tmp 16) 22 5 (.int .u8 0) 1 rfl Try.underlying22 info5 rfl jC jH u3 x3_1 (bt a0 x4_1) [.int .u8 (bt a0 x4_1)] (fun _=>True) (fun _=>False) rfl rfl ?aP (fun _ hk=>hk.elim) ?aF ?aO ?aB ?aS ?aL ?_;(case aP=>exact rfl);(case aB=>exact jD);(case aF=>exact (fun _ _=>trivial));(case aO=>exact jAx);(case aS=>exact (zB jD));(case aL=>have:=LMc7.out;omega);intro v528 w11 ho hb hg hat;rw [← Ny527.out] at ho;replace HB:=zh (hb);have HO529:=zh (ho);clear HO_3 ho hb hg hat;have p8:=ja (0≤(x4_1 : Int));have q8:=ja (x4_1<(a0.size : Int));have hx8:=bt_at a0 x4_1)|((with_reducible refine yB (b:=.append) (xs:=#[.tmp 22,.tmp 23]) rfl ?_);at_builtin;refine Kd.R_append (Kd.int .u8) (w0:=w) w.heap.size rfl (.tmp 22) (.tmp 23) 22 5 (.int .u8 0) 1 rfl Try.underlying22 info5 rfl jC jH v528 y527 255 [.int .u8 255] (fun _=>True) (fun _=>False) rfl rfl ?aP (fun _ hk=>hk.elim) ?aF ?aO ?aB ?aS ?aL ?_;(case aP=>exact rfl);(case aB=>exact jD);(case aF=>exact (fun _ _=>trivial));(case aO=>exact jC8);(case aS=>exact (zB jD));(case aL=>have:=LMc10.out;omega);intro v531 w12 ho hb hg hat;rw [← Ny530.out] at ho;replace HB:=zh (hb);have HO532:=zh (ho);clear HO529 ho hb hg hat))
        go_roundg k1
        case measure=>have:=HK1.out;omega
        case rel=>exact ⟨(y530),(wrap64 (x4_1+1)),jE,H',⟨jN⟩,⟨by (with_reducible repeat (first|apply zm|apply zn|apply zo));exact HO532.out⟩,⟨jD⟩⟩
       rw [if_neg c10] at H;exact absurd H (by simp)
      rw [if_neg c9] at H;have c9b0 : ((bt a0 x4_1) == 0)=false:=zY.mpr c9;have c9b1 : ((bt a0 x4_1) != 0)=true:=zZ.mpr c9;have H':=zh H;clear H;have p6:=ja (0≤(x4_1 : Int));have q6:=ja (x4_1<(a0.size : Int));have hx6:=bt_at a0 x4_1
      go_wp2_with (first|((with_reducible refine yB (b:=.append) (xs:=#[.tmp 12,.tmp 16]) rfl ?_);at_builtin;refine Kd.R_append (Kd.int .u8) (w0:=w) w.heap.size rfl (.tmp 12) (.tmp 16) 22 5 (.int .u8 0) 1 rfl Try.underlying22 info5 rfl jC jH u3 x3_1 (bt a0 x4_1) [.int .u8 (bt a0 x4_1)] (fun _=>True) (fun _=>False) rfl rfl ?aP (fun _ hk=>hk.elim) ?aF ?aO ?aB ?aS ?aL ?_;(case aP=>exact rfl);(case aB=>exact jD);(case aF=>exact (fun _ _=>trivial));(case aO=>exact jAx);(case aS=>exact (zB jD));(case aL=>have:=LMc7.out;omega);intro v528 w13 ho hb hg hat;rw [← Ny527.out] at ho;replace HB:=zh (hb);have HO529:=zh (ho);clear HO_3 ho hb hg hat;have p8:=ja (0≤(x4_1 : Int));have q8:=ja (x4_1<(a0.size : Int));have hx8:=bt_at a0 x4_1))
      go_roundg k1
      case measure=>have:=HK1.out;omega
      case rel=>exact ⟨(y527),(wrap64 (x4_1+1)),jE,H',⟨jN⟩,⟨jC8⟩,⟨jD⟩⟩
     rw [if_neg c7] at H;exact absurd H (by simp)
    rw [if_neg c5] at H;exact absurd H (by simp)
   rw [if_neg c4] at H;have c4b0 : decide (x4_1<(a0.size : Int))=false:=decide_eq_false c4;clear c4;obtain ⟨y533,hy533⟩ : ∃ y_ : List Int,y_=(([0,0] : List Int)):=⟨_,rfl⟩;replace H : (if x3_1.length+y533.length<140737488355328 then (some (strOfNums (x3_1++y533))) else (none))=some r:=by first|(rw [hy533];with_reducible exact H)|(have H2_:=(Option.bind_some _ _).symm.trans H;rw [hy533];with_reducible exact H2_)|(have H2_:=(Option.bind_some _ _).symm.trans H;with_reducible exact H2_)|with_reducible exact H|(rw [hy533];exact H)|exact H
   have Ny533:=zh hy533;clear hy533
   by_cases c14 : x3_1.length+y533.length<140737488355328
   ·
    rw [if_pos c14] at H
    have LMc14:=zh c14;clear c14;obtain ⟨y536,hy536⟩ : ∃ y_ : List Int,y_=(x3_1++y533):=⟨_,rfl⟩;replace H : (some (strOfNums y536))=some r:=by first|(rw [hy536];with_reducible exact H)|(have H2_:=(Option.bind_some _ _).symm.trans H;rw [hy536];with_reducible exact H2_)|(have H2_:=(Option.bind_some _ _).symm.trans H;with_reducible exact H2_)|with_reducible exact H|(rw [hy536];exact H)|exact H
    have Ny536:=zh hy536;clear hy536;obtain rfl:=zU H
    go_wp2_with (first|((with_reducible refine zK (N:=26) rfl ?_);refine Kd.R_lit (Kd.int .u8) _ 5 ?hg (N:=26) ?hd (xs:=([0,0] : List Int)) (inner:=[.int .u8 0,.int .u8 0]) (ok:=fun _=>True) (okp:=fun _=>True) ?hr ?hp (fun _ hk=>hk) trivial (Below.refl _ _) (ye _) (by simp) ?_;(case hd=>rfl);(case hg=>rfl);(case hr=>go_simp <;> rfl);(case hp=>exact (Reps.one (show Kd.M (Kd.int .u8) _ _ _ 0 [.int .u8 0] from rfl) (Reps.one (show Kd.M (Kd.int .u8) _ _ _ 0 [.int .u8 0] from rfl) (Reps.none _ _))));intro v534 w15 ho16 hb hg_ hnew_;clear hg_ hnew_;(first|rw [← Ny533.out] at ho16|(simp only [Int.reduceToNat] at ho16;rw [← Ny533.out] at ho16));have HO535:=zh (yy (Kd.R_new' ho16 (Kd.R_lt jAx)) (zB jD));replace HO_3:=zh (Kd.R_elder' jAx (Kd.R_base ho16) hb);replace HB:=zh (zC jD hb);clear hb ho16;obtain ⟨Ao18,co18,eo18⟩:=yk HO535.out;subst eo18)|((with_reducible refine yB (b:=.append) (xs:=#[.tmp 25,.tmp 26]) rfl ?_);at_builtin;refine Kd.R_append_rows (Kd.int .u8) (w0:=w) w.heap.size rfl (.tmp 25) (.tmp 26) 22 5 (.int .u8 0) 1 rfl Try.underlying22 info5 rfl jC jH u3 x3_1 y533 _ _ _ (fun k_=>some k_≠(.slice Ao18 y533.length co18 : Value).ownBlock) (fun _=>False) rfl rfl ?aO ?aR (fun _ _ h=>h) (fun _ h=>h.elim) ?aF ?aB ?aS ?aL ?_;(case aR=>repeat (first|exact (yh HO535.out).2.2|(with_reducible refine Kd.C_alloc ?_ _)|(with_reducible refine Kd.C_drewN ?_ _)|(with_reducible refine Kd.C_drew ?_)));(case aB=>exact jD);(case aF=>exact (fun k_ hk=>Kd.fresh' (Kd.R_lt jC9) k_ hk));(case aO=>exact (by (with_reducible repeat (first|apply zm|apply zn|apply zo));exact zM HO_3.out (fun _ hk=>hk.2)));(case aS=>exact (zB jD));(case aL=>have:=LMc14.out;omega);intro v537 w17 ho hb hg hat;rw [← Ny536.out] at ho;replace HO535:=zh (Kd.R_after (ok:=(fun _=>True)) jC9 hg hat);replace HB:=zh (hb);have HO538:=zh (ho);clear HO_3 ho hb hg hat;have hcv19:=own_string (P:=Try.prog) Try.underlying22 Try.underlying5 Try.underlying9 (Kd.own_of_R HO538.out)))
    go_ret
    exact ⟨jG,jD⟩
   rw [if_neg c14] at H;exact absurd H (by simp)

end Go.Proofs.Ytdjnplkpahgnmaa.Q
end

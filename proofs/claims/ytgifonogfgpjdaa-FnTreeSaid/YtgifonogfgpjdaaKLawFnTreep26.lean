/- Texts of this claim, merged by a program of this session. -/
import Derived.Test.YtgifonogfgpjdaaKLawFnTreep25
section
namespace Go.Proofs.Ytgifonogfgpjdaa.Q
open Go.RowKit Go.Proofs.YtgifonogfgpjdaaW.PrintWords Go.Proofs.YtgifonogfgpjdaaW.PrintLast Go.Proofs.YtgifonogfgpjdaaW.PrintMore
attribute [local go_sem] max2_int min2_int max_two min_two max_three min_three max_four min_four max2_str min2_str str_geq str_gtr str_leq
set_option linter.unusedVariables false
set_option linter.unusedSimpArgs false

def Fo.f (k : Nat) (l0_0 : List (S60)) (a0_1 : Int) (a1_0 : ByteArray) (a1_1 : Int) : Option (Int×Int):=(F4.f k l0_0 a0_1).bind fun t525=>(if t525=true then ((F07.f a1_0 a1_1).bind fun t526=>(if t526=true then ((Fa.f k l0_0 a0_1 a1_0 a1_1).bind fun t527=>(if 0≤t527 then (if t527<(l0_0.length : Int) then (some ((rd_T60 l0_0 t527).f0,0)) else (none)) else (none))) else (some (0,1)))) else (some (0,1)))
theorem Fo.mono : ∀ a0 a1 a2 a3 k,LeO (Fo.f k a0 a1 a2 a3) (Fo.f (k+1) a0 a1 a2 a3):=by
 intro a0 a1 a2 a3 k;unfold Fo.f
 repeat' first|(with_reducible first|exact F4.mono _ _ _|exact Fa.mono _ _ _ _ _|exact zQ _|exact zN _|refine zP ?_ ?_|refine zO ?_ (fun _=>?_))|refine zP ?_ ?_|refine zO ?_ (fun _=>?_)
def Fo.T3 : Bool×List (List Nat×List Nat):=(true,[([],[]),([0],[0]),([],[]),([],[]),([2,3],[2,3]),([1,4],[1,4]),([5],[5]),([6],[6]),([7,4,0,1,2,3,4,5,6,7],[7]),([8,0,1,2,3,4,5,6,7,8],[])])
def Fo.B3 : List Nat:=[0,1,0,0,12,31,63,127,255,511]
theorem Fo.tab3 : rtab .any (opsOf Try.f18 3)=Fo.T3:=by kernel_rfl
theorem Fo.bits3 : waitsOk Fo.T3.2 Fo.B3=true:=by kernel_rfl
set_option maxHeartbeats 8000000 in
set_option maxRecDepth 100000 in
theorem Fo.calls (k : Nat) (A0_0 : Option Addr) (c0_0 : Nat) (l0_0 : List (S60)) (a0_1 : Int) (a1_0 : ByteArray) (a1_1 : Int) (r1 : Int) (r2 : Int) (w : World) (hr0_0 : Kd.C k60 w A0_0 l0_0.length l0_0) (hc0_0 : l0_0.length≤c0_0) (h : Fo.f k l0_0 a0_1 a1_0 a1_1=some (r1,r2)) :
  Calls Try.prog 18 #[.agg #[.slice A0_0 l0_0.length c0_0,.int .i64 a0_1],.agg #[.string a1_0,.int .i64 a1_1]] w fun e w' => e = .returned (.tuple #[.int .i64 r1,.int .i64 r2])∧Below w.heap.size w w':=by
 have hu25:=Try.underlying25;have hu28:=Try.underlying28;have HR0_0:=zh hr0_0;have HC0_0:=zh hc0_0;clear hr0_0 hc0_0;have HB:=zh (Below.refl w.heap.size w);have H : ((F4.f k l0_0 a0_1).bind fun t525=>(if t525=true then ((F07.f a1_0 a1_1).bind fun t526=>(if t526=true then ((Fa.f k l0_0 a0_1 a1_0 a1_1).bind fun t527=>(if 0≤t527 then (if t527<(l0_0.length : Int) then (some ((rd_T60 l0_0 t527).f0,0)) else (none)) else (none))) else (some (0,1)))) else (some (0,1))))=some (r1,r2):=h;clear h;replace H:=zT.mp H;obtain ⟨t525,A30,H⟩:=H;have A3:=zh A30;clear A30
 by_cases c4 : t525=true
 ·
  subst c4
  rw [if_pos rfl] at H;replace H:=zT.mp H;obtain ⟨t526,A50,H⟩:=H;have A5:=zh A50;clear A50
  by_cases c6 : t526=true
  ·
   subst c6
   rw [if_pos rfl] at H;replace H:=zT.mp H;obtain ⟨t527,A70,H⟩:=H;have A7:=zh A70;clear A70
   by_cases c8 : 0≤t527
   ·
    rw [if_pos c8] at H
    have c8b0 : decide (0≤t527)=true:=decide_eq_true c8;clear c8
    by_cases c9 : t527<(l0_0.length : Int)
    ·
     rw [if_pos c9] at H
     have c9b0 : decide (t527<(l0_0.length : Int))=true:=decide_eq_true c9;clear c9;simp only [Option.some.injEq,Prod.mk.injEq] at H;obtain ⟨rfl,rfl⟩:=H
     go_enter Try.func18,Try.ntmps18
     try go_wp2_with (first|((with_reducible refine zK (N:=2) rfl ?_);refine zI ?hg (N:=2) ?hd (cs:=#[.slice A0_0 l0_0.length c0_0,.int .i64 a0_1]) (t:=25) ?hr ?_;(case hd=>rfl);(case hg=>rfl);(case hr=>go_simp <;> rfl);intro gb523 hg w10 hbox hb;have BK523:=zh (hbox);have hH_:=cH jH hb hg;have GW523:=zh hH_.1;have GE523:=GW523;replace HB:=zh hH_.2;clear hb hbox hg hH_)|((with_reducible refine zK (N:=3) rfl ?_);refine zI ?hg (N:=3) ?hd (cs:=#[.string a1_0,.int .i64 a1_1]) (t:=28) ?hr ?_;(case hd=>rfl);(case hg=>rfl);(case hr=>go_simp <;> rfl);intro gb524 hg w11 hbox hb;have BK524:=zh (hbox);have hH_:=cH jCQ hb hg;have GW524:=zh hH_.1;have GE524:=GW524;replace HB:=zh hH_.2;have NB523_524:=zh ((jCR : gb523≠gb524));have NB524_523:=zh NB523_524.out.symm;replace BK523:=zh (cD BK523.out jAQ hb);clear hb hbox hg hH_;have hnb12:=NB523_524.out;have hnc12:=NB524_523.out;obtain ⟨hcz13_0,hcz13_1,hfz13_0,hfz13_1⟩:=cB2 BK523.out)|((with_reducible refine zJ (f:=29) rfl ?_);refine yj (some 7) rfl rfl Try.func29 jA rfl #[.agg #[.slice A0_0 l0_0.length c0_0,.int .i64 a0_1]] rfl jF ?_;(with_reducible refine (F4.calls k  _ _ l0_0 a0_1 true _ ?side1 ?side2 A3.out).mono ?_);(case side1=>repeat (first|exact (Kd.C_below HR0_0.out HB.out)|(with_reducible refine Kd.C_alloc ?_ _)|(with_reducible refine Kd.C_drewN ?_ _)|(with_reducible refine Kd.C_drew ?_)));(case side2=>exact HC0_0.out);rintro e w14 ⟨rfl,hb⟩;refine ⟨_,rfl,?_⟩;replace BK523:=zh (cD BK523.out jAQ hb);replace BK524:=zh (cD BK524.out jBC hb);replace HB:=zh (zC jAV hb);(try clear hb);(try clear hb2);(try clear hk);(try clear hi);obtain ⟨hcz15_0,hcz15_1,hfz15_0,hfz15_1⟩:=cB2 BK524.out)|(go_at_call 35;(with_reducible refine (F07.calls  a1_0 a1_1 true _ A5.out).mono ?_);rintro e w16 ⟨rfl,hb⟩;replace BK523:=zh (cD BK523.out jAQ hb);replace BK524:=zh (cD BK524.out jBC hb);replace HB:=zh (zC jAV hb);(try clear hb);(try clear hb2);(try clear hk);(try clear hi)))
     replace BK523:=zh (zf BK523.out);replace BK524:=zh (zf BK524.out);replace HB:=zh (zc HB.out);have p528 : 0≤(t527 : Int):=zy jC;have q528 : t527<(l0_0.length : Int):=zy jC;obtain ⟨ad528,A528_1,c528_1,e528,hx528_0,hx528_1,hl528_1,hi528_1⟩:=at_T60 HR0_0.out t527 p528 q528;have hw528_1:=hx528_1;have hw528_0:=hx528_0
     cases e528
     replace hx528_0:=(HB.out.cell (zl w _ hx528_0)).trans hx528_0;replace hx528_1:=(HB.out.cell (zl w _ hx528_1)).trans hx528_1;have HR528_1:=zh hi528_1;have HC528_1:=zh hl528_1;clear hi528_1 hl528_1;replace p528:=eq_true p528;replace q528:=eq_true q528;refine start_ (n:=10) (S:=fun w' => w'.cell? ⟨gb523,0,none⟩=some (.slice (some ad528) l0_0.length c0_0)∧w'.cell? ⟨gb523,1,none⟩=some (.int .i64 a0_1)∧w'.cell? ⟨gb524,0,none⟩=some (.string a1_0)∧w'.cell? ⟨gb524,1,none⟩=some (.int .i64 a1_1)∧w'.cell? (ad528.add ((t527).toNat*2))=some (.int .i64 ((rd_T60 l0_0 t527).f0))∧w'.cell? ⟨(ad528.add ((t527).toNat*2)).block,(ad528.add ((t527).toNat*2)).off+1,none⟩=some (.slice A528_1 ((rd_T60 l0_0 t527).f1).length c528_1)) (ds:=[]) (bm_ 0 10) jA rfl rfl ⟨(zz BK523.out 0).trans rfl,(zz BK523.out 1).trans rfl,(zz BK524.out 0).trans rfl,(zz BK524.out 1).trans rfl,((HB.out.cell (zl w _ hw528_0)).trans hw528_0),((HB.out.cell (zl w _ hw528_1)).trans hw528_1)⟩ (fun hHeld=>?_);refine with_tabW Fo.tab3 Fo.bits3 (fun HT_ HW_=>?_);generalize w16.drew=w17 at BK523 BK524 HB HR528_1 hx528_0 hx528_1 hHeld ⊢;refine pure_ (i:=0) (N:=some 14) (v:=?_) (a':=?_) (bm_ 1 10) rfl rfl (any_of HT_.out jA) (fun _ _ _ h=>h) (Or.inl ⟨by rfl,?_⟩) ?_ ?_;rotate_left;exact jb;rotate_left;exact jc
     refine take_ (i:=1) (N:=some 15) (v:=?_) (a':=?_) (bm_ 2 10) rfl rfl (yo HT_.out HW_.out jA) (fun _ _ _ h=>h) (Or.inl ⟨by rfl,?_⟩) hHeld ?_ ?_;rotate_left
     ·
      rintro w' ⟨s0,s1,s2,s3,s4,s5⟩
      go_simp
      with_reducible rfl
     rotate_left
     exact jc
     refine take_ (i:=2) (N:=some 16) (v:=?_) (a':=?_) (bm_ 3 10) rfl rfl (yo HT_.out HW_.out jA) (fun _ _ _ h=>h) (Or.inl ⟨by rfl,?_⟩) hHeld ?_ ?_;rotate_left
     ·
      rintro w' ⟨s0,s1,s2,s3,s4,s5⟩
      go_simp
      with_reducible rfl
     rotate_left
     exact jc
     refine take_ (i:=3) (N:=some 17) (v:=?_) (a':=?_) (bm_ 4 10) rfl rfl (yo HT_.out HW_.out jA) (fun _ _ _ h=>h) (Or.inl ⟨by rfl,?_⟩) hHeld ?_ ?_;rotate_left
     ·
      rintro w' ⟨s0,s1,s2,s3,s4,s5⟩
      go_simp
      with_reducible rfl
     rotate_left
     exact jc
     refine one_ (i:=4) (N:=some 18) (bm_ 5 10) rfl rfl (one_of HT_.out jA) jB (fun K hK=>?_);refine goes_ Try.func39 jA rfl #[.agg #[.slice (some ad528) l0_0.length c0_0,.int .i64 a0_1],.agg #[.string a1_0,.int .i64 a1_1]] (by rfl) rfl rfl jF ?_
     with_reducible refine (Fa.calls k  _ _ l0_0 a0_1 a1_0 a1_1 t527 _ ?side1 ?side2 A7.out).mono ?_
     (case side1=>repeat (first|exact (Kd.C_below HR0_0.out HB.out)|(with_reducible refine Kd.C_alloc ?_ _)|(with_reducible refine Kd.C_drewN ?_ _)|(with_reducible refine Kd.C_drew ?_)))
     (case side2=>exact HC0_0.out)
     rintro e w18 ⟨rfl,hb⟩;refine ⟨_,rfl,?_⟩;replace BK523:=zh (cD BK523.out jAQ hb);replace BK524:=zh (cD BK524.out jBC hb);replace HB:=zh (zC jAV hb);(try clear hb);(try clear hb2);(try clear hk);(try clear hi);refine hK.out _ _ ⟨(zz BK523.out 0).trans rfl,(zz BK523.out 1).trans rfl,(zz BK524.out 0).trans rfl,(zz BK524.out 1).trans rfl,((HB.out.cell (zl w _ hw528_0)).trans hw528_0),((HB.out.cell (zl w _ hw528_1)).trans hw528_1)⟩ (fun hHeld=>?_);clear hK K;refine norm_ (a':=?_) ?_ ?_;rotate_left
     ·
      show Act.put _ (some 18) _=_
      simp only [Act.put,zi,zj,zk,zG,zH]
      rfl
     refine pure_ (i:=5) (N:=some 19) (v:=?_) (a':=?_) (bm_ 6 10) rfl rfl (any_of HT_.out jA) (fun _ _ _ h=>h) (Or.inl ⟨by rfl,?_⟩) ?_ ?_;rotate_left;exact jb;rotate_left;exact jc
     refine pure_ (i:=6) (N:=some 20) (v:=?_) (a':=?_) (bm_ 7 10) rfl rfl (any_of HT_.out jA) (fun _ _ _ h=>h) (Or.inl ⟨by rfl,?_⟩) ?_ ?_;rotate_left;exact jb;rotate_left;exact jc
     refine take_ (i:=7) (N:=some 21) (v:=?_) (a':=?_) (bm_ 8 10) rfl rfl (yo HT_.out HW_.out jA) (fun _ _ _ h=>h) (Or.inl ⟨by rfl,?_⟩) hHeld ?_ ?_;rotate_left
     ·
      rintro w' ⟨s0,s1,s2,s3,s4,s5⟩
      go_simp
      with_reducible rfl
     rotate_left
     exact jc
     refine pure_ (i:=8) (N:=some 4) (v:=?_) (a':=?_) (bm_ 9 10) rfl rfl (any_of HT_.out jA) (fun _ _ _ h=>h) (Or.inl ⟨by rfl,?_⟩) ?_ ?_;rotate_left;exact jb;rotate_left;exact jc
     refine pure_ (i:=9) (N:=some 5) (v:=?_) (a':=?_) (bm_ 10 10) rfl rfl (any_of HT_.out jA) (fun _ _ _ h=>h) (Or.inl ⟨by rfl,?_⟩) ?_ ?_;rotate_left;exact jb;rotate_left;exact jc
     refine done_ (done_of HT_.out jA) ?_
     try go_wp2
     go_ret2
     exact ⟨jG,jAV⟩
    rw [if_neg c9] at H;exact absurd H (by simp)
   rw [if_neg c8] at H;exact absurd H (by simp)
  replace c6:=yb.mpr c6;subst c6;rw [if_neg (show ¬ (false=true) by decide)] at H;simp only [Option.some.injEq,Prod.mk.injEq] at H;obtain ⟨rfl,rfl⟩:=H
  go_enter Try.func18,Try.ntmps18
  go_wp2_with (first|((with_reducible refine zK (N:=2) rfl ?_);refine zI ?hg (N:=2) ?hd (cs:=#[.slice A0_0 l0_0.length c0_0,.int .i64 a0_1]) (t:=25) ?hr ?_;(case hd=>rfl);(case hg=>rfl);(case hr=>go_simp <;> rfl);intro gb523 hg w19 hbox hb;have BK523:=zh (hbox);have hH_:=cH jH hb hg;have GW523:=zh hH_.1;have GE523:=GW523;replace HB:=zh hH_.2;clear hb hbox hg hH_)|((with_reducible refine zK (N:=3) rfl ?_);refine zI ?hg (N:=3) ?hd (cs:=#[.string a1_0,.int .i64 a1_1]) (t:=28) ?hr ?_;(case hd=>rfl);(case hg=>rfl);(case hr=>go_simp <;> rfl);intro gb524 hg w20 hbox hb;have BK524:=zh (hbox);have hH_:=cH jCQ hb hg;have GW524:=zh hH_.1;have GE524:=GW524;replace HB:=zh hH_.2;have NB523_524:=zh ((jCR : gb523≠gb524));have NB524_523:=zh NB523_524.out.symm;replace BK523:=zh (cD BK523.out jAQ hb);clear hb hbox hg hH_;have hnb21:=NB523_524.out;have hnc21:=NB524_523.out;obtain ⟨hcz22_0,hcz22_1,hfz22_0,hfz22_1⟩:=cB2 BK523.out)|((with_reducible refine zJ (f:=29) rfl ?_);refine yj (some 7) rfl rfl Try.func29 jA rfl #[.agg #[.slice A0_0 l0_0.length c0_0,.int .i64 a0_1]] rfl jF ?_;(with_reducible refine (F4.calls k  _ _ l0_0 a0_1 true _ ?side1 ?side2 A3.out).mono ?_);(case side1=>repeat (first|exact (Kd.C_below HR0_0.out HB.out)|(with_reducible refine Kd.C_alloc ?_ _)|(with_reducible refine Kd.C_drewN ?_ _)|(with_reducible refine Kd.C_drew ?_)));(case side2=>exact HC0_0.out);rintro e w23 ⟨rfl,hb⟩;refine ⟨_,rfl,?_⟩;replace BK523:=zh (cD BK523.out jAQ hb);replace BK524:=zh (cD BK524.out jBC hb);replace HB:=zh (zC jAV hb);(try clear hb);(try clear hb2);(try clear hk);(try clear hi);obtain ⟨hcz24_0,hcz24_1,hfz24_0,hfz24_1⟩:=cB2 BK524.out)|(go_at_call 35;(with_reducible refine (F07.calls  a1_0 a1_1 false _ A5.out).mono ?_);rintro e w25 ⟨rfl,hb⟩;replace BK523:=zh (cD BK523.out jAQ hb);replace BK524:=zh (cD BK524.out jBC hb);replace HB:=zh (zC jAV hb);(try clear hb);(try clear hb2);(try clear hk);(try clear hi)))
  go_ret2
  exact ⟨jG,jAV⟩
 replace c4:=yb.mpr c4;subst c4;rw [if_neg (show ¬ (false=true) by decide)] at H;simp only [Option.some.injEq,Prod.mk.injEq] at H;obtain ⟨rfl,rfl⟩:=H
 go_enter Try.func18,Try.ntmps18
 go_wp2_with (first|((with_reducible refine zK (N:=2) rfl ?_);refine zI ?hg (N:=2) ?hd (cs:=#[.slice A0_0 l0_0.length c0_0,.int .i64 a0_1]) (t:=25) ?hr ?_;(case hd=>rfl);(case hg=>rfl);(case hr=>go_simp <;> rfl);intro gb523 hg w26 hbox hb;have BK523:=zh (hbox);have hH_:=cH jH hb hg;have GW523:=zh hH_.1;have GE523:=GW523;replace HB:=zh hH_.2;clear hb hbox hg hH_)|((with_reducible refine zK (N:=3) rfl ?_);refine zI ?hg (N:=3) ?hd (cs:=#[.string a1_0,.int .i64 a1_1]) (t:=28) ?hr ?_;(case hd=>rfl);(case hg=>rfl);(case hr=>go_simp <;> rfl);intro gb524 hg w27 hbox hb;have BK524:=zh (hbox);have hH_:=cH jCQ hb hg;have GW524:=zh hH_.1;have GE524:=GW524;replace HB:=zh hH_.2;have NB523_524:=zh ((jCR : gb523≠gb524));have NB524_523:=zh NB523_524.out.symm;replace BK523:=zh (cD BK523.out jAQ hb);clear hb hbox hg hH_;have hnb28:=NB523_524.out;have hnc28:=NB524_523.out;obtain ⟨hcz29_0,hcz29_1,hfz29_0,hfz29_1⟩:=cB2 BK523.out)|((with_reducible refine zJ (f:=29) rfl ?_);refine yj (some 7) rfl rfl Try.func29 jA rfl #[.agg #[.slice A0_0 l0_0.length c0_0,.int .i64 a0_1]] rfl jF ?_;(with_reducible refine (F4.calls k  _ _ l0_0 a0_1 false _ ?side1 ?side2 A3.out).mono ?_);(case side1=>repeat (first|exact (Kd.C_below HR0_0.out HB.out)|(with_reducible refine Kd.C_alloc ?_ _)|(with_reducible refine Kd.C_drewN ?_ _)|(with_reducible refine Kd.C_drew ?_)));(case side2=>exact HC0_0.out);rintro e w30 ⟨rfl,hb⟩;refine ⟨_,rfl,?_⟩;replace BK523:=zh (cD BK523.out jAQ hb);replace BK524:=zh (cD BK524.out jBC hb);replace HB:=zh (zC jAV hb);(try clear hb);(try clear hb2);(try clear hk);(try clear hi)))
 go_ret2
 exact ⟨jG,jAV⟩

end Go.Proofs.Ytgifonogfgpjdaa.Q
end
section
namespace Go.Proofs.Ytgifonogfgpjdaa.Q
open Go.RowKit Go.Proofs.YtgifonogfgpjdaaW.PrintWords Go.Proofs.YtgifonogfgpjdaaW.PrintLast Go.Proofs.YtgifonogfgpjdaaW.PrintMore
attribute [local go_sem] max2_int min2_int max_two min_two max_three min_three max_four min_four max2_str min2_str str_geq str_gtr str_leq   -- for this text's walks alone
set_option linter.unusedVariables false
set_option linter.unusedSimpArgs false

attribute [local go_sem high] eqA28
def Fq.l0 : Nat→List (S28)→List (S28)→Int→Option (Bool)
 | 0,_,_,_=>none
 | k+1,x0,x1,x5=>if x5<(x0.length : Int) then (if 0≤x5 then (if x5<(x1.length : Int) then (if (!((((rd_T28 x0 x5).f0).toList) == (((rd_T28 x1 x5).f0).toList)) || (!(((rd_T28 x0 x5).f1) == ((rd_T28 x1 x5).f1))))=true then (some false) else (Fq.l0 k x0 x1 (wrap64 (x5+1)))) else (none)) else (none)) else (some true)
def Fq.f (k : Nat) (l0 : List (S28)) (l1 : List (S28)) : Option (Bool):=if (l0.length : Int)=(l1.length : Int) then (Fq.l0 k l0 l1 0) else (some false)
theorem Fq.mono_l : ∀ k,(∀ y0 y1 y2,LeO (Fq.l0 k y0 y1 y2) (Fq.l0 (k+1) y0 y1 y2))
 | 0=>fun _ _ _ r h=>by simp [Fq.l0] at h
 | k+1=>by
  have ih0:=Fq.mono_l k;intro y0 y1 y2;unfold Fq.l0
  repeat' first|(with_reducible first|exact ih0 _ _ _|exact zQ _|exact zN _|refine zP ?_ ?_|refine zO ?_ (fun _=>?_))|refine zP ?_ ?_|refine zO ?_ (fun _=>?_)
theorem Fq.mono : ∀ a0 a1 k,LeO (Fq.f k a0 a1) (Fq.f (k+1) a0 a1):=by
 intro a0 a1 k;have ih0:=Fq.mono_l k;unfold Fq.f
 repeat' first|(with_reducible first|exact ih0 _ _ _|exact zQ _|exact zN _|refine zP ?_ ?_|refine zO ?_ (fun _=>?_))|refine zP ?_ ?_|refine zO ?_ (fun _=>?_)
set_option maxHeartbeats 8000000 in
set_option maxRecDepth 100000 in
theorem Fq.calls (k : Nat) (A0 : Option Addr) (c0 : Nat) (l0 : List (S28)) (A1 : Option Addr) (c1 : Nat) (l1 : List (S28)) (r : Bool) (w : World) (hr0 : Kd.C k28 w A0 l0.length l0) (hc0 : l0.length≤c0) (hr1 : Kd.C k28 w A1 l1.length l1) (hc1 : l1.length≤c1) (h : Fq.f k l0 l1=some r) :
  Calls Try.prog 10 #[.slice A0 l0.length c0,.slice A1 l1.length c1] w fun e w' => e = .returned (.bool r)∧Drawn0 w w':=by
 have hu28:=Try.underlying28;have HR0:=zh hr0;have HC0:=zh hc0;clear hr0 hc0;have HR1:=zh hr1;have HC1:=zh hc1;clear hr1 hc1;have H : (if (l0.length : Int)=(l1.length : Int) then (Fq.l0 k l0 l1 0) else (some false))=some r:=h;clear h
 by_cases c3 : (l0.length : Int)=(l1.length : Int)
 ·
  rw [if_pos c3] at H
  have c3b0 : ((l0.length : Int) == (l1.length : Int))=true:=ya.mpr c3;have c3b1 : ((l0.length : Int) != (l1.length : Int))=false:=zX.mpr c3;have c3b2 : (l0.length == l1.length)=true:=by first|simpa using c3|(simp at c3 ⊢;omega)
  clear c3;have H':=zh H;clear H
  go_enter Try.func10,Try.ntmps10
  go_wp2
  repeat (go_quiet (fail);try go_wp2)
  go_loopg [5] k (fun kq v5 w' => ∃ (x5_1 : Int),v5 = .int .i64 x5_1∧Aside0 (Fq.l0 kq l0 l1 x5_1=some r)∧Aside0 (kq≤k)∧Drawn0 w w')
  case atStart=>exact ⟨(0),jE,H',⟨ye _⟩,jI⟩
  case round =>
   clear H'
   try clear c1
   try clear p2
   try clear c3 c3b0 c3b1 c3b2
   obtain ⟨x5_1,rfl,HA,HK1,⟨m1,rfl⟩⟩:=hrel
   cases gk with
   | zero=>exact absurd HA.out (by simp [Fq.l0])
   | succ k1 =>
    have H:=HA.out;clear HA;simp only [Fq.l0] at H
    by_cases c4 : x5_1<(l0.length : Int)
    ·
     rw [if_pos c4] at H
     have c4b0 : decide (x5_1<(l0.length : Int))=true:=decide_eq_true c4;clear c4
     by_cases c5 : 0≤x5_1
     ·
      rw [if_pos c5] at H
      have c5b0 : decide (0≤x5_1)=true:=decide_eq_true c5;clear c5
      by_cases c6 : x5_1<(l1.length : Int)
      ·
       rw [if_pos c6] at H
       have c6b0 : decide (x5_1<(l1.length : Int))=true:=decide_eq_true c6;clear c6
       by_cases c7 : (!((((rd_T28 l0 x5_1).f0).toList) == (((rd_T28 l1 x5_1).f0).toList)) || (!(((rd_T28 l0 x5_1).f1) == ((rd_T28 l1 x5_1).f1))))=true
       ·
        rw [if_pos c7] at H
        have c7b0 : (!((((rd_T28 l0 x5_1).f0).toList) == (((rd_T28 l1 x5_1).f0).toList)) || (!(((rd_T28 l0 x5_1).f1) == ((rd_T28 l1 x5_1).f1))))=true:=c7;clear c7;obtain rfl:=zU H;have p408 : 0≤(x5_1 : Int):=zy jC;have q408 : x5_1<(l0.length : Int):=zy jC;obtain ⟨ad408,e408,hx408_0,hx408_1⟩:=at_T28 HR0.out x5_1 p408 q408
        cases e408
        replace p408:=eq_true p408;replace q408:=eq_true q408;have p409 : 0≤(x5_1 : Int):=zy jC;have q409 : x5_1<(l1.length : Int):=zy jC;obtain ⟨ad409,e409,hx409_0,hx409_1⟩:=at_T28 HR1.out x5_1 p409 q409
        cases e409
        replace p409:=eq_true p409;replace q409:=eq_true q409
        go_wp2
        repeat (go_quiet (fail);try go_wp2)
        go_ret
        exact ⟨jE,jI⟩
       rw [if_neg c7] at H;have c7b0 : (!((((rd_T28 l0 x5_1).f0).toList) == (((rd_T28 l1 x5_1).f0).toList)) || (!(((rd_T28 l0 x5_1).f1) == ((rd_T28 l1 x5_1).f1))))=false:=by simpa using c7
       clear c7;have H':=zh H;clear H;have p408 : 0≤(x5_1 : Int):=zy jC;have q408 : x5_1<(l0.length : Int):=zy jC;obtain ⟨ad408,e408,hx408_0,hx408_1⟩:=at_T28 HR0.out x5_1 p408 q408
       cases e408
       replace p408:=eq_true p408;replace q408:=eq_true q408;have p409 : 0≤(x5_1 : Int):=zy jC;have q409 : x5_1<(l1.length : Int):=zy jC;obtain ⟨ad409,e409,hx409_0,hx409_1⟩:=at_T28 HR1.out x5_1 p409 q409
       cases e409
       replace p409:=eq_true p409;replace q409:=eq_true q409
       go_wp2
       repeat (go_quiet (fail);try go_wp2)
       go_roundg k1
       case measure=>have:=HK1.out;omega
       case rel=>exact ⟨(wrap64 (x5_1+1)),jE,H',⟨jR⟩,jI⟩
      rw [if_neg c6] at H;exact absurd H (by simp)
     rw [if_neg c5] at H;exact absurd H (by simp)
    rw [if_neg c4] at H;have c4b0 : decide (x5_1<(l0.length : Int))=false:=decide_eq_false c4;clear c4;obtain rfl:=zU H
    go_wp2
    repeat (go_quiet (fail);try go_wp2)
    go_ret
    exact ⟨jE,jI⟩
 rw [if_neg c3] at H;have c3b0 : ((l0.length : Int) == (l1.length : Int))=false:=zY.mpr c3;have c3b1 : ((l0.length : Int) != (l1.length : Int))=true:=zZ.mpr c3;have c3b2 : (l0.length == l1.length)=false:=by first|simpa using c3|(simp at c3 ⊢;omega)
 obtain rfl:=zU H
 go_enter Try.func10,Try.ntmps10
 go_wp2
 repeat (go_quiet (fail);try go_wp2)
 go_ret
 exact ⟨jE,jI⟩

end Go.Proofs.Ytgifonogfgpjdaa.Q
end
section
namespace Go.Proofs.Ytgifonogfgpjdaa.Q
open Go.RowKit Go.Proofs.YtgifonogfgpjdaaW.PrintWords Go.Proofs.YtgifonogfgpjdaaW.PrintLast Go.Proofs.YtgifonogfgpjdaaW.PrintMore
attribute [local go_sem] max2_int min2_int max_two min_two max_three min_three max_four min_four max2_str min2_str str_geq str_gtr str_leq   -- for this text's walks alone
set_option linter.unusedVariables false
set_option linter.unusedSimpArgs false

mutual
def Fe.j0 : Nat→Bool→List (S60)→Int→List (S60)→Int→Option (Bool)
 | 0,_,_,_,_,_=>none
 | k+1,x19,x530000,x530001,x531000,x531001=>if x19=true then (some false) else (Fe.l0 k 0 x530000 x530001 x531000 x531001)
def Fe.l0 : Nat→Int→List (S60)→Int→List (S60)→Int→Option (Bool)
 | 0,_,_,_,_,_=>none
 | k+1,x5,x530000,x530001,x531000,x531001=>if x5<(x530000.length : Int) then (if 0≤x5 then (if x5<(x531000.length : Int) then (if ((rd_T60 x530000 x5).f0)=((rd_T60 x531000 x5).f0) then ((Fq.f k ((rd_T60 x530000 x5).f1) ((rd_T60 x531000 x5).f1)).bind fun t535=>(if t535=true then (Fe.l0 k (wrap64 (x5+1)) x530000 x530001 x531000 x531001) else (some false))) else (some false)) else (none)) else (none)) else (some true)
end
def Fe.f (k : Nat) (l0_0 : List (S60)) (a0_1 : Int) (l1_0 : List (S60)) (a1_1 : Int) : Option (Bool):=if (l0_0.length : Int)=(l1_0.length : Int) then (Fe.j0 k (a0_1 != a1_1) l0_0 a0_1 l1_0 a1_1) else (Fe.j0 k true l0_0 a0_1 l1_0 a1_1)
theorem Fe.mono_l : ∀ k,(∀ y0 y1 y2 y3 y4,LeO (Fe.j0 k y0 y1 y2 y3 y4) (Fe.j0 (k+1) y0 y1 y2 y3 y4))∧(∀ y0 y1 y2 y3 y4,LeO (Fe.l0 k y0 y1 y2 y3 y4) (Fe.l0 (k+1) y0 y1 y2 y3 y4))
 | 0=>⟨fun _ _ _ _ _ r h=>by simp [Fe.j0] at h,fun _ _ _ _ _ r h=>by simp [Fe.l0] at h⟩
 | k+1=>by
  obtain ⟨ih0,ih1⟩:=Fe.mono_l k;refine ⟨?_,?_⟩
  ·
   intro y0 y1 y2 y3 y4
   unfold Fe.j0
   repeat' first|(with_reducible first|exact ih0 _ _ _ _ _|exact ih1 _ _ _ _ _|exact Fq.mono _ _ _|exact zQ _|exact zN _|refine zP ?_ ?_|refine zO ?_ (fun _=>?_))|refine zP ?_ ?_|refine zO ?_ (fun _=>?_)
  intro y0 y1 y2 y3 y4;unfold Fe.l0
  repeat' first|(with_reducible first|exact ih0 _ _ _ _ _|exact ih1 _ _ _ _ _|exact Fq.mono _ _ _|exact zQ _|exact zN _|refine zP ?_ ?_|refine zO ?_ (fun _=>?_))|refine zP ?_ ?_|refine zO ?_ (fun _=>?_)
theorem Fe.mono : ∀ a0 a1 a2 a3 k,LeO (Fe.f k a0 a1 a2 a3) (Fe.f (k+1) a0 a1 a2 a3):=by
 intro a0 a1 a2 a3 k;obtain ⟨ih0,ih1⟩:=Fe.mono_l k;unfold Fe.f
 repeat' first|(with_reducible first|exact ih0 _ _ _ _ _|exact ih1 _ _ _ _ _|exact Fq.mono _ _ _|exact zQ _|exact zN _|refine zP ?_ ?_|refine zO ?_ (fun _=>?_))|refine zP ?_ ?_|refine zO ?_ (fun _=>?_)
set_option maxHeartbeats 8000000 in
set_option maxRecDepth 100000 in
theorem Fe.calls (k : Nat) (A0_0 : Option Addr) (c0_0 : Nat) (l0_0 : List (S60)) (a0_1 : Int) (A1_0 : Option Addr) (c1_0 : Nat) (l1_0 : List (S60)) (a1_1 : Int) (r : Bool) (w : World) (hr0_0 : Kd.C k60 w A0_0 l0_0.length l0_0) (hc0_0 : l0_0.length≤c0_0) (hr1_0 : Kd.C k60 w A1_0 l1_0.length l1_0) (hc1_0 : l1_0.length≤c1_0) (h : Fe.f k l0_0 a0_1 l1_0 a1_1=some r) :
  Calls Try.prog 19 #[.agg #[.slice A0_0 l0_0.length c0_0,.int .i64 a0_1],.agg #[.slice A1_0 l1_0.length c1_0,.int .i64 a1_1]] w fun e w' => e = .returned (.bool r)∧Below w.heap.size w w':=by
 have hu25:=Try.underlying25;have HR0_0:=zh hr0_0;have HC0_0:=zh hc0_0;clear hr0_0 hc0_0;have HR1_0:=zh hr1_0;have HC1_0:=zh hc1_0;clear hr1_0 hc1_0;have HB:=zh (Below.refl w.heap.size w);have H : (if (l0_0.length : Int)=(l1_0.length : Int) then (Fe.j0 k (a0_1 != a1_1) l0_0 a0_1 l1_0 a1_1) else (Fe.j0 k true l0_0 a0_1 l1_0 a1_1))=some r:=h;clear h;have HC3:=zh H;clear H
 go_enter Try.func19,Try.ntmps19
 go_upto_region 1 with (first|((with_reducible refine zK (N:=2) rfl ?_);refine zI ?hg (N:=2) ?hd (cs:=#[.slice A0_0 l0_0.length c0_0,.int .i64 a0_1]) (t:=25) ?hr ?_;(case hd=>rfl);(case hg=>rfl);(case hr=>go_simp <;> rfl);intro gb529 hg w4 hbox hb;have BK529:=zh (hbox);have hH_:=cH jH hb hg;have GW529:=zh hH_.1;have GE529:=GW529;replace HB:=zh hH_.2;clear hb hbox hg hH_)|((with_reducible refine zK (N:=3) rfl ?_);refine zI ?hg (N:=3) ?hd (cs:=#[.slice A1_0 l1_0.length c1_0,.int .i64 a1_1]) (t:=25) ?hr ?_;(case hd=>rfl);(case hg=>rfl);(case hr=>go_simp <;> rfl);intro gb530 hg w5 hbox hb;have BK530:=zh (hbox);have hH_:=cH (by repeat (with_reducible first|exact HB.out|apply za|apply zb|apply zc|refine zd ?_ GE529.out)) hb hg;have GW530:=zh hH_.1;have GE530:=GW530;replace HB:=zh hH_.2;have NB529_530:=zh ((by rw [hg];exact yc (yi (g:=gb529) (o:=.cells #[.slice A0_0 l0_0.length c0_0,.int .i64 a0_1] 25 (0,0)) jBD) : gb529≠gb530));have NB530_529:=zh NB529_530.out.symm;replace BK529:=zh (cD BK529.out jBD hb);clear hb hbox hg hH_))
 (try simp only [Act.put,zi,zj,zk])
 go_cut [19] (fun v19 wc => ∃ (kq : Nat) (x19_2 : Bool),v19 = .bool x19_2∧Aside0 (Fe.j0 kq x19_2 l0_0 a0_1 l1_0 a1_1=some r)∧Aside0 (kq≤k)∧Aside0 (wc.heap[gb529]? = some (.cells #[(.slice A0_0 l0_0.length c0_0),.int .i64 a0_1] 25 (0,0)))∧Aside0 (wc.heap[gb530]? = some (.cells #[(.slice A1_0 l1_0.length c1_0),.int .i64 a1_1] 25 (0,0)))∧Aside0 (Below w.heap.size w wc))
 case first =>
  have H:=HC3.out;clear HC3
  by_cases c6 : (l0_0.length : Int)=(l1_0.length : Int)
  ·
   rw [if_pos c6] at H
   have c6b0 : ((l0_0.length : Int) == (l1_0.length : Int))=true:=ya.mpr c6;have c6b1 : ((l0_0.length : Int) != (l1_0.length : Int))=false:=zX.mpr c6;have c6b2 : (l0_0.length == l1_0.length)=true:=by first|simpa using c6|(simp at c6 ⊢;omega)
   clear c6;(first|rw [c6b0]|(simp only [zG,zH];rw [c6b0])|skip);have H':=zh H;clear H;have hnb7:=NB529_530.out;have hnc7:=NB530_529.out;obtain ⟨hcz8_0,hcz8_1,hfz8_0,hfz8_1⟩:=cB2 BK529.out;obtain ⟨hcz9_0,hcz9_1,hfz9_0,hfz9_1⟩:=cB2 BK530.out
   go_wp2
   repeat (go_quiet (fail);try go_wp2)
   go_meet
   case rel=>exact ⟨_,((a0_1 != a1_1)),jE,H',⟨jAI⟩,⟨jBD⟩,⟨jBx⟩,⟨jAi⟩⟩
  rw [if_neg c6] at H;have c6b0 : ((l0_0.length : Int) == (l1_0.length : Int))=false:=zY.mpr c6;have c6b1 : ((l0_0.length : Int) != (l1_0.length : Int))=true:=zZ.mpr c6;have c6b2 : (l0_0.length == l1_0.length)=false:=by first|simpa using c6|(simp at c6 ⊢;omega)
  (first|rw [c6b0]|(simp only [zG,zH];rw [c6b0])|skip);have H':=zh H;clear H;have hnb10:=NB529_530.out;have hnc10:=NB530_529.out;obtain ⟨hcz11_0,hcz11_1,hfz11_0,hfz11_1⟩:=cB2 BK529.out;obtain ⟨hcz12_0,hcz12_1,hfz12_0,hfz12_1⟩:=cB2 BK530.out
  go_wp2
  repeat (go_quiet (fail);try go_wp2)
  go_meet
  case rel=>exact ⟨_,(true),jE,H',⟨jAI⟩,⟨jBD⟩,⟨jBx⟩,⟨jAi⟩⟩
 case rest =>
  clear HC3
  try clear c1
  try clear p2
  try clear c6 c6b0 c6b1 c6b2 c7 c10
  try clear hcz11_0 hcz11_1
  try clear hcz12_0 hcz12_1
  try clear hcz8_0 hcz8_1
  try clear hcz9_0 hcz9_1
  try clear hfz11_0 hfz11_1
  try clear hfz12_0 hfz12_1
  try clear hfz8_0 hfz8_1
  try clear hfz9_0 hfz9_1
  obtain ⟨kq,x19_2,rfl,HA,HJ2,BK529,BK530,HB⟩:=hcut
  cases kq with
  | zero=>exact absurd HA.out (by simp [Fe.j0])
  | succ kj2 =>
   have H:=HA.out;clear HA;simp only [Fe.j0] at H
   by_cases c13 : x19_2=true
   ·
    subst c13
    rw [if_pos rfl] at H;obtain rfl:=zU H
    go_wp2
    repeat (go_quiet (fail);try go_wp2)
    go_ret
    exact ⟨jG,jAi⟩
   replace c13:=yb.mpr c13;subst c13;rw [if_neg (show ¬ (false=true) by decide)] at H;have H':=zh H;clear H
   go_wp2
   repeat (go_quiet (fail);try go_wp2)
   go_loopg [5] kj2 (fun kq v5 w' => ∃ (x5_2 : Int),v5 = .int .i64 x5_2∧Aside0 (Fe.l0 kq x5_2 l0_0 a0_1 l1_0 a1_1=some r)∧Aside0 (kq≤kj2)∧Aside0 (w'.heap[gb529]? = some (.cells #[(.slice A0_0 l0_0.length c0_0),.int .i64 a0_1] 25 (0,0)))∧Aside0 (w'.heap[gb530]? = some (.cells #[(.slice A1_0 l1_0.length c1_0),.int .i64 a1_1] 25 (0,0)))∧Aside0 (Below w.heap.size w w'))
   case atStart=>exact ⟨(0),jE,H',⟨ye _⟩,⟨jBD⟩,⟨jBx⟩,⟨jAi⟩⟩
   case round =>
    clear H'
    try clear c1
    try clear p2
    try clear c6 c6b0 c6b1 c6b2 c7 c10 c13
    try clear hcz11_0 hcz11_1
    try clear hcz12_0 hcz12_1
    try clear hcz8_0 hcz8_1
    try clear hcz9_0 hcz9_1
    try clear hfz11_0 hfz11_1
    try clear hfz12_0 hfz12_1
    try clear hfz8_0 hfz8_1
    try clear hfz9_0 hfz9_1
    try clear p2
    obtain ⟨x5_2,rfl,HA,HK2,BK529,BK530,HB⟩:=hrel
    cases gk with
    | zero=>exact absurd HA.out (by simp [Fe.l0])
    | succ k2 =>
     have H:=HA.out;clear HA;simp only [Fe.l0] at H
     by_cases c14 : x5_2<(l0_0.length : Int)
     ·
      rw [if_pos c14] at H
      have c14b0 : decide (x5_2<(l0_0.length : Int))=true:=decide_eq_true c14;clear c14
      by_cases c15 : 0≤x5_2
      ·
       rw [if_pos c15] at H
       have c15b0 : decide (0≤x5_2)=true:=decide_eq_true c15;clear c15
       by_cases c16 : x5_2<(l1_0.length : Int)
       ·
        rw [if_pos c16] at H
        have c16b0 : decide (x5_2<(l1_0.length : Int))=true:=decide_eq_true c16;clear c16
        by_cases c17 : ((rd_T60 l0_0 x5_2).f0)=((rd_T60 l1_0 x5_2).f0)
        ·
         rw [if_pos c17] at H
         have c17b0 : (((rd_T60 l0_0 x5_2).f0) == ((rd_T60 l1_0 x5_2).f0))=true:=ya.mpr c17;have c17b1 : (((rd_T60 l0_0 x5_2).f0) != ((rd_T60 l1_0 x5_2).f0))=false:=zX.mpr c17;clear c17;replace H:=zT.mp H;obtain ⟨t535,A180,H⟩:=H;have A18:=zh A180;clear A180
         by_cases c19 : t535=true
         ·
          subst c19
          rw [if_pos rfl] at H;have H':=zh H;clear H;have hnb20:=NB529_530.out;have hnc20:=NB530_529.out;obtain ⟨hcz21_0,hcz21_1,hfz21_0,hfz21_1⟩:=cB2 BK529.out;have p531 : 0≤(x5_2 : Int):=zy jC;have q531 : x5_2<(l0_0.length : Int):=zy jC;obtain ⟨ad531,A531_1,c531_1,e531,hx531_0,hx531_1,hl531_1,hi531_1⟩:=at_T60 HR0_0.out x5_2 p531 q531
          cases e531
          replace hx531_0:=(HB.out.cell (zl w _ hx531_0)).trans hx531_0;replace hx531_1:=(HB.out.cell (zl w _ hx531_1)).trans hx531_1;have HR531_1:=zh hi531_1;have HC531_1:=zh hl531_1;clear hi531_1 hl531_1;replace p531:=eq_true p531;replace q531:=eq_true q531;obtain ⟨hcz22_0,hcz22_1,hfz22_0,hfz22_1⟩:=cB2 BK530.out;have p532 : 0≤(x5_2 : Int):=zy jC;have q532 : x5_2<(l1_0.length : Int):=zy jC;obtain ⟨ad532,A532_1,c532_1,e532,hx532_0,hx532_1,hl532_1,hi532_1⟩:=at_T60 HR1_0.out x5_2 p532 q532
          cases e532
          replace hx532_0:=(HB.out.cell (zl w _ hx532_0)).trans hx532_0;replace hx532_1:=(HB.out.cell (zl w _ hx532_1)).trans hx532_1;have HR532_1:=zh hi532_1;have HC532_1:=zh hl532_1;clear hi532_1 hl532_1;replace p532:=eq_true p532;replace q532:=eq_true q532;have p533 : 0≤(x5_2 : Int):=zy jC;have q533 : x5_2<(l0_0.length : Int):=zy jC;obtain ⟨ad533,A533_1,c533_1,e533,hx533_0,hx533_1,hl533_1,hi533_1⟩:=at_T60 HR0_0.out x5_2 p533 q533;obtain rfl : ad531=ad533:=(by injection e533);replace hx533_0:=(HB.out.cell (zl w _ hx533_0)).trans hx533_0;replace hx533_1:=(HB.out.cell (zl w _ hx533_1)).trans hx533_1;have HR533_1:=zh hi533_1;have HC533_1:=zh hl533_1;clear hi533_1 hl533_1;replace p533:=eq_true p533;replace q533:=eq_true q533;have ea_:=zU (hx531_1.symm.trans hx533_1);injection ea_ with ea_ en_ ec_;subst ea_;subst ec_;clear en_;have p534 : 0≤(x5_2 : Int):=zy jC;have q534 : x5_2<(l1_0.length : Int):=zy jC;obtain ⟨ad534,A534_1,c534_1,e534,hx534_0,hx534_1,hl534_1,hi534_1⟩:=at_T60 HR1_0.out x5_2 p534 q534;obtain rfl : ad532=ad534:=(by injection e534);replace hx534_0:=(HB.out.cell (zl w _ hx534_0)).trans hx534_0;replace hx534_1:=(HB.out.cell (zl w _ hx534_1)).trans hx534_1;have HR534_1:=zh hi534_1;have HC534_1:=zh hl534_1;clear hi534_1 hl534_1;replace p534:=eq_true p534;replace q534:=eq_true q534;have ea_:=zU (hx532_1.symm.trans hx534_1);injection ea_ with ea_ en_ ec_;subst ea_;subst ec_;clear en_
          go_wp2_with (first|(go_at_call 10;(with_reducible refine (Fq.calls k2  _ _ ((rd_T60 l0_0 x5_2).f1) _ _ ((rd_T60 l1_0 x5_2).f1) true _ ?side1 ?side2 ?side3 ?side4 A18.out).mono ?_);(case side1=>repeat (first|exact (Kd.C_below HR533_1.out HB.out)|(with_reducible refine Kd.C_alloc ?_ _)|(with_reducible refine Kd.C_drewN ?_ _)|(with_reducible refine Kd.C_drew ?_)));(case side2=>exact HC533_1.out);(case side3=>repeat (first|exact (Kd.C_below HR534_1.out HB.out)|(with_reducible refine Kd.C_alloc ?_ _)|(with_reducible refine Kd.C_drewN ?_ _)|(with_reducible refine Kd.C_drew ?_)));(case side4=>exact HC534_1.out);rintro e w' ⟨rfl,⟨nd,rfl⟩⟩;(try first|exact ⟨rfl,_,World.drewN_drewN _ _ _⟩|exact ⟨rfl,_,Eq.trans (World.drewN_drewN _ _ _) (congrArg (World.drewN _) (Nat.add_assoc _ _ _))⟩)))
          repeat (go_quiet (first|(go_at_call 10;(with_reducible refine (Fq.calls k2  _ _ ((rd_T60 l0_0 x5_2).f1) _ _ ((rd_T60 l1_0 x5_2).f1) true _ ?side1 ?side2 ?side3 ?side4 A18.out).mono ?_);(case side1=>repeat (first|exact (Kd.C_below HR533_1.out HB.out)|(with_reducible refine Kd.C_alloc ?_ _)|(with_reducible refine Kd.C_drewN ?_ _)|(with_reducible refine Kd.C_drew ?_)));(case side2=>exact HC533_1.out);(case side3=>repeat (first|exact (Kd.C_below HR534_1.out HB.out)|(with_reducible refine Kd.C_alloc ?_ _)|(with_reducible refine Kd.C_drewN ?_ _)|(with_reducible refine Kd.C_drew ?_)));(case side4=>exact HC534_1.out);rintro e w' ⟨rfl,⟨nd,rfl⟩⟩;(try first|exact ⟨rfl,_,World.drewN_drewN _ _ _⟩|exact ⟨rfl,_,Eq.trans (World.drewN_drewN _ _ _) (congrArg (World.drewN _) (Nat.add_assoc _ _ _))⟩)));try go_wp2_with (first|(go_at_call 10;(with_reducible refine (Fq.calls k2  _ _ ((rd_T60 l0_0 x5_2).f1) _ _ ((rd_T60 l1_0 x5_2).f1) true _ ?side1 ?side2 ?side3 ?side4 A18.out).mono ?_);(case side1=>repeat (first|exact (Kd.C_below HR533_1.out HB.out)|(with_reducible refine Kd.C_alloc ?_ _)|(with_reducible refine Kd.C_drewN ?_ _)|(with_reducible refine Kd.C_drew ?_)));(case side2=>exact HC533_1.out);(case side3=>repeat (first|exact (Kd.C_below HR534_1.out HB.out)|(with_reducible refine Kd.C_alloc ?_ _)|(with_reducible refine Kd.C_drewN ?_ _)|(with_reducible refine Kd.C_drew ?_)));(case side4=>exact HC534_1.out);rintro e w' ⟨rfl,⟨nd,rfl⟩⟩;(try first|exact ⟨rfl,_,World.drewN_drewN _ _ _⟩|exact ⟨rfl,_,Eq.trans (World.drewN_drewN _ _ _) (congrArg (World.drewN _) (Nat.add_assoc _ _ _))⟩))))
          go_roundg k2
          case measure=>have:=HJ2.out;have:=HK2.out;omega
          case rel=>exact ⟨(wrap64 (x5_2+1)),jE,H',⟨by have:=HJ2.out;have:=HK2.out;omega⟩,⟨jBD⟩,⟨jBx⟩,⟨jAi⟩⟩
         replace c19:=yb.mpr c19;subst c19;rw [if_neg (show ¬ (false=true) by decide)] at H;obtain rfl:=zU H;have hnb23:=NB529_530.out;have hnc23:=NB530_529.out;obtain ⟨hcz24_0,hcz24_1,hfz24_0,hfz24_1⟩:=cB2 BK529.out;have p531 : 0≤(x5_2 : Int):=zy jC;have q531 : x5_2<(l0_0.length : Int):=zy jC;obtain ⟨ad531,A531_1,c531_1,e531,hx531_0,hx531_1,hl531_1,hi531_1⟩:=at_T60 HR0_0.out x5_2 p531 q531
         cases e531
         replace hx531_0:=(HB.out.cell (zl w _ hx531_0)).trans hx531_0;replace hx531_1:=(HB.out.cell (zl w _ hx531_1)).trans hx531_1;have HR531_1:=zh hi531_1;have HC531_1:=zh hl531_1;clear hi531_1 hl531_1;replace p531:=eq_true p531;replace q531:=eq_true q531;obtain ⟨hcz25_0,hcz25_1,hfz25_0,hfz25_1⟩:=cB2 BK530.out;have p532 : 0≤(x5_2 : Int):=zy jC;have q532 : x5_2<(l1_0.length : Int):=zy jC;obtain ⟨ad532,A532_1,c532_1,e532,hx532_0,hx532_1,hl532_1,hi532_1⟩:=at_T60 HR1_0.out x5_2 p532 q532
         cases e532
         replace hx532_0:=(HB.out.cell (zl w _ hx532_0)).trans hx532_0;replace hx532_1:=(HB.out.cell (zl w _ hx532_1)).trans hx532_1;have HR532_1:=zh hi532_1;have HC532_1:=zh hl532_1;clear hi532_1 hl532_1;replace p532:=eq_true p532;replace q532:=eq_true q532;have p533 : 0≤(x5_2 : Int):=zy jC;have q533 : x5_2<(l0_0.length : Int):=zy jC;obtain ⟨ad533,A533_1,c533_1,e533,hx533_0,hx533_1,hl533_1,hi533_1⟩:=at_T60 HR0_0.out x5_2 p533 q533;obtain rfl : ad531=ad533:=(by injection e533);replace hx533_0:=(HB.out.cell (zl w _ hx533_0)).trans hx533_0;replace hx533_1:=(HB.out.cell (zl w _ hx533_1)).trans hx533_1;have HR533_1:=zh hi533_1;have HC533_1:=zh hl533_1;clear hi533_1 hl533_1;replace p533:=eq_true p533;replace q533:=eq_true q533;have ea_:=zU (hx531_1.symm.trans hx533_1);injection ea_ with ea_ en_ ec_;subst ea_;subst ec_;clear en_;have p534 : 0≤(x5_2 : Int):=zy jC;have q534 : x5_2<(l1_0.length : Int):=zy jC;obtain ⟨ad534,A534_1,c534_1,e534,hx534_0,hx534_1,hl534_1,hi534_1⟩:=at_T60 HR1_0.out x5_2 p534 q534;obtain rfl : ad532=ad534:=(by injection e534);replace hx534_0:=(HB.out.cell (zl w _ hx534_0)).trans hx534_0;replace hx534_1:=(HB.out.cell (zl w _ hx534_1)).trans hx534_1;have HR534_1:=zh hi534_1;have HC534_1:=zh hl534_1;clear hi534_1 hl534_1;replace p534:=eq_true p534;replace q534:=eq_true q534;have ea_:=zU (hx532_1.symm.trans hx534_1);injection ea_ with ea_ en_ ec_;subst ea_;subst ec_;clear en_
         go_wp2_with (first|(go_at_call 10;(with_reducible refine (Fq.calls k2  _ _ ((rd_T60 l0_0 x5_2).f1) _ _ ((rd_T60 l1_0 x5_2).f1) false _ ?side1 ?side2 ?side3 ?side4 A18.out).mono ?_);(case side1=>repeat (first|exact (Kd.C_below HR533_1.out HB.out)|(with_reducible refine Kd.C_alloc ?_ _)|(with_reducible refine Kd.C_drewN ?_ _)|(with_reducible refine Kd.C_drew ?_)));(case side2=>exact HC533_1.out);(case side3=>repeat (first|exact (Kd.C_below HR534_1.out HB.out)|(with_reducible refine Kd.C_alloc ?_ _)|(with_reducible refine Kd.C_drewN ?_ _)|(with_reducible refine Kd.C_drew ?_)));(case side4=>exact HC534_1.out);rintro e w' ⟨rfl,⟨nd,rfl⟩⟩;(try first|exact ⟨rfl,_,World.drewN_drewN _ _ _⟩|exact ⟨rfl,_,Eq.trans (World.drewN_drewN _ _ _) (congrArg (World.drewN _) (Nat.add_assoc _ _ _))⟩)))
         repeat (go_quiet (first|(go_at_call 10;(with_reducible refine (Fq.calls k2  _ _ ((rd_T60 l0_0 x5_2).f1) _ _ ((rd_T60 l1_0 x5_2).f1) false _ ?side1 ?side2 ?side3 ?side4 A18.out).mono ?_);(case side1=>repeat (first|exact (Kd.C_below HR533_1.out HB.out)|(with_reducible refine Kd.C_alloc ?_ _)|(with_reducible refine Kd.C_drewN ?_ _)|(with_reducible refine Kd.C_drew ?_)));(case side2=>exact HC533_1.out);(case side3=>repeat (first|exact (Kd.C_below HR534_1.out HB.out)|(with_reducible refine Kd.C_alloc ?_ _)|(with_reducible refine Kd.C_drewN ?_ _)|(with_reducible refine Kd.C_drew ?_)));(case side4=>exact HC534_1.out);rintro e w' ⟨rfl,⟨nd,rfl⟩⟩;(try first|exact ⟨rfl,_,World.drewN_drewN _ _ _⟩|exact ⟨rfl,_,Eq.trans (World.drewN_drewN _ _ _) (congrArg (World.drewN _) (Nat.add_assoc _ _ _))⟩)));try go_wp2_with (first|(go_at_call 10;(with_reducible refine (Fq.calls k2  _ _ ((rd_T60 l0_0 x5_2).f1) _ _ ((rd_T60 l1_0 x5_2).f1) false _ ?side1 ?side2 ?side3 ?side4 A18.out).mono ?_);(case side1=>repeat (first|exact (Kd.C_below HR533_1.out HB.out)|(with_reducible refine Kd.C_alloc ?_ _)|(with_reducible refine Kd.C_drewN ?_ _)|(with_reducible refine Kd.C_drew ?_)));(case side2=>exact HC533_1.out);(case side3=>repeat (first|exact (Kd.C_below HR534_1.out HB.out)|(with_reducible refine Kd.C_alloc ?_ _)|(with_reducible refine Kd.C_drewN ?_ _)|(with_reducible refine Kd.C_drew ?_)));(case side4=>exact HC534_1.out);rintro e w' ⟨rfl,⟨nd,rfl⟩⟩;(try first|exact ⟨rfl,_,World.drewN_drewN _ _ _⟩|exact ⟨rfl,_,Eq.trans (World.drewN_drewN _ _ _) (congrArg (World.drewN _) (Nat.add_assoc _ _ _))⟩))))
         go_ret
         exact ⟨jG,jAi⟩
        rw [if_neg c17] at H;have c17b0 : (((rd_T60 l0_0 x5_2).f0) == ((rd_T60 l1_0 x5_2).f0))=false:=zY.mpr c17;have c17b1 : (((rd_T60 l0_0 x5_2).f0) != ((rd_T60 l1_0 x5_2).f0))=true:=zZ.mpr c17;obtain rfl:=zU H;have hnb26:=NB529_530.out;have hnc26:=NB530_529.out;obtain ⟨hcz27_0,hcz27_1,hfz27_0,hfz27_1⟩:=cB2 BK529.out;have p531 : 0≤(x5_2 : Int):=zy jC;have q531 : x5_2<(l0_0.length : Int):=zy jC;obtain ⟨ad531,A531_1,c531_1,e531,hx531_0,hx531_1,hl531_1,hi531_1⟩:=at_T60 HR0_0.out x5_2 p531 q531
        cases e531
        replace hx531_0:=(HB.out.cell (zl w _ hx531_0)).trans hx531_0;replace hx531_1:=(HB.out.cell (zl w _ hx531_1)).trans hx531_1;have HR531_1:=zh hi531_1;have HC531_1:=zh hl531_1;clear hi531_1 hl531_1;replace p531:=eq_true p531;replace q531:=eq_true q531;obtain ⟨hcz28_0,hcz28_1,hfz28_0,hfz28_1⟩:=cB2 BK530.out;have p532 : 0≤(x5_2 : Int):=zy jC;have q532 : x5_2<(l1_0.length : Int):=zy jC;obtain ⟨ad532,A532_1,c532_1,e532,hx532_0,hx532_1,hl532_1,hi532_1⟩:=at_T60 HR1_0.out x5_2 p532 q532
        cases e532
        replace hx532_0:=(HB.out.cell (zl w _ hx532_0)).trans hx532_0;replace hx532_1:=(HB.out.cell (zl w _ hx532_1)).trans hx532_1;have HR532_1:=zh hi532_1;have HC532_1:=zh hl532_1;clear hi532_1 hl532_1;replace p532:=eq_true p532;replace q532:=eq_true q532
        go_wp2
        repeat (go_quiet (fail);try go_wp2)
        go_ret
        exact ⟨jG,jAi⟩
       rw [if_neg c16] at H;exact absurd H (by simp)
      rw [if_neg c15] at H;exact absurd H (by simp)
     rw [if_neg c14] at H;have c14b0 : decide (x5_2<(l0_0.length : Int))=false:=decide_eq_false c14;clear c14;obtain rfl:=zU H;have hnb29:=NB529_530.out;have hnc29:=NB530_529.out;obtain ⟨hcz30_0,hcz30_1,hfz30_0,hfz30_1⟩:=cB2 BK529.out
     go_wp2
     repeat (go_quiet (fail);try go_wp2)
     go_ret
     exact ⟨jG,jAi⟩

end Go.Proofs.Ytgifonogfgpjdaa.Q
end
section
namespace Go.Proofs.Ytgifonogfgpjdaa.Q
open Go.RowKit Go.Proofs.YtgifonogfgpjdaaW.PrintWords Go.Proofs.YtgifonogfgpjdaaW.PrintLast Go.Proofs.YtgifonogfgpjdaaW.PrintMore
attribute [local go_sem] max2_int min2_int max_two min_two max_three min_three max_four min_four max2_str min2_str str_geq str_gtr str_leq
set_option linter.unusedVariables false
set_option linter.unusedSimpArgs false

def IsS71 (w0 W : World) (g : Nat) (f0 : List Int) (f1 : Int) (f2 : Int) : Prop:=∃ A0 c0,W.heap[g]? = some (.cells #[.slice A0 f0.length c0,.int .i64 f1,.int .i64 f2] 71 (0,0))∧w0.heap.size≤g∧Kd.C (Kd.int .u8) w0 A0 f0.length f0
theorem IsS71.grown {w0 W : World} {g : Nat} {f0 : List Int} {f1 : Int} {f2 : Int} {W1 : World} {row : Option Nat} (h : IsS71 w0 W g f0 f1 f2) (hw : W.grownBy W1 row) (hne : some g≠row) : IsS71 w0 W1 g f0 f1 f2:=by
 obtain ⟨A0,c0,hb,hg,hr0⟩:=h;exact ⟨A0,c0,yv hb hw hne,hg,hr0⟩
theorem IsS71.fresh {w0 W : World} {g : Nat} {f0 : List Int} {f1 : Int} {f2 : Int} (h : IsS71 w0 W g f0 f1 f2) : ∀ k,W.heap.size≤k→k≠g:=by
 obtain ⟨A0,c0,hb,hg,hr0⟩:=h;exact Kd.freshB hb
theorem IsS71.kept {w0 W : World} {g : Nat} {f0 : List Int} {f1 : Int} {f2 : Int} {W1 : World} {S : Nat→Prop} (h : IsS71 w0 W g f0 f1 f2) (hk : Kept W W1 S) (hne : ¬ S g) : IsS71 w0 W1 g f0 f1 f2:=by
 obtain ⟨A0,c0,hb,hg,hr0⟩:=h;exact ⟨A0,c0,blk_kept hb hk hne,hg,hr0⟩
theorem IsS71.below {w0 W : World} {g : Nat} {f0 : List Int} {f1 : Int} {f2 : Int} {W1 : World} (h : IsS71 w0 W g f0 f1 f2) (hw : Below W.heap.size W W1) : IsS71 w0 W1 g f0 f1 f2:=h.grown (grown_of_below hw none) (by simp)
theorem IsS71.alloc {w0 W : World} {g : Nat} {f0 : List Int} {f1 : Int} {f2 : Int} (h : IsS71 w0 W g f0 f1 f2) (o : Obj) : IsS71 w0 (W.alloc o) g f0 f1 f2:=h.below (za (Below.refl _ _) o)
theorem IsS71.drewN {w0 W : World} {g : Nat} {f0 : List Int} {f1 : Int} {f2 : Int} (h : IsS71 w0 W g f0 f1 f2) (m : Nat) : IsS71 w0 (W.drewN m) g f0 f1 f2:=h
theorem IsS71.drew {w0 W : World} {g : Nat} {f0 : List Int} {f1 : Int} {f2 : Int} (h : IsS71 w0 W g f0 f1 f2) : IsS71 w0 W.drew g f0 f1 f2:=h
theorem IsS71.at_ {w0 W : World} {g : Nat} {f0 : List Int} {f1 : Int} {f2 : Int} {w' : World} {m : Nat} (hq : W.drewN m=w') (h : IsS71 w0 W g f0 f1 f2) : IsS71 w0 w' g f0 f1 f2:=by subst hq;exact IsS71.drewN h m
theorem IsS71.apart {w0 W : World} {g : Nat} {f0 : List Int} {f1 : Int} {f2 : Int} {α : Type} {d : Kd α} {e : Nat} {base : Nat} {ok : Nat→Prop} {v : Value} {xs : List α} (h : IsS71 w0 W g f0 f1 f2) (ho : d.R e W base ok v xs) (ht : ∀ q,q ∈ e :: d.E→q≠71) : d.R e W base (fun k=>ok k∧k≠g) v xs:=by
 obtain ⟨A0,c0,hb,hg,hr0⟩:=h;exact yf ho hb ht
theorem IsS71.own_ne {w0 W : World} {g : Nat} {f0 : List Int} {f1 : Int} {f2 : Int} {α : Type} {d : Kd α} {e : Nat} {base : Nat} {ok : Nat→Prop} {v : Value} {xs : List α} (h : IsS71 w0 W g f0 f1 f2) (ho : d.R e W base ok v xs) (ht : e≠71) : some g≠v.ownBlock:=by
 obtain ⟨A0,c0,hb,hg,hr0⟩:=h;exact Kd.R_ne ho hb ht
theorem IsS71.lt {w0 W : World} {g : Nat} {f0 : List Int} {f1 : Int} {f2 : Int} (h : IsS71 w0 W g f0 f1 f2) : g<W.heap.size:=by
 obtain ⟨A0,c0,hb,hg,hr0⟩:=h;exact yi hb
theorem IsS71.ge {w0 W : World} {g : Nat} {f0 : List Int} {f1 : Int} {f2 : Int} (h : IsS71 w0 W g f0 f1 f2) : w0.heap.size≤g:=by
 obtain ⟨A0,c0,hb,hg,hr0⟩:=h;exact hg
theorem IsS71.ne_blk {w0 W : World} {g : Nat} {f0 : List Int} {f1 : Int} {f2 : Int} {a : Nat} {cs : Array Value} {t : TypeId} {fr : Nat×Nat} (h : IsS71 w0 W g f0 f1 f2) (hb2 : W.heap[a]? = some (.cells cs t fr)) (ht : t≠71) : g≠a:=by
 obtain ⟨A0,c0,hb,hg,hr0⟩:=h;rintro rfl;rw [hb] at hb2;injection hb2 with hb2;injection hb2 with _ ht2;exact ht ht2.symm
theorem IsS71.far {w0 W : World} {g : Nat} {f0 : List Int} {f1 : Int} {f2 : Int} {p : Addr} (h : IsS71 w0 W g f0 f1 f2) (hne : g≠p.block) (u : Value) : IsS71 w0 (W.setCell p u) g f0 f1 f2:=by
 obtain ⟨A0,c0,hb,hg,hr0⟩:=h;exact ⟨A0,c0,zS hb hne u,hg,hr0⟩
theorem cellS71_0 {W : World} {g : Nat} {A0 : Option Addr} {c0 : Nat} {f0 : List Int} {f1 : Int} {f2 : Int} (h : W.heap[g]? = some (.cells #[.slice A0 f0.length c0,.int .i64 f1,.int .i64 f2] 71 (0,0))) : W.cell? ⟨g,0,none⟩=some (.slice A0 f0.length c0):=(zz h 0).trans rfl
theorem cellS71_1 {W : World} {g : Nat} {A0 : Option Addr} {c0 : Nat} {f0 : List Int} {f1 : Int} {f2 : Int} (h : W.heap[g]? = some (.cells #[.slice A0 f0.length c0,.int .i64 f1,.int .i64 f2] 71 (0,0))) : W.cell? ⟨g,1,none⟩=some (.int .i64 f1):=(zz h 1).trans rfl
theorem IsS71.set_1 {w0 W : World} {g : Nat} {f0 : List Int} {f1 : Int} {f2 : Int} (h : IsS71 w0 W g f0 f1 f2) (x : Int) : IsS71 w0 (W.setCell ⟨g,1,none⟩ (.int .i64 x)) g f0 x f2:=by
 obtain ⟨A0,c0,hb,hg,hr0⟩:=h;exact ⟨A0,c0,by simpa using blk_set hb 1 (.int .i64 x),hg,hr0⟩
theorem cellS71_2 {W : World} {g : Nat} {A0 : Option Addr} {c0 : Nat} {f0 : List Int} {f1 : Int} {f2 : Int} (h : W.heap[g]? = some (.cells #[.slice A0 f0.length c0,.int .i64 f1,.int .i64 f2] 71 (0,0))) : W.cell? ⟨g,2,none⟩=some (.int .i64 f2):=(zz h 2).trans rfl
theorem IsS71.set_2 {w0 W : World} {g : Nat} {f0 : List Int} {f1 : Int} {f2 : Int} (h : IsS71 w0 W g f0 f1 f2) (x : Int) : IsS71 w0 (W.setCell ⟨g,2,none⟩ (.int .i64 x)) g f0 f1 x:=by
 obtain ⟨A0,c0,hb,hg,hr0⟩:=h;exact ⟨A0,c0,by simpa using blk_set hb 2 (.int .i64 x),hg,hr0⟩
theorem IsS71.new (w0 W : World) (A0 : Option Addr) (c0 : Nat) (f0 : List Int) (f1 : Int) (f2 : Int) (hB : Below w0.heap.size w0 W) (hr0 : Kd.C (Kd.int .u8) w0 A0 f0.length f0) : IsS71 w0 (W.alloc (.cells #[.slice A0 f0.length c0,.int .i64 f1,.int .i64 f2] 71)) W.heap.size f0 f1 f2:=⟨A0,c0,by simpa using heap_alloc_new W _,hB.size,hr0⟩

def F0g.f (l0 : List Int) : Option (List Int×Int×Int):=some (l0,0,(l0.length : Int) % 1000)
set_option maxHeartbeats 8000000 in
set_option maxRecDepth 100000 in
theorem F0g.calls (A0 : Option Addr) (c0 : Nat) (l0 : List Int) (r1 : List Int) (r2 : Int) (r3 : Int) (w0 w : World) (hB : Below w0.heap.size w0 w) (hr0 : Kd.C (Kd.int .u8) w0 A0 l0.length l0) (hc0 : l0.length≤c0) (h : F0g.f l0=some (r1,r2,r3)) :
  Calls Try.prog 21 #[.slice A0 l0.length c0] w fun e w' => ∃ g_ : Nat,e = .returned (.pointer (some ⟨g_,0,none⟩))∧IsS71 w0 w' g_ r1 r2 r3∧Below w0.heap.size w0 w' ∧ Below w.heap.size w w':=by
 have hu71:=Try.underlying71;have HR0:=zh hr0;have HC0:=zh hc0;clear hr0 hc0;have HBW:=zh (Below.refl w.heap.size w);have HW0:=zh hB.size;have HB:=zh hB;clear hB;have H : (some (l0,0,(l0.length : Int) % 1000))=some (r1,r2,r3):=h;clear h;simp only [Option.some.injEq,Prod.mk.injEq] at H;obtain ⟨rfl,rfl,rfl⟩:=H
 go_enter Try.func21,Try.ntmps21
 go_wp2_with (first|((with_reducible refine zK (N:=8) rfl ?_);refine zI ?hg (N:=8) ?hd (cs:=#[.slice A0 l0.length c0,.int .i64 0,.int .i64 ((l0.length : Int) % 1000)]) (t:=71) ?hr ?_;(case hd=>rfl);(case hg=>rfl);(case hr=>go_simp <;> rfl);intro gb101 hg w2 hbox hb;replace HB:=zh (zC jH hb);have BK101:=zh (hbox);have GW101:=zh ((jDN : w.heap.size≤gb101));have GE101:=zh ((Nat.le_trans HW0.out (jDN : w.heap.size≤gb101) : w0.heap.size≤gb101));replace HBW:=zh (zC HBW.out hb);clear hb hbox hg))
 go_ret
 exact ⟨_,rfl,(show IsS71 w0 _ gb101 l0 0 ((l0.length : Int) % 1000) from ⟨_,_,by (with_reducible repeat first|apply ze|apply zf|apply zg);exact BK101.out,GE101.out,HR0.out⟩),by repeat (with_reducible first|exact HB.out|apply za|apply zb|apply zc|refine zd ?_ GE101.out),by repeat (with_reducible first|exact HBW.out|apply za|apply zb|apply zc|refine zd ?_ GW101.out)⟩


def Fg.f (s0_0 : List Int) (s0_1 : Int) (s0_2 : Int) : Option (Int×Int×Int):=if (wrap64 (s0_1+1))≤(s0_0.length : Int) then (if 0≤(wrap64 ((wrap64 (s0_1+1)) - 1)) then (if (wrap64 ((wrap64 (s0_1+1)) - 1))<(s0_0.length : Int) then (some (wrap64 (rd s0_0 (wrap64 ((wrap64 (s0_1+1)) - 1))),wrap64 (s0_1+1),Int.tmod (wrap64 ((wrap64 ((wrap64 (s0_2*31))+(wrap64 (rd s0_0 (wrap64 ((wrap64 (s0_1+1)) - 1))))))+7)) 2147483648)) else (none)) else (none)) else (if (wrap64 (s0_1+1)) > 3000 then (some (0,wrap64 (s0_1+1),s0_2)) else (some (Int.tmod (wrap64 (Int.tdiv (Int.tmod (wrap64 ((wrap64 (s0_2*1103515245))+12345)) 2147483648) 65536)) 256,wrap64 (s0_1+1),Int.tmod (wrap64 ((wrap64 (s0_2*1103515245))+12345)) 2147483648)))
def Fg.T2 : Bool×List (List Nat×List Nat):=(true,[([],[]),([0],[0]),([1],[1]),([2],[2]),([],[]),([4],[4]),([5],[5]),([6],[6]),([7],[7]),([3,8],[3,8])])
def Fg.B2 : List Nat:=[0,1,3,7,0,16,48,112,240,511]
theorem Fg.tab2 : rtab .any (opsOf Try.f64 2)=Fg.T2:=by kernel_rfl
theorem Fg.bits2 : waitsOk Fg.T2.2 Fg.B2=true:=by kernel_rfl
def Fg.T3 : Bool×List (List Nat×List Nat):=(true,[([],[]),([],[]),([1],[1]),([2],[2]),([3],[3]),([4],[4]),([],[]),([6],[6]),([7],[7]),([8],[8]),([],[]),([10],[10]),([11],[11]),([12],[12]),([13],[13]),([9,14],[9,14]),([15],[15]),([16],[16]),([5,17],[5,17]),([18],[18]),([19],[19]),([0,0,1,2,3,4,5,6,7,8,9,10,11,12,13,14,15,16,17,18,19,20],[0]),([21,0,1,2,3,4,5,6,7,8,9,10,11,12,13,14,15,16,17,18,19,20],[21]),([22,20,0,1,2,3,4,5,6,7,8,9,10,11,12,13,14,15,16,17,18,19,20],[20,22])])
def Fg.B3 : List Nat:=[0,0,2,6,14,30,0,64,192,448,0,1024,3072,7168,15360,32704,65472,131008,262142,524286,1048574,2097151,4194303,8388607]
theorem Fg.tab3 : rtab .any (opsOf Try.f64 3)=Fg.T3:=by kernel_rfl
theorem Fg.bits3 : waitsOk Fg.T3.2 Fg.B3=true:=by kernel_rfl
def Fg.T4 : Bool×List (List Nat×List Nat):=(true,[([],[]),([0],[0]),([1],[1]),([2],[2]),([],[]),([4],[4]),([5],[5]),([6],[6]),([7],[7]),([3,8],[3,8]),([9],[9]),([10],[10]),([11,0,1,2,3,4,5,6,7,8,9,10,11],[11])])
def Fg.B4 : List Nat:=[0,1,3,7,0,16,48,112,240,511,1023,2047,4095]
theorem Fg.tab4 : rtab .any (opsOf Try.f64 4)=Fg.T4:=by kernel_rfl
theorem Fg.bits4 : waitsOk Fg.T4.2 Fg.B4=true:=by kernel_rfl
set_option maxHeartbeats 8000000 in
set_option maxRecDepth 100000 in
theorem Fg.calls (g : Nat) (s0_0 : List Int) (s0_1 : Int) (s0_2 : Int) (r1 : Int) (r2 : Int) (r3 : Int) (w0 w : World) (hI : IsS71 w0 w g s0_0 s0_1 s0_2) (hB : Below w0.heap.size w0 w) (h : Fg.f s0_0 s0_1 s0_2=some (r1,r2,r3)) :
  Calls Try.prog 64 #[.pointer (some ⟨g,0,none⟩)] w fun e w' => e = .returned (.int .i64 r1)∧IsS71 w0 w' g s0_0 r2 r3∧Below w0.heap.size w0 w' ∧ KeepBut w w' g none:=by
 have HI0:=zh hI;have HK:=zh (KeepBut.refl w g none);have HL:=zh hB.size;clear hI;have HW0:=zh hB.size;have HB:=zh hB;clear hB;have H : (if (wrap64 (s0_1+1))≤(s0_0.length : Int) then (if 0≤(wrap64 ((wrap64 (s0_1+1)) - 1)) then (if (wrap64 ((wrap64 (s0_1+1)) - 1))<(s0_0.length : Int) then (some (wrap64 (rd s0_0 (wrap64 ((wrap64 (s0_1+1)) - 1))),wrap64 (s0_1+1),Int.tmod (wrap64 ((wrap64 ((wrap64 (s0_2*31))+(wrap64 (rd s0_0 (wrap64 ((wrap64 (s0_1+1)) - 1))))))+7)) 2147483648)) else (none)) else (none)) else (if (wrap64 (s0_1+1)) > 3000 then (some (0,wrap64 (s0_1+1),s0_2)) else (some (Int.tmod (wrap64 (Int.tdiv (Int.tmod (wrap64 ((wrap64 (s0_2*1103515245))+12345)) 2147483648) 65536)) 256,wrap64 (s0_1+1),Int.tmod (wrap64 ((wrap64 (s0_2*1103515245))+12345)) 2147483648))))=some (r1,r2,r3):=h;clear h
 by_cases c2 : (wrap64 (s0_1+1))≤(s0_0.length : Int)
 ·
  rw [if_pos c2] at H
  have c2b0 : decide ((wrap64 (s0_1+1))≤(s0_0.length : Int))=true:=decide_eq_true c2;clear c2;obtain ⟨ji3,hji3⟩ : ∃ j_ : Int,(wrap64 ((wrap64 (s0_1+1)) - 1))=j_:=⟨_,rfl⟩;replace H : (if 0≤(ji3) then (if (ji3)<(s0_0.length : Int) then (some (wrap64 (rd s0_0 (ji3)),wrap64 (s0_1+1),Int.tmod (wrap64 ((wrap64 ((wrap64 (s0_2*31))+(wrap64 (rd s0_0 (ji3)))))+7)) 2147483648)) else (none)) else (none))=some (r1,r2,r3):=by first|(rw [hji3] at H;exact H)|(simp only [hji3] at H ⊢;exact H)
  have hji3w : (IntKind.i64.wrap ((wrap64 (s0_1+1)) - 1))=ji3:=(zG _).trans hji3
  by_cases c4 : 0≤(ji3)
  ·
   rw [if_pos c4] at H
   have c4b0 : decide (0≤(ji3))=true:=decide_eq_true c4;clear c4
   by_cases c5 : (ji3)<(s0_0.length : Int)
   ·
    rw [if_pos c5] at H
    have c5b0 : decide ((ji3)<(s0_0.length : Int))=true:=decide_eq_true c5;clear c5;simp only [Option.some.injEq,Prod.mk.injEq] at H;obtain ⟨rfl,rfl,rfl⟩:=H;obtain ⟨ASz6_0,cSz6_0,HGz6,hgz6,HSz6_0⟩:=HI0.out;have hcz6_0:=cellS71_0 HGz6;have hcz6_1:=cellS71_1 HGz6;have hcz6_2:=cellS71_2 HGz6;have hfz6_1:=zA HGz6 1;have hfz6_2:=zA HGz6 2;clear HGz6 hgz6
    go_enter Try.func64,Try.ntmps64
    try go_wp2
    have n0_ : Aside0 (IsS71 w0 (w.setCell ⟨g,1,none⟩ (.int .i64 (wrap64 (s0_1+1)))) g s0_0 (wrap64 (s0_1+1)) s0_2):=⟨jn⟩;have n1_ : Aside0 (KeepBut w (w.setCell ⟨g,1,none⟩ (.int .i64 (wrap64 (s0_1+1)))) g none):=⟨jS⟩;have n2_ : Aside0 (Below w0.heap.size w0 (w.setCell ⟨g,1,none⟩ (.int .i64 (wrap64 (s0_1+1))))):=⟨jo⟩;(try clear HI0);(try clear HK);(try clear HB);generalize (w.setCell ⟨g,1,none⟩ (.int .i64 (wrap64 (s0_1+1))))=w7 at n0_ n1_ n2_ ⊢;have HI0:=n0_;have HK:=n1_;have HB:=n2_;clear n0_ n1_ n2_;replace HI0:=zh (IsS71.drew HI0.out);replace HK:=zh (yw HK.out);replace HB:=zh (zc HB.out);obtain ⟨ASz9_0,cSz9_0,HGz9,hgz9,HSz9_0⟩:=HI0.out;have hcz9_0:=cellS71_0 HGz9;have hcz9_1:=cellS71_1 HGz9;have hcz9_2:=cellS71_2 HGz9;have hfz9_1:=zA HGz9 1;have hfz9_2:=zA HGz9 2;clear HGz9 hgz9;refine start_ (n:=10) (S:=fun w' => w'.cell? ⟨g,0,none⟩=some (.slice ASz9_0 s0_0.length cSz9_0)∧w'.cell? ⟨g,1,none⟩=some (.int .i64 (wrap64 (s0_1+1)))∧w'.cell? ⟨g,2,none⟩=some (.int .i64 s0_2)) (ds:=[]) (bm_ 0 10) jA rfl rfl ⟨hcz9_0,hcz9_1,hcz9_2⟩ (fun hHeld=>?_);refine with_tabW Fg.tab2 Fg.bits2 (fun HT_ HW_=>?_);generalize w7.drew=w8 at HI0 HK HB hHeld ⊢;refine pure_ (i:=0) (N:=some 10) (v:=?_) (a':=?_) (bm_ 1 10) rfl rfl (any_of HT_.out jA) (fun _ _ _ h=>h) (Or.inl ⟨by rfl,?_⟩) ?_ ?_;rotate_left;exact jb;rotate_left;exact jc
    refine pure_ (i:=1) (N:=some 11) (v:=?_) (a':=?_) (bm_ 2 10) rfl rfl (any_of HT_.out jA) (fun _ _ _ h=>h) (Or.inl ⟨by rfl,?_⟩) ?_ ?_;rotate_left;exact jb;rotate_left;exact jc
    refine pure_ (i:=2) (N:=some 12) (v:=?_) (a':=?_) (bm_ 3 10) rfl rfl (any_of HT_.out jA) (fun _ _ _ h=>h) (Or.inl ⟨by rfl,?_⟩) ?_ ?_;rotate_left;exact jb;rotate_left;exact jc
    refine pure_ (i:=4) (N:=some 14) (v:=?_) (a':=?_) #[true,true,true,false,true,false,false,false,false,false] rfl rfl (any_of HT_.out jA) (fun _ _ _ h=>h) (Or.inl ⟨by rfl,?_⟩) ?_ ?_;rotate_left;exact jb;rotate_left;exact jc
    refine pure_ (i:=5) (N:=some 15) (v:=?_) (a':=?_) #[true,true,true,false,true,true,false,false,false,false] rfl rfl (any_of HT_.out jA) (fun _ _ _ h=>h) (Or.inl ⟨by rfl,?_⟩) ?_ ?_;rotate_left;exact jb;rotate_left;exact jc
    refine pure_ (i:=6) (N:=some 16) (v:=?_) (a':=?_) #[true,true,true,false,true,true,true,false,false,false] rfl rfl (any_of HT_.out jA) (fun _ _ _ h=>h) (Or.inl ⟨by rfl,?_⟩) ?_ ?_;rotate_left;exact jb;rotate_left;exact jc
    refine take_ (i:=3) (N:=some 13) (v:=?_) (a':=?_) (bm_ 7 10) rfl rfl (yo HT_.out HW_.out jA) (fun _ _ _ h=>h) (Or.inl ⟨by rfl,?_⟩) hHeld ?_ ?_;rotate_left
    ·
     rintro w' ⟨s0,s1,s2⟩
     go_simp
     with_reducible rfl
    rotate_left
    exact jc
    refine take_ (i:=7) (N:=some 17) (v:=?_) (a':=?_) (bm_ 8 10) rfl rfl (yo HT_.out HW_.out jA) (fun _ _ _ h=>h) (Or.inl ⟨by rfl,?_⟩) hHeld ?_ ?_;rotate_left
    ·
     rintro w' ⟨s0,s1,s2⟩
     go_simp
     with_reducible rfl
    rotate_left
    exact jc
    refine pure_ (i:=8) (N:=some 18) (v:=?_) (a':=?_) (bm_ 9 10) rfl rfl (any_of HT_.out jA) (fun _ _ _ h=>h) (Or.inl ⟨by rfl,?_⟩) ?_ ?_;rotate_left;exact jb;rotate_left;exact jc
    refine pure_ (i:=9) (N:=some 19) (v:=?_) (a':=?_) (bm_ 10 10) rfl rfl (any_of HT_.out jA) (fun _ _ _ h=>h) (Or.inl ⟨by rfl,?_⟩) ?_ ?_;rotate_left;exact jb;rotate_left;exact jc
    refine done_ (done_of HT_.out jA) ?_
    try go_wp2
    replace HI0:=zh (IsS71.drew HI0.out);replace HK:=zh (yw HK.out);replace HB:=zh (zc HB.out);obtain ⟨ASz11_0,cSz11_0,HGz11,hgz11,HSz11_0⟩:=HI0.out;have hcz11_0:=cellS71_0 HGz11;have hcz11_1:=cellS71_1 HGz11;have hcz11_2:=cellS71_2 HGz11;have hfz11_1:=zA HGz11 1;have hfz11_2:=zA HGz11 2;clear HGz11 hgz11;have p102 : 0≤((ji3) : Int):=zy jC;have q102 : (ji3)<(s0_0.length : Int):=zy jC;obtain ⟨ad102,e102,hx102_0⟩:=Kd.at_int HSz11_0 (ji3) p102 q102;have hw102_0:=hx102_0
    cases e102
    replace hx102_0:=pw_cell_below HB.out hx102_0;replace p102:=eq_true p102;replace q102:=eq_true q102;refine start_ (n:=24) (S:=fun w' => w'.cell? ⟨g,0,none⟩=some (.slice (some ad102) s0_0.length cSz11_0)∧w'.cell? ⟨g,1,none⟩=some (.int .i64 (wrap64 (s0_1+1)))∧w'.cell? ⟨g,2,none⟩=some (.int .i64 s0_2)∧w'.cell? (ad102.add ((ji3)).toNat)=some (.int .u8 (rd s0_0 (ji3)))) (ds:=[23]) (bm_ 0 24) jA rfl rfl ⟨hcz11_0,hcz11_1,hcz11_2,((HB.out.cell (zl w0 _ hw102_0)).trans hw102_0)⟩ (fun hHeld=>?_);refine with_tabW Fg.tab3 Fg.bits3 (fun HT_ HW_=>?_);generalize w8.drew=w10 at HI0 HK HB hx102_0 hHeld ⊢;refine pure_ (i:=0) (N:=some 20) (v:=?_) (a':=?_) (bm_ 1 24) rfl rfl (any_of HT_.out jA) (fun _ _ _ h=>h) (Or.inl ⟨by rfl,?_⟩) ?_ ?_;rotate_left;exact jb;rotate_left;exact jc
    refine pure_ (i:=1) (N:=some 21) (v:=?_) (a':=?_) (bm_ 2 24) rfl rfl (any_of HT_.out jA) (fun _ _ _ h=>h) (Or.inl ⟨by rfl,?_⟩) ?_ ?_;rotate_left;exact jb;rotate_left;exact jc
    refine pure_ (i:=2) (N:=some 22) (v:=?_) (a':=?_) (bm_ 3 24) rfl rfl (any_of HT_.out jA) (fun _ _ _ h=>h) (Or.inl ⟨by rfl,?_⟩) ?_ ?_;rotate_left;exact jb;rotate_left;exact jc
    refine pure_ (i:=3) (N:=some 23) (v:=?_) (a':=?_) (bm_ 4 24) rfl rfl (any_of HT_.out jA) (fun _ _ _ h=>h) (Or.inl ⟨by rfl,?_⟩) ?_ ?_;rotate_left;exact jb;rotate_left;exact jc
    refine pure_ (i:=6) (N:=some 26) (v:=?_) (a':=?_) #[true,true,true,true,false,false,true,false,false,false,false,false,false,false,false,false,false,false,false,false,false,false,false,false] rfl rfl (any_of HT_.out jA) (fun _ _ _ h=>h) (Or.inl ⟨by rfl,?_⟩) ?_ ?_;rotate_left;exact jb;rotate_left;exact jc
    refine pure_ (i:=7) (N:=some 27) (v:=?_) (a':=?_) #[true,true,true,true,false,false,true,true,false,false,false,false,false,false,false,false,false,false,false,false,false,false,false,false] rfl rfl (any_of HT_.out jA) (fun _ _ _ h=>h) (Or.inl ⟨by rfl,?_⟩) ?_ ?_;rotate_left;exact jb;rotate_left;exact jc
    refine pure_ (i:=8) (N:=some 28) (v:=?_) (a':=?_) #[true,true,true,true,false,false,true,true,true,false,false,false,false,false,false,false,false,false,false,false,false,false,false,false] rfl rfl (any_of HT_.out jA) (fun _ _ _ h=>h) (Or.inl ⟨by rfl,?_⟩) ?_ ?_;rotate_left;exact jb;rotate_left;exact jc
    refine pure_ (i:=10) (N:=some 30) (v:=?_) (a':=?_) #[true,true,true,true,false,false,true,true,true,false,true,false,false,false,false,false,false,false,false,false,false,false,false,false] rfl rfl (any_of HT_.out jA) (fun _ _ _ h=>h) (Or.inl ⟨by rfl,?_⟩) ?_ ?_;rotate_left;exact jb;rotate_left;exact jc
    refine pure_ (i:=11) (N:=some 31) (v:=?_) (a':=?_) #[true,true,true,true,false,false,true,true,true,false,true,true,false,false,false,false,false,false,false,false,false,false,false,false] rfl rfl (any_of HT_.out jA) (fun _ _ _ h=>h) (Or.inl ⟨by rfl,?_⟩) ?_ ?_;rotate_left;exact jb;rotate_left;exact jc
    refine pure_ (i:=12) (N:=some 32) (v:=?_) (a':=?_) #[true,true,true,true,false,false,true,true,true,false,true,true,true,false,false,false,false,false,false,false,false,false,false,false] rfl rfl (any_of HT_.out jA) (fun _ _ _ h=>h) (Or.inl ⟨by rfl,?_⟩) ?_ ?_;rotate_left;exact jb;rotate_left;exact jc
    refine take_ (i:=4) (N:=some 24) (v:=?_) (a':=?_) #[true,true,true,true,true,false,true,true,true,false,true,true,true,false,false,false,false,false,false,false,false,false,false,false] rfl rfl (yo HT_.out HW_.out jA) (fun _ _ _ h=>h) (Or.inl ⟨by rfl,?_⟩) hHeld ?_ ?_;rotate_left
    ·
     rintro w' ⟨s0,s1,s2,s3⟩
     go_simp
     with_reducible rfl
    rotate_left
    exact jc
    refine pure_ (i:=5) (N:=some 25) (v:=?_) (a':=?_) #[true,true,true,true,true,true,true,true,true,false,true,true,true,false,false,false,false,false,false,false,false,false,false,false] rfl rfl (any_of HT_.out jA) (fun _ _ _ h=>h) (Or.inl ⟨by rfl,?_⟩) ?_ ?_;rotate_left;exact jb;rotate_left;exact jc
    refine take_ (i:=9) (N:=some 29) (v:=?_) (a':=?_) (bm_ 13 24) rfl rfl (yo HT_.out HW_.out jA) (fun _ _ _ h=>h) (Or.inl ⟨by rfl,?_⟩) hHeld ?_ ?_;rotate_left
    ·
     rintro w' ⟨s0,s1,s2,s3⟩
     go_simp
     with_reducible rfl
    rotate_left
    exact jc
    refine take_ (i:=13) (N:=some 33) (v:=?_) (a':=?_) (bm_ 14 24) rfl rfl (yo HT_.out HW_.out jA) (fun _ _ _ h=>h) (Or.inl ⟨by rfl,?_⟩) hHeld ?_ ?_;rotate_left
    ·
     rintro w' ⟨s0,s1,s2,s3⟩
     go_simp
     with_reducible rfl
    rotate_left
    exact jc
    refine pure_ (i:=14) (N:=some 34) (v:=?_) (a':=?_) (bm_ 15 24) rfl rfl (any_of HT_.out jA) (fun _ _ _ h=>h) (Or.inl ⟨by rfl,?_⟩) ?_ ?_;rotate_left;exact jb;rotate_left;exact jc
    refine pure_ (i:=15) (N:=some 35) (v:=?_) (a':=?_) (bm_ 16 24) rfl rfl (any_of HT_.out jA) (fun _ _ _ h=>h) (Or.inl ⟨by rfl,?_⟩) ?_ ?_;rotate_left;exact jb;rotate_left;exact jc
    refine take_ (i:=16) (N:=some 36) (v:=?_) (a':=?_) (bm_ 17 24) rfl rfl (yo HT_.out HW_.out jA) (fun _ _ _ h=>h) (Or.inl ⟨by rfl,?_⟩) hHeld ?_ ?_;rotate_left
    ·
     rintro w' ⟨s0,s1,s2,s3⟩
     go_simp
     with_reducible rfl
    rotate_left
    exact jc
    refine pure_ (i:=17) (N:=some 37) (v:=?_) (a':=?_) (bm_ 18 24) rfl rfl (any_of HT_.out jA) (fun _ _ _ h=>h) (Or.inl ⟨by rfl,?_⟩) ?_ ?_;rotate_left;exact jb;rotate_left;exact jc
    refine pure_ (i:=18) (N:=some 38) (v:=?_) (a':=?_) (bm_ 19 24) rfl rfl (any_of HT_.out jA) (fun _ _ _ h=>h) (Or.inl ⟨by rfl,?_⟩) ?_ ?_;rotate_left;exact jb;rotate_left;exact jc
    refine pure_ (i:=19) (N:=some 39) (v:=?_) (a':=?_) (bm_ 20 24) rfl rfl (any_of HT_.out jA) (fun _ _ _ h=>h) (Or.inl ⟨by rfl,?_⟩) ?_ ?_;rotate_left;exact jb;rotate_left;exact jc
    refine pure_ (i:=20) (N:=some 40) (v:=?_) (a':=?_) (bm_ 21 24) rfl rfl (any_of HT_.out jA) (fun _ _ _ h=>h) (Or.inl ⟨by rfl,?_⟩) ?_ ?_;rotate_left;exact jb;rotate_left;exact jc
    refine pure_ (i:=21) (N:=some 41) (v:=?_) (a':=?_) (bm_ 22 24) rfl rfl (any_of HT_.out jA) (fun _ _ _ h=>h) (Or.inl ⟨by rfl,?_⟩) ?_ ?_;rotate_left;exact jb;rotate_left;exact jc
    refine pure_ (i:=22) (N:=some 42) (v:=?_) (a':=?_) (bm_ 23 24) rfl rfl (any_of HT_.out jA) (fun _ _ _ h=>h) (Or.inl ⟨by rfl,?_⟩) ?_ ?_;rotate_left;exact jb;rotate_left;exact jc
    refine last_ (i:=23) (N:=none) (bm_ 24 24) rfl rfl (one_of HT_.out jA) jB (fun K hK=>?_);obtain ⟨ASs12_0,cSs12_0,HGs12,hgs12,HSs12_0⟩:=HI0.out;have hcs12:=cellS71_2 HGs12;have hfs12:=zA HGs12 2;refine skip_ (w1:=?_) (by rfl) rfl ?_ ?_;rotate_left
    ·
     go_simp
     rfl
    refine hK.out _ _ ?_;clear hK K;refine done_ (done_of HT_.out jA) ?_
    try go_wp2
    have n0_ : Aside0 (IsS71 w0 (w10.setCell ⟨g,2,none⟩ (.int .i64 (Int.tmod (wrap64 ((wrap64 ((wrap64 (s0_2*31))+(wrap64 (rd s0_0 (ji3)))))+7)) 2147483648))) g s0_0 (wrap64 (s0_1+1)) (Int.tmod (wrap64 ((wrap64 ((wrap64 (s0_2*31))+(wrap64 (rd s0_0 (ji3)))))+7)) 2147483648)):=⟨jn⟩;have n1_ : Aside0 (KeepBut w (w10.setCell ⟨g,2,none⟩ (.int .i64 (Int.tmod (wrap64 ((wrap64 ((wrap64 (s0_2*31))+(wrap64 (rd s0_0 (ji3)))))+7)) 2147483648))) g none):=⟨jS⟩;have n2_ : Aside0 (Below w0.heap.size w0 (w10.setCell ⟨g,2,none⟩ (.int .i64 (Int.tmod (wrap64 ((wrap64 ((wrap64 (s0_2*31))+(wrap64 (rd s0_0 (ji3)))))+7)) 2147483648)))):=⟨jo⟩;(try clear HI0);(try clear HK);(try clear HB);generalize (w10.setCell ⟨g,2,none⟩ (.int .i64 (Int.tmod (wrap64 ((wrap64 ((wrap64 (s0_2*31))+(wrap64 (rd s0_0 (ji3)))))+7)) 2147483648)))=w13 at n0_ n1_ n2_ ⊢;have HI0:=n0_;have HK:=n1_;have HB:=n2_;clear n0_ n1_ n2_;replace HI0:=zh (IsS71.drew HI0.out);replace HK:=zh (yw HK.out);replace HB:=zh (zc HB.out);obtain ⟨ASz15_0,cSz15_0,HGz15,hgz15,HSz15_0⟩:=HI0.out;have hcz15_0:=cellS71_0 HGz15;have hcz15_1:=cellS71_1 HGz15;have hcz15_2:=cellS71_2 HGz15;have hfz15_1:=zA HGz15 1;have hfz15_2:=zA HGz15 2;clear HGz15 hgz15;have p103 : 0≤((ji3) : Int):=zy jC;have q103 : (ji3)<(s0_0.length : Int):=zy jC;obtain ⟨ad103,e103,hx103_0⟩:=Kd.at_int HSz15_0 (ji3) p103 q103;have hw103_0:=hx103_0
    cases e103
    replace hx103_0:=pw_cell_below HB.out hx103_0;replace p103:=eq_true p103;replace q103:=eq_true q103;refine start_ (n:=13) (S:=fun w' => w'.cell? ⟨g,0,none⟩=some (.slice (some ad103) s0_0.length cSz15_0)∧w'.cell? ⟨g,1,none⟩=some (.int .i64 (wrap64 (s0_1+1)))∧w'.cell? ⟨g,2,none⟩=some (.int .i64 (Int.tmod (wrap64 ((wrap64 ((wrap64 (s0_2*31))+(wrap64 (rd s0_0 (ji3)))))+7)) 2147483648))∧w'.cell? (ad103.add ((ji3)).toNat)=some (.int .u8 (rd s0_0 (ji3)))) (ds:=[]) (bm_ 0 13) jA rfl rfl ⟨hcz15_0,hcz15_1,hcz15_2,((HB.out.cell (zl w0 _ hw103_0)).trans hw103_0)⟩ (fun hHeld=>?_);refine with_tabW Fg.tab4 Fg.bits4 (fun HT_ HW_=>?_);generalize w13.drew=w14 at HI0 HK HB hx103_0 hHeld ⊢;refine pure_ (i:=0) (N:=some 43) (v:=?_) (a':=?_) (bm_ 1 13) rfl rfl (any_of HT_.out jA) (fun _ _ _ h=>h) (Or.inl ⟨by rfl,?_⟩) ?_ ?_;rotate_left;exact jb;rotate_left;exact jc
    refine pure_ (i:=1) (N:=some 44) (v:=?_) (a':=?_) (bm_ 2 13) rfl rfl (any_of HT_.out jA) (fun _ _ _ h=>h) (Or.inl ⟨by rfl,?_⟩) ?_ ?_;rotate_left;exact jb;rotate_left;exact jc
    refine pure_ (i:=2) (N:=some 45) (v:=?_) (a':=?_) (bm_ 3 13) rfl rfl (any_of HT_.out jA) (fun _ _ _ h=>h) (Or.inl ⟨by rfl,?_⟩) ?_ ?_;rotate_left;exact jb;rotate_left;exact jc
    refine pure_ (i:=4) (N:=some 47) (v:=?_) (a':=?_) #[true,true,true,false,true,false,false,false,false,false,false,false,false] rfl rfl (any_of HT_.out jA) (fun _ _ _ h=>h) (Or.inl ⟨by rfl,?_⟩) ?_ ?_;rotate_left;exact jb;rotate_left;exact jc
    refine pure_ (i:=5) (N:=some 48) (v:=?_) (a':=?_) #[true,true,true,false,true,true,false,false,false,false,false,false,false] rfl rfl (any_of HT_.out jA) (fun _ _ _ h=>h) (Or.inl ⟨by rfl,?_⟩) ?_ ?_;rotate_left;exact jb;rotate_left;exact jc
    refine pure_ (i:=6) (N:=some 49) (v:=?_) (a':=?_) #[true,true,true,false,true,true,true,false,false,false,false,false,false] rfl rfl (any_of HT_.out jA) (fun _ _ _ h=>h) (Or.inl ⟨by rfl,?_⟩) ?_ ?_;rotate_left;exact jb;rotate_left;exact jc
    refine take_ (i:=3) (N:=some 46) (v:=?_) (a':=?_) (bm_ 7 13) rfl rfl (yo HT_.out HW_.out jA) (fun _ _ _ h=>h) (Or.inl ⟨by rfl,?_⟩) hHeld ?_ ?_;rotate_left
    ·
     rintro w' ⟨s0,s1,s2,s3⟩
     go_simp
     with_reducible rfl
    rotate_left
    exact jc
    refine take_ (i:=7) (N:=some 50) (v:=?_) (a':=?_) (bm_ 8 13) rfl rfl (yo HT_.out HW_.out jA) (fun _ _ _ h=>h) (Or.inl ⟨by rfl,?_⟩) hHeld ?_ ?_;rotate_left
    ·
     rintro w' ⟨s0,s1,s2,s3⟩
     go_simp
     with_reducible rfl
    rotate_left
    exact jc
    refine pure_ (i:=8) (N:=some 51) (v:=?_) (a':=?_) (bm_ 9 13) rfl rfl (any_of HT_.out jA) (fun _ _ _ h=>h) (Or.inl ⟨by rfl,?_⟩) ?_ ?_;rotate_left;exact jb;rotate_left;exact jc
    refine pure_ (i:=9) (N:=some 52) (v:=?_) (a':=?_) (bm_ 10 13) rfl rfl (any_of HT_.out jA) (fun _ _ _ h=>h) (Or.inl ⟨by rfl,?_⟩) ?_ ?_;rotate_left;exact jb;rotate_left;exact jc
    refine take_ (i:=10) (N:=some 53) (v:=?_) (a':=?_) (bm_ 11 13) rfl rfl (yo HT_.out HW_.out jA) (fun _ _ _ h=>h) (Or.inl ⟨by rfl,?_⟩) hHeld ?_ ?_;rotate_left
    ·
     rintro w' ⟨s0,s1,s2,s3⟩
     go_simp
     with_reducible rfl
    rotate_left
    exact jc
    refine pure_ (i:=11) (N:=some 54) (v:=?_) (a':=?_) (bm_ 12 13) rfl rfl (any_of HT_.out jA) (fun _ _ _ h=>h) (Or.inl ⟨by rfl,?_⟩) ?_ ?_;rotate_left;exact jb;rotate_left;exact jc
    refine pure_ (i:=12) (N:=some 2) (v:=?_) (a':=?_) (bm_ 13 13) rfl rfl (any_of HT_.out jA) (fun _ _ _ h=>h) (Or.inl ⟨by rfl,?_⟩) ?_ ?_;rotate_left;exact jb;rotate_left;exact jc
    refine done_ (done_of HT_.out jA) ?_
    try go_wp2
    go_ret
    exact ⟨by first|rfl|(simp [yt,yu] <;> rfl)|(simp only [← hji3];first|rfl|(simp [yt,yu] <;> rfl))|(simp [*,yt,yu] <;> rfl),jn,jo,jS⟩
   rw [if_neg c5] at H;exact absurd H (by simp)
  rw [if_neg c4] at H;exact absurd H (by simp)
 rw [if_neg c2] at H;have c2b0 : decide ((wrap64 (s0_1+1))≤(s0_0.length : Int))=false:=decide_eq_false c2;clear c2
 by_cases c16 : (wrap64 (s0_1+1)) > 3000
 ·
  rw [if_pos c16] at H
  have c16b0 : decide (3000<(wrap64 (s0_1+1)))=true:=decide_eq_true c16;clear c16;simp only [Option.some.injEq,Prod.mk.injEq] at H;obtain ⟨rfl,rfl,rfl⟩:=H;obtain ⟨ASz17_0,cSz17_0,HGz17,hgz17,HSz17_0⟩:=HI0.out;have hcz17_0:=cellS71_0 HGz17;have hcz17_1:=cellS71_1 HGz17;have hcz17_2:=cellS71_2 HGz17;have hfz17_1:=zA HGz17 1;have hfz17_2:=zA HGz17 2;clear HGz17 hgz17
  go_enter Try.func64,Try.ntmps64
  try go_wp2
  have n0_ : Aside0 (IsS71 w0 (w.setCell ⟨g,1,none⟩ (.int .i64 (wrap64 (s0_1+1)))) g s0_0 (wrap64 (s0_1+1)) s0_2):=⟨jn⟩;have n1_ : Aside0 (KeepBut w (w.setCell ⟨g,1,none⟩ (.int .i64 (wrap64 (s0_1+1)))) g none):=⟨jS⟩;have n2_ : Aside0 (Below w0.heap.size w0 (w.setCell ⟨g,1,none⟩ (.int .i64 (wrap64 (s0_1+1))))):=⟨jo⟩;(try clear HI0);(try clear HK);(try clear HB);generalize (w.setCell ⟨g,1,none⟩ (.int .i64 (wrap64 (s0_1+1))))=w18 at n0_ n1_ n2_ ⊢;have HI0:=n0_;have HK:=n1_;have HB:=n2_;clear n0_ n1_ n2_;replace HI0:=zh (IsS71.drew HI0.out);replace HK:=zh (yw HK.out);replace HB:=zh (zc HB.out);obtain ⟨ASz20_0,cSz20_0,HGz20,hgz20,HSz20_0⟩:=HI0.out;have hcz20_0:=cellS71_0 HGz20;have hcz20_1:=cellS71_1 HGz20;have hcz20_2:=cellS71_2 HGz20;have hfz20_1:=zA HGz20 1;have hfz20_2:=zA HGz20 2;clear HGz20 hgz20;refine start_ (n:=10) (S:=fun w' => w'.cell? ⟨g,0,none⟩=some (.slice ASz20_0 s0_0.length cSz20_0)∧w'.cell? ⟨g,1,none⟩=some (.int .i64 (wrap64 (s0_1+1)))∧w'.cell? ⟨g,2,none⟩=some (.int .i64 s0_2)) (ds:=[]) (bm_ 0 10) jA rfl rfl ⟨hcz20_0,hcz20_1,hcz20_2⟩ (fun hHeld=>?_);refine with_tabW Fg.tab2 Fg.bits2 (fun HT_ HW_=>?_);generalize w18.drew=w19 at HI0 HK HB hHeld ⊢;refine pure_ (i:=0) (N:=some 10) (v:=?_) (a':=?_) (bm_ 1 10) rfl rfl (any_of HT_.out jA) (fun _ _ _ h=>h) (Or.inl ⟨by rfl,?_⟩) ?_ ?_;rotate_left;exact jb;rotate_left;exact jc
  refine pure_ (i:=1) (N:=some 11) (v:=?_) (a':=?_) (bm_ 2 10) rfl rfl (any_of HT_.out jA) (fun _ _ _ h=>h) (Or.inl ⟨by rfl,?_⟩) ?_ ?_;rotate_left;exact jb;rotate_left;exact jc
  refine pure_ (i:=2) (N:=some 12) (v:=?_) (a':=?_) (bm_ 3 10) rfl rfl (any_of HT_.out jA) (fun _ _ _ h=>h) (Or.inl ⟨by rfl,?_⟩) ?_ ?_;rotate_left;exact jb;rotate_left;exact jc
  refine pure_ (i:=4) (N:=some 14) (v:=?_) (a':=?_) #[true,true,true,false,true,false,false,false,false,false] rfl rfl (any_of HT_.out jA) (fun _ _ _ h=>h) (Or.inl ⟨by rfl,?_⟩) ?_ ?_;rotate_left;exact jb;rotate_left;exact jc
  refine pure_ (i:=5) (N:=some 15) (v:=?_) (a':=?_) #[true,true,true,false,true,true,false,false,false,false] rfl rfl (any_of HT_.out jA) (fun _ _ _ h=>h) (Or.inl ⟨by rfl,?_⟩) ?_ ?_;rotate_left;exact jb;rotate_left;exact jc
  refine pure_ (i:=6) (N:=some 16) (v:=?_) (a':=?_) #[true,true,true,false,true,true,true,false,false,false] rfl rfl (any_of HT_.out jA) (fun _ _ _ h=>h) (Or.inl ⟨by rfl,?_⟩) ?_ ?_;rotate_left;exact jb;rotate_left;exact jc
  refine take_ (i:=3) (N:=some 13) (v:=?_) (a':=?_) (bm_ 7 10) rfl rfl (yo HT_.out HW_.out jA) (fun _ _ _ h=>h) (Or.inl ⟨by rfl,?_⟩) hHeld ?_ ?_;rotate_left
  ·
   rintro w' ⟨s0,s1,s2⟩
   go_simp
   with_reducible rfl
  rotate_left
  exact jc
  refine take_ (i:=7) (N:=some 17) (v:=?_) (a':=?_) (bm_ 8 10) rfl rfl (yo HT_.out HW_.out jA) (fun _ _ _ h=>h) (Or.inl ⟨by rfl,?_⟩) hHeld ?_ ?_;rotate_left
  ·
   rintro w' ⟨s0,s1,s2⟩
   go_simp
   with_reducible rfl
  rotate_left
  exact jc
  refine pure_ (i:=8) (N:=some 18) (v:=?_) (a':=?_) (bm_ 9 10) rfl rfl (any_of HT_.out jA) (fun _ _ _ h=>h) (Or.inl ⟨by rfl,?_⟩) ?_ ?_;rotate_left;exact jb;rotate_left;exact jc
  refine pure_ (i:=9) (N:=some 19) (v:=?_) (a':=?_) (bm_ 10 10) rfl rfl (any_of HT_.out jA) (fun _ _ _ h=>h) (Or.inl ⟨by rfl,?_⟩) ?_ ?_;rotate_left;exact jb;rotate_left;exact jc
  refine done_ (done_of HT_.out jA) ?_;obtain ⟨ASz21_0,cSz21_0,HGz21,hgz21,HSz21_0⟩:=HI0.out;have hcz21_0:=cellS71_0 HGz21;have hcz21_1:=cellS71_1 HGz21;have hcz21_2:=cellS71_2 HGz21;have hfz21_1:=zA HGz21 1;have hfz21_2:=zA HGz21 2;clear HGz21 hgz21
  try go_wp2
  go_ret
  exact ⟨jG,jn,jo,jS⟩
 rw [if_neg c16] at H;have c16b0 : decide (3000<(wrap64 (s0_1+1)))=false:=decide_eq_false c16;clear c16;simp only [Option.some.injEq,Prod.mk.injEq] at H;obtain ⟨rfl,rfl,rfl⟩:=H;obtain ⟨ASz22_0,cSz22_0,HGz22,hgz22,HSz22_0⟩:=HI0.out;have hcz22_0:=cellS71_0 HGz22;have hcz22_1:=cellS71_1 HGz22;have hcz22_2:=cellS71_2 HGz22;have hfz22_1:=zA HGz22 1;have hfz22_2:=zA HGz22 2;clear HGz22 hgz22
 go_enter Try.func64,Try.ntmps64
 try go_wp2
 have n0_ : Aside0 (IsS71 w0 (w.setCell ⟨g,1,none⟩ (.int .i64 (wrap64 (s0_1+1)))) g s0_0 (wrap64 (s0_1+1)) s0_2):=⟨jn⟩;have n1_ : Aside0 (KeepBut w (w.setCell ⟨g,1,none⟩ (.int .i64 (wrap64 (s0_1+1)))) g none):=⟨jS⟩;have n2_ : Aside0 (Below w0.heap.size w0 (w.setCell ⟨g,1,none⟩ (.int .i64 (wrap64 (s0_1+1))))):=⟨jo⟩;(try clear HI0);(try clear HK);(try clear HB);generalize (w.setCell ⟨g,1,none⟩ (.int .i64 (wrap64 (s0_1+1))))=w23 at n0_ n1_ n2_ ⊢;have HI0:=n0_;have HK:=n1_;have HB:=n2_;clear n0_ n1_ n2_;replace HI0:=zh (IsS71.drew HI0.out);replace HK:=zh (yw HK.out);replace HB:=zh (zc HB.out);obtain ⟨ASz25_0,cSz25_0,HGz25,hgz25,HSz25_0⟩:=HI0.out;have hcz25_0:=cellS71_0 HGz25;have hcz25_1:=cellS71_1 HGz25;have hcz25_2:=cellS71_2 HGz25;have hfz25_1:=zA HGz25 1;have hfz25_2:=zA HGz25 2;clear HGz25 hgz25;refine start_ (n:=10) (S:=fun w' => w'.cell? ⟨g,0,none⟩=some (.slice ASz25_0 s0_0.length cSz25_0)∧w'.cell? ⟨g,1,none⟩=some (.int .i64 (wrap64 (s0_1+1)))∧w'.cell? ⟨g,2,none⟩=some (.int .i64 s0_2)) (ds:=[]) (bm_ 0 10) jA rfl rfl ⟨hcz25_0,hcz25_1,hcz25_2⟩ (fun hHeld=>?_);refine with_tabW Fg.tab2 Fg.bits2 (fun HT_ HW_=>?_);generalize w23.drew=w24 at HI0 HK HB hHeld ⊢;refine pure_ (i:=0) (N:=some 10) (v:=?_) (a':=?_) (bm_ 1 10) rfl rfl (any_of HT_.out jA) (fun _ _ _ h=>h) (Or.inl ⟨by rfl,?_⟩) ?_ ?_;rotate_left;exact jb;rotate_left;exact jc
 refine pure_ (i:=1) (N:=some 11) (v:=?_) (a':=?_) (bm_ 2 10) rfl rfl (any_of HT_.out jA) (fun _ _ _ h=>h) (Or.inl ⟨by rfl,?_⟩) ?_ ?_;rotate_left;exact jb;rotate_left;exact jc
 refine pure_ (i:=2) (N:=some 12) (v:=?_) (a':=?_) (bm_ 3 10) rfl rfl (any_of HT_.out jA) (fun _ _ _ h=>h) (Or.inl ⟨by rfl,?_⟩) ?_ ?_;rotate_left;exact jb;rotate_left;exact jc
 refine pure_ (i:=4) (N:=some 14) (v:=?_) (a':=?_) #[true,true,true,false,true,false,false,false,false,false] rfl rfl (any_of HT_.out jA) (fun _ _ _ h=>h) (Or.inl ⟨by rfl,?_⟩) ?_ ?_;rotate_left;exact jb;rotate_left;exact jc
 refine pure_ (i:=5) (N:=some 15) (v:=?_) (a':=?_) #[true,true,true,false,true,true,false,false,false,false] rfl rfl (any_of HT_.out jA) (fun _ _ _ h=>h) (Or.inl ⟨by rfl,?_⟩) ?_ ?_;rotate_left;exact jb;rotate_left;exact jc
 refine pure_ (i:=6) (N:=some 16) (v:=?_) (a':=?_) #[true,true,true,false,true,true,true,false,false,false] rfl rfl (any_of HT_.out jA) (fun _ _ _ h=>h) (Or.inl ⟨by rfl,?_⟩) ?_ ?_;rotate_left;exact jb;rotate_left;exact jc
 refine take_ (i:=3) (N:=some 13) (v:=?_) (a':=?_) (bm_ 7 10) rfl rfl (yo HT_.out HW_.out jA) (fun _ _ _ h=>h) (Or.inl ⟨by rfl,?_⟩) hHeld ?_ ?_;rotate_left
 ·
  rintro w' ⟨s0,s1,s2⟩
  go_simp
  with_reducible rfl
 rotate_left
 exact jc
 refine take_ (i:=7) (N:=some 17) (v:=?_) (a':=?_) (bm_ 8 10) rfl rfl (yo HT_.out HW_.out jA) (fun _ _ _ h=>h) (Or.inl ⟨by rfl,?_⟩) hHeld ?_ ?_;rotate_left
 ·
  rintro w' ⟨s0,s1,s2⟩
  go_simp
  with_reducible rfl
 rotate_left
 exact jc
 refine pure_ (i:=8) (N:=some 18) (v:=?_) (a':=?_) (bm_ 9 10) rfl rfl (any_of HT_.out jA) (fun _ _ _ h=>h) (Or.inl ⟨by rfl,?_⟩) ?_ ?_;rotate_left;exact jb;rotate_left;exact jc
 refine pure_ (i:=9) (N:=some 19) (v:=?_) (a':=?_) (bm_ 10 10) rfl rfl (any_of HT_.out jA) (fun _ _ _ h=>h) (Or.inl ⟨by rfl,?_⟩) ?_ ?_;rotate_left;exact jb;rotate_left;exact jc
 refine done_ (done_of HT_.out jA) ?_;obtain ⟨ASz26_0,cSz26_0,HGz26,hgz26,HSz26_0⟩:=HI0.out;have hcz26_0:=cellS71_0 HGz26;have hcz26_1:=cellS71_1 HGz26;have hcz26_2:=cellS71_2 HGz26;have hfz26_1:=zA HGz26 1;have hfz26_2:=zA HGz26 2;clear HGz26 hgz26
 try go_wp2
 go_ret
 exact ⟨jG,jn,jo,jS⟩


def F06.f (s0_0 : List Int) (s0_1 : Int) (s0_2 : Int) (a1 : Int) : Option (Int×Int×Int):=if a1≤1 then (some (0,s0_1,s0_2)) else (if a1≤256 then ((Fg.f s0_0 s0_1 s0_2).bind fun bt104=>(if a1=0 then (none) else (some (Int.tmod bt104.1 a1,bt104.2.1,bt104.2.2)))) else ((Fg.f s0_0 s0_1 s0_2).bind fun bt107=>((Fg.f s0_0 bt107.2.1 bt107.2.2).bind fun bt110=>((Fg.f s0_0 bt110.2.1 bt110.2.2).bind fun bt113=>(if a1=0 then (none) else (some (Int.tmod (wrap64 ((wrap64 ((wrap64 (bt107.1*65536))+(wrap64 (bt110.1*256))))+bt113.1)) a1,bt113.2.1,bt113.2.2)))))))
set_option maxHeartbeats 8000000 in
set_option maxRecDepth 100000 in
theorem F06.calls (g : Nat) (s0_0 : List Int) (s0_1 : Int) (s0_2 : Int) (a1 : Int) (r1 : Int) (r2 : Int) (r3 : Int) (w0 w : World) (hI : IsS71 w0 w g s0_0 s0_1 s0_2) (hB : Below w0.heap.size w0 w) (h : F06.f s0_0 s0_1 s0_2 a1=some (r1,r2,r3)) :
  Calls Try.prog 44 #[.pointer (some ⟨g,0,none⟩),.int .i64 a1] w fun e w' => e = .returned (.int .i64 r1)∧IsS71 w0 w' g s0_0 r2 r3∧Below w0.heap.size w0 w' ∧ KeepBut w w' g none:=by
 have HI0:=zh hI;have HK:=zh (KeepBut.refl w g none);have HL:=zh hB.size;clear hI;have HW0:=zh hB.size;have HB:=zh hB;clear hB;have H : (if a1≤1 then (some (0,s0_1,s0_2)) else (if a1≤256 then ((Fg.f s0_0 s0_1 s0_2).bind fun bt104=>(if a1=0 then (none) else (some (Int.tmod bt104.1 a1,bt104.2.1,bt104.2.2)))) else ((Fg.f s0_0 s0_1 s0_2).bind fun bt107=>((Fg.f s0_0 bt107.2.1 bt107.2.2).bind fun bt110=>((Fg.f s0_0 bt110.2.1 bt110.2.2).bind fun bt113=>(if a1=0 then (none) else (some (Int.tmod (wrap64 ((wrap64 ((wrap64 (bt107.1*65536))+(wrap64 (bt110.1*256))))+bt113.1)) a1,bt113.2.1,bt113.2.2))))))))=some (r1,r2,r3):=h;clear h
 by_cases c3 : a1≤1
 ·
  rw [if_pos c3] at H
  have c3b0 : decide (a1≤1)=true:=decide_eq_true c3;clear c3;simp only [Option.some.injEq,Prod.mk.injEq] at H;obtain ⟨rfl,rfl,rfl⟩:=H
  go_enter Try.func44,Try.ntmps44
  go_wp2
  go_ret
  exact ⟨jG,jn,jo,jS⟩
 rw [if_neg c3] at H;have c3b0 : decide (a1≤1)=false:=decide_eq_false c3;clear c3
 by_cases c4 : a1≤256
 ·
  rw [if_pos c4] at H
  have c4b0 : decide (a1≤256)=true:=decide_eq_true c4;clear c4;replace H:=zT.mp H;obtain ⟨⟨t104,t105,t106⟩,A50,H⟩:=H;have A5:=zh A50;clear A50
  by_cases c6 : a1=0
  ·
   rw [if_pos c6] at H
   exact absurd H (by simp)
  rw [if_neg c6] at H;have c6b0 : (a1 == 0)=false:=zY.mpr c6;have c6b1 : (a1 != 0)=true:=zZ.mpr c6;simp only [Option.some.injEq,Prod.mk.injEq] at H;obtain ⟨rfl,rfl,rfl⟩:=H
  go_enter Try.func44,Try.ntmps44
  go_wp2_with (first|((with_reducible refine zJ (f:=64) rfl ?_);refine yj (some 13) rfl rfl Try.func64 jA rfl #[.pointer (some ⟨g,0,none⟩)] rfl jF ?_;(with_reducible refine (Fg.calls  g s0_0 s0_1 s0_2 t104 t105 t106 w0 _ ?side1 ?side2 A5.out).mono ?_);(case side1=>repeat (with_reducible first|exact HI0.out|apply IsS71.alloc|apply IsS71.drewN|apply IsS71.drew|apply IsS71.set_1|apply IsS71.set_2));(case side2=>repeat (with_reducible first|exact HB.out|apply za|apply zb|apply zc|refine zd ?_ (IsS71.ge HI0.out)));rintro e w7 ⟨rfl,hi,hb,hk⟩;refine ⟨_,rfl,?_⟩;replace HK:=zh (KeepBut.trans jS hk (.inl rfl));replace HB:=zh (hb);replace HI0:=zh (hi);(try clear hb);(try clear hb2);(try clear hk);(try clear hi)))
  go_ret
  exact ⟨jG,jn,jo,jS⟩
 rw [if_neg c4] at H;have c4b0 : decide (a1≤256)=false:=decide_eq_false c4;clear c4;replace H:=zT.mp H;obtain ⟨⟨t107,t108,t109⟩,A80,H⟩:=H;have A8:=zh A80;clear A80;replace H:=zT.mp H;obtain ⟨⟨t110,t111,t112⟩,A90,H⟩:=H;have A9:=zh A90;clear A90;replace H:=zT.mp H;obtain ⟨⟨t113,t114,t115⟩,A100,H⟩:=H;have A10:=zh A100;clear A100
 by_cases c11 : a1=0
 ·
  rw [if_pos c11] at H
  exact absurd H (by simp)
 rw [if_neg c11] at H;have c11b0 : (a1 == 0)=false:=zY.mpr c11;have c11b1 : (a1 != 0)=true:=zZ.mpr c11;simp only [Option.some.injEq,Prod.mk.injEq] at H;obtain ⟨rfl,rfl,rfl⟩:=H
 go_enter Try.func44,Try.ntmps44
 go_wp2_with (first|((with_reducible refine zJ (f:=64) rfl ?_);refine yj (some 17) rfl rfl Try.func64 jA rfl #[.pointer (some ⟨g,0,none⟩)] rfl jF ?_;(with_reducible refine (Fg.calls  g s0_0 s0_1 s0_2 t107 t108 t109 w0 _ ?side1 ?side2 A8.out).mono ?_);(case side1=>repeat (with_reducible first|exact HI0.out|apply IsS71.alloc|apply IsS71.drewN|apply IsS71.drew|apply IsS71.set_1|apply IsS71.set_2));(case side2=>repeat (with_reducible first|exact HB.out|apply za|apply zb|apply zc|refine zd ?_ (IsS71.ge HI0.out)));rintro e w12 ⟨rfl,hi,hb,hk⟩;refine ⟨_,rfl,?_⟩;replace HK:=zh (KeepBut.trans jS hk (.inl rfl));replace HB:=zh (hb);replace HI0:=zh (hi);(try clear hb);(try clear hb2);(try clear hk);(try clear hi))|((with_reducible refine zJ (f:=64) rfl ?_);refine yj (some 19) rfl rfl Try.func64 jA rfl #[.pointer (some ⟨g,0,none⟩)] rfl jF ?_;(with_reducible refine (Fg.calls  g s0_0 t108 t109 t110 t111 t112 w0 _ ?side1 ?side2 A9.out).mono ?_);(case side1=>repeat (with_reducible first|exact HI0.out|apply IsS71.alloc|apply IsS71.drewN|apply IsS71.drew|apply IsS71.set_1|apply IsS71.set_2));(case side2=>repeat (with_reducible first|exact HB.out|apply za|apply zb|apply zc|refine zd ?_ (IsS71.ge HI0.out)));rintro e w13 ⟨rfl,hi,hb,hk⟩;refine ⟨_,rfl,?_⟩;replace HK:=zh (KeepBut.trans jS hk (.inl rfl));replace HB:=zh (hb);replace HI0:=zh (hi);(try clear hb);(try clear hb2);(try clear hk);(try clear hi))|((with_reducible refine zJ (f:=64) rfl ?_);refine yj (some 21) rfl rfl Try.func64 jA rfl #[.pointer (some ⟨g,0,none⟩)] rfl jF ?_;(with_reducible refine (Fg.calls  g s0_0 t111 t112 t113 t114 t115 w0 _ ?side1 ?side2 A10.out).mono ?_);(case side1=>repeat (with_reducible first|exact HI0.out|apply IsS71.alloc|apply IsS71.drewN|apply IsS71.drew|apply IsS71.set_1|apply IsS71.set_2));(case side2=>repeat (with_reducible first|exact HB.out|apply za|apply zb|apply zc|refine zd ?_ (IsS71.ge HI0.out)));rintro e w14 ⟨rfl,hi,hb,hk⟩;refine ⟨_,rfl,?_⟩;replace HK:=zh (KeepBut.trans jS hk (.inl rfl));replace HB:=zh (hb);replace HI0:=zh (hi);(try clear hb);(try clear hb2);(try clear hk);(try clear hi)))
 go_ret
 exact ⟨jG,jn,jo,jS⟩


def F0m.f (s0_0 : List Int) (s0_1 : Int) (s0_2 : Int) (l1 : List ByteArray) : Option (ByteArray×Int×Int):=if (l1.length : Int)=0 then (some ((⟨#[]⟩ : ByteArray),s0_1,s0_2)) else ((F06.f s0_0 s0_1 s0_2 (l1.length : Int)).bind fun bt116=>(if 0≤bt116.1 then (if bt116.1<(l1.length : Int) then (some (rdOf ByteArray.empty l1 bt116.1,bt116.2.1,bt116.2.2)) else (none)) else (none)))
set_option maxHeartbeats 8000000 in
set_option maxRecDepth 100000 in
theorem F0m.calls (g : Nat) (s0_0 : List Int) (s0_1 : Int) (s0_2 : Int) (A1 : Option Addr) (c1 : Nat) (l1 : List ByteArray) (r1 : ByteArray) (r2 : Int) (r3 : Int) (w0 w : World) (hI : IsS71 w0 w g s0_0 s0_1 s0_2) (hB : Below w0.heap.size w0 w) (hr1 : Kd.C Kd.string w A1 l1.length l1) (hc1 : l1.length≤c1) (hf1 : ∀ ad,A1=some ad→0<l1.length→ad.block≠g) (h : F0m.f s0_0 s0_1 s0_2 l1=some (r1,r2,r3)) :
  Calls Try.prog 47 #[.pointer (some ⟨g,0,none⟩),.slice A1 l1.length c1] w fun e w' => e = .returned (.string r1)∧IsS71 w0 w' g s0_0 r2 r3∧Below w0.heap.size w0 w' ∧ KeepBut w w' g none:=by
 have HR1:=zh hr1;have HC1:=zh hc1;clear hr1 hc1;have HI0:=zh hI;have HK:=zh (KeepBut.refl w g none);have HL:=zh hB.size;clear hI;have HW0:=zh hB.size;have HB:=zh hB;clear hB;have H : (if (l1.length : Int)=0 then (some ((⟨#[]⟩ : ByteArray),s0_1,s0_2)) else ((F06.f s0_0 s0_1 s0_2 (l1.length : Int)).bind fun bt116=>(if 0≤bt116.1 then (if bt116.1<(l1.length : Int) then (some (rdOf ByteArray.empty l1 bt116.1,bt116.2.1,bt116.2.2)) else (none)) else (none))))=some (r1,r2,r3):=h;clear h
 by_cases c3 : (l1.length : Int)=0
 ·
  rw [if_pos c3] at H
  have c3b0 : ((l1.length : Int) == 0)=true:=ya.mpr c3;have c3b1 : ((l1.length : Int) != 0)=false:=zX.mpr c3;clear c3;simp only [Option.some.injEq,Prod.mk.injEq] at H;obtain ⟨rfl,rfl,rfl⟩:=H
  go_enter Try.func47,Try.ntmps47
  go_wp2
  go_ret
  exact ⟨jG,jn,jo,jS⟩
 rw [if_neg c3] at H;have c3b0 : ((l1.length : Int) == 0)=false:=zY.mpr c3;have c3b1 : ((l1.length : Int) != 0)=true:=zZ.mpr c3;have c3b2 : ¬ (l1=[]):=fun h_=>c3 (by rw [h_];rfl);replace H:=zT.mp H;obtain ⟨⟨t116,t117,t118⟩,A40,H⟩:=H;have A4:=zh A40;clear A40
 by_cases c5 : 0≤t116
 ·
  rw [if_pos c5] at H
  have c5b0 : decide (0≤t116)=true:=decide_eq_true c5;clear c5
  by_cases c6 : t116<(l1.length : Int)
  ·
   rw [if_pos c6] at H
   have c6b0 : decide (t116<(l1.length : Int))=true:=decide_eq_true c6;clear c6;simp only [Option.some.injEq,Prod.mk.injEq] at H;obtain ⟨rfl,rfl,rfl⟩:=H
   go_enter Try.func47,Try.ntmps47
   go_wp2_with (first|((with_reducible refine zJ (f:=44) rfl ?_);refine yj (some 12) rfl rfl Try.func44 jA rfl #[.pointer (some ⟨g,0,none⟩),.int .i64 (l1.length : Int)] rfl jF ?_;(with_reducible refine (F06.calls  g s0_0 s0_1 s0_2 (l1.length : Int) t116 t117 t118 w0 _ ?side1 ?side2 A4.out).mono ?_);(case side1=>repeat (with_reducible first|exact HI0.out|apply IsS71.alloc|apply IsS71.drewN|apply IsS71.drew|apply IsS71.set_1|apply IsS71.set_2));(case side2=>repeat (with_reducible first|exact HB.out|apply za|apply zb|apply zc|refine zd ?_ (IsS71.ge HI0.out)));rintro e w7 ⟨rfl,hi,hb,hk⟩;refine ⟨_,rfl,?_⟩;replace HK:=zh (KeepBut.trans jS hk (.inl rfl));replace HB:=zh (hb);replace HI0:=zh (hi);(try clear hb);(try clear hb2);(try clear hk);(try clear hi);have p119 : 0≤(t116 : Int):=zy jC;have q119 : t116<(l1.length : Int):=zy jC;obtain ⟨ad119,e119,hx119_0⟩:=Kd.at_string HR1.out t116 p119 q119;cases e119;replace hx119_0:=keep_cell HK.out hx119_0 (by first|(rw [zF];exact hf1 _ rfl jD)|exact hf1 _ rfl jD|exact hf1 ad119 rfl jD);replace p119:=eq_true p119;replace q119:=eq_true q119))
   go_ret
   exact ⟨jG,jn,jo,jS⟩
  rw [if_neg c6] at H;exact absurd H (by simp)
 rw [if_neg c5] at H;exact absurd H (by simp)


def F0a.f (s0_0 : List Int) (s0_1 : Int) (s0_2 : Int) : Option (ByteArray×Int×Int×Int):=(F0m.f s0_0 s0_1 s0_2 (([(⟨#[97]⟩ : ByteArray),(⟨#[98]⟩ : ByteArray),(⟨#[99]⟩ : ByteArray),(⟨#[97,97]⟩ : ByteArray),(⟨#[]⟩ : ByteArray),(⟨#[100]⟩ : ByteArray),(⟨#[101]⟩ : ByteArray)] : List ByteArray))).bind fun bt124=>((F06.f s0_0 bt124.2.1 bt124.2.2 4).bind fun bt127=>(some (bt124.1,bt127.1,bt127.2.1,bt127.2.2)))
set_option maxHeartbeats 8000000 in
set_option maxRecDepth 100000 in
theorem F0a.calls (g : Nat) (s0_0 : List Int) (s0_1 : Int) (s0_2 : Int) (r1 : ByteArray) (r2 : Int) (r3 : Int) (r4 : Int) (w0 w : World) (hI : IsS71 w0 w g s0_0 s0_1 s0_2) (hB : Below w0.heap.size w0 w) (h : F0a.f s0_0 s0_1 s0_2=some (r1,r2,r3,r4)) :
  Calls Try.prog 23 #[.pointer (some ⟨g,0,none⟩)] w fun e w' => e = .returned (.agg #[.string r1,.int .i64 r2])∧IsS71 w0 w' g s0_0 r3 r4∧Below w0.heap.size w0 w' ∧ KeepBut w w' g none:=by
 have hu28:=Try.underlying28;have HI0:=zh hI;have HK:=zh (KeepBut.refl w g none);have HL:=zh hB.size;clear hI;have HW0:=zh hB.size;have HB:=zh hB;clear hB;have H : ((F0m.f s0_0 s0_1 s0_2 (([(⟨#[97]⟩ : ByteArray),(⟨#[98]⟩ : ByteArray),(⟨#[99]⟩ : ByteArray),(⟨#[97,97]⟩ : ByteArray),(⟨#[]⟩ : ByteArray),(⟨#[100]⟩ : ByteArray),(⟨#[101]⟩ : ByteArray)] : List ByteArray))).bind fun bt124=>((F06.f s0_0 bt124.2.1 bt124.2.2 4).bind fun bt127=>(some (bt124.1,bt127.1,bt127.2.1,bt127.2.2))))=some (r1,r2,r3,r4):=h;clear h;obtain ⟨y121,hy121⟩ : ∃ y_ : List ByteArray,y_=(([(⟨#[97]⟩ : ByteArray),(⟨#[98]⟩ : ByteArray),(⟨#[99]⟩ : ByteArray),(⟨#[97,97]⟩ : ByteArray),(⟨#[]⟩ : ByteArray),(⟨#[100]⟩ : ByteArray),(⟨#[101]⟩ : ByteArray)] : List ByteArray)):=⟨_,rfl⟩;replace H : ((F0m.f s0_0 s0_1 s0_2 y121).bind fun bt124=>((F06.f s0_0 bt124.2.1 bt124.2.2 4).bind fun bt127=>(some (bt124.1,bt127.1,bt127.2.1,bt127.2.2))))=some (r1,r2,r3,r4):=by first|(rw [hy121];with_reducible exact H)|(have H2_:=(Option.bind_some _ _).symm.trans H;rw [hy121];with_reducible exact H2_)|(have H2_:=(Option.bind_some _ _).symm.trans H;with_reducible exact H2_)|with_reducible exact H|(rw [hy121];exact H)|exact H
 have Ny121:=zh hy121;clear hy121;replace H:=zT.mp H;obtain ⟨⟨t124,t125,t126⟩,A20,H⟩:=H;have A2:=zh A20;clear A20;replace H:=zT.mp H;obtain ⟨⟨t127,t128,t129⟩,A30,H⟩:=H;have A3:=zh A30;clear A30;simp only [Option.some.injEq,Prod.mk.injEq] at H;obtain ⟨rfl,rfl,rfl,rfl⟩:=H
 go_enter Try.func23,Try.ntmps23
 go_wp2_with (first|((with_reducible refine zK (N:=2) rfl ?_);refine zI ?hg (N:=2) ?hd (cs:=#[.string (⟨#[]⟩ : ByteArray),.int .i64 0]) (t:=28) ?hr ?_;(case hd=>rfl);(case hg=>rfl);(case hr=>go_simp <;> rfl);intro gb120 hg w4 hbox hb;replace HB:=zh (zC jo hb);have BK120:=zh (hbox);have GW120:=zh ((jBy : w.heap.size≤gb120));have GE120:=zh ((Nat.le_trans HW0.out (jBy : w.heap.size≤gb120) : w0.heap.size≤gb120));replace HK:=zh (KeepBut.trans jS (KeepBut.of_below hb g none) (.inl rfl));have NB0_120:=zh ((jDO : g≠gb120));have NB120_0:=zh ((jDP : gb120≠g));replace HI0:=zh (IsS71.below jn hb);clear hb hbox hg)|((with_reducible refine zK (N:=4) rfl ?_);refine Kd.R_lit Kd.string _ 9 ?hg (N:=4) ?hd (xs:=([(⟨#[97]⟩ : ByteArray),(⟨#[98]⟩ : ByteArray),(⟨#[99]⟩ : ByteArray),(⟨#[97,97]⟩ : ByteArray),(⟨#[]⟩ : ByteArray),(⟨#[100]⟩ : ByteArray),(⟨#[101]⟩ : ByteArray)] : List ByteArray)) (inner:=[.string (⟨#[97]⟩ : ByteArray),.string (⟨#[98]⟩ : ByteArray),.string (⟨#[99]⟩ : ByteArray),.string (⟨#[97,97]⟩ : ByteArray),.string (⟨#[]⟩ : ByteArray),.string (⟨#[100]⟩ : ByteArray),.string (⟨#[101]⟩ : ByteArray)]) (ok:=fun _=>True) (okp:=fun _=>True) ?hr ?hp (fun _ hk=>hk) trivial (Below.refl _ _) (ye _) (by simp) ?_;(case hd=>rfl);(case hg=>rfl);(case hr=>go_simp <;> rfl);(case hp=>exact (Reps.one (show Kd.M Kd.string _ _ _ (⟨#[97]⟩ : ByteArray) [.string (⟨#[97]⟩ : ByteArray)] from rfl) (Reps.one (show Kd.M Kd.string _ _ _ (⟨#[98]⟩ : ByteArray) [.string (⟨#[98]⟩ : ByteArray)] from rfl) (Reps.one (show Kd.M Kd.string _ _ _ (⟨#[99]⟩ : ByteArray) [.string (⟨#[99]⟩ : ByteArray)] from rfl) (Reps.one (show Kd.M Kd.string _ _ _ (⟨#[97,97]⟩ : ByteArray) [.string (⟨#[97,97]⟩ : ByteArray)] from rfl) (Reps.one (show Kd.M Kd.string _ _ _ (⟨#[]⟩ : ByteArray) [.string (⟨#[]⟩ : ByteArray)] from rfl) (Reps.one (show Kd.M Kd.string _ _ _ (⟨#[100]⟩ : ByteArray) [.string (⟨#[100]⟩ : ByteArray)] from rfl) (Reps.one (show Kd.M Kd.string _ _ _ (⟨#[101]⟩ : ByteArray) [.string (⟨#[101]⟩ : ByteArray)] from rfl) (Reps.none _ _)))))))));intro v122 w5 ho6 hb hg_ hnew_;clear hg_ hnew_;(first|rw [← Ny121.out] at ho6|(simp only [Int.reduceToNat] at ho6;rw [← Ny121.out] at ho6));have HO123:=zh (yx ho6 (keep_size (w:=w) (g:=g) (row:=none) jBQ));replace BK120:=zh (cD BK120.out jCS hb);replace HK:=zh (KeepBut.trans jBQ (KeepBut.of_below hb g none) (.inl rfl));replace HB:=zh (zC jDQ hb);replace HI0:=zh (IsS71.below jDR hb);clear hb ho6;obtain ⟨Ao7,co7,eo7⟩:=yk HO123.out;subst eo7)|((with_reducible refine zJ (f:=47) rfl ?_);refine yj (some 5) rfl rfl Try.func47 jA rfl #[.pointer (some ⟨g,0,none⟩),.slice Ao7 y121.length co7] rfl jF ?_;(with_reducible refine (F0m.calls  g s0_0 s0_1 s0_2 _ _ y121 t124 t125 t126 w0 _ ?side1 ?side2 ?side3 ?side4 ?side5 A2.out).mono ?_);(case side1=>repeat (with_reducible first|exact HI0.out|apply IsS71.alloc|apply IsS71.drewN|apply IsS71.drew|apply IsS71.set_1|apply IsS71.set_2|refine IsS71.far ?_ NB0_120.out _));(case side2=>repeat (with_reducible first|exact HB.out|apply za|apply zb|apply zc|refine zd ?_ (IsS71.ge HI0.out)|refine zd ?_ GE120.out));(case side3=>repeat (first|exact (yh HO123.out).2.2|(with_reducible refine Kd.C_alloc ?_ _)|(with_reducible refine Kd.C_drewN ?_ _)|(with_reducible refine Kd.C_drew ?_)));(case side4=>exact (yh HO123.out).2.1);(case side5=>exact far_slice (IsS71.own_ne HI0.out HO123.out jB));rintro e w8 ⟨rfl,hi,hb,hk⟩;refine ⟨_,rfl,?_⟩;replace BK120:=zh (KeepBut.blk hk (g':=gb120) (o:=.cells #[.string (⟨#[]⟩ : ByteArray),.int .i64 0] 28 (0,0)) jCS NB120_0.out (by simp));replace HO123:=zh (zM (Kd.R_keep (IsS71.apart (show IsS71 w0 _ g s0_0 s0_1 s0_2 from by repeat (with_reducible first|exact HI0.out|apply IsS71.alloc|apply IsS71.drewN|apply IsS71.drew|apply IsS71.set_1|apply IsS71.set_2|refine IsS71.far ?_ NB0_120.out _)) jDS jB) hk (fun _ h=>h.2)) (fun _ h=>h.1));replace HK:=zh (KeepBut.trans jBQ hk (.inl rfl));replace HB:=zh (hb);replace HI0:=zh (hi);(try clear hb);(try clear hb2);(try clear hk);(try clear hi))|((with_reducible refine zJ (f:=44) rfl ?_);refine yj (some 7) rfl rfl Try.func44 jA rfl #[.pointer (some ⟨g,0,none⟩),.int .i64 4] rfl jF ?_;(with_reducible refine (F06.calls  g s0_0 t125 t126 4 t127 t128 t129 w0 _ ?side1 ?side2 A3.out).mono ?_);(case side1=>repeat (with_reducible first|exact HI0.out|apply IsS71.alloc|apply IsS71.drewN|apply IsS71.drew|apply IsS71.set_1|apply IsS71.set_2|refine IsS71.far ?_ NB0_120.out _));(case side2=>repeat (with_reducible first|exact HB.out|apply za|apply zb|apply zc|refine zd ?_ (IsS71.ge HI0.out)|refine zd ?_ GE120.out));rintro e w9 ⟨rfl,hi,hb,hk⟩;refine ⟨_,rfl,?_⟩;replace BK120:=zh (KeepBut.blk hk (g':=gb120) (o:=.cells #[.string (⟨#[]⟩ : ByteArray),.int .i64 0] 28 (0,0)) jCS NB120_0.out (by simp));replace HO123:=zh (zM (Kd.R_keep (IsS71.apart (show IsS71 w0 _ g s0_0 t125 t126 from by repeat (with_reducible first|exact HI0.out|apply IsS71.alloc|apply IsS71.drewN|apply IsS71.drew|apply IsS71.set_1|apply IsS71.set_2|refine IsS71.far ?_ NB0_120.out _)) jDS jB) hk (fun _ h=>h.2)) (fun _ h=>h.1));replace HK:=zh (KeepBut.trans jBQ hk (.inl rfl));replace HB:=zh (hb);replace HI0:=zh (hi);(try clear hb);(try clear hb2);(try clear hk);(try clear hi);have hnb10:=NB120_0.out;have hnc10:=NB0_120.out;obtain ⟨hcz11_0,hcz11_1,hfz11_0,hfz11_1⟩:=cB2 BK120.out))
 refine bodyPost_ret (results_cell_row rfl _ _ gb120 28 #[.string t124,.int .i64 t127] (0,0) _ rfl (by (with_reducible repeat first|apply ze|apply zf|apply zg);refine zL (cs:=#[.string t124,.int .i64 0]) ?_ 1 _ rfl;(with_reducible repeat first|apply ze|apply zf|apply zg);refine zL (cs:=#[.string (⟨#[]⟩ : ByteArray),.int .i64 0]) ?_ 0 _ rfl;(with_reducible repeat first|apply ze|apply zf|apply zg);exact BK120.out) Try.underlying28 rfl jA) rfl ?_;exact ⟨jG,jDR,jDQ,jBQ⟩


def F0n.f  : Option ((List (S60))×Int):=some ((([(⟨1,(([] : List (S28)))⟩ : S60)] : List (S60))),2)
set_option maxHeartbeats 8000000 in
set_option maxRecDepth 100000 in
theorem F0n.calls  (r1 : List (S60)) (r2 : Int) (w : World) (h : F0n.f  = some (r1,r2)) :
  Calls Try.prog 43 #[] w fun e w' => ∃ v0_ : Value,e = .returned (.agg #[v0_,.int .i64 r2])∧Kd.N k60 60 w' w.heap.size (fun k_=>(w.heap.size≤k_)) v0_ r1∧Below w.heap.size w w':=by
 have hu25:=Try.underlying25;have hu60:=Try.underlying60;have HB:=zh (Below.refl w.heap.size w);have H : (some ((([(⟨1,(([] : List (S28)))⟩ : S60)] : List (S60))),2))=some (r1,r2):=h;clear h;obtain ⟨y155,hy155⟩ : ∃ y_ : List (S28),y_=(([] : List (S28))):=⟨_,rfl⟩;replace H : (some ((([(⟨1,y155⟩ : S60)] : List (S60))),2))=some (r1,r2):=by first|(rw [hy155];with_reducible exact H)|(have H2_:=(Option.bind_some _ _).symm.trans H;rw [hy155];with_reducible exact H2_)|(have H2_:=(Option.bind_some _ _).symm.trans H;with_reducible exact H2_)|with_reducible exact H|(rw [hy155];exact H)|exact H
 have Ny155:=zh hy155;clear hy155;obtain ⟨y158,hy158⟩ : ∃ y_ : List (S60),y_=(([(⟨1,y155⟩ : S60)] : List (S60))):=⟨_,rfl⟩;replace H : (some (y158,2))=some (r1,r2):=by first|(rw [hy158];with_reducible exact H)|(have H2_:=(Option.bind_some _ _).symm.trans H;rw [hy158];with_reducible exact H2_)|(have H2_:=(Option.bind_some _ _).symm.trans H;with_reducible exact H2_)|with_reducible exact H|(rw [hy158];exact H)|exact H
 have Ny158:=zh hy158;clear hy158;simp only [Option.some.injEq,Prod.mk.injEq] at H;obtain ⟨rfl,rfl⟩:=H
 go_enter Try.func43,Try.ntmps43
 go_wp2_with (first|((with_reducible refine zK (N:=0) rfl ?_);refine zI ?hg (N:=0) ?hd (cs:=#[.slice none 0 0,.int .i64 0]) (t:=25) ?hr ?_;(case hd=>rfl);(case hg=>rfl);(case hr=>go_simp <;> rfl);intro gb154 hg w1 hbox hb;have BK154:=zh (hbox);have hH_:=cH jH hb hg;have GW154:=zh hH_.1;have GE154:=GW154;replace HB:=zh hH_.2;clear hb hbox hg hH_)|((with_reducible refine zK (N:=1) rfl ?_);refine Kd.R_lit k28 _ 28 ?hg (N:=1) ?hd (xs:=([] : List (S28))) (inner:=[]) (ok:=fun _=>True) (okp:=fun _=>True) ?hr ?hp (fun _ hk=>hk) trivial (Below.refl _ _) (ye _) (by simp) ?_;(case hd=>rfl);(case hg=>rfl);(case hr=>go_simp <;> rfl);(case hp=>exact (Reps.none _ _));intro v156 w2 ho3 hb hg_ hnew_;clear hg_ hnew_;(first|rw [← Ny155.out] at ho3|(simp only [Int.reduceToNat] at ho3;rw [← Ny155.out] at ho3));have HO157:=zh (yx (Kd.R_newM (M:=fun k_=>(w.heap.size≤k_)) ho3 (zB jAp) (fun k_ h_=>h_)) (zB jAp));replace BK154:=zh (cD BK154.out jCT hb);replace HB:=zh (zC jAp hb);clear hb ho3;obtain ⟨Ao4,co4,eo4⟩:=yk HO157.out;subst eo4)|((with_reducible refine zK (N:=3) rfl ?_);refine Kd.N_lit k60 _ 60 ?hg (N':=3) ?hd (xs:=([(⟨1,y155⟩ : S60)] : List (S60))) (inner:=[.int .i64 1,.slice Ao4 y155.length co4]) (ok:=(fun k_=>(w.heap.size≤k_)∧k_≠gb154)) (okp:=(fun k_=>(w.heap.size≤k_)∧k_≠gb154)) ?hr ?hp (fun _ hk=>hk) ((show ∀ k_,w2.heap.size≤k_→(fun k_=>(w.heap.size≤k_)∧k_≠gb154) k_ from fun k_ hk=>⟨(Nat.le_trans (zB jAp) hk),Kd.freshB (g:=gb154) (o:=.cells #[.slice none 0 0,.int .i64 0] 25 (0,0)) jCT k_ hk⟩) _ (ye _)) (Below.refl _ _) (ye _) (by simp) ?_;(case hd=>rfl);(case hg=>rfl);(case hr=>go_simp <;> rfl);(case hp=>exact (Reps.c2 (show Kd.FK k60 _ _ (⟨1,y155⟩ : S60) [.int .i64 1,.slice Ao4 y155.length co4] from (k60_mkF _ _ (⟨1,y155⟩ : S60) (yh (zM (ok':=(fun k_=>(w.heap.size≤k_)∧k_≠gb154)) (yf (HO157.out) BK154.out jB) (fun k_ hk=>⟨hk.1.1,hk.2⟩))).2.1 (Kd.R_F (zM (ok':=(fun k_=>(w.heap.size≤k_)∧k_≠gb154)) (yf (HO157.out) BK154.out jB) (fun k_ hk=>⟨hk.1.1,hk.2⟩))))) (Reps.none _ _)));intro v159 w5 ho6 hb hg_ hnew_;clear hg_ hnew_;(first|rw [← Ny158.out] at ho6|(simp only [Int.reduceToNat] at ho6;rw [← Ny158.out] at ho6));have HO160:=zh (Kd.N_lower ho6 (zB jAp));replace BK154:=zh (cD BK154.out jCT hb);replace HB:=zh (zC jAp hb);clear HO157 hb ho6;obtain ⟨Ao7,co7,eo7⟩:=Kd.N_slice HO160.out;subst eo7;obtain ⟨hcz8_0,hcz8_1,hfz8_0,hfz8_1⟩:=cB2 BK154.out))
 refine bodyPost_ret (results_cell_row rfl _ _ gb154 25 #[.slice Ao7 y158.length co7,.int .i64 2] (0,0) _ rfl (by (with_reducible repeat first|apply ze|apply zf|apply zg);refine zL (cs:=#[.slice Ao7 y158.length co7,.int .i64 0]) ?_ 1 _ rfl;(with_reducible repeat first|apply ze|apply zf|apply zg);refine zL (cs:=#[.slice none 0 0,.int .i64 0]) ?_ 0 _ rfl;(with_reducible repeat first|apply ze|apply zf|apply zg);exact BK154.out) Try.underlying25 rfl jA) rfl ?_;exact ⟨_,jG,by (with_reducible repeat (first|apply Kd.N_alloc|apply Kd.N_drewN|apply Kd.N_drew));exact Kd.N_mono (Kd.N_far (p:=⟨gb154,1,none⟩) (Kd.N_far (p:=⟨gb154,0,none⟩) (Kd.N_mono HO160.out (fun k_ hk=>(⟨hk,hk.2⟩ : _∧k_≠gb154))) (fun _ hk=>hk.2) (.slice Ao7 y158.length co7)) (fun _ hk=>hk.2) (.int .i64 2)) (fun _ hk=>hk.1.1),jAp⟩


def F0o.f (s0_0 : List Int) (s0_1 : Int) (s0_2 : Int) (a1 : Int) : Option (Bool×Int×Int):=(F06.f s0_0 s0_1 s0_2 a1).bind fun bt161=>(some ((bt161.1 == (wrap64 (a1 - 1))),bt161.2.1,bt161.2.2))
set_option maxHeartbeats 8000000 in
set_option maxRecDepth 100000 in
theorem F0o.calls (g : Nat) (s0_0 : List Int) (s0_1 : Int) (s0_2 : Int) (a1 : Int) (r1 : Bool) (r2 : Int) (r3 : Int) (w0 w : World) (hI : IsS71 w0 w g s0_0 s0_1 s0_2) (hB : Below w0.heap.size w0 w) (h : F0o.f s0_0 s0_1 s0_2 a1=some (r1,r2,r3)) :
  Calls Try.prog 45 #[.pointer (some ⟨g,0,none⟩),.int .i64 a1] w fun e w' => e = .returned (.bool r1)∧IsS71 w0 w' g s0_0 r2 r3∧Below w0.heap.size w0 w' ∧ KeepBut w w' g none:=by
 have HI0:=zh hI;have HK:=zh (KeepBut.refl w g none);have HL:=zh hB.size;clear hI;have HW0:=zh hB.size;have HB:=zh hB;clear hB;have H : ((F06.f s0_0 s0_1 s0_2 a1).bind fun bt161=>(some ((bt161.1 == (wrap64 (a1 - 1))),bt161.2.1,bt161.2.2)))=some (r1,r2,r3):=h;clear h;replace H:=zT.mp H;obtain ⟨⟨t161,t162,t163⟩,A30,H⟩:=H;have A3:=zh A30;clear A30;simp only [Option.some.injEq,Prod.mk.injEq] at H;obtain ⟨rfl,rfl,rfl⟩:=H
 go_enter Try.func45,Try.ntmps45
 go_wp2_with (first|((with_reducible refine zJ (f:=44) rfl ?_);refine yj (some 7) rfl rfl Try.func44 jA rfl #[.pointer (some ⟨g,0,none⟩),.int .i64 a1] rfl jF ?_;(with_reducible refine (F06.calls  g s0_0 s0_1 s0_2 a1 t161 t162 t163 w0 _ ?side1 ?side2 A3.out).mono ?_);(case side1=>repeat (with_reducible first|exact HI0.out|apply IsS71.alloc|apply IsS71.drewN|apply IsS71.drew|apply IsS71.set_1|apply IsS71.set_2));(case side2=>repeat (with_reducible first|exact HB.out|apply za|apply zb|apply zc|refine zd ?_ (IsS71.ge HI0.out)));rintro e w4 ⟨rfl,hi,hb,hk⟩;refine ⟨_,rfl,?_⟩;replace HK:=zh (KeepBut.trans jS hk (.inl rfl));replace HB:=zh (hb);replace HI0:=zh (hi);(try clear hb);(try clear hb2);(try clear hk);(try clear hi)))
 go_ret
 exact ⟨jG,jn,jo,jS⟩

end Go.Proofs.Ytgifonogfgpjdaa.Q
end
section
namespace Go.Proofs.Ytgifonogfgpjdaa.Q
open Go.RowKit Go.Proofs.YtgifonogfgpjdaaW.PrintWords Go.Proofs.YtgifonogfgpjdaaW.PrintLast Go.Proofs.YtgifonogfgpjdaaW.PrintMore
attribute [local go_sem] max2_int min2_int max_two min_two max_three min_three max_four min_four max2_str min2_str str_geq str_gtr str_leq
set_option linter.unusedVariables false
set_option linter.unusedSimpArgs false
attribute [local go_sem high] eqA28
theorem Fk.three (w : World) (o0 o1 o2 : Obj) : (((w.alloc o0).alloc o1).alloc o2).heap[w.heap.size]? = some o0∧(((w.alloc o0).alloc o1).alloc o2).heap[w.heap.size+1]? = some o1∧(((w.alloc o0).alloc o1).alloc o2).heap[w.heap.size+1+1]? = some o2∧Below w.heap.size w (((w.alloc o0).alloc o1).alloc o2):=by
 refine ⟨zg (zg (blk_new w _) _) _,zg ?_ _,?_,za (za (za (Below.refl _ _) _) _) _⟩
 ·
  have:=blk_new (w.alloc o0) o1
  simpa using this
 have:=blk_new ((w.alloc o0).alloc o1) o2
 simpa using this
theorem Fk.at_F {w : World} {ok : Nat→Prop} {A : Option Addr} {n : Nat} {xs : List S60} (h : Kd.F k60 w ok A n xs) (i : Int) (h0 : 0≤i) (h1 : i<n) : ∃ ad A1 c1,A=some ad∧w.cell? ⟨(ad.add (i.toNat*2)).block,(ad.add (i.toNat*2)).off+1,none⟩=some (.slice A1 (rd_T60 xs i).f1.length c1)∧(rd_T60 xs i).f1.length≤c1∧Kd.F k28 w ok A1 (rd_T60 xs i).f1.length (rd_T60 xs i).f1:=by
 obtain ⟨ad,c,e,_,hK,hc0,_⟩:=Kd.F_get h z60 i h0 h1;have hc : ∀ j u,c[j]? = some u→w.cell? (ad.add (i.toNat*2+j))=some u:=hc0;obtain ⟨A1,c1,rfl,l1,g1⟩:=k60_openF hK;exact ⟨ad,A1,c1,e,jDG,l1,g1⟩
theorem Fk.w_next (i : Nat) (h : i≤4611686018427387904) : wrap64 ((i : Int)+1)=((i+1 : Nat) : Int):=by unfold wrap64;omega
theorem Fk.K_M {w w' : World} {base : Nat} {ok : Nat→Prop} (x : S28) (cs : List Value) (h : k28.K w' x cs) : k28.M w base ok x cs:=by rw [k28_open h];exact k28_mkM _ _ _ _
def Fk.at : List S28→ByteArray→Int→Nat→Option Nat
 | [],_,_,_=>none
 | x :: xs,key,id,i=>if (!(x.f0.toList == key.toList) || (!(x.f1 == id)))=true then Fk.at xs key id (i+1) else some i
def Fk.f (k : Nat) (l0_0 : List (S60)) (a0_1 : Int) (a1_0 : ByteArray) (a1_1 : Int) : Option ((List (S60))×Int×Int):=(Fa.f k l0_0 a0_1 a1_0 a1_1).bind fun pl=>(if 0≤pl then (if pl<(l0_0.length : Int) then (if l0_0.length≤4611686018427387904∧((rd_T60 l0_0 pl).f1).length≤1000000 then (match Fk.at ((rd_T60 l0_0 pl).f1) a1_0 a1_1 0 with|none=>some (l0_0,a0_1,5)|some i=>((Fd.f k l0_0 a0_1).bind fun t=>(if pl<(t.1.length : Int)∧t.1.length≤1000000 then (if ((rd_T60 l0_0 pl).f1).length=1∧1<t.1.length then some (((t.1.set pl.toNat (⟨(rd_T60 t.1 pl).f0,((rd_T60 l0_0 pl).f1).take i++((rd_T60 l0_0 pl).f1).drop (i+1)⟩ : S60)).take pl.toNat)++((t.1.set pl.toNat (⟨(rd_T60 t.1 pl).f0,((rd_T60 l0_0 pl).f1).take i++((rd_T60 l0_0 pl).f1).drop (i+1)⟩ : S60)).drop (pl.toNat+1)),t.2,0) else some (t.1.set pl.toNat (⟨(rd_T60 t.1 pl).f0,((rd_T60 l0_0 pl).f1).take i++((rd_T60 l0_0 pl).f1).drop (i+1)⟩ : S60),t.2,0)) else none))) else none) else none) else none)
theorem Fk.mono : ∀ a0 a1 a2 a3 k,LeO (Fk.f k a0 a1 a2 a3) (Fk.f (k+1) a0 a1 a2 a3):=by
 intro a0 a1 a2 a3 k;unfold Fk.f;refine zO (Fa.mono _ _ _ _ _) (fun pl=>zP (zP (zP ?_ (zN _)) (zN _)) (zN _))
 cases Fk.at ((rd_T60 a0 pl).f1) a2 a3 0 with
 | none=>exact zQ _
 | some i=>exact zO (Fd.mono _ _ _) (fun _=>zQ _)
set_option maxHeartbeats 16000000 in
set_option maxRecDepth 100000 in
theorem Fk.calls (k : Nat) (P0_0_ : Nat→Prop) (A0_0 : Option Addr) (c0_0 : Nat) (l0_0 : List (S60)) (a0_1 : Int) (a1_0 : ByteArray) (a1_1 : Int) (r1 : List (S60)) (r2 : Int) (r3 : Int) (w : World) (hs0_0 : Kd.V k60 60 w w.heap.size (fun k_=>P0_0_ k_) (.slice A0_0 l0_0.length c0_0) l0_0) (h : Fk.f k l0_0 a0_1 a1_0 a1_1=some (r1,r2,r3)) :
  Calls Try.prog 46 #[.agg #[.slice A0_0 l0_0.length c0_0,.int .i64 a0_1],.agg #[.string a1_0,.int .i64 a1_1]] w fun e w' => ∃ v0_ : Value,e = .returned (.tuple #[.agg #[v0_,.int .i64 r2],.int .i64 r3])∧Kd.V k60 60 w' w.heap.size (fun k_=>(P0_0_ k_∨w.heap.size≤k_)) v0_ r1∧Below w.heap.size w w':=by
 have hu25:=Try.underlying25;have hu28:=Try.underlying28;have mixed : Try.prog.follows Departure.mixedOrders=true:=by rfl
 have late : Try.prog.follows Departure.lateStores=true:=by rfl
 unfold Fk.f at h;obtain ⟨pl,hK,h⟩:=zT.mp h
 by_cases hK0 : 0≤pl
 case neg=>rw [if_neg hK0] at h;cases h
 rw [if_pos hK0] at h
 by_cases hK1 : pl<(l0_0.length : Int)
 case neg=>rw [if_neg hK1] at h;cases h
 rw [if_pos hK1] at h;obtain ⟨l,hl⟩ : ∃ l,l=(rd_T60 l0_0 pl).f1:=⟨_,rfl⟩;rw [← hl] at h
 by_cases hlm : l0_0.length≤4611686018427387904∧l.length≤1000000
 case neg=>rw [if_neg hlm] at h;cases h
 rw [if_pos hlm] at h;obtain ⟨-,hc0_0,hF0⟩:=Kd.V_at hs0_0;obtain ⟨ad,Al,cl,rfl,hxl,hlc,hFl⟩:=Fk.at_F hF0 pl hK0 hK1;rw [← hl] at hxl hlc hFl;have HF0:=zh hF0;have HFl:=zh hFl;have HXL:=zh hxl;have HLC:=zh hlc;have HLM:=zh hlm;have HL:=zh hl;obtain ⟨V,hV⟩ : ∃ V,V=((w.alloc (.cells #[.slice (some ad) l0_0.length c0_0,.int .i64 a0_1] 25)).alloc (.cells #[.string a1_0,.int .i64 a1_1] 28)).alloc (.cells #[.slice none 0 0,.int .i64 0] 25):=⟨_,rfl⟩;obtain ⟨h0,h1,h2,hBV⟩:=Fk.three w (.cells #[.slice (some ad) l0_0.length c0_0,.int .i64 a0_1] 25) (.cells #[.string a1_0,.int .i64 a1_1] 28) (.cells #[.slice none 0 0,.int .i64 0] 25);rw [← hV] at h0 h1 h2 hBV;obtain ⟨g0,hg0⟩ : ∃ g,g=w.heap.size:=⟨_,rfl⟩;rw [← hg0] at h0 h1 h2;obtain ⟨g1,hg1⟩ : ∃ g,g=g0+1:=⟨_,rfl⟩;rw [← hg1] at h1 h2;obtain ⟨g2,hg2⟩ : ∃ g,g=g1+1:=⟨_,rfl⟩;rw [← hg2] at h2;have hb0 : w.heap.size≤g0:=Nat.le_of_eq hg0.symm;have hb1 : w.heap.size≤g1:=by rw [hg1,hg0];exact Nat.le_add_right _ _
 have hb2 : w.heap.size≤g2:=by rw [hg2,hg1,hg0,Nat.add_assoc];exact Nat.le_add_right _ _
 have n02 : g0≠g2:=by omega
 have n10 : g1≠g0:=by omega
 have HB0:=zh hBV;have H0_0:=zh h0;have H1_0:=zh h1;have H2_0:=zh h2;have GB0:=zh hb0;have GB1:=zh hb1;have GB2:=zh hb2;have N02:=zh n02;have N10:=zh n10;have k0:=(zz h0 0).trans (show _=some (.slice (some ad) l0_0.length c0_0) from rfl);have k1:=(zz h0 1).trans (show _=some (.int .i64 a0_1) from rfl);have k2:=(zz h1 0).trans (show _=some (.string a1_0) from rfl);have k3:=(zz h1 1).trans (show _=some (.int .i64 a1_1) from rfl);clear h0 h1 h2 hBV hF0 hFl hxl hlc hlm hb0 hb1 hb2 n02 n10 hs0_0
 go_enter Try.func46,Try.ntmps46
 go_wp2_with fail
 rw [← hV];simp only [← hg0];simp only [← hg1];simp only [← hg2];clear hV hg0 hg1 hg2
 go_at_call 39
 refine (Fa.calls k (some ad) c0_0 l0_0 a0_1 a1_0 a1_1 pl V (Kd.F_now (Kd.F_below HF0.out HB0.out)) hc0_0 hK).mono ?_;rintro e w1 ⟨rfl,hb_⟩;have HB1:=zh (zC HB0.out hb_);have H0_1:=zh (zD H0_0.out hb_);have H1_1:=zh (zD H1_0.out hb_);have H2_1:=zh (zD H2_0.out hb_);clear k0 k1 k2 k3 hb_ hK HB0 H0_0 H1_0 H2_0;have k0:=(zz H0_1.out 0).trans (show _=some (.slice (some ad) l0_0.length c0_0) from rfl);have kx:=(HB1.out.cell (zl w _ HXL.out)).trans HXL.out;have hp0:=eq_true hK0;have hp1:=eq_true hK1;clear hl
 go_wp2_with fail
 obtain ⟨res,hres⟩ : ∃ res,res=Fk.at l a1_0 a1_1 0:=⟨_,rfl⟩;rw [← hres] at h;have HH:=zh h;have HR0:=zh hres.symm;clear k0 kx h hres
 go_loopg [8] l.length (fun kq v8 w' => ∃ (i : Nat),v8 = .int .i64 (i : Int)∧Aside0 (kq+i=l.length)∧Aside0 (Fk.at (l.drop i) a1_0 a1_1 i=res)∧Aside0 (w'.heap[g0]? = some (.cells #[.slice (some ad) l0_0.length c0_0,.int .i64 a0_1] 25 (0,0)))∧Aside0 (w'.heap[g1]? = some (.cells #[.string a1_0,.int .i64 a1_1] 28 (0,0)))∧Aside0 (w'.heap[g2]? = some (.cells #[.slice none 0 0,.int .i64 0] 25 (0,0)))∧Aside0 (Below w.heap.size w w'))
 case atStart=>exact ⟨0,rfl,⟨jD⟩,⟨by rw [List.drop_zero];exact HR0.out⟩,H0_1,H1_1,H2_1,HB1⟩
 case round =>
  clear H0_1 H1_1 H2_1 HB1 HR0;obtain ⟨i,rfl,HI,HA,H0_2,H1_2,H2_2,HB2⟩:=hrel
  by_cases hil : i<l.length
  ·
   have c3 : decide ((i : Int)<(l.length : Int))=true:=decide_eq_true (Int.ofNat_lt.2 hil)
   have hi0 : (0≤(i : Int))=True:=eq_true (Int.natCast_nonneg i);have hi1 : ((i : Int)<(l.length : Int))=True:=eq_true (Int.ofNat_lt.2 hil);have hwi:=Fk.w_next i (Nat.le_trans (Nat.le_of_lt hil) (Nat.le_trans HLM.out.2 jB));have hwi2 : IntKind.i64.wrap ((i : Int)+1)=((i+1 : Nat) : Int):=(zG _).trans hwi;obtain ⟨kq,rfl⟩ : ∃ q,gk=q+1:=⟨gk - 1,by have:=HI.out;omega⟩;obtain ⟨ae,hAe,hx0_,hx1_⟩:=at_T28 (Kd.F_now HFl.out) (i : Int) (Int.natCast_nonneg _) (Int.ofNat_lt.2 hil)
   cases hAe
   rw [Int.toNat_natCast] at hx0_ hx1_;have hx0:=(HB2.out.cell (zl w _ hx0_)).trans hx0_;have hx1:=(HB2.out.cell (zl w _ hx1_)).trans hx1_;have hA:=HA.out;rw [List.drop_eq_getElem_cons hil] at hA;simp only [Fk.at] at hA
   have er : l[i]=rd_T28 l (i : Int):=by
    unfold rd_T28;rw [List.getD_eq_getElem?_getD,Int.toNat_natCast,List.getElem?_eq_getElem hil];rfl
   rw [er] at hA;have HA2:=zh hA;clear hA er HA hx0_ hx1_;have k2:=(zz H1_2.out 0).trans (show _=some (.string a1_0) from rfl);have k3:=(zz H1_2.out 1).trans (show _=some (.int .i64 a1_1) from rfl)
   go_wp2_with fail
   have HB3:=zh (zc HB2.out);have H0_3:=zh (zf H0_2.out);have H1_3:=zh (zf H1_2.out);have H2_3:=zh (zf H2_2.out);refine start_ (n:=6) (S:=fun w' => w'.cell? (ae.add (i*2))=some (.string (rd_T28 l (i : Int)).f0)∧w'.cell? ⟨(ae.add (i*2)).block,(ae.add (i*2)).off+1,none⟩=some (.int .i64 (rd_T28 l (i : Int)).f1)∧w'.cell? ⟨g1,0,none⟩=some (.string a1_0)∧w'.cell? ⟨g1,1,none⟩=some (.int .i64 a1_1)) (ds:=[]) (bm_ 0 6) jA rfl rfl ⟨hx0,hx1,k2,k3⟩ (fun hHeld=>?_);generalize wr.drew=w3 at HB3 H0_3 H1_3 H2_3 hHeld ⊢;clear hx0 hx1 k2 k3 HB2 H0_2 H1_2 H2_2;refine pure_ (i:=0) (N:=some 24) (v:=?_) (a':=?_) (bm_ 1 6) rfl rfl jA (fun _ _ _ h=>h) (Or.inl ⟨by rfl,?_⟩) ?_ ?_;rotate_left;exact jb;rotate_left;exact jc
   refine pure_ (i:=1) (N:=some 25) (v:=?_) (a':=?_) (bm_ 2 6) rfl rfl jA (fun _ _ _ h=>h) (Or.inl ⟨by rfl,?_⟩) ?_ ?_;rotate_left;exact jb;rotate_left;exact jc
   refine pure_ (i:=2) (N:=some 26) (v:=?_) (a':=?_) (bm_ 3 6) rfl rfl jA (fun _ _ _ h=>h) (Or.inl ⟨by rfl,?_⟩) ?_ ?_;rotate_left;exact jb;rotate_left;exact jc
   refine take_ (i:=3) (N:=some 27) (v:=?_) (a':=?_) (bm_ 4 6) rfl rfl jA (fun _ _ _ h=>h) (Or.inl ⟨by rfl,?_⟩) hHeld ?_ ?_;rotate_left
   ·
    rintro w' ⟨s0,s1,s2,s3⟩
    go_simp
    with_reducible rfl
   rotate_left
   exact jc
   refine take_ (i:=4) (N:=some 28) (v:=?_) (a':=?_) (bm_ 5 6) rfl rfl jA (fun _ _ _ h=>h) (Or.inl ⟨by rfl,?_⟩) hHeld ?_ ?_;rotate_left
   ·
    rintro w' ⟨s0,s1,s2,s3⟩
    go_simp
    with_reducible rfl
   rotate_left
   exact jc
   refine pure_ (i:=5) (N:=some 29) (v:=?_) (a':=?_) (bm_ 6 6) rfl rfl jA (fun _ _ _ h=>h) (Or.inl ⟨by rfl,?_⟩) ?_ ?_;rotate_left;exact jb;rotate_left;exact jc
   refine done_ jA ?_;obtain ⟨bA,hbA⟩ : ∃ b,b=(!((rd_T28 l (i : Int)).f0.toList == a1_0.toList) || (!((rd_T28 l (i : Int)).f1 == a1_1))):=⟨_,rfl⟩;rw [← hbA];have hA3:=HA2.out;rw [← hbA] at hA3;clear hbA HA2
   cases bA with
   | true =>
    have HA3 : Fk.at (l.drop (i+1)) a1_0 a1_1 (i+1)=res:=hA3;clear hA3
    go_wp2_with fail
    go_roundg kq
    case measure=>exact Nat.lt_succ_self _
    case rel=>exact ⟨i+1,by first|rfl|rw [hwi],⟨by have:=HI.out;omega⟩,⟨HA3⟩,H0_3,H1_3,H2_3,HB3⟩
   | false =>
    replace hA3 : some i=res:=hA3;subst hA3;have h:=HH.out;simp only at h;clear HH;obtain ⟨⟨T1,n1⟩,hT,h⟩:=zT.mp h;simp only at h
    by_cases hTb : pl<(T1.length : Int)∧T1.length≤1000000
    case neg=>rw [if_neg hTb] at h;cases h
    rw [if_pos hTb] at h;obtain ⟨hT1,hT2⟩:=hTb;have HH:=zh h;clear h;have k0:=(zz H0_3.out 0).trans (show _=some (.slice (some ad) l0_0.length c0_0) from rfl);have k1:=(zz H0_3.out 1).trans (show _=some (.int .i64 a0_1) from rfl);have f0:=zA H0_3.out 0;have f1:=zA H0_3.out 1
    go_wp2_with fail
    go_at_call 37
    refine (Fd.calls k (some ad) c0_0 l0_0 a0_1 T1 n1 w3 (Kd.F_now (Kd.F_below HF0.out HB3.out)) hc0_0 hT).mono ?_;rintro e w4 ⟨v4,rfl,hS4,hb_⟩;have HB4:=zh (zC HB3.out hb_);have H0_4:=zh (zD H0_3.out hb_);have H2_4:=zh (zD H2_3.out hb_);have L0 : Aside0 (g0<w3.heap.size):=⟨yi H0_3.out⟩;have L2 : Aside0 (g2<w3.heap.size):=⟨yi H2_3.out⟩;obtain ⟨g,cg,rfl,gb,gl,cg_,hg_⟩:=Kd.S_form hS4 jD;have HN4:=zh (Kd.N_mono (Kd.S_N (Kd.S_lower (Kd.S_bound hS4) HB3.out.size)) (ok':=fun k_=>w3.heap.size≤k_) (fun _ hk=>hk.2.1));have GG:=zh gb;clear k0 k1 f0 f1 hS4 hb_ hT HB3 H0_3 H1_3 H2_3 hg_;have k0:=zz H0_4.out 0;have k1:=zz H0_4.out 1;have f0:=zA H0_4.out 0;have f1:=zA H0_4.out 1
    go_wp2_with fail
    have HB5 : Aside0 (Below w.heap.size w ((w4.setCell ⟨g0,0,none⟩ (.slice (some ⟨g,0,none⟩) T1.length cg)).setCell ⟨g0,1,none⟩ (.int .i64 n1))):=⟨zd (zd HB4.out GB0.out) GB0.out⟩;have H0_5 : Aside0 (((w4.setCell ⟨g0,0,none⟩ (.slice (some ⟨g,0,none⟩) T1.length cg)).setCell ⟨g0,1,none⟩ (.int .i64 n1)).heap[g0]? = some (.cells #[.slice (some ⟨g,0,none⟩) T1.length cg,.int .i64 n1] 25 (0,0))):=⟨blk_set (blk_set H0_4.out 0 _) 1 _⟩;have H2_5 : Aside0 (((w4.setCell ⟨g0,0,none⟩ (.slice (some ⟨g,0,none⟩) T1.length cg)).setCell ⟨g0,1,none⟩ (.int .i64 n1)).heap[g2]? = some (.cells #[.slice none 0 0,.int .i64 0] 25 (0,0))):=⟨(Below.heap_setCell _ ⟨g0,1,none⟩ _ g2 (Ne.symm N02.out)).trans ((Below.heap_setCell _ ⟨g0,0,none⟩ _ g2 (Ne.symm N02.out)).trans H2_4.out)⟩;have HN5 : Aside0 (Kd.N k60 60 ((w4.setCell ⟨g0,0,none⟩ (.slice (some ⟨g,0,none⟩) T1.length cg)).setCell ⟨g0,1,none⟩ (.int .i64 n1)) w.heap.size (fun k_=>w3.heap.size≤k_) (.slice (some ⟨g,0,none⟩) T1.length cg) T1):=⟨Kd.N_far (p:=⟨g0,1,none⟩) (Kd.N_far (p:=⟨g0,0,none⟩) HN4.out (fun _ hk e9=>by rw [e9] at hk;exact Nat.lt_irrefl _ (Nat.lt_of_lt_of_le L0.out hk)) _) (fun _ hk e9=>by rw [e9] at hk;exact Nat.lt_irrefl _ (Nat.lt_of_lt_of_le L0.out hk)) _⟩;have L35 : Aside0 (w3.heap.size≤((w4.setCell ⟨g0,0,none⟩ (.slice (some ⟨g,0,none⟩) T1.length cg)).setCell ⟨g0,1,none⟩ (.int .i64 n1)).heap.size):=⟨by simp;exact Nat.le_trans gb (Nat.le_of_lt gl)⟩;have GL5 : Aside0 (g<((w4.setCell ⟨g0,0,none⟩ (.slice (some ⟨g,0,none⟩) T1.length cg)).setCell ⟨g0,1,none⟩ (.int .i64 n1)).heap.size):=⟨by simpa using gl⟩;clear k0 k1 f0 f1 HB4 H0_4 H2_4 HN4 gb gl;generalize (w4.setCell ⟨g0,0,none⟩ (.slice (some ⟨g,0,none⟩) T1.length cg)).setCell ⟨g0,1,none⟩ (.int .i64 n1)=w5 at *;have HB6:=zh (zc HB5.out);have H0_6:=zh (zf H0_5.out);have H2_6:=zh (zf H2_5.out);have HN6:=zh (Kd.N_drew HN5.out);have L36 : Aside0 (w3.heap.size≤w5.drew.heap.size):=L35;have GL6 : Aside0 (g<w5.drew.heap.size):=GL5;have hTp1:=eq_true hT1;have hKp0:=eq_true hK0;have hi4 : (0 : Int)≤(i : Int):=Int.natCast_nonneg i;have hi5 : (i : Int)≤(l.length : Int):=Int.ofNat_le.2 (Nat.le_of_lt hil);obtain ⟨j,hj⟩ : ∃ j : Nat,j=i+1:=⟨_,rfl⟩;have hjw : IntKind.i64.wrap ((i : Int)+1)=(j : Int):=by rw [hj];exact hwi2
    have hjl : j≤l.length:=by rw [hj];exact hil
    have hi6 : (0 : Int)≤(j : Int):=Int.natCast_nonneg _;have hi7 : (j : Int)≤(l.length : Int):=Int.ofNat_le.2 hjl;have HJ:=zh hj;have HJL:=zh hjl;clear hwi hwi2 hj hjl;obtain ⟨i0_,hi0_,_,hsz_,_⟩:=info_parts info28;have hcut1:=cut_to (P:=Try.prog) 33 28 .i64 Try.underlying33 hi0_ (some ae) l.length cl (i : Int) hi4 hi5 HLC.out;have hcut2:=cut_from (P:=Try.prog) 33 28 .i64 Try.underlying33 hi0_ 2 hsz_ (some ae) l.length cl (j : Int) hi6 hi7;rw [Int.toNat_natCast] at hcut1 hcut2;have hC1:=Kd.F_imp HFl.out (fun _ hC=>Kd.C_take (m:=i) hC (Nat.le_of_lt hil));have hC2:=Kd.F_imp HFl.out (fun _ hC=>Kd.C_drop (c:=cl) (m:=j) hC HJL.out HLC.out);rw [zx,Nat.min_eq_left (Nat.le_of_lt hil)] at hC1;rw [zw] at hC2;obtain ⟨A2,hA2⟩ : ∃ A2,A2=(if cl=j then (some ae) else (some ae : Option Addr).map (·.add (j*2))):=⟨_,rfl⟩;rw [← hA2] at hcut2;replace hC2 : Kd.F k28 w (fun k_=>P0_0_ k_) A2 (l.length - j) (l.drop j):=by rw [hA2];exact hC2
    have HC1:=zh hC1;have HC2:=zh hC2;have HT1:=zh hT1;have HT2:=zh hT2;clear hC1 hC2 hA2 hi0_ hsz_ hT1 hT2
    go_wp2_with fail
    refine start_ (n:=16) (S:=fun w' => w'.cell? ⟨g0,0,none⟩=some (.slice (some ⟨g,0,none⟩) T1.length cg)) (ds:=[15]) (bm_ 0 16) jA rfl rfl ((zz H0_6.out 0).trans rfl) (fun hHeld=>?_);generalize w5.drew=w7 at HB6 H0_6 H2_6 HN6 L36 GL6 hHeld ⊢;have HB7:=HB6;have H0_7:=H0_6;have H2_7:=H2_6;have HN7:=HN6;clear HB5 H0_5 H2_5 HN5 L35 GL5 HB6 H0_6 H2_6 HN6;refine pure_ (i:=0) (N:=some 32) (v:=?_) (a':=?_) (bm_ 1 16) rfl rfl jA (fun _ _ _ h=>h) (Or.inl ⟨by rfl,?_⟩) ?_ ?_;rotate_left;exact jb;rotate_left;exact jc
    refine pure_ (i:=2) (N:=some 34) (v:=?_) (a':=?_) #[true,false,true,false,false,false,false,false,false,false,false,false,false,false,false,false] rfl rfl jA (fun _ _ _ h=>h) (Or.inl ⟨by rfl,?_⟩) ?_ ?_;rotate_left;exact jb;rotate_left;exact jc
    refine pure_ (i:=4) (N:=some 36) (v:=?_) (a':=?_) #[true,false,true,false,true,false,false,false,false,false,false,false,false,false,false,false] rfl rfl jA (fun _ _ _ h=>h) (Or.inl ⟨by rfl,?_⟩) ?_ ?_;rotate_left;exact jb;rotate_left;exact jc
    refine pure_ (i:=5) (N:=some 37) (v:=?_) (a':=?_) #[true,false,true,false,true,true,false,false,false,false,false,false,false,false,false,false] rfl rfl jA (fun _ _ _ h=>h) (Or.inl ⟨by rfl,?_⟩) ?_ ?_;rotate_left;exact jb;rotate_left;exact jc
    refine pure_ (i:=6) (N:=some 38) (v:=?_) (a':=?_) #[true,false,true,false,true,true,true,false,false,false,false,false,false,false,false,false] rfl rfl jA (fun _ _ _ h=>h) (Or.inl ⟨by rfl,?_⟩) ?_ ?_;rotate_left;exact jb;rotate_left;exact jc
    refine pure_ (i:=8) (N:=some 40) (v:=?_) (a':=?_) #[true,false,true,false,true,true,true,false,true,false,false,false,false,false,false,false] rfl rfl jA (fun _ _ _ h=>h) (Or.inl ⟨by rfl,?_⟩) ?_ ?_;rotate_left;exact jb;rotate_left;exact jc
    refine pure_ (i:=9) (N:=some 41) (v:=?_) (a':=?_) #[true,false,true,false,true,true,true,false,true,true,false,false,false,false,false,false] rfl rfl jA (fun _ _ _ h=>h) (Or.inl ⟨by rfl,?_⟩) ?_ ?_;rotate_left;exact jb;rotate_left;exact jc
    refine pure_ (i:=10) (N:=some 42) (v:=?_) (a':=?_) #[true,false,true,false,true,true,true,false,true,true,true,false,false,false,false,false] rfl rfl jA (fun _ _ _ h=>h) (Or.inl ⟨by rfl,?_⟩) ?_ ?_;rotate_left;exact jb;rotate_left;exact jc
    refine pure_ (i:=11) (N:=some 43) (v:=?_) (a':=?_) #[true,false,true,false,true,true,true,false,true,true,true,true,false,false,false,false] rfl rfl jA (fun _ _ _ h=>h) (Or.inl ⟨by rfl,?_⟩) ?_ ?_;rotate_left;exact jb;rotate_left;exact jc
    refine take_ (i:=1) (N:=some 33) (v:=?_) (a':=?_) #[true,true,true,false,true,true,true,false,true,true,true,true,false,false,false,false] rfl rfl jA (fun _ _ _ h=>h) (Or.inl ⟨by rfl,?_⟩) hHeld ?_ ?_;rotate_left
    ·
     intro w' s0
     go_simp
     with_reducible rfl
    rotate_left
    exact jc
    refine one_ (i:=3) (N:=some 35) #[true,true,true,true,true,true,true,false,true,true,true,true,false,false,false,false] rfl rfl jA jB (fun K hK=>?_);refine Kd.R_lit_step k28 _ 28 ?hg (N:=35) ?hd (xs:=([] : List (S28))) (inner:=[]) (ok:=fun _=>True) (okp:=fun _=>True) ?hr ?hp (fun _ hk=>hk) trivial (Below.refl _ _) (ye _) (by simp) ?_;(case hd=>rfl);(case hg=>rfl);(case hr=>go_simp <;> rfl);(case hp=>exact (Reps.none _ _));intro va wa hRa hba hga_ hna_;clear hga_ hna_;refine hK.out _ _ ((zz (zD H0_7.out hba) 0).trans rfl) (fun hHeld=>?_);clear hK K;refine norm_ (a':=?_) ?_ ?_;rotate_left
    ·
     show Act.put _ (some 35) _=_
     simp only [Act.put,zi,zj,zk,zG,zH]
     rfl
    refine one_ (i:=7) (N:=some 39) (bm_ 12 16) rfl rfl jA jB (fun K hK=>?_);refine Kd.R_append_rows_step k28 (w0:=w7) w7.heap.size (by rfl) (.tmp 35) (.tmp 38) 33 28 (.agg #[(.string ⟨#[]⟩),(.int .i64 0)]) 24 rfl Try.underlying33 info28 rfl jB jB va ([] : List (S28)) (l.take i) (some ae) i cl (fun _=>True) (fun _=>False) (by rfl) (by rfl) hRa (Kd.F_now (Kd.F_below HC1.out (zC HB7.out hba))) (fun x cs h9=>Fk.K_M x cs h9) (fun _ h9=>h9.elim) (fun _ _=>trivial) hba hba.size (by have:=HLM.out.2;simp;omega) ?_;intro vb wb hRb hbb hg_ hat_;clear hg_ hat_;refine hK.out _ _ ((zz (zD H0_7.out hbb) 0).trans rfl) (fun hHeld=>?_);clear hK K;refine norm_ (a':=?_) ?_ ?_;rotate_left
    ·
     show Act.put _ (some 39) _=_
     simp only [Act.put,zi,zj,zk,zG,zH]
     rfl
    refine one_ (i:=12) (N:=some 44) (bm_ 13 16) rfl rfl jA jB (fun K hK=>?_);refine Kd.R_append_rows_step k28 (w0:=w7) w7.heap.size (by rfl) (.tmp 39) (.tmp 43) 33 28 (.agg #[(.string ⟨#[]⟩),(.int .i64 0)]) 24 rfl Try.underlying33 info28 rfl jB jB vb ([]++l.take i) (l.drop j) A2 (l.length - j) (cl - j) (fun _=>True) (fun _=>False) (by rfl) (by rfl) hRb (Kd.F_now (Kd.F_below HC2.out (zC HB7.out hbb))) (fun x cs h9=>Fk.K_M x cs h9) (fun _ h9=>h9.elim) (fun _ _=>trivial) hbb hbb.size (by have:=HLM.out.2;simp;omega) ?_;intro vc wc hRc hbc hg_ hat_;clear hg_ hat_;obtain ⟨X,hX⟩ : ∃ X : List (S28),X=([]++l.take i)++l.drop j:=⟨_,rfl⟩;rw [← hX] at hRc;have HX:=zh hX;clear hX;obtain ⟨Ac,cc,rfl⟩:=yk hRc;have hce:=(zz (zD H0_7.out hbc) 0).trans (show _=some (.slice (some ⟨g,0,none⟩) T1.length cg) from rfl);obtain ⟨ce,hcl_,hFK_,hcc_,hfr_⟩:=Kd.N_elem (Kd.N_below HN7.out hbc) z60 pl hK0 HT1.out;obtain ⟨A9,c9,rfl,-,-⟩:=k60_openF hFK_;have q9 : wc.cell? ⟨g,pl.toNat*2+1,none⟩=some (.slice A9 (rd_T60 T1 pl).f1.length c9):=hcc_ 1 _ rfl;have f9 : wc.frozen? ⟨g,pl.toNat*2+1,none⟩=false:=hfr_ 1;refine hK.out _ _ (hce) (fun hHeld=>?_);clear hK K;refine norm_ (a':=?_) ?_ ?_;rotate_left
    ·
     show Act.put _ (some 44) _=_
     simp only [Act.put,zi,zj,zk,zG,zH]
     rfl
    refine pure_ (i:=13) (N:=some 45) (v:=?_) (a':=?_) (bm_ 14 16) rfl rfl jA (fun _ _ _ h=>h) (Or.inl ⟨by rfl,?_⟩) ?_ ?_;rotate_left;exact jb;rotate_left;exact jc
    refine pure_ (i:=14) (N:=some 46) (v:=?_) (a':=?_) (bm_ 15 16) rfl rfl jA (fun _ _ _ h=>h) (Or.inl ⟨by rfl,?_⟩) ?_ ?_;rotate_left;exact jb;rotate_left;exact jc
    refine last_ (i:=15) (N:=none) (bm_ 16 16) rfl rfl jA jB (fun K hK=>?_);refine skip_ (w1:=?_) (by rfl) rfl ?_ ?_;rotate_left
    ·
     go_simp
     rfl
    refine hK.out _ _ ?_;clear hK K;refine done_ jA ?_;have hFc : Kd.F k28 wc (fun k_=>w7.heap.size≤k_) Ac X.length X:=Kd.F_mono (Kd.R_F (Kd.R_bound hRc)) (fun _ hk=>hk.2.1)
    obtain ⟨hN8,hG8⟩ : Kd.N k60 60 (wc.setCell ⟨g,pl.toNat*2+1,none⟩ (.slice Ac X.length cc)) w.heap.size (fun k_=>w3.heap.size≤k_) (.slice (some ⟨g,0,none⟩) T1.length cg) (T1.set pl.toNat (⟨(rd_T60 T1 pl).f0,X⟩ : S60))∧wc.grownBy (wc.setCell ⟨g,pl.toNat*2+1,none⟩ (.slice Ac X.length cc)) (some g) :=
     Kd.N_seg (Kd.N_below HN7.out hbc) pl hK0 HT1.out (c:=[.int .i64 (rd_T60 T1 pl).f0,.slice A9 (rd_T60 T1 pl).f1.length c9]) (seg:=[.slice Ac X.length cc]) (j:=1) rfl hcc_ (show 1+1≤2 from by decide) (x':=(⟨(rd_T60 T1 pl).f0,X⟩ : S60)) (okp:=fun k_=>w7.heap.size≤k_) (k60_mkF wc _ (⟨(rd_T60 T1 pl).f0,X⟩ : S60) (yh hRc).2.1 hFc) (fun k_ hk=>⟨Nat.le_trans L36.out hk,fun e9=>by rw [e9] at hk;exact Nat.lt_irrefl _ (Nat.lt_of_lt_of_le GL6.out hk)⟩)
    have hgw : w.heap.size≤g:=Nat.le_trans GB0.out (Nat.le_trans (Nat.le_of_lt L0.out) GG.out);have g0g : g0≠g:=fun e9=>Nat.lt_irrefl _ (Nat.lt_of_lt_of_le L0.out (e9 ▸ GG.out));have g2g : g2≠g:=fun e9=>Nat.lt_irrefl _ (Nat.lt_of_lt_of_le L2.out (e9 ▸ GG.out));have HN8:=zh hN8;have HB8 : Aside0 (Below w.heap.size w (wc.setCell ⟨g,pl.toNat*2+1,none⟩ (.slice Ac X.length cc))):=⟨zd (zC HB7.out hbc) hgw⟩;have H0_8 : Aside0 ((wc.setCell ⟨g,pl.toNat*2+1,none⟩ (.slice Ac X.length cc)).heap[g0]? = some (.cells #[.slice (some ⟨g,0,none⟩) T1.length cg,.int .i64 n1] 25 (0,0))):=⟨(Below.heap_setCell _ ⟨g,_,none⟩ _ g0 g0g).trans (zD H0_7.out hbc)⟩;have H2_8 : Aside0 ((wc.setCell ⟨g,pl.toNat*2+1,none⟩ (.slice Ac X.length cc)).heap[g2]? = some (.cells #[.slice none 0 0,.int .i64 0] 25 (0,0))):=⟨(Below.heap_setCell _ ⟨g,_,none⟩ _ g2 g2g).trans (zD H2_7.out hbc)⟩;have L38 : Aside0 (w3.heap.size≤(wc.setCell ⟨g,pl.toNat*2+1,none⟩ (.slice Ac X.length cc)).heap.size):=⟨by simp;exact Nat.le_trans L36.out hbc.size⟩;clear hcut1 hcut2 hN8 hG8 hFc hRa hRb hRc hba hbb hbc hce hcl_ hFK_ hcc_ hfr_ q9 f9 HB7 H0_7 H2_7 HN7 g0g g2g hgw;generalize wc.setCell ⟨g,pl.toNat*2+1,none⟩ (.slice Ac X.length cc)=w8 at *;have h:=HH.out;have hXe : l.take i++l.drop (i+1)=X:=by rw [HX.out,List.nil_append,HJ.out]
    have q0:=(zz H0_8.out 0).trans (show _=some (.slice (some ⟨g,0,none⟩) T1.length cg) from rfl)
    by_cases hl1 : l.length=1∧1<T1.length
    ·
     rw [if_pos hl1,hXe] at h
     simp only [Option.some.injEq,Prod.mk.injEq] at h;obtain ⟨hr1,rfl,rfl⟩:=h;have HR1:=zh hr1;clear hr1;obtain ⟨hl1,hl2⟩:=hl1;have c5 : ((l.length : Int) == 1)=true:=ya.mpr jD;have c5n : (l.length == 1)=true:=ya.mpr hl1;have c6 : decide ((1 : Int)<(T1.length : Int))=true:=decide_eq_true jD;have c6n : decide (1<T1.length)=true:=decide_eq_true hl2;have HL1:=zh hl1;clear hl1 hl2 hXe
     go_wp2_with fail
     clear q0;obtain ⟨Y,hY⟩ : ∃ Y,Y=T1.set pl.toNat (⟨(rd_T60 T1 pl).f0,X⟩ : S60):=⟨_,rfl⟩;have hYl : Y.length=T1.length:=by rw [hY,List.length_set]
     have HN9:=zh (Kd.N_drew HN8.out);rw [← hY] at HN9;have HYL:=zh hYl;have HB9:=zh (zc HB8.out);have H0_9:=zh (zf H0_8.out);have H2_9:=zh (zf H2_8.out);have L39 : Aside0 (w3.heap.size≤w8.drew.heap.size):=L38;obtain ⟨Kn,rfl⟩ : ∃ Kn : Nat,pl=(Kn : Int):=⟨pl.toNat,(Int.toNat_of_nonneg hK0).symm⟩;have hKn : Kn<T1.length:=Int.ofNat_lt.1 HT1.out;have hKw:=Fk.w_next Kn (Nat.le_trans (Nat.le_of_lt hKn) (Nat.le_trans HT2.out jB));have hKw2 : IntKind.i64.wrap ((Kn : Int)+1)=((Kn+1 : Nat) : Int):=(zG _).trans hKw;have hi4 : (0 : Int)≤(Kn : Int):=Int.natCast_nonneg _;have hi5 : (Kn : Int)≤(T1.length : Int):=Int.ofNat_le.2 (Nat.le_of_lt hKn);obtain ⟨j2,hj2⟩ : ∃ j : Nat,j=Kn+1:=⟨_,rfl⟩;have hjw2 : IntKind.i64.wrap ((Kn : Int)+1)=(j2 : Int):=by rw [hj2];exact hKw2
     have hjl2 : j2≤T1.length:=by rw [hj2];exact hKn
     have hi6 : (0 : Int)≤(j2 : Int):=Int.natCast_nonneg _;have hi7 : (j2 : Int)≤(T1.length : Int):=Int.ofNat_le.2 hjl2;obtain ⟨i0_,hi0_,_,hsz_,_⟩:=info_parts info60;have hcgl : T1.length≤cg:=(Kd.N_reads' HN9.out).2.1;have hcut1:=cut_to (P:=Try.prog) 23 60 .i64 Try.underlying23 hi0_ (some ⟨g,0,none⟩) T1.length cg (Kn : Int) hi4 hi5 hcgl;have hcut2:=cut_from (P:=Try.prog) 23 60 .i64 Try.underlying23 hi0_ 2 hsz_ (some ⟨g,0,none⟩) T1.length cg (j2 : Int) hi6 hi7;rw [Int.toNat_natCast] at hcut1 hcut2;have hFY:=Kd.F_bound (Kd.N_F HN9.out);rw [← hYl] at hFY;have hC1:=Kd.F_imp hFY (fun _ hC=>Kd.C_take (m:=Kn) hC (by rw [hYl];exact Nat.le_of_lt hKn));have hC2:=Kd.F_imp hFY (fun _ hC=>Kd.C_drop (c:=cg) (m:=j2) hC jBr (by rw [hYl];exact hcgl));rw [zx,Nat.min_eq_left (by rw [hYl];exact Nat.le_of_lt hKn)] at hC1;rw [zw,hYl] at hC2;obtain ⟨A2,hA2⟩ : ∃ A2,A2=(if cg=j2 then (some (⟨g,0,none⟩ : Addr)) else (some (⟨g,0,none⟩ : Addr)).map (·.add (j2*2))):=⟨_,rfl⟩;rw [← hA2] at hcut2;replace hC2 : Kd.F k60 w8.drew (fun k_=>w3.heap.size≤k_∧k_<w8.drew.heap.size) A2 (T1.length - j2) (Y.drop j2):=by rw [hA2];exact hC2
     have HJ2:=zh hj2;have HYR : Aside0 (Y.take Kn++Y.drop (Kn+1)=r1):=⟨by rw [hY];exact HR1.out⟩;clear HR1;have HC1:=zh hC1;have HC2:=zh hC2;clear hC1 hC2 hA2 hi0_ hsz_ hFY hcgl hY hYl hKw hKw2 hj2 hjl2 HN8 HN9;refine start_ (n:=14) (S:=fun w' => w'.cell? ⟨g0,0,none⟩=some (.slice (some ⟨g,0,none⟩) T1.length cg)) (ds:=[13]) (bm_ 0 14) jA rfl rfl ((zz H0_9.out 0).trans rfl) (fun hHeld=>?_);generalize w8.drew=w9 at HB9 H0_9 H2_9 L39 HC1 HC2 hHeld ⊢;refine pure_ (i:=1) (N:=some 57) (v:=?_) (a':=?_) #[false,true,false,false,false,false,false,false,false,false,false,false,false,false] rfl rfl jA (fun _ _ _ h=>h) (Or.inl ⟨by rfl,?_⟩) ?_ ?_;rotate_left;exact jb;rotate_left;exact jc
     refine pure_ (i:=3) (N:=some 59) (v:=?_) (a':=?_) #[false,true,false,true,false,false,false,false,false,false,false,false,false,false] rfl rfl jA (fun _ _ _ h=>h) (Or.inl ⟨by rfl,?_⟩) ?_ ?_;rotate_left;exact jb;rotate_left;exact jc
     refine pure_ (i:=6) (N:=some 62) (v:=?_) (a':=?_) #[false,true,false,true,false,false,true,false,false,false,false,false,false,false] rfl rfl jA (fun _ _ _ h=>h) (Or.inl ⟨by rfl,?_⟩) ?_ ?_;rotate_left;exact jb;rotate_left;exact jc
     refine pure_ (i:=8) (N:=some 64) (v:=?_) (a':=?_) #[false,true,false,true,false,false,true,false,true,false,false,false,false,false] rfl rfl jA (fun _ _ _ h=>h) (Or.inl ⟨by rfl,?_⟩) ?_ ?_;rotate_left;exact jb;rotate_left;exact jc
     refine pure_ (i:=9) (N:=some 65) (v:=?_) (a':=?_) #[false,true,false,true,false,false,true,false,true,true,false,false,false,false] rfl rfl jA (fun _ _ _ h=>h) (Or.inl ⟨by rfl,?_⟩) ?_ ?_;rotate_left;exact jb;rotate_left;exact jc
     refine take_ (i:=2) (N:=some 58) (v:=?_) (a':=?_) #[false,true,true,true,false,false,true,false,true,true,false,false,false,false] rfl rfl jA (fun _ _ _ h=>h) (Or.inl ⟨by rfl,?_⟩) hHeld ?_ ?_;rotate_left
     ·
      intro w' s0
      go_simp
      with_reducible rfl
     rotate_left
     exact jc
     refine pure_ (i:=4) (N:=some 60) (v:=?_) (a':=?_) #[false,true,true,true,true,false,true,false,true,true,false,false,false,false] rfl rfl jA (fun _ _ _ h=>h) (Or.inl ⟨by rfl,?_⟩) ?_ ?_;rotate_left;exact jb;rotate_left;exact jc
     refine take_ (i:=7) (N:=some 63) (v:=?_) (a':=?_) #[false,true,true,true,true,false,true,true,true,true,false,false,false,false] rfl rfl jA (fun _ _ _ h=>h) (Or.inl ⟨by rfl,?_⟩) hHeld ?_ ?_;rotate_left
     ·
      intro w' s0
      go_simp
      with_reducible rfl
     rotate_left
     exact jc
     refine pure_ (i:=10) (N:=some 66) (v:=?_) (a':=?_) #[false,true,true,true,true,false,true,true,true,true,true,false,false,false] rfl rfl jA (fun _ _ _ h=>h) (Or.inl ⟨by rfl,?_⟩) ?_ ?_;rotate_left;exact jb;rotate_left;exact jc
     refine one_ (i:=0) (N:=some 56) #[true,true,true,true,true,false,true,true,true,true,true,false,false,false] rfl rfl jA jB (fun K hK=>?_);refine Kd.N_lit_step k60 _ 60 ?hg (N':=56) ?hd (xs:=([] : List (S60))) (inner:=[]) (ok:=fun k_=>w3.heap.size≤k_) (okp:=fun k_=>w3.heap.size≤k_) ?hr ?hp (fun _ hk=>hk) L39.out (Below.refl w9.heap.size w9) (ye _) (by simp) ?_;(case hd=>rfl);(case hg=>rfl);(case hr=>go_simp <;> rfl);(case hp=>exact (Reps.none _ _));intro va wa hNa hba hga_ hna_;clear hga_ hna_;refine hK.out _ _ ((zz (zD H0_9.out hba) 0).trans rfl) (fun hHeld=>?_);clear hK K;refine norm_ (a':=?_) ?_ ?_;rotate_left
     ·
      show Act.put _ (some 56) _=_
      simp only [Act.put,zi,zj,zk,zG,zH]
      rfl
     refine one_ (i:=5) (N:=some 61) (bm_ 11 14) rfl rfl jA jB (fun K hK=>?_);refine Kd.N_append_rows_step k60 (w0:=w9) w9.heap.size (by rfl) (.tmp 56) (.tmp 60) 23 60 (.agg #[(.int .i64 0),(.slice none 0 0)]) 32 rfl Try.underlying23 info60 rfl jB jB va ([] : List (S60)) (Y.take Kn) (some ⟨g,0,none⟩) Kn cg (fun k_=>w3.heap.size≤k_) (fun k_=>w3.heap.size≤k_∧k_<w9.heap.size) (by rfl) (by rfl) hNa (Kd.F_below HC1.out hba) (fun k_ hk=>⟨hk.1,fun e9=>Nat.lt_irrefl _ (Nat.lt_of_lt_of_le hk.2 (Kd.N_base hNa k_ e9.symm))⟩) (fun _ hk=>Nat.le_trans L39.out (Nat.le_trans hba.size hk)) hba hba.size (by have:=HT2.out;have:=HYL.out;simp;omega) ?_;intro vb wb hNb hbb hg_ hat_;clear hg_ hat_;refine hK.out _ _ ((zz (zD H0_9.out hbb) 0).trans rfl) (fun hHeld=>?_);clear hK K;refine norm_ (a':=?_) ?_ ?_;rotate_left
     ·
      show Act.put _ (some 61) _=_
      simp only [Act.put,zi,zj,zk,zG,zH]
      rfl
     refine one_ (i:=11) (N:=some 67) (bm_ 12 14) rfl rfl jA jB (fun K hK=>?_);refine Kd.N_append_rows_step k60 (w0:=w9) w9.heap.size (by rfl) (.tmp 61) (.tmp 66) 23 60 (.agg #[(.int .i64 0),(.slice none 0 0)]) 32 rfl Try.underlying23 info60 rfl jB jB vb ([]++Y.take Kn) (Y.drop j2) A2 (T1.length - j2) (cg - j2) (fun k_=>w3.heap.size≤k_) (fun k_=>w3.heap.size≤k_∧k_<w9.heap.size) (by rfl) (by rfl) hNb (Kd.F_below HC2.out hbb) (fun k_ hk=>⟨hk.1,fun e9=>Nat.lt_irrefl _ (Nat.lt_of_lt_of_le hk.2 (Kd.N_base hNb k_ e9.symm))⟩) (fun _ hk=>Nat.le_trans L39.out (Nat.le_trans hbb.size hk)) hbb hbb.size (by have:=HT2.out;have:=HYL.out;simp;omega) ?_;intro vc wc hNc hbc hg_ hat_;clear hg_ hat_;obtain ⟨Z,hZ⟩ : ∃ Z : List (S60),Z=([]++Y.take Kn)++Y.drop j2:=⟨_,rfl⟩;rw [← hZ] at hNc;have HZ:=zh hZ;clear hZ;obtain ⟨Ac,cc,rfl⟩:=Kd.N_slice hNc;have hce:=(zz (zD H0_9.out hbc) 0).trans (show _=some (.slice (some ⟨g,0,none⟩) T1.length cg) from rfl);have f9:=zA (zD H0_9.out hbc) 0;refine hK.out _ _ (hce) (fun hHeld=>?_);clear hK K;refine norm_ (a':=?_) ?_ ?_;rotate_left
     ·
      show Act.put _ (some 67) _=_
      simp only [Act.put,zi,zj,zk,zG,zH]
      rfl
     refine pure_ (i:=12) (N:=some 68) (v:=?_) (a':=?_) (bm_ 13 14) rfl rfl jA (fun _ _ _ h=>h) (Or.inl ⟨by rfl,?_⟩) ?_ ?_;rotate_left;exact jb;rotate_left;exact jc
     refine last_ (i:=13) (N:=none) (bm_ 14 14) rfl rfl jA jB (fun K hK=>?_);refine skip_ (w1:=?_) (by rfl) rfl ?_ ?_;rotate_left
     ·
      go_simp
      rfl
     refine hK.out _ _ ?_;clear hK K;refine done_ jA ?_;have hZe : Y.take Kn++Y.drop (Kn+1)=Z:=by rw [HZ.out,List.nil_append,HJ2.out]
     obtain rfl : Z=r1:=hZe.symm.trans HYR.out;have H0_10 : Aside0 ((wc.setCell ⟨g0,0,none⟩ (.slice Ac Z.length cc)).heap[g0]? = some (.cells #[.slice Ac Z.length cc,.int .i64 n1] 25 (0,0))):=⟨blk_set (zD H0_9.out hbc) 0 _⟩;have H2_10 : Aside0 ((wc.setCell ⟨g0,0,none⟩ (.slice Ac Z.length cc)).heap[g2]? = some (.cells #[.slice none 0 0,.int .i64 0] 25 (0,0))):=⟨(Below.heap_setCell _ ⟨g0,_,none⟩ _ g2 (Ne.symm N02.out)).trans (zD H2_9.out hbc)⟩;have HB10 : Aside0 (Below w.heap.size w (wc.setCell ⟨g0,0,none⟩ (.slice Ac Z.length cc))):=⟨zd (zC HB9.out hbc) GB0.out⟩;have HV10 : Aside0 (Kd.V k60 60 (wc.setCell ⟨g0,0,none⟩ (.slice Ac Z.length cc)) w.heap.size (fun k_=>w3.heap.size≤k_) (.slice Ac Z.length cc) Z):=⟨Kd.V_far (p:=⟨g0,0,none⟩) (Kd.N_V hNc) (fun _ hk e9=>by rw [e9] at hk;exact Nat.lt_irrefl _ (Nat.lt_of_lt_of_le L0.out hk)) _⟩;have L310 : Aside0 (w3.heap.size≤w3.heap.size):=⟨ye _⟩;clear hcut1 hcut2 hZe hNa hNb hNc hba hbb hbc hce f9 HB9 H0_9 H2_9;generalize wc.setCell ⟨g0,0,none⟩ (.slice Ac Z.length cc)=w10 at *;have k0:=zz H0_10.out 0;have k1:=zz H0_10.out 1;have k2:=zz H2_10.out 0;have k3:=zz H2_10.out 1;have f0:=zA H2_10.out 0;have f1:=zA H2_10.out 1
     go_wp2_with fail
     refine bodyPost_ret (results_ct rfl _ _ g2 25 #[.slice Ac Z.length cc,.int .i64 n1] (0,0) _ rfl (blk_set (blk_set H2_10.out 0 (.slice Ac Z.length cc)) 1 (.int .i64 n1)) hu25 rfl jA) rfl ?_;exact ⟨_,rfl,Kd.V_mono (Kd.V_far (p:=⟨g2,1,none⟩) (Kd.V_far (p:=⟨g2,0,none⟩) HV10.out (fun _ hk e9=>by rw [e9] at hk;exact Nat.lt_irrefl _ (Nat.lt_of_lt_of_le L2.out hk)) _) (fun _ hk e9=>by rw [e9] at hk;exact Nat.lt_irrefl _ (Nat.lt_of_lt_of_le L2.out hk)) _) (fun _ hk => .inr (Nat.le_trans GB0.out (Nat.le_trans (Nat.le_of_lt L0.out) hk))),zd (zd HB10.out GB2.out) GB2.out⟩
    rw [if_neg hl1,hXe] at h;simp only [Option.some.injEq,Prod.mk.injEq] at h;obtain ⟨hY,rfl,rfl⟩:=h;have k0:=zz H0_8.out 0;have k1:=zz H0_8.out 1;have k2:=zz H2_8.out 0;have k3:=zz H2_8.out 1;have f0:=zA H2_8.out 0;have f1:=zA H2_8.out 1;have HV8:=zh (Kd.N_V (base':=w.heap.size) HN8.out);rw [hY] at HV8
    have hfin : ∀ W1,W1=(w8.setCell ⟨g2,0,none⟩ (.slice (some ⟨g,0,none⟩) T1.length cg)).setCell ⟨g2,1,none⟩ (.int .i64 n1)→Kd.V k60 60 W1 w.heap.size (fun k_=>(P0_0_ k_∨w.heap.size≤k_)) (.slice (some ⟨g,0,none⟩) T1.length cg) r1∧Below w.heap.size w W1:=fun W1 e9=>by
     rw [e9];exact ⟨Kd.V_mono (Kd.V_far (p:=⟨g2,1,none⟩) (Kd.V_far (p:=⟨g2,0,none⟩) HV8.out (fun _ hk e9=>by rw [e9] at hk;exact Nat.lt_irrefl _ (Nat.lt_of_lt_of_le L2.out hk)) _) (fun _ hk e9=>by rw [e9] at hk;exact Nat.lt_irrefl _ (Nat.lt_of_lt_of_le L2.out hk)) _) (fun _ hk => .inr (Nat.le_trans GB0.out (Nat.le_trans (Nat.le_of_lt L0.out) hk))),zd (zd HB8.out GB2.out) GB2.out⟩
    have HFIN:=zh hfin;clear hfin hY hXe
    by_cases hl3 : l.length=1
    ·
     have c5 : ((l.length : Int) == 1)=true:=ya.mpr jD
     have c5n : (l.length == 1)=true:=ya.mpr hl3;have c6 : decide ((1 : Int)<(T1.length : Int))=false:=decide_eq_false (fun h9=>hl1 ⟨hl3,jD⟩);have c6n : decide (1<T1.length)=false:=decide_eq_false (fun h9=>hl1 ⟨hl3,h9⟩);clear hl1 hl3
     go_wp2_with fail
     refine bodyPost_ret (results_ct rfl _ _ g2 25 #[.slice (some ⟨g,0,none⟩) T1.length cg,.int .i64 n1] (0,0) _ rfl (blk_set (blk_set H2_8.out 0 (.slice (some ⟨g,0,none⟩) T1.length cg)) 1 (.int .i64 n1)) hu25 rfl jA) rfl ?_;exact ⟨_,rfl,HFIN.out _ rfl⟩
    have c5 : ((l.length : Int) == 1)=false:=zY.mpr jD;have c5n : (l.length == 1)=false:=zY.mpr hl3;clear hl1 hl3
    go_wp2_with fail
    refine bodyPost_ret (results_ct rfl _ _ g2 25 #[.slice (some ⟨g,0,none⟩) T1.length cg,.int .i64 n1] (0,0) _ rfl (blk_set (blk_set H2_8.out 0 (.slice (some ⟨g,0,none⟩) T1.length cg)) 1 (.int .i64 n1)) hu25 rfl jA) rfl ?_;exact ⟨_,rfl,HFIN.out _ rfl⟩
  have c3 : decide ((i : Int)<(l.length : Int))=false:=decide_eq_false (fun h9=>hil (Int.ofNat_lt.1 h9));have hA:=HA.out;rw [List.drop_of_length_le (Nat.le_of_not_lt hil)] at hA;simp only [Fk.at] at hA;subst hA;have h:=HH.out;simp only [Option.some.injEq,Prod.mk.injEq] at h;obtain ⟨rfl,rfl,rfl⟩:=h;have k0:=zz H0_2.out 0;have k1:=zz H0_2.out 1;have k2:=zz H2_2.out 0;have k3:=zz H2_2.out 1;have f0:=zA H2_2.out 0;have f1:=zA H2_2.out 1
  go_wp2_with fail
  refine bodyPost_ret (results_ct rfl _ _ g2 25 #[.slice (some ad) l0_0.length c0_0,.int .i64 a0_1] (0,0) _ rfl (blk_set (blk_set H2_2.out 0 (.slice (some ad) l0_0.length c0_0)) 1 (.int .i64 a0_1)) hu25 rfl jA) rfl ?_;exact ⟨_,rfl,Kd.V_mk hc0_0 (Kd.F_mono (Kd.F_far (p:=⟨g2,1,none⟩) (Kd.F_far (p:=⟨g2,0,none⟩) (Kd.F_below (Kd.F_bound HF0.out) HB2.out) (fun _ hk e9=>by rw [e9] at hk;exact Nat.lt_irrefl _ (Nat.lt_of_lt_of_le hk.2 GB2.out)) _) (fun _ hk e9=>by rw [e9] at hk;exact Nat.lt_irrefl _ (Nat.lt_of_lt_of_le hk.2 GB2.out)) _) (fun _ hk => .inl hk.1)),zd (zd HB2.out GB2.out) GB2.out⟩

end Go.Proofs.Ytgifonogfgpjdaa.Q
end
section
namespace Go.Proofs.Ytgifonogfgpjdaa.Q
open Go.RowKit Go.Proofs.YtgifonogfgpjdaaW.PrintWords Go.Proofs.YtgifonogfgpjdaaW.PrintLast Go.Proofs.YtgifonogfgpjdaaW.PrintMore
attribute [local go_sem] max2_int min2_int max_two min_two max_three min_three max_four min_four max2_str min2_str str_geq str_gtr str_leq
set_option linter.unusedVariables false
set_option linter.unusedSimpArgs false

def Fb.l0 : Nat→Int→List Int→Int→Int→List (S60)→Int→Option ((List (S60))×Int×Int×Int)
 | 0,_,_,_,_,_,_=>none
 | k+1,x4,x1000,x1001,x1002,x217000,x217001=>if x4 > 0 then ((F0o.f x1000 x1001 x1002 4).bind fun bt224=>(if bt224.1=true then ((F0a.f x1000 bt224.2.1 bt224.2.2).bind fun bt227=>((Fk.f k x217000 x217001 bt227.1 bt227.2.1).bind fun bt231=>(Fb.l0 k (wrap64 (x4 - 1)) x1000 bt227.2.2.1 bt227.2.2.2 bt231.1 bt231.2.1))) else ((F0a.f x1000 bt224.2.1 bt224.2.2).bind fun bt236=>((F6.f k x217000 x217001 bt236.1 bt236.2.1).bind fun bt240=>(Fb.l0 k (wrap64 (x4 - 1)) x1000 bt236.2.2.1 bt236.2.2.2 bt240.1 bt240.2.1))))) else ((Fd.f k x217000 x217001).bind fun bt220=>(some (bt220.1,bt220.2,x1001,x1002)))
def Fb.f (k : Nat) (s0_0 : List Int) (s0_1 : Int) (s0_2 : Int) : Option ((List (S60))×Int×Int×Int):=(F0n.f).bind fun bt212=>((F06.f s0_0 s0_1 s0_2 24).bind fun bt217=>(Fb.l0 k bt217.1 s0_0 bt217.2.1 bt217.2.2 bt212.1 bt212.2))
theorem Fb.mono_l : ∀ k,(∀ y0 y1 y2 y3 y4 y5,LeO (Fb.l0 k y0 y1 y2 y3 y4 y5) (Fb.l0 (k+1) y0 y1 y2 y3 y4 y5))
 | 0=>fun _ _ _ _ _ _ r h=>by simp [Fb.l0] at h
 | k+1=>by
  have ih0:=Fb.mono_l k;intro y0 y1 y2 y3 y4 y5;unfold Fb.l0
  repeat' first|(with_reducible first|exact ih0 _ _ _ _ _ _|exact F6.mono _ _ _ _ _|exact Fd.mono _ _ _|exact Fk.mono _ _ _ _ _|exact zQ _|exact zN _|refine zP ?_ ?_|refine zO ?_ (fun _=>?_))|refine zP ?_ ?_|refine zO ?_ (fun _=>?_)
theorem Fb.mono : ∀ a0 a1 a2 k,LeO (Fb.f k a0 a1 a2) (Fb.f (k+1) a0 a1 a2):=by
 intro a0 a1 a2 k;have ih0:=Fb.mono_l k;unfold Fb.f
 repeat' first|(with_reducible first|exact ih0 _ _ _ _ _ _|exact F6.mono _ _ _ _ _|exact Fd.mono _ _ _|exact Fk.mono _ _ _ _ _|exact zQ _|exact zN _|refine zP ?_ ?_|refine zO ?_ (fun _=>?_))|refine zP ?_ ?_|refine zO ?_ (fun _=>?_)
def Fb.T6 : Bool×List (List Nat×List Nat):=(true,[([],[]),([],[]),([1],[1]),([0,2,2],[0,2]),([3],[3]),([4],[4]),([4],[4]),([5,3,0,1,2,3,4,5],[5])])
def Fb.B6 : List Nat:=[0,0,2,7,15,31,31,63]
theorem Fb.tab6 : rtab .any (opsOf Try.f22 6)=Fb.T6:=by kernel_rfl
theorem Fb.bits6 : waitsOk Fb.T6.2 Fb.B6=true:=by kernel_rfl
def Fb.T7 : Bool×List (List Nat×List Nat):=(true,[([],[]),([],[]),([1],[1]),([0,2,2],[0,2]),([3],[3]),([4],[4]),([4],[4]),([4],[4]),([5,3,0,1,2,3,4,5],[5])])
def Fb.B7 : List Nat:=[0,0,2,7,15,31,31,31,63]
theorem Fb.tab7 : rtab .any (opsOf Try.f22 7)=Fb.T7:=by kernel_rfl
theorem Fb.bits7 : waitsOk Fb.T7.2 Fb.B7=true:=by kernel_rfl
set_option maxHeartbeats 8000000 in
set_option maxRecDepth 100000 in
theorem Fb.calls (k : Nat) (g : Nat) (s0_0 : List Int) (s0_1 : Int) (s0_2 : Int) (r1 : List (S60)) (r2 : Int) (r3 : Int) (r4 : Int) (w0 w : World) (hI : IsS71 w0 w g s0_0 s0_1 s0_2) (hB : Below w0.heap.size w0 w) (h : Fb.f k s0_0 s0_1 s0_2=some (r1,r2,r3,r4)) :
  Calls Try.prog 22 #[.pointer (some ⟨g,0,none⟩)] w fun e w' => ∃ v0_ : Value,e = .returned (.agg #[v0_,.int .i64 r2])∧Kd.N k60 60 w' w.heap.size (fun k_=>(w.heap.size≤k_)) v0_ r1∧IsS71 w0 w' g s0_0 r3 r4∧Below w0.heap.size w0 w' ∧ KeepBut w w' g none:=by
 have hu25:=Try.underlying25;have HI0:=zh hI;have HK:=zh (KeepBut.refl w g none);have HL:=zh hB.size;clear hI;have HW0:=zh hB.size;have HB:=zh hB;clear hB;have H : ((F0n.f).bind fun bt212=>((F06.f s0_0 s0_1 s0_2 24).bind fun bt217=>(Fb.l0 k bt217.1 s0_0 bt217.2.1 bt217.2.2 bt212.1 bt212.2)))=some (r1,r2,r3,r4):=h;clear h;replace H:=zT.mp H;obtain ⟨⟨t212,t215⟩,A20,H⟩:=H;have A2:=zh A20;clear A20;replace H:=zT.mp H;obtain ⟨⟨t217,t218,t219⟩,A30,H⟩:=H;have A3:=zh A30;clear A30;have H':=zh H;clear H
 go_enter Try.func22,Try.ntmps22
 go_wp2_with (first|((with_reducible refine zK (N:=2) rfl ?_);refine zI ?hg (N:=2) ?hd (cs:=#[.slice none 0 0,.int .i64 0]) (t:=25) ?hr ?_;(case hd=>rfl);(case hg=>rfl);(case hr=>go_simp <;> rfl);intro gb211 hg w4 hbox hb;replace HB:=zh (zC jo hb);have BK211:=zh (hbox);have GW211:=zh ((jBy : w.heap.size≤gb211));have GE211:=zh ((Nat.le_trans HW0.out (jBy : w.heap.size≤gb211) : w0.heap.size≤gb211));replace HK:=zh (KeepBut.trans jS (KeepBut.of_below hb g none) (.inl rfl));have NB0_211:=zh ((jDO : g≠gb211));have NB211_0:=zh ((jDP : gb211≠g));replace HI0:=zh (IsS71.below jn hb);clear hb hbox hg)|((with_reducible refine zJ (f:=43) rfl ?_);refine yj (some 5) rfl rfl Try.func43 jA rfl #[] rfl jF ?_;(with_reducible refine (F0n.calls   t212 t215 _ A2.out).mono ?_);rintro e w5 ⟨v213,rfl,ho0,hb⟩;refine ⟨_,rfl,?_⟩;have HO214:=zh (Kd.N_lower (Kd.N_mono (ok':=fun k_=>(w.heap.size≤k_)∧k_≠gb211∧k_≠g) ho0 (fun k_ hk_=>⟨(Nat.le_trans (keep_size (w:=w) (g:=g) (row:=none) jBR) hk_),(Kd.freshB (g:=gb211) (o:=.cells #[.slice none 0 0,.int .i64 0] 25 (0,0)) jp k_ hk_),(IsS71.fresh jCU k_ hk_)⟩)) (keep_size (w:=w) (g:=g) (row:=none) jBR));replace BK211:=zh (cD BK211.out jp hb);replace HK:=zh (KeepBut.trans jBR (KeepBut.of_below hb g none) (.inl rfl));replace HB:=zh (zC jDT hb);replace HI0:=zh (IsS71.below jCU hb);(try clear hb);(try clear hb2);(try clear hk);(try clear hi);(try clear ho0))|((with_reducible refine zK (N:=3) rfl ?_);refine zI ?hg (N:=3) ?hd (cs:=#[.slice none 0 0,.int .i64 0]) (t:=25) ?hr ?_;(case hd=>rfl);(case hg=>rfl);(case hr=>go_simp <;> rfl);intro gb216 hg w6 hbox hb;replace HO214:=zh (Kd.N_below (Kd.N_elderB (by (with_reducible repeat (first|apply Kd.N_alloc|apply Kd.N_drewN|apply Kd.N_drew));exact HO214.out) gb216 (Nat.le_of_eq hg.symm)) hb);replace HB:=zh (zC jDT hb);have BK216:=zh (hbox);have GW216:=zh ((jDU : w.heap.size≤gb216));have GE216:=zh ((Nat.le_trans HW0.out (jDU : w.heap.size≤gb216) : w0.heap.size≤gb216));replace HK:=zh (KeepBut.trans jBR (KeepBut.of_below hb g none) (.inl rfl));have NB211_216:=zh ((by rw [hg];exact yc (yi (g:=gb211) (o:=.cells #[.slice none 0 0,.int .i64 0] 25 (0,0)) jp) : gb211≠gb216));have NB216_211:=zh NB211_216.out.symm;replace BK211:=zh (cD BK211.out jp hb);have NB0_216:=zh ((by rw [hg];exact yc (IsS71.lt (show IsS71 w0 _ g s0_0 s0_1 s0_2 from by repeat (with_reducible first|exact HI0.out|apply IsS71.alloc|apply IsS71.drewN|apply IsS71.drew|apply IsS71.set_1|apply IsS71.set_2|refine IsS71.far ?_ NB0_211.out _))) : g≠gb216));have NB216_0:=zh ((by rw [hg];exact yd (IsS71.lt (show IsS71 w0 _ g s0_0 s0_1 s0_2 from by repeat (with_reducible first|exact HI0.out|apply IsS71.alloc|apply IsS71.drewN|apply IsS71.drew|apply IsS71.set_1|apply IsS71.set_2|refine IsS71.far ?_ NB0_211.out _))) : gb216≠g));replace HI0:=zh (IsS71.below jCU hb);clear hb hbox hg;obtain ⟨Ao7,co7,eo7⟩:=Kd.N_slice HO214.out;subst eo7;have hnb8:=NB216_211.out;have hnc8:=NB211_216.out;have hnb9:=NB216_0.out;have hnc9:=NB0_216.out;obtain ⟨hcz10_0,hcz10_1,hfz10_0,hfz10_1⟩:=cB2 BK216.out)|((with_reducible refine zJ (f:=44) rfl ?_);refine yj (some 7) rfl rfl Try.func44 jA rfl #[.pointer (some ⟨g,0,none⟩),.int .i64 24] rfl jF ?_;(with_reducible refine (F06.calls  g s0_0 s0_1 s0_2 24 t217 t218 t219 w0 _ ?side1 ?side2 A3.out).mono ?_);(case side1=>repeat (with_reducible first|exact HI0.out|apply IsS71.alloc|apply IsS71.drewN|apply IsS71.drew|apply IsS71.set_1|apply IsS71.set_2|refine IsS71.far ?_ NB0_211.out _|refine IsS71.far ?_ NB0_216.out _));(case side2=>repeat (with_reducible first|exact HB.out|apply za|apply zb|apply zc|refine zd ?_ (IsS71.ge HI0.out)|refine zd ?_ GE211.out|refine zd ?_ GE216.out));rintro e w11 ⟨rfl,hi,hb,hk⟩;refine ⟨_,rfl,?_⟩;replace BK211:=zh (KeepBut.blk hk (g':=gb211) (o:=.cells #[.slice none 0 0,.int .i64 0] 25 (0,0)) jCV NB211_0.out (by simp));replace HO214:=zh (Kd.N_mono (Kd.N_keep (Kd.N_mono (ok:=fun k_=>((((w.heap.size≤k_))∧(k_≠gb211∧k_≠g))∧k_≠gb216)) (by (with_reducible repeat (first|apply Kd.N_alloc|apply Kd.N_drewN|apply Kd.N_drew));exact (Kd.N_mono (Kd.N_far (p:=⟨gb216,1,none⟩) (Kd.N_far (p:=⟨gb216,0,none⟩) (Kd.N_mono HO214.out (fun k_ hk=>(⟨hk,hk.2⟩ : _∧k_≠gb216))) (fun _ hk=>hk.2) (.slice Ao7 t212.length co7)) (fun _ hk=>hk.2) (.int .i64 t215)) (fun _ h_=>h_.1))) (fun k_ hk_=>(⟨hk_,hk_.1.2.2⟩ : _∧k_≠g))) hk (fun _ h=>h.2)) (fun _ h=>h.1));replace BK216:=zh (KeepBut.blk hk (g':=gb216) (o:=.cells #[.slice Ao7 t212.length co7,.int .i64 t215] 25 (0,0)) (by (with_reducible repeat first|apply ze|apply zf|apply zg);refine zL (cs:=#[.slice Ao7 t212.length co7,.int .i64 0]) ?_ 1 _ rfl;(with_reducible repeat first|apply ze|apply zf|apply zg);refine zL (cs:=#[.slice none 0 0,.int .i64 0]) ?_ 0 _ rfl;(with_reducible repeat first|apply ze|apply zf|apply zg);exact BK216.out) NB216_0.out (by simp));replace HK:=zh (KeepBut.trans jZ hk (.inl rfl));replace HB:=zh (hb);replace HI0:=zh (hi);(try clear hb);(try clear hb2);(try clear hk);(try clear hi)))
 go_loopg [4] k (fun kq v4 w' => ∃ (x4_1 : Int) (x1001_1 : Int) (x1002_1 : Int) (x217000_1 : List (S60)) (x217001_1 : Int) (u217000 : Value),v4 = .int .i64 x4_1∧Aside0 (Fb.l0 kq x4_1 s0_0 x1001_1 x1002_1 x217000_1 x217001_1=some (r1,r2,r3,r4))∧Aside0 (kq≤k)∧Aside0 (Kd.V k60 60 w' w.heap.size (fun k_=>(w.heap.size≤k_)∧k_≠gb211∧k_≠gb216∧k_≠g) u217000 x217000_1)∧Aside0 (w'.heap[gb211]? = some (.cells #[(.slice none 0 0),.int .i64 0] 25 (0,0)))∧Aside0 (w'.heap[gb216]? = some (.cells #[u217000,.int .i64 x217001_1] 25 (0,0)))∧Aside0 (IsS71 w0 w' g s0_0 x1001_1 x1002_1)∧Aside0 (KeepBut w w' g none)∧Aside0 (Below w0.heap.size w0 w'))
 case atStart=>exact ⟨(t217),(t218),(t219),(t212),(t215),(.slice Ao7 t212.length co7),jE,H',⟨ye _⟩,⟨Kd.N_V (by (with_reducible repeat (first|apply Kd.N_alloc|apply Kd.N_drewN|apply Kd.N_drew));exact Kd.N_mono HO214.out (fun _ hk=>⟨hk.1.1,⟨hk.1.2.1,⟨hk.2,hk.1.2.2⟩⟩⟩))⟩,⟨jp⟩,⟨jAG⟩,⟨jAR⟩,⟨jZ⟩,⟨jAq⟩⟩
 case round =>
  clear H'
  try clear c2
  try clear p2
  try clear c4 c8 c9
  try clear hcz10_0 hcz10_1 hfz10_0 hfz10_1
  obtain ⟨x4_1,x1001_1,x1002_1,x217000_1,x217001_1,u217000,rfl,HA,HK1,HO_217000,BK211,BK216,HI0,HK,HB⟩:=hrel
  cases gk with
  | zero=>exact absurd HA.out (by simp [Fb.l0])
  | succ k1 =>
   have H:=HA.out;clear HA;simp only [Fb.l0] at H
   by_cases c12 : x4_1 > 0
   ·
    rw [if_pos c12] at H
    have c12b0 : decide (0<x4_1)=true:=decide_eq_true c12;clear c12;replace H:=zT.mp H;obtain ⟨⟨t224,t225,t226⟩,A130,H⟩:=H;have A13:=zh A130;clear A130
    by_cases c14 : t224=true
    ·
     subst c14
     rw [if_pos rfl] at H;replace H:=zT.mp H;obtain ⟨⟨t227,t228,t229,t230⟩,A150,H⟩:=H;have A15:=zh A150;clear A150;replace H:=zT.mp H;obtain ⟨⟨t231,t234,t235⟩,A160,H⟩:=H;have A16:=zh A160;clear A160;have H':=zh H;clear H
     try go_wp2_with (first|((with_reducible refine zJ (f:=45) rfl ?_);refine yj (some 13) rfl rfl Try.func45 jA rfl #[.pointer (some ⟨g,0,none⟩),.int .i64 4] rfl jF ?_;(with_reducible refine (F0o.calls  g s0_0 x1001_1 x1002_1 4 true t225 t226 w0 _ ?side1 ?side2 A13.out).mono ?_);(case side1=>repeat (with_reducible first|exact HI0.out|apply IsS71.alloc|apply IsS71.drewN|apply IsS71.drew|apply IsS71.set_1|apply IsS71.set_2|refine IsS71.far ?_ NB0_211.out _|refine IsS71.far ?_ NB0_216.out _));(case side2=>repeat (with_reducible first|exact HB.out|apply za|apply zb|apply zc|refine zd ?_ (IsS71.ge HI0.out)|refine zd ?_ GE211.out|refine zd ?_ GE216.out));rintro e w17 ⟨rfl,hi,hb,hk⟩;refine ⟨_,rfl,?_⟩;replace HO_217000:=zh (Kd.V_mono (Kd.V_keep (Kd.V_mono (ok:=fun k_=>(((w.heap.size≤k_))∧(k_≠gb211∧(k_≠gb216∧k_≠g)))) jAr (fun k_ hk_=>(⟨hk_,hk_.2.2.2⟩ : _∧k_≠g))) hk (fun _ h=>h.2)) (fun _ h=>h.1));replace BK211:=zh (KeepBut.blk hk (g':=gb211) (o:=.cells #[.slice none 0 0,.int .i64 0] 25 (0,0)) jp NB211_0.out (by simp));replace BK216:=zh (KeepBut.blk hk (g':=gb216) (o:=.cells #[u217000,.int .i64 x217001_1] 25 (0,0)) jAG NB216_0.out (by simp));replace HK:=zh (KeepBut.trans jZ hk (.inl rfl));replace HB:=zh (hb);replace HI0:=zh (hi);(try clear hb);(try clear hb2);(try clear hk);(try clear hi)))
     replace HO_217000:=zh (Kd.V_drew HO_217000.out);replace BK211:=zh (zf BK211.out);replace BK216:=zh (zf BK216.out);replace HI0:=zh (IsS71.drew HI0.out);replace HK:=zh (yw HK.out);replace HB:=zh (zc HB.out);refine start_ (n:=8) (S:=fun w' => w'.cell? ⟨gb216,0,none⟩=some (u217000)∧w'.cell? ⟨gb216,1,none⟩=some (.int .i64 x217001_1)) (ds:=[7]) (bm_ 0 8) jA rfl rfl ⟨(zz BK216.out 0).trans rfl,(zz BK216.out 1).trans rfl⟩ (fun hHeld=>?_);refine with_tabW Fb.tab6 Fb.bits6 (fun HT_ HW_=>?_);generalize w17.drew=w18 at HO_217000 BK211 BK216 HI0 HK HB hHeld ⊢;refine pure_ (i:=1) (N:=some 16) (v:=?_) (a':=?_) #[false,true,false,false,false,false,false,false] rfl rfl (any_of HT_.out jA) (fun _ _ _ h=>h) (Or.inl ⟨by rfl,?_⟩) ?_ ?_;rotate_left;exact jb;rotate_left;exact jc
     refine take_ (i:=0) (N:=some 15) (v:=?_) (a':=?_) (bm_ 2 8) rfl rfl (yo HT_.out HW_.out jA) (fun _ _ _ h=>h) (Or.inl ⟨by rfl,?_⟩) hHeld ?_ ?_;rotate_left
     ·
      rintro w' ⟨s0,s1⟩
      go_simp
      with_reducible rfl
     rotate_left
     exact jc
     refine one_ (i:=2) (N:=some 17) (bm_ 3 8) rfl rfl (one_of HT_.out jA) jB (fun K hK=>?_);refine goes_ Try.func23 jA rfl #[.pointer (some ⟨g,0,none⟩)] (by rfl) rfl rfl jF ?_
     with_reducible refine (F0a.calls  g s0_0 t225 t226 t227 t228 t229 t230 w0 _ ?side1 ?side2 A15.out).mono ?_
     (case side1=>repeat (with_reducible first|exact HI0.out|apply IsS71.alloc|apply IsS71.drewN|apply IsS71.drew|apply IsS71.set_1|apply IsS71.set_2|refine IsS71.far ?_ NB0_211.out _|refine IsS71.far ?_ NB0_216.out _))
     (case side2=>repeat (with_reducible first|exact HB.out|apply za|apply zb|apply zc|refine zd ?_ (IsS71.ge HI0.out)|refine zd ?_ GE211.out|refine zd ?_ GE216.out))
     rintro e w19 ⟨rfl,hi,hb,hk⟩;refine ⟨_,rfl,?_⟩;replace HO_217000:=zh (Kd.V_mono (Kd.V_keep (Kd.V_mono (ok:=fun k_=>(((w.heap.size≤k_))∧(k_≠gb211∧(k_≠gb216∧k_≠g)))) jAr (fun k_ hk_=>(⟨hk_,hk_.2.2.2⟩ : _∧k_≠g))) hk (fun _ h=>h.2)) (fun _ h=>h.1));replace BK211:=zh (KeepBut.blk hk (g':=gb211) (o:=.cells #[.slice none 0 0,.int .i64 0] 25 (0,0)) jp NB211_0.out (by simp));replace BK216:=zh (KeepBut.blk hk (g':=gb216) (o:=.cells #[u217000,.int .i64 x217001_1] 25 (0,0)) jAG NB216_0.out (by simp));replace HK:=zh (KeepBut.trans jZ hk (.inl rfl));replace HB:=zh (hb);replace HI0:=zh (hi);(try clear hb);(try clear hb2);(try clear hk);(try clear hi);obtain ⟨Ao20,co20,eo20⟩:=Kd.V_slice HO_217000.out;(first|subst eo20|(injection eo20 with f1_ f2_ f3_;have f4_:=f1_.symm;have f5_:=f3_.symm;clear f1_ f2_ f3_;subst f4_;subst f5_));refine hK.out _ _ ⟨(zz BK216.out 0).trans rfl,(zz BK216.out 1).trans rfl⟩ (fun hHeld=>?_);clear hK K;refine norm_ (a':=?_) ?_ ?_;rotate_left
     ·
      show Act.put _ (some 17) _=_
      simp only [Act.put,zi,zj,zk,zG,zH]
      rfl
     refine one_ (i:=3) (N:=some 18) (bm_ 4 8) rfl rfl (one_of HT_.out jA) jB (fun K hK=>?_);refine goes_ Try.func46 jA rfl #[.agg #[.slice Ao20 x217000_1.length co20,.int .i64 x217001_1],.agg #[.string t227,.int .i64 t228]] (by rfl) rfl rfl jF ?_
     with_reducible refine (Fk.calls k1  (fun k_=>((w.heap.size≤k_)∧(k_≠gb211∧(k_≠gb216∧k_≠g)))) _ _ x217000_1 x217001_1 t227 t228 t231 t234 t235 _ ?side1 A16.out).mono ?_
     (case side1=>exact HO_217000.out)
     rintro e w21 ⟨v232,rfl,ho0,hb⟩;refine ⟨_,rfl,?_⟩;replace HO_217000:=zh (Kd.V_below jAr hb);have HO233:=zh (Kd.V_lower (Kd.V_mono (ok':=fun k_=>(w.heap.size≤k_)∧k_≠gb211∧k_≠gb216∧k_≠g) ho0 (fun k_ hk_=>⟨Or.elim hk_ (fun hs_=>hs_.1) (fun hn_=>(Nat.le_trans (keep_size (w:=w) (g:=g) (row:=none) jZ) hn_)),Or.elim hk_ (fun hs_=>hs_.2.1) (fun hn_=>(Kd.freshB (g:=gb211) (o:=.cells #[.slice none 0 0,.int .i64 0] 25 (0,0)) jp k_ hn_)),Or.elim hk_ (fun hs_=>hs_.2.2.1) (fun hn_=>(Kd.freshB (g:=gb216) (o:=.cells #[.slice Ao20 x217000_1.length co20,.int .i64 x217001_1] 25 (0,0)) jAG k_ hn_)),Or.elim hk_ (fun hs_=>hs_.2.2.2) (fun hn_=>(IsS71.fresh jAR k_ hn_))⟩)) (keep_size (w:=w) (g:=g) (row:=none) jZ));replace BK211:=zh (cD BK211.out jp hb);replace BK216:=zh (cD BK216.out jAG hb);replace HK:=zh (KeepBut.trans jZ (KeepBut.of_below hb g none) (.inl rfl));replace HB:=zh (zC jAq hb);replace HI0:=zh (IsS71.below jAR hb);(try clear hb);(try clear hb2);(try clear hk);(try clear hi);(try clear ho0);obtain ⟨Ao22,co22,eo22⟩:=Kd.V_slice HO233.out;(first|subst eo22|(injection eo22 with f1_ f2_ f3_;have f4_:=f1_.symm;have f5_:=f3_.symm;clear f1_ f2_ f3_;subst f4_;subst f5_));refine hK.out _ _ ⟨(zz BK216.out 0).trans rfl,(zz BK216.out 1).trans rfl⟩ (fun hHeld=>?_);clear hK K;refine norm_ (a':=?_) ?_ ?_;rotate_left
     ·
      show Act.put _ (some 18) _=_
      simp only [Act.put,zi,zj,zk,zG,zH]
      rfl
     refine pure_ (i:=4) (N:=some 14) (v:=?_) (a':=?_) (bm_ 5 8) rfl rfl (any_of HT_.out jA) (fun _ _ _ h=>h) (Or.inl ⟨by rfl,?_⟩) ?_ ?_;rotate_left;exact jb;rotate_left;exact jc
     refine pure_ (i:=5) (N:=some 19) (v:=?_) (a':=?_) (bm_ 6 8) rfl rfl (any_of HT_.out jA) (fun _ _ _ h=>h) (Or.inl ⟨by rfl,?_⟩) ?_ ?_;rotate_left;exact jb;rotate_left;exact jc
     refine pure_ (i:=6) (N:=some 20) (v:=?_) (a':=?_) (bm_ 7 8) rfl rfl (any_of HT_.out jA) (fun _ _ _ h=>h) (Or.inl ⟨by rfl,?_⟩) ?_ ?_;rotate_left;exact jb;rotate_left;exact jc
     refine last_ (i:=7) (N:=none) (bm_ 8 8) rfl rfl (one_of HT_.out jA) jB (fun K hK=>?_);have hs23 : w21.cell? ⟨gb216,0,none⟩=some (.slice Ao20 x217000_1.length co20):=(zz BK216.out 0).trans rfl;have hfs23:=zA BK216.out 0;have hns23_0:=NB211_216.out;have hms23_0:=NB216_211.out;have hs24 : w21.cell? ⟨gb216,1,none⟩=some (.int .i64 x217001_1):=(zz BK216.out 1).trans rfl;have hfs24:=zA BK216.out 1;have hns24_0:=NB211_216.out;have hms24_0:=NB216_211.out;refine skip_ (w1:=?_) (by rfl) rfl ?_ ?_;rotate_left
     ·
      go_simp
      rfl
     refine hK.out _ _ ?_;clear hK K;refine done_ (done_of HT_.out jA) ?_
     try go_wp2
     go_roundg k1
     case measure=>have:=HK1.out;omega
     case rel=>exact ⟨(wrap64 (x4_1 - 1)),(t229),(t230),(t231),(t234),(.slice Ao22 t231.length co22),jE,H',⟨jR⟩,⟨by (with_reducible repeat (first|apply Kd.V_alloc|apply Kd.V_drewN|apply Kd.V_drew));exact Kd.V_mono (Kd.V_far (p:=⟨gb216,1,none⟩) (Kd.V_far (p:=⟨gb216,0,none⟩) (Kd.V_mono HO233.out (fun k_ hk=>(⟨hk,hk.2.2.1⟩ : _∧k_≠gb216))) (fun _ hk=>hk.2) (.slice Ao22 t231.length co22)) (fun _ hk=>hk.2) (.int .i64 t234)) (fun _ hk=>⟨hk.1.1,⟨hk.1.2.1,⟨hk.1.2.2.1,hk.1.2.2.2⟩⟩⟩)⟩,⟨jCV⟩,⟨by (with_reducible repeat first|apply ze|apply zf|apply zg);refine zL (cs:=#[.slice Ao22 t231.length co22,.int .i64 x217001_1]) ?_ 1 _ rfl;(with_reducible repeat first|apply ze|apply zf|apply zg);refine zL (cs:=#[.slice Ao20 x217000_1.length co20,.int .i64 x217001_1]) ?_ 0 _ rfl;(with_reducible repeat first|apply ze|apply zf|apply zg);exact BK216.out⟩,⟨jAR⟩,⟨jZ⟩,⟨jAq⟩⟩
    replace c14:=yb.mpr c14;subst c14;rw [if_neg (show ¬ (false=true) by decide)] at H;replace H:=zT.mp H;obtain ⟨⟨t236,t237,t238,t239⟩,A250,H⟩:=H;have A25:=zh A250;clear A250;replace H:=zT.mp H;obtain ⟨⟨t240,t243,t244,t245⟩,A260,H⟩:=H;have A26:=zh A260;clear A260;have H':=zh H;clear H
    try go_wp2_with (first|((with_reducible refine zJ (f:=45) rfl ?_);refine yj (some 13) rfl rfl Try.func45 jA rfl #[.pointer (some ⟨g,0,none⟩),.int .i64 4] rfl jF ?_;(with_reducible refine (F0o.calls  g s0_0 x1001_1 x1002_1 4 false t225 t226 w0 _ ?side1 ?side2 A13.out).mono ?_);(case side1=>repeat (with_reducible first|exact HI0.out|apply IsS71.alloc|apply IsS71.drewN|apply IsS71.drew|apply IsS71.set_1|apply IsS71.set_2|refine IsS71.far ?_ NB0_211.out _|refine IsS71.far ?_ NB0_216.out _));(case side2=>repeat (with_reducible first|exact HB.out|apply za|apply zb|apply zc|refine zd ?_ (IsS71.ge HI0.out)|refine zd ?_ GE211.out|refine zd ?_ GE216.out));rintro e w27 ⟨rfl,hi,hb,hk⟩;refine ⟨_,rfl,?_⟩;replace HO_217000:=zh (Kd.V_mono (Kd.V_keep (Kd.V_mono (ok:=fun k_=>(((w.heap.size≤k_))∧(k_≠gb211∧(k_≠gb216∧k_≠g)))) jAr (fun k_ hk_=>(⟨hk_,hk_.2.2.2⟩ : _∧k_≠g))) hk (fun _ h=>h.2)) (fun _ h=>h.1));replace BK211:=zh (KeepBut.blk hk (g':=gb211) (o:=.cells #[.slice none 0 0,.int .i64 0] 25 (0,0)) jp NB211_0.out (by simp));replace BK216:=zh (KeepBut.blk hk (g':=gb216) (o:=.cells #[u217000,.int .i64 x217001_1] 25 (0,0)) jAG NB216_0.out (by simp));replace HK:=zh (KeepBut.trans jZ hk (.inl rfl));replace HB:=zh (hb);replace HI0:=zh (hi);(try clear hb);(try clear hb2);(try clear hk);(try clear hi)))
    replace HO_217000:=zh (Kd.V_drew HO_217000.out);replace BK211:=zh (zf BK211.out);replace BK216:=zh (zf BK216.out);replace HI0:=zh (IsS71.drew HI0.out);replace HK:=zh (yw HK.out);replace HB:=zh (zc HB.out);refine start_ (n:=9) (S:=fun w' => w'.cell? ⟨gb216,0,none⟩=some (u217000)∧w'.cell? ⟨gb216,1,none⟩=some (.int .i64 x217001_1)) (ds:=[8]) (bm_ 0 9) jA rfl rfl ⟨(zz BK216.out 0).trans rfl,(zz BK216.out 1).trans rfl⟩ (fun hHeld=>?_);refine with_tabW Fb.tab7 Fb.bits7 (fun HT_ HW_=>?_);generalize w27.drew=w28 at HO_217000 BK211 BK216 HI0 HK HB hHeld ⊢;refine pure_ (i:=1) (N:=some 23) (v:=?_) (a':=?_) #[false,true,false,false,false,false,false,false,false] rfl rfl (any_of HT_.out jA) (fun _ _ _ h=>h) (Or.inl ⟨by rfl,?_⟩) ?_ ?_;rotate_left;exact jb;rotate_left;exact jc
    refine take_ (i:=0) (N:=some 22) (v:=?_) (a':=?_) (bm_ 2 9) rfl rfl (yo HT_.out HW_.out jA) (fun _ _ _ h=>h) (Or.inl ⟨by rfl,?_⟩) hHeld ?_ ?_;rotate_left
    ·
     rintro w' ⟨s0,s1⟩
     go_simp
     with_reducible rfl
    rotate_left
    exact jc
    refine one_ (i:=2) (N:=some 24) (bm_ 3 9) rfl rfl (one_of HT_.out jA) jB (fun K hK=>?_);refine goes_ Try.func23 jA rfl #[.pointer (some ⟨g,0,none⟩)] (by rfl) rfl rfl jF ?_
    with_reducible refine (F0a.calls  g s0_0 t225 t226 t236 t237 t238 t239 w0 _ ?side1 ?side2 A25.out).mono ?_
    (case side1=>repeat (with_reducible first|exact HI0.out|apply IsS71.alloc|apply IsS71.drewN|apply IsS71.drew|apply IsS71.set_1|apply IsS71.set_2|refine IsS71.far ?_ NB0_211.out _|refine IsS71.far ?_ NB0_216.out _))
    (case side2=>repeat (with_reducible first|exact HB.out|apply za|apply zb|apply zc|refine zd ?_ (IsS71.ge HI0.out)|refine zd ?_ GE211.out|refine zd ?_ GE216.out))
    rintro e w29 ⟨rfl,hi,hb,hk⟩;refine ⟨_,rfl,?_⟩;replace HO_217000:=zh (Kd.V_mono (Kd.V_keep (Kd.V_mono (ok:=fun k_=>(((w.heap.size≤k_))∧(k_≠gb211∧(k_≠gb216∧k_≠g)))) jAr (fun k_ hk_=>(⟨hk_,hk_.2.2.2⟩ : _∧k_≠g))) hk (fun _ h=>h.2)) (fun _ h=>h.1));replace BK211:=zh (KeepBut.blk hk (g':=gb211) (o:=.cells #[.slice none 0 0,.int .i64 0] 25 (0,0)) jp NB211_0.out (by simp));replace BK216:=zh (KeepBut.blk hk (g':=gb216) (o:=.cells #[u217000,.int .i64 x217001_1] 25 (0,0)) jAG NB216_0.out (by simp));replace HK:=zh (KeepBut.trans jZ hk (.inl rfl));replace HB:=zh (hb);replace HI0:=zh (hi);(try clear hb);(try clear hb2);(try clear hk);(try clear hi);obtain ⟨Ao30,co30,eo30⟩:=Kd.V_slice HO_217000.out;(first|subst eo30|(injection eo30 with f1_ f2_ f3_;have f4_:=f1_.symm;have f5_:=f3_.symm;clear f1_ f2_ f3_;subst f4_;subst f5_));refine hK.out _ _ ⟨(zz BK216.out 0).trans rfl,(zz BK216.out 1).trans rfl⟩ (fun hHeld=>?_);clear hK K;refine norm_ (a':=?_) ?_ ?_;rotate_left
    ·
     show Act.put _ (some 24) _=_
     simp only [Act.put,zi,zj,zk,zG,zH]
     rfl
    refine one_ (i:=3) (N:=some 25) (bm_ 4 9) rfl rfl (one_of HT_.out jA) jB (fun K hK=>?_);refine goes_ Try.func36 jA rfl #[.agg #[.slice Ao30 x217000_1.length co30,.int .i64 x217001_1],.agg #[.string t236,.int .i64 t237]] (by rfl) rfl rfl jF ?_
    with_reducible refine (F6.calls k1  (fun k_=>((w.heap.size≤k_)∧(k_≠gb211∧(k_≠gb216∧k_≠g)))) _ _ x217000_1 x217001_1 t236 t237 t240 t243 t244 t245 _ ?side1 A26.out).mono ?_
    (case side1=>exact HO_217000.out)
    rintro e w31 ⟨v241,rfl,ho0,hb⟩;refine ⟨_,rfl,?_⟩;replace HO_217000:=zh (Kd.V_below jAr hb);have HO242:=zh (Kd.V_lower (Kd.V_mono (ok':=fun k_=>(w.heap.size≤k_)∧k_≠gb211∧k_≠gb216∧k_≠g) ho0 (fun k_ hk_=>⟨Or.elim hk_ (fun hs_=>hs_.1) (fun hn_=>(Nat.le_trans (keep_size (w:=w) (g:=g) (row:=none) jZ) hn_)),Or.elim hk_ (fun hs_=>hs_.2.1) (fun hn_=>(Kd.freshB (g:=gb211) (o:=.cells #[.slice none 0 0,.int .i64 0] 25 (0,0)) jp k_ hn_)),Or.elim hk_ (fun hs_=>hs_.2.2.1) (fun hn_=>(Kd.freshB (g:=gb216) (o:=.cells #[.slice Ao30 x217000_1.length co30,.int .i64 x217001_1] 25 (0,0)) jAG k_ hn_)),Or.elim hk_ (fun hs_=>hs_.2.2.2) (fun hn_=>(IsS71.fresh jAR k_ hn_))⟩)) (keep_size (w:=w) (g:=g) (row:=none) jZ));replace BK211:=zh (cD BK211.out jp hb);replace BK216:=zh (cD BK216.out jAG hb);replace HK:=zh (KeepBut.trans jZ (KeepBut.of_below hb g none) (.inl rfl));replace HB:=zh (zC jAq hb);replace HI0:=zh (IsS71.below jAR hb);(try clear hb);(try clear hb2);(try clear hk);(try clear hi);(try clear ho0);obtain ⟨Ao32,co32,eo32⟩:=Kd.V_slice HO242.out;(first|subst eo32|(injection eo32 with f1_ f2_ f3_;have f4_:=f1_.symm;have f5_:=f3_.symm;clear f1_ f2_ f3_;subst f4_;subst f5_));refine hK.out _ _ ⟨(zz BK216.out 0).trans rfl,(zz BK216.out 1).trans rfl⟩ (fun hHeld=>?_);clear hK K;refine norm_ (a':=?_) ?_ ?_;rotate_left
    ·
     show Act.put _ (some 25) _=_
     simp only [Act.put,zi,zj,zk,zG,zH]
     rfl
    refine pure_ (i:=4) (N:=some 21) (v:=?_) (a':=?_) (bm_ 5 9) rfl rfl (any_of HT_.out jA) (fun _ _ _ h=>h) (Or.inl ⟨by rfl,?_⟩) ?_ ?_;rotate_left;exact jb;rotate_left;exact jc
    refine pure_ (i:=5) (N:=some 26) (v:=?_) (a':=?_) (bm_ 6 9) rfl rfl (any_of HT_.out jA) (fun _ _ _ h=>h) (Or.inl ⟨by rfl,?_⟩) ?_ ?_;rotate_left;exact jb;rotate_left;exact jc
    refine pure_ (i:=6) (N:=some 27) (v:=?_) (a':=?_) (bm_ 7 9) rfl rfl (any_of HT_.out jA) (fun _ _ _ h=>h) (Or.inl ⟨by rfl,?_⟩) ?_ ?_;rotate_left;exact jb;rotate_left;exact jc
    refine pure_ (i:=7) (N:=some 28) (v:=?_) (a':=?_) (bm_ 8 9) rfl rfl (any_of HT_.out jA) (fun _ _ _ h=>h) (Or.inl ⟨by rfl,?_⟩) ?_ ?_;rotate_left;exact jb;rotate_left;exact jc
    refine last_ (i:=8) (N:=none) (bm_ 9 9) rfl rfl (one_of HT_.out jA) jB (fun K hK=>?_);have hs33 : w31.cell? ⟨gb216,0,none⟩=some (.slice Ao30 x217000_1.length co30):=(zz BK216.out 0).trans rfl;have hfs33:=zA BK216.out 0;have hns33_0:=NB211_216.out;have hms33_0:=NB216_211.out;have hs34 : w31.cell? ⟨gb216,1,none⟩=some (.int .i64 x217001_1):=(zz BK216.out 1).trans rfl;have hfs34:=zA BK216.out 1;have hns34_0:=NB211_216.out;have hms34_0:=NB216_211.out;refine skip_ (w1:=?_) (by rfl) rfl ?_ ?_;rotate_left
    ·
     go_simp
     rfl
    refine hK.out _ _ ?_;clear hK K;refine done_ (done_of HT_.out jA) ?_
    try go_wp2
    go_roundg k1
    case measure=>have:=HK1.out;omega
    case rel=>exact ⟨(wrap64 (x4_1 - 1)),(t238),(t239),(t240),(t243),(.slice Ao32 t240.length co32),jE,H',⟨jR⟩,⟨by (with_reducible repeat (first|apply Kd.V_alloc|apply Kd.V_drewN|apply Kd.V_drew));exact Kd.V_mono (Kd.V_far (p:=⟨gb216,1,none⟩) (Kd.V_far (p:=⟨gb216,0,none⟩) (Kd.V_mono HO242.out (fun k_ hk=>(⟨hk,hk.2.2.1⟩ : _∧k_≠gb216))) (fun _ hk=>hk.2) (.slice Ao32 t240.length co32)) (fun _ hk=>hk.2) (.int .i64 t243)) (fun _ hk=>⟨hk.1.1,⟨hk.1.2.1,⟨hk.1.2.2.1,hk.1.2.2.2⟩⟩⟩)⟩,⟨jCV⟩,⟨by (with_reducible repeat first|apply ze|apply zf|apply zg);refine zL (cs:=#[.slice Ao32 t240.length co32,.int .i64 x217001_1]) ?_ 1 _ rfl;(with_reducible repeat first|apply ze|apply zf|apply zg);refine zL (cs:=#[.slice Ao30 x217000_1.length co30,.int .i64 x217001_1]) ?_ 0 _ rfl;(with_reducible repeat first|apply ze|apply zf|apply zg);exact BK216.out⟩,⟨jAR⟩,⟨jZ⟩,⟨jAq⟩⟩
   rw [if_neg c12] at H;have c12b0 : decide (0<x4_1)=false:=decide_eq_false c12;clear c12;replace H:=zT.mp H;obtain ⟨⟨t220,t223⟩,A350,H⟩:=H;have A35:=zh A350;clear A350;simp only [Option.some.injEq,Prod.mk.injEq] at H;obtain ⟨rfl,rfl,rfl,rfl⟩:=H;have hnb36:=NB216_211.out;have hnc36:=NB211_216.out;have hnb37:=NB216_0.out;have hnc37:=NB0_216.out;obtain ⟨hcz38_0,hcz38_1,hfz38_0,hfz38_1⟩:=cB2 BK216.out;obtain ⟨Ao39,co39,eo39⟩:=Kd.V_slice HO_217000.out;subst eo39
   go_wp2_with (first|((with_reducible refine zJ (f:=37) rfl ?_);refine yj (some 30) rfl rfl Try.func37 jA rfl #[.agg #[.slice Ao39 x217000_1.length co39,.int .i64 x217001_1]] rfl jF ?_;(with_reducible refine (Fd.calls k1  _ _ x217000_1 x217001_1 t220 t223 _ ?side1 ?side2 A35.out).mono ?_);(case side1=>repeat (first|exact (Kd.V_reads' HO_217000.out).2.2|(with_reducible refine Kd.C_alloc ?_ _)|(with_reducible refine Kd.C_drewN ?_ _)|(with_reducible refine Kd.C_drew ?_)));(case side2=>exact (Kd.V_reads' HO_217000.out).2.1);rintro e w40 ⟨v221,rfl,ho0,hb⟩;refine ⟨_,rfl,?_⟩;replace HO_217000:=zh (Kd.V_elder' jAr (Kd.N_base (Kd.S_N ho0)) hb);have HO222:=zh (Kd.N_lower (Kd.N_mono (ok':=fun k_=>(w.heap.size≤k_)∧k_≠gb211∧k_≠gb216∧k_≠g) (Kd.S_N (Kd.S_bound ho0)) (fun k_ hk_=>⟨(Nat.le_trans (keep_size (w:=w) (g:=g) (row:=none) jZ) hk_.2.1),(Kd.freshB (g:=gb211) (o:=.cells #[.slice none 0 0,.int .i64 0] 25 (0,0)) jp k_ hk_.2.1),(Kd.freshB (g:=gb216) (o:=.cells #[.slice Ao39 x217000_1.length co39,.int .i64 x217001_1] 25 (0,0)) jAG k_ hk_.2.1),(IsS71.fresh jAR k_ hk_.2.1)⟩)) (keep_size (w:=w) (g:=g) (row:=none) jZ));replace BK211:=zh (cD BK211.out jp hb);replace BK216:=zh (cD BK216.out jAG hb);replace HK:=zh (KeepBut.trans jZ (KeepBut.of_below hb g none) (.inl rfl));replace HB:=zh (zC jAq hb);replace HI0:=zh (IsS71.below jAR hb);(try clear hb);(try clear hb2);(try clear hk);(try clear hi);(try clear ho0);obtain ⟨Ao41,co41,eo41⟩:=Kd.N_slice HO222.out;subst eo41;have hnb42:=NB211_0.out;have hnc42:=NB0_211.out;obtain ⟨hcz43_0,hcz43_1,hfz43_0,hfz43_1⟩:=cB2 BK211.out))
   refine bodyPost_ret (results_cell_row rfl _ _ gb211 25 #[.slice Ao41 t220.length co41,.int .i64 t223] (0,0) _ rfl (by (with_reducible repeat first|apply ze|apply zf|apply zg);refine zL (cs:=#[.slice Ao41 t220.length co41,.int .i64 0]) ?_ 1 _ rfl;(with_reducible repeat first|apply ze|apply zf|apply zg);refine zL (cs:=#[.slice none 0 0,.int .i64 0]) ?_ 0 _ rfl;(with_reducible repeat first|apply ze|apply zf|apply zg);exact BK211.out) Try.underlying25 rfl jA) rfl ?_;exact ⟨_,jG,by (with_reducible repeat (first|apply Kd.N_alloc|apply Kd.N_drewN|apply Kd.N_drew));exact Kd.N_mono (Kd.N_far (p:=⟨gb211,1,none⟩) (Kd.N_far (p:=⟨gb211,0,none⟩) (Kd.N_mono HO222.out (fun k_ hk=>(⟨hk,hk.2.1⟩ : _∧k_≠gb211))) (fun _ hk=>hk.2) (.slice Ao41 t220.length co41)) (fun _ hk=>hk.2) (.int .i64 t223)) (fun _ hk=>hk.1.1),jAR,jAq,jZ⟩


def F09.f (k : Nat) (l0 : List Int) : Option ((List (S60))×Int):=(F0g.f l0).bind fun bt247=>((Fb.f k bt247.1 bt247.2.1 bt247.2.2).bind fun bt251=>(some (bt251.1,bt251.2.1)))
theorem F09.mono : ∀ a0 k,LeO (F09.f k a0) (F09.f (k+1) a0):=by
 intro a0 k;unfold F09.f
 repeat' first|(with_reducible first|exact Fb.mono _ _ _ _|exact zQ _|exact zN _|refine zP ?_ ?_|refine zO ?_ (fun _=>?_))|refine zP ?_ ?_|refine zO ?_ (fun _=>?_)
set_option maxHeartbeats 8000000 in
set_option maxRecDepth 100000 in
theorem F09.calls (k : Nat) (A0 : Option Addr) (c0 : Nat) (l0 : List Int) (r1 : List (S60)) (r2 : Int) (w : World) (hr0 : Kd.C (Kd.int .u8) w A0 l0.length l0) (hc0 : l0.length≤c0) (h : F09.f k l0=some (r1,r2)) :
  Calls Try.prog 5 #[.slice A0 l0.length c0] w fun e w' => ∃ v0_ : Value,e = .returned (.agg #[v0_,.int .i64 r2])∧Kd.N k60 60 w' w.heap.size (fun k_=>(w.heap.size≤k_)) v0_ r1∧Below w.heap.size w w':=by
 have hu25:=Try.underlying25;have HR0:=zh hr0;have HC0:=zh hc0;clear hr0 hc0;have HB:=zh (Below.refl w.heap.size w);have H : ((F0g.f l0).bind fun bt247=>((Fb.f k bt247.1 bt247.2.1 bt247.2.2).bind fun bt251=>(some (bt251.1,bt251.2.1))))=some (r1,r2):=h;clear h;replace H:=zT.mp H;obtain ⟨⟨t247,t248,t249⟩,A20,H⟩:=H;have A2:=zh A20;clear A20;replace H:=zT.mp H;obtain ⟨⟨t251,t254,t255,t256⟩,A30,H⟩:=H;have A3:=zh A30;clear A30;simp only [Option.some.injEq,Prod.mk.injEq] at H;obtain ⟨rfl,rfl⟩:=H
 go_enter Try.func5,Try.ntmps5
 go_wp2_with (first|((with_reducible refine zK (N:=2) rfl ?_);refine zI ?hg (N:=2) ?hd (cs:=#[.slice none 0 0,.int .i64 0]) (t:=25) ?hr ?_;(case hd=>rfl);(case hg=>rfl);(case hr=>go_simp <;> rfl);intro gb246 hg w4 hbox hb;have BK246:=zh (hbox);have hH_:=cH jH hb hg;have GW246:=zh hH_.1;have GE246:=GW246;replace HB:=zh hH_.2;clear hb hbox hg hH_)|((with_reducible refine zJ (f:=21) rfl ?_);refine yj (some 4) rfl rfl Try.func21 jA rfl #[.slice A0 l0.length c0] rfl jF ?_;(with_reducible refine (F0g.calls  _ _ l0 t247 t248 t249 w _ ?side1 ?side2 ?side3 A2.out).mono ?_);(case side1=>repeat (with_reducible first|exact HB.out|apply za|apply zb|apply zc|refine zd ?_ GE246.out));(case side2=>exact HR0.out);(case side3=>exact HC0.out);rintro e w5 ⟨g250,rfl,hi,hb,hb2⟩;refine ⟨_,rfl,?_⟩;replace HB:=zh (hb);have HI250:=zh (hi);have NB250_246:=zh (IsS71.ne_blk hi (cD BK246.out jBS hb2) jB);have NB246_250:=zh (Ne.symm (IsS71.ne_blk hi (cD BK246.out jBS hb2) jB));replace BK246:=zh (cD BK246.out jBS hb2);(try clear hb);(try clear hb2);(try clear hk);(try clear hi))|((with_reducible refine zJ (f:=22) rfl ?_);refine yj (some 5) rfl rfl Try.func22 jA rfl #[.pointer (some ⟨g250,0,none⟩)] rfl jF ?_;(with_reducible refine (Fb.calls k  g250 t247 t248 t249 t251 t254 t255 t256 w _ ?side1 ?side2 A3.out).mono ?_);(case side1=>repeat (with_reducible first|exact HI250.out|apply IsS71.alloc|apply IsS71.drewN|apply IsS71.drew|apply IsS71.set_1|apply IsS71.set_2|refine IsS71.far ?_ NB250_246.out _));(case side2=>repeat (with_reducible first|exact HB.out|apply za|apply zb|apply zc|refine zd ?_ (IsS71.ge HI250.out)|refine zd ?_ GE246.out));rintro e w6 ⟨v252,rfl,ho0,hi,hb,hk⟩;refine ⟨_,rfl,?_⟩;have HO253:=zh (Kd.N_lower (Kd.N_mono (ok':=fun k_=>(w.heap.size≤k_)∧k_≠gb246∧k_≠g250) ho0 (fun k_ hk_=>⟨(Nat.le_trans (zB jCW) hk_),(Kd.freshB (g:=gb246) (o:=.cells #[.slice none 0 0,.int .i64 0] 25 (0,0)) jBS k_ hk_),(IsS71.fresh (by repeat (with_reducible first|exact HI250.out|apply IsS71.alloc|apply IsS71.drewN|apply IsS71.drew|apply IsS71.set_1|apply IsS71.set_2|refine IsS71.far ?_ NB250_246.out _)) k_ hk_)⟩)) (zB jCW));replace BK246:=zh (KeepBut.blk hk (g':=gb246) (o:=.cells #[.slice none 0 0,.int .i64 0] 25 (0,0)) jBS NB246_250.out (by simp));replace HB:=zh (hb);replace HI250:=zh (hi);(try clear hb);(try clear hb2);(try clear hk);(try clear hi);(try clear ho0);obtain ⟨Ao7,co7,eo7⟩:=Kd.N_slice HO253.out;subst eo7;have hnb8:=NB246_250.out;have hnc8:=NB250_246.out;obtain ⟨hcz9_0,hcz9_1,hfz9_0,hfz9_1⟩:=cB2 BK246.out))
 refine bodyPost_ret (results_cell_row rfl _ _ gb246 25 #[.slice Ao7 t251.length co7,.int .i64 t254] (0,0) _ rfl (by (with_reducible repeat first|apply ze|apply zf|apply zg);refine zL (cs:=#[.slice Ao7 t251.length co7,.int .i64 0]) ?_ 1 _ rfl;(with_reducible repeat first|apply ze|apply zf|apply zg);refine zL (cs:=#[.slice none 0 0,.int .i64 0]) ?_ 0 _ rfl;(with_reducible repeat first|apply ze|apply zf|apply zg);exact BK246.out) Try.underlying25 rfl jA) rfl ?_;exact ⟨_,jG,by (with_reducible repeat (first|apply Kd.N_alloc|apply Kd.N_drewN|apply Kd.N_drew));exact Kd.N_mono (Kd.N_far (p:=⟨gb246,1,none⟩) (Kd.N_far (p:=⟨gb246,0,none⟩) (Kd.N_mono HO253.out (fun k_ hk=>(⟨hk,hk.2.1⟩ : _∧k_≠gb246))) (fun _ hk=>hk.2) (.slice Ao7 t251.length co7)) (fun _ hk=>hk.2) (.int .i64 t254)) (fun _ hk=>hk.1.1),jCW⟩


def F0k.f (l0 : List Int) : Option (ByteArray×Int):=(F0g.f l0).bind fun bt258=>((F0a.f bt258.1 bt258.2.1 bt258.2.2).bind fun bt262=>(some (bt262.1,bt262.2.1)))
set_option maxHeartbeats 8000000 in
set_option maxRecDepth 100000 in
theorem F0k.calls (A0 : Option Addr) (c0 : Nat) (l0 : List Int) (r1 : ByteArray) (r2 : Int) (w : World) (hr0 : Kd.C (Kd.int .u8) w A0 l0.length l0) (hc0 : l0.length≤c0) (h : F0k.f l0=some (r1,r2)) :
  Calls Try.prog 6 #[.slice A0 l0.length c0] w fun e w' => e = .returned (.agg #[.string r1,.int .i64 r2])∧Below w.heap.size w w':=by
 have hu28:=Try.underlying28;have HR0:=zh hr0;have HC0:=zh hc0;clear hr0 hc0;have HB:=zh (Below.refl w.heap.size w);have H : ((F0g.f l0).bind fun bt258=>((F0a.f bt258.1 bt258.2.1 bt258.2.2).bind fun bt262=>(some (bt262.1,bt262.2.1))))=some (r1,r2):=h;clear h;replace H:=zT.mp H;obtain ⟨⟨t258,t259,t260⟩,A20,H⟩:=H;have A2:=zh A20;clear A20;replace H:=zT.mp H;obtain ⟨⟨t262,t263,t264,t265⟩,A30,H⟩:=H;have A3:=zh A30;clear A30;simp only [Option.some.injEq,Prod.mk.injEq] at H;obtain ⟨rfl,rfl⟩:=H
 go_enter Try.func6,Try.ntmps6
 go_wp2_with (first|((with_reducible refine zK (N:=2) rfl ?_);refine zI ?hg (N:=2) ?hd (cs:=#[.string (⟨#[]⟩ : ByteArray),.int .i64 0]) (t:=28) ?hr ?_;(case hd=>rfl);(case hg=>rfl);(case hr=>go_simp <;> rfl);intro gb257 hg w4 hbox hb;have BK257:=zh (hbox);have hH_:=cH jH hb hg;have GW257:=zh hH_.1;have GE257:=GW257;replace HB:=zh hH_.2;clear hb hbox hg hH_)|((with_reducible refine zJ (f:=21) rfl ?_);refine yj (some 4) rfl rfl Try.func21 jA rfl #[.slice A0 l0.length c0] rfl jF ?_;(with_reducible refine (F0g.calls  _ _ l0 t258 t259 t260 w _ ?side1 ?side2 ?side3 A2.out).mono ?_);(case side1=>repeat (with_reducible first|exact HB.out|apply za|apply zb|apply zc|refine zd ?_ GE257.out));(case side2=>exact HR0.out);(case side3=>exact HC0.out);rintro e w5 ⟨g261,rfl,hi,hb,hb2⟩;refine ⟨_,rfl,?_⟩;replace HB:=zh (hb);have HI261:=zh (hi);have NB261_257:=zh (IsS71.ne_blk hi (cD BK257.out jBz hb2) jB);have NB257_261:=zh (Ne.symm (IsS71.ne_blk hi (cD BK257.out jBz hb2) jB));replace BK257:=zh (cD BK257.out jBz hb2);(try clear hb);(try clear hb2);(try clear hk);(try clear hi))|((with_reducible refine zJ (f:=23) rfl ?_);refine yj (some 5) rfl rfl Try.func23 jA rfl #[.pointer (some ⟨g261,0,none⟩)] rfl jF ?_;(with_reducible refine (F0a.calls  g261 t258 t259 t260 t262 t263 t264 t265 w _ ?side1 ?side2 A3.out).mono ?_);(case side1=>repeat (with_reducible first|exact HI261.out|apply IsS71.alloc|apply IsS71.drewN|apply IsS71.drew|apply IsS71.set_1|apply IsS71.set_2|refine IsS71.far ?_ NB261_257.out _));(case side2=>repeat (with_reducible first|exact HB.out|apply za|apply zb|apply zc|refine zd ?_ (IsS71.ge HI261.out)|refine zd ?_ GE257.out));rintro e w6 ⟨rfl,hi,hb,hk⟩;refine ⟨_,rfl,?_⟩;replace BK257:=zh (KeepBut.blk hk (g':=gb257) (o:=.cells #[.string (⟨#[]⟩ : ByteArray),.int .i64 0] 28 (0,0)) jBz NB257_261.out (by simp));replace HB:=zh (hb);replace HI261:=zh (hi);(try clear hb);(try clear hb2);(try clear hk);(try clear hi);have hnb7:=NB257_261.out;have hnc7:=NB261_257.out;obtain ⟨hcz8_0,hcz8_1,hfz8_0,hfz8_1⟩:=cB2 BK257.out))
 refine bodyPost_ret (results_cell_row rfl _ _ gb257 28 #[.string t262,.int .i64 t263] (0,0) _ rfl (by (with_reducible repeat first|apply ze|apply zf|apply zg);refine zL (cs:=#[.string t262,.int .i64 0]) ?_ 1 _ rfl;(with_reducible repeat first|apply ze|apply zf|apply zg);refine zL (cs:=#[.string (⟨#[]⟩ : ByteArray),.int .i64 0]) ?_ 0 _ rfl;(with_reducible repeat first|apply ze|apply zf|apply zg);exact BK257.out) Try.underlying28 rfl jA) rfl ?_;exact ⟨jG,by repeat (with_reducible first|exact HB.out|apply za|apply zb|apply zc|refine zd ?_ (IsS71.ge HI261.out)|refine zd ?_ GE257.out)⟩


def F0c.f (a0_0 : ByteArray) (a0_1 : ByteArray) (a0_2 : Bool) (a1 : ByteArray) : Option (Bool):=if ((Op.bytesLess a1.toList a0_0.toList)=true) then (some false) else (if a0_2=true then (some true) else (some (Op.bytesLess a1.toList a0_1.toList)))
set_option maxHeartbeats 8000000 in
set_option maxRecDepth 100000 in
theorem F0c.calls (a0_0 : ByteArray) (a0_1 : ByteArray) (a0_2 : Bool) (a1 : ByteArray) (r : Bool) (w : World) (h : F0c.f a0_0 a0_1 a0_2 a1=some r) :
  Calls Try.prog 27 #[.agg #[.string a0_0,.string a0_1,.bool a0_2],.string a1] w fun e w' => e = .returned (.bool r)∧Below w.heap.size w w':=by
 have hu32:=Try.underlying32;have HB:=zh (Below.refl w.heap.size w);have H : (if ((Op.bytesLess a1.toList a0_0.toList)=true) then (some false) else (if a0_2=true then (some true) else (some (Op.bytesLess a1.toList a0_1.toList))))=some r:=h;clear h
 by_cases c3 : ((Op.bytesLess a1.toList a0_0.toList)=true)
 ·
  rw [if_pos c3] at H
  have c3b0 : (Op.bytesLess a1.toList a0_0.toList)=true:=c3;clear c3;obtain rfl:=zU H
  go_enter Try.func27,Try.ntmps27
  go_wp2_with (first|((with_reducible refine zK (N:=2) rfl ?_);refine zI ?hg (N:=2) ?hd (cs:=#[.string a0_0,.string a0_1,.bool a0_2]) (t:=32) ?hr ?_;(case hd=>rfl);(case hg=>rfl);(case hr=>go_simp <;> rfl);intro gb316 hg w4 hbox hb;have BK316:=zh (hbox);have hH_:=cH jH hb hg;have GW316:=zh hH_.1;have GE316:=GW316;replace HB:=zh hH_.2;clear hb hbox hg hH_;obtain ⟨hcz5_0,hcz5_1,hcz5_2,hfz5_0,hfz5_1,hfz5_2⟩:=cB3 BK316.out))
  go_ret
  exact ⟨jG,jCX⟩
 rw [if_neg c3] at H;have c3b0 : (Op.bytesLess a1.toList a0_0.toList)=false:=by simpa using c3
 clear c3
 by_cases c6 : a0_2=true
 ·
  subst c6
  rw [if_pos rfl] at H;obtain rfl:=zU H
  go_enter Try.func27,Try.ntmps27
  go_wp2_with (first|((with_reducible refine zK (N:=2) rfl ?_);refine zI ?hg (N:=2) ?hd (cs:=#[.string a0_0,.string a0_1,.bool true]) (t:=32) ?hr ?_;(case hd=>rfl);(case hg=>rfl);(case hr=>go_simp <;> rfl);intro gb316 hg w7 hbox hb;have BK316:=zh (hbox);have hH_:=cH jH hb hg;have GW316:=zh hH_.1;have GE316:=GW316;replace HB:=zh hH_.2;clear hb hbox hg hH_;obtain ⟨hcz8_0,hcz8_1,hcz8_2,hfz8_0,hfz8_1,hfz8_2⟩:=cB3 BK316.out))
  go_ret
  exact ⟨jG,jCX⟩
 replace c6:=yb.mpr c6;subst c6;rw [if_neg (show ¬ (false=true) by decide)] at H;obtain rfl:=zU H
 go_enter Try.func27,Try.ntmps27
 go_wp2_with (first|((with_reducible refine zK (N:=2) rfl ?_);refine zI ?hg (N:=2) ?hd (cs:=#[.string a0_0,.string a0_1,.bool false]) (t:=32) ?hr ?_;(case hd=>rfl);(case hg=>rfl);(case hr=>go_simp <;> rfl);intro gb316 hg w9 hbox hb;have BK316:=zh (hbox);have hH_:=cH jH hb hg;have GW316:=zh hH_.1;have GE316:=GW316;replace HB:=zh hH_.2;clear hb hbox hg hH_;obtain ⟨hcz10_0,hcz10_1,hcz10_2,hfz10_0,hfz10_1,hfz10_2⟩:=cB3 BK316.out))
 go_ret
 exact ⟨jG,jCX⟩


def F0j.f (a0_0 : ByteArray) (a0_1 : Int) (a1_0 : ByteArray) (a1_1 : ByteArray) (a1_2 : Bool) : Option (Bool):=(F0c.f a1_0 a1_1 a1_2 a0_0).bind fun t318=>(some (!t318))
set_option maxHeartbeats 8000000 in
set_option maxRecDepth 100000 in
theorem F0j.calls (a0_0 : ByteArray) (a0_1 : Int) (g1_0_ : Nat) (a1_0 : ByteArray) (a1_1 : ByteArray) (a1_2 : Bool) (r : Bool) (w : World) (hb1_0_ : w.heap[g1_0_]? = some (.cells #[.string a1_0,.string a1_1,.bool a1_2] 32 (0,0))) (h : F0j.f a0_0 a0_1 a1_0 a1_1 a1_2=some r) :
  Calls Try.prog 26 #[.agg #[.string a0_0,.int .i64 a0_1],.pointer (some ⟨g1_0_,0,none⟩)] w fun e w' => e = .returned (.bool r)∧Below w.heap.size w w':=by
 have hu28:=Try.underlying28;have hu32:=Try.underlying32;have BK910:=zh hb1_0_;clear hb1_0_;have HB:=zh (Below.refl w.heap.size w);have H : ((F0c.f a1_0 a1_1 a1_2 a0_0).bind fun t318=>(some (!t318)))=some r:=h;clear h;replace H:=zT.mp H;obtain ⟨t318,A30,H⟩:=H;have A3:=zh A30;clear A30;obtain rfl:=zU H
 go_enter Try.func26,Try.ntmps26
 go_wp2_with (first|((with_reducible refine zK (N:=2) rfl ?_);refine zI ?hg (N:=2) ?hd (cs:=#[.string a0_0,.int .i64 a0_1]) (t:=28) ?hr ?_;(case hd=>rfl);(case hg=>rfl);(case hr=>go_simp <;> rfl);intro gb317 hg w4 hbox hb;have BK317:=zh (hbox);have hH_:=cH jAs hb hg;have GW317:=zh hH_.1;have GE317:=GW317;replace HB:=zh hH_.2;have NB910_317:=zh ((by rw [hg];exact yc (yi (g:=g1_0_) (o:=.cells #[.string a1_0,.string a1_1,.bool a1_2] 32 (0,0)) jAk) : g1_0_≠gb317));have NB317_910:=zh ((by rw [hg];exact yd (yi (g:=g1_0_) (o:=.cells #[.string a1_0,.string a1_1,.bool a1_2] 32 (0,0)) jAk) : gb317≠g1_0_));replace BK910:=zh (zD (g:=g1_0_) (o:=.cells #[.string a1_0,.string a1_1,.bool a1_2] 32 (0,0)) jAk hb);clear hb hbox hg hH_;have hnb5:=NB910_317.out;have hnc5:=NB317_910.out;have hcz6_0 : w4.cell? ⟨g1_0_,0,none⟩=some (.string a1_0):=(zz BK910.out 0).trans rfl;have hcz6_1 : w4.cell? ⟨g1_0_,1,none⟩=some (.string a1_1):=(zz BK910.out 1).trans rfl;have hcz6_2 : w4.cell? ⟨g1_0_,2,none⟩=some (.bool a1_2):=(zz BK910.out 2).trans rfl;have hfz6_0:=zA BK910.out 0;have hfz6_1:=zA BK910.out 1;have hfz6_2:=zA BK910.out 2;obtain ⟨hcz7_0,hcz7_1,hfz7_0,hfz7_1⟩:=cB2 BK317.out)|((with_reducible refine zJ (f:=27) rfl ?_);refine yj (some 7) rfl rfl Try.func27 jA rfl #[.agg #[.string a1_0,.string a1_1,.bool a1_2],.string a0_0] rfl jF ?_;(with_reducible refine (F0c.calls  a1_0 a1_1 a1_2 a0_0 t318 _ A3.out).mono ?_);rintro e w8 ⟨rfl,hb⟩;refine ⟨_,rfl,?_⟩;replace BK910:=zh (zD (g:=g1_0_) (o:=.cells #[.string a1_0,.string a1_1,.bool a1_2] 32 (0,0)) jAk hb);replace BK317:=zh (cD BK317.out (by (with_reducible repeat first|apply ze|apply zf|apply zg);exact BK317.out) hb);replace HB:=zh (zC jDV hb);(try clear hb);(try clear hb2);(try clear hk);(try clear hi)))
 go_ret
 exact ⟨jG,jDV⟩


def Fw.l0 : Nat→List (S28)→Int→Int→ByteArray→ByteArray→Bool→Option (Int)
 | 0,_,_,_,_,_,_=>none
 | k+1,x0,x7,x8,x911000,x911001,x911002=>if x8<x7 then (if 0≤x8 then (if x8<(x0.length : Int) then ((F0j.f ((rd_T28 x0 x8).f0) ((rd_T28 x0 x8).f1) x911000 x911001 x911002).bind fun t326=>(if t326=true then (some x8) else (Fw.l0 k x0 x7 (wrap64 (x8+1)) x911000 x911001 x911002))) else (none)) else (none)) else (some (-1))
def Fw.f (k : Nat) (l0 : List (S28)) (a1_0 : ByteArray) (a1_1 : ByteArray) (a1_2 : Bool) : Option (Int):=Fw.l0 k l0 (l0.length : Int) 0 a1_0 a1_1 a1_2
theorem Fw.mono_l : ∀ k,(∀ y0 y1 y2 y3 y4 y5,LeO (Fw.l0 k y0 y1 y2 y3 y4 y5) (Fw.l0 (k+1) y0 y1 y2 y3 y4 y5))
 | 0=>fun _ _ _ _ _ _ r h=>by simp [Fw.l0] at h
 | k+1=>by
  have ih0:=Fw.mono_l k;intro y0 y1 y2 y3 y4 y5;unfold Fw.l0
  repeat' first|(with_reducible first|exact ih0 _ _ _ _ _ _|exact zQ _|exact zN _|refine zP ?_ ?_|refine zO ?_ (fun _=>?_))|refine zP ?_ ?_|refine zO ?_ (fun _=>?_)
theorem Fw.mono : ∀ a0 a1 a2 a3 k,LeO (Fw.f k a0 a1 a2 a3) (Fw.f (k+1) a0 a1 a2 a3):=by
 intro a0 a1 a2 a3 k;have ih0:=Fw.mono_l k;unfold Fw.f
 repeat' first|(with_reducible first|exact ih0 _ _ _ _ _ _|exact zQ _|exact zN _|refine zP ?_ ?_|refine zO ?_ (fun _=>?_))|refine zP ?_ ?_|refine zO ?_ (fun _=>?_)
set_option maxHeartbeats 8000000 in
set_option maxRecDepth 100000 in
theorem Fw.calls (k : Nat) (A0 : Option Addr) (c0 : Nat) (l0 : List (S28)) (g1_0_ : Nat) (a1_0 : ByteArray) (a1_1 : ByteArray) (a1_2 : Bool) (r : Int) (w : World) (hr0 : Kd.C k28 w A0 l0.length l0) (hc0 : l0.length≤c0) (hb1_0_ : w.heap[g1_0_]? = some (.cells #[.string a1_0,.string a1_1,.bool a1_2] 32 (0,0))) (h : Fw.f k l0 a1_0 a1_1 a1_2=some r) :
  Calls Try.prog 48 #[.slice A0 l0.length c0,.func (.func 26) #[] #[.pointer (some ⟨g1_0_,0,none⟩)]] w fun e w' => e = .returned (.int .i64 r)∧Below w.heap.size w w':=by
 have hu28:=Try.underlying28;have HR0:=zh hr0;have HC0:=zh hc0;clear hr0 hc0;have BK910:=zh hb1_0_;clear hb1_0_;have HB:=zh (Below.refl w.heap.size w);have H : (Fw.l0 k l0 (l0.length : Int) 0 a1_0 a1_1 a1_2)=some r:=h;clear h;have H':=zh H;clear H
 go_enter Try.func48,Try.ntmps48
 go_wp2
 go_loopg [8] k (fun kq v8 w' => ∃ (x8_1 : Int),v8 = .int .i64 x8_1∧Aside0 (Fw.l0 kq l0 (l0.length : Int) x8_1 a1_0 a1_1 a1_2=some r)∧Aside0 (kq≤k)∧Aside0 (w'.heap[g1_0_]? = some (.cells #[.string a1_0,.string a1_1,.bool a1_2] 32 (0,0)))∧Aside0 (Below w.heap.size w w'))
 case atStart=>exact ⟨(0),jE,H',⟨ye _⟩,⟨jAk⟩,⟨jAs⟩⟩
 case round =>
  clear H'
  try clear p2
  obtain ⟨x8_1,rfl,HA,HK1,BK910,HB⟩:=hrel
  cases gk with
  | zero=>exact absurd HA.out (by simp [Fw.l0])
  | succ k1 =>
   have H:=HA.out;clear HA;simp only [Fw.l0] at H
   by_cases c3 : x8_1<(l0.length : Int)
   ·
    rw [if_pos c3] at H
    have c3b0 : decide (x8_1<(l0.length : Int))=true:=decide_eq_true c3;clear c3
    by_cases c4 : 0≤x8_1
    ·
     rw [if_pos c4] at H
     have c4b0 : decide (0≤x8_1)=true:=decide_eq_true c4;clear c4
     by_cases c5 : x8_1<(l0.length : Int)
     ·
      rw [if_pos c5] at H
      have c5b0 : decide (x8_1<(l0.length : Int))=true:=decide_eq_true c5;clear c5;replace H:=zT.mp H;obtain ⟨t326,A60,H⟩:=H;have A6:=zh A60;clear A60
      by_cases c7 : t326=true
      ·
       subst c7
       rw [if_pos rfl] at H;obtain rfl:=zU H;have p325 : 0≤(x8_1 : Int):=zy jC;have q325 : x8_1<(l0.length : Int):=zy jC;obtain ⟨ad325,e325,hx325_0,hx325_1⟩:=at_T28 HR0.out x8_1 p325 q325
       cases e325
       replace hx325_0:=(HB.out.cell (zl w _ hx325_0)).trans hx325_0;replace hx325_1:=(HB.out.cell (zl w _ hx325_1)).trans hx325_1;replace p325:=eq_true p325;replace q325:=eq_true q325
       go_wp2_with (first|(go_at_call 26;(with_reducible refine (F0j.calls  ((rd_T28 l0 x8_1).f0) ((rd_T28 l0 x8_1).f1) g1_0_ a1_0 a1_1 a1_2 true _ ?side1 A6.out).mono ?_);(case side1=>(with_reducible repeat first|apply ze|apply zf|apply zg);exact BK910.out);rintro e w8 ⟨rfl,hb⟩;replace BK910:=zh (zD (g:=g1_0_) (o:=.cells #[.string a1_0,.string a1_1,.bool a1_2] 32 (0,0)) jAk hb);replace HB:=zh (zC jAs hb);(try clear hb);(try clear hb2);(try clear hk);(try clear hi)))
       go_ret
       exact ⟨jG,jAs⟩
      replace c7:=yb.mpr c7;subst c7;rw [if_neg (show ¬ (false=true) by decide)] at H;have H':=zh H;clear H;have p325 : 0≤(x8_1 : Int):=zy jC;have q325 : x8_1<(l0.length : Int):=zy jC;obtain ⟨ad325,e325,hx325_0,hx325_1⟩:=at_T28 HR0.out x8_1 p325 q325
      cases e325
      replace hx325_0:=(HB.out.cell (zl w _ hx325_0)).trans hx325_0;replace hx325_1:=(HB.out.cell (zl w _ hx325_1)).trans hx325_1;replace p325:=eq_true p325;replace q325:=eq_true q325
      go_wp2_with (first|(go_at_call 26;(with_reducible refine (F0j.calls  ((rd_T28 l0 x8_1).f0) ((rd_T28 l0 x8_1).f1) g1_0_ a1_0 a1_1 a1_2 false _ ?side1 A6.out).mono ?_);(case side1=>(with_reducible repeat first|apply ze|apply zf|apply zg);exact BK910.out);rintro e w9 ⟨rfl,hb⟩;replace BK910:=zh (zD (g:=g1_0_) (o:=.cells #[.string a1_0,.string a1_1,.bool a1_2] 32 (0,0)) jAk hb);replace HB:=zh (zC jAs hb);(try clear hb);(try clear hb2);(try clear hk);(try clear hi)))
      go_roundg k1
      case measure=>have:=HK1.out;omega
      case rel=>exact ⟨(wrap64 (x8_1+1)),jE,H',⟨jR⟩,⟨jAk⟩,⟨jAs⟩⟩
     rw [if_neg c5] at H;exact absurd H (by simp)
    rw [if_neg c4] at H;exact absurd H (by simp)
   rw [if_neg c3] at H;have c3b0 : decide (x8_1<(l0.length : Int))=false:=decide_eq_false c3;clear c3;obtain rfl:=zU H
   go_wp2
   go_ret
   exact ⟨jG,jAs⟩

end Go.Proofs.Ytgifonogfgpjdaa.Q
end

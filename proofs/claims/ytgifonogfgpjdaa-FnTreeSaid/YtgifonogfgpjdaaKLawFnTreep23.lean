/- Texts of this claim, merged by a program of this session. -/
import Derived.Test.YtgifonogfgpjdaaKLawFnTreep22
section
namespace Go.Proofs.Ytgifonogfgpjdaa.Q
open Go.RowKit Go.Proofs.YtgifonogfgpjdaaW.PrintWords Go.Proofs.YtgifonogfgpjdaaW.PrintLast Go.Proofs.YtgifonogfgpjdaaW.PrintMore
attribute [local go_sem] max2_int min2_int max_two min_two max_three min_three max_four min_four max2_str min2_str str_geq str_gtr str_leq
set_option linter.unusedVariables false
set_option linter.unusedSimpArgs false

def Fc.l0 : Nat→Int→List (S60)→Int→Int→ByteArray→Int→Option (Int)
 | 0,_,_,_,_,_,_=>none
 | k+1,x5,x9,x10,x11,x321000,x321001=>if x11<x10 then (if 0≤x11 then (if x11<(x9.length : Int) then (if (((rd_T60 x9 x11).f1).length : Int) > 0 then (if 0<(((rd_T60 x9 x11).f1).length : Int) then ((Fm.f k ((rd_T28 ((rd_T60 x9 x11).f1) 0).f0) ((rd_T28 ((rd_T60 x9 x11).f1) 0).f1) x321000 x321001).bind fun t324=>(if t324≤0 then (Fc.l0 k x11 x9 x10 (wrap64 (x11+1)) x321000 x321001) else (Fc.l0 k x5 x9 x10 (wrap64 (x11+1)) x321000 x321001))) else (none)) else (Fc.l0 k x5 x9 x10 (wrap64 (x11+1)) x321000 x321001)) else (none)) else (none)) else (some x5)
def Fc.f (k : Nat) (l0_0 : List (S60)) (a0_1 : Int) (a1_0 : ByteArray) (a1_1 : Int) : Option (Int):=Fc.l0 k 0 l0_0 (l0_0.length : Int) 0 a1_0 a1_1
theorem Fc.mono_l : ∀ k,(∀ y0 y1 y2 y3 y4 y5,LeO (Fc.l0 k y0 y1 y2 y3 y4 y5) (Fc.l0 (k+1) y0 y1 y2 y3 y4 y5))
 | 0=>fun _ _ _ _ _ _ r h=>by simp [Fc.l0] at h
 | k+1=>by
  have ih0:=Fc.mono_l k;intro y0 y1 y2 y3 y4 y5;unfold Fc.l0
  repeat' first|(with_reducible first|exact ih0 _ _ _ _ _ _|exact Fm.mono _ _ _ _ _|exact zQ _|exact zN _|refine zP ?_ ?_|refine zO ?_ (fun _=>?_))|refine zP ?_ ?_|refine zO ?_ (fun _=>?_)
theorem Fc.mono : ∀ a0 a1 a2 a3 k,LeO (Fc.f k a0 a1 a2 a3) (Fc.f (k+1) a0 a1 a2 a3):=by
 intro a0 a1 a2 a3 k;have ih0:=Fc.mono_l k;unfold Fc.f
 repeat' first|(with_reducible first|exact ih0 _ _ _ _ _ _|exact Fm.mono _ _ _ _ _|exact zQ _|exact zN _|refine zP ?_ ?_|refine zO ?_ (fun _=>?_))|refine zP ?_ ?_|refine zO ?_ (fun _=>?_)
def Fc.T5 : Bool×List (List Nat×List Nat):=(true,[([],[]),([0],[0]),([1],[1]),([2],[2]),([3],[3]),([4],[4]),([5,4],[4,5]),([6,4],[4,6]),([7,4],[4,7]),([4],[4]),([8,9,4,4],[4,8,9]),([10,4],[4,10]),([4,11],[4,11])])
def Fc.B5 : List Nat:=[0,1,3,7,15,31,63,127,255,31,1023,2047,4095]
theorem Fc.tab5 : rtab .any (opsOf Try.f28 5)=Fc.T5:=by kernel_rfl
theorem Fc.bits5 : waitsOk Fc.T5.2 Fc.B5=true:=by kernel_rfl
set_option maxHeartbeats 8000000 in
set_option maxRecDepth 100000 in
theorem Fc.calls (k : Nat) (A0_0 : Option Addr) (c0_0 : Nat) (l0_0 : List (S60)) (a0_1 : Int) (a1_0 : ByteArray) (a1_1 : Int) (r : Int) (w : World) (hr0_0 : Kd.C k60 w A0_0 l0_0.length l0_0) (hc0_0 : l0_0.length≤c0_0) (h : Fc.f k l0_0 a0_1 a1_0 a1_1=some r) :
  Calls Try.prog 28 #[.agg #[.slice A0_0 l0_0.length c0_0,.int .i64 a0_1],.agg #[.string a1_0,.int .i64 a1_1]] w fun e w' => e = .returned (.int .i64 r)∧Below w.heap.size w w':=by
 have hu25:=Try.underlying25;have hu28:=Try.underlying28;have hu60:=Try.underlying60;have HR0_0:=zh hr0_0;have HC0_0:=zh hc0_0;clear hr0_0 hc0_0;have HB:=zh (Below.refl w.heap.size w);have H : (Fc.l0 k 0 l0_0 (l0_0.length : Int) 0 a1_0 a1_1)=some r:=h;clear h;have H':=zh H;clear H
 go_enter Try.func28,Try.ntmps28
 go_wp2_with (first|((with_reducible refine zK (N:=2) rfl ?_);refine zI ?hg (N:=2) ?hd (cs:=#[.slice A0_0 l0_0.length c0_0,.int .i64 a0_1]) (t:=25) ?hr ?_;(case hd=>rfl);(case hg=>rfl);(case hr=>go_simp <;> rfl);intro gb319 hg w3 hbox hb;have BK319:=zh (hbox);have hH_:=cH jH hb hg;have GW319:=zh hH_.1;have GE319:=GW319;replace HB:=zh hH_.2;clear hb hbox hg hH_)|((with_reducible refine zK (N:=3) rfl ?_);refine zI ?hg (N:=3) ?hd (cs:=#[.string a1_0,.int .i64 a1_1]) (t:=28) ?hr ?_;(case hd=>rfl);(case hg=>rfl);(case hr=>go_simp <;> rfl);intro gb320 hg w4 hbox hb;have BK320:=zh (hbox);have hH_:=cH (by repeat (with_reducible first|exact HB.out|apply za|apply zb|apply zc|refine zd ?_ GE319.out)) hb hg;have GW320:=zh hH_.1;have GE320:=GW320;replace HB:=zh hH_.2;have NB319_320:=zh ((by rw [hg];exact yc (yi (g:=gb319) (o:=.cells #[.slice A0_0 l0_0.length c0_0,.int .i64 a0_1] 25 (0,0)) jw) : gb319≠gb320));have NB320_319:=zh NB319_320.out.symm;replace BK319:=zh (cD BK319.out jw hb);clear hb hbox hg hH_;have hnb5:=NB319_320.out;have hnc5:=NB320_319.out;obtain ⟨hcz6_0,hcz6_1,hfz6_0,hfz6_1⟩:=cB2 BK319.out))
 go_loopg [5,11] k (fun kq v5 v11 w' => ∃ (x5_1 : Int) (x11_1 : Int),v5 = .int .i64 x5_1∧v11 = .int .i64 x11_1∧Aside0 (Fc.l0 kq x5_1 l0_0 (l0_0.length : Int) x11_1 a1_0 a1_1=some r)∧Aside0 (kq≤k)∧Aside0 (w'.heap[gb319]? = some (.cells #[(.slice A0_0 l0_0.length c0_0),.int .i64 a0_1] 25 (0,0)))∧Aside0 (w'.heap[gb320]? = some (.cells #[.string a1_0,.int .i64 a1_1] 28 (0,0)))∧Aside0 (Below w.heap.size w w'))
 case atStart=>exact ⟨(0),(0),jE,jE,H',⟨ye _⟩,⟨jw⟩,⟨jAL⟩,⟨jBN⟩⟩
 case round =>
  clear H'
  try clear c2
  try clear p2
  try clear c5
  try clear hcz6_0 hcz6_1 hfz6_0 hfz6_1
  obtain ⟨x5_1,x11_1,rfl,rfl,HA,HK1,BK319,BK320,HB⟩:=hrel
  cases gk with
  | zero=>exact absurd HA.out (by simp [Fc.l0])
  | succ k1 =>
   have H:=HA.out;clear HA;simp only [Fc.l0] at H
   by_cases c7 : x11_1<(l0_0.length : Int)
   ·
    rw [if_pos c7] at H
    have c7b0 : decide (x11_1<(l0_0.length : Int))=true:=decide_eq_true c7;clear c7
    by_cases c8 : 0≤x11_1
    ·
     rw [if_pos c8] at H
     have c8b0 : decide (0≤x11_1)=true:=decide_eq_true c8;clear c8
     by_cases c9 : x11_1<(l0_0.length : Int)
     ·
      rw [if_pos c9] at H
      have c9b0 : decide (x11_1<(l0_0.length : Int))=true:=decide_eq_true c9;clear c9
      by_cases c10 : (((rd_T60 l0_0 x11_1).f1).length : Int) > 0
      ·
       rw [if_pos c10] at H
       have c10b0 : decide (0<(((rd_T60 l0_0 x11_1).f1).length : Int))=true:=decide_eq_true c10;have c10b1 : decide (0<((rd_T60 l0_0 x11_1).f1).length)=true:=decide_eq_true jD;clear c10
       by_cases c11 : 0<(((rd_T60 l0_0 x11_1).f1).length : Int)
       ·
        rw [if_pos c11] at H
        have c11b0 : decide (0<(((rd_T60 l0_0 x11_1).f1).length : Int))=true:=decide_eq_true c11;have c11b1 : decide (0<((rd_T60 l0_0 x11_1).f1).length)=true:=decide_eq_true jD;clear c11;replace H:=zT.mp H;obtain ⟨t324,A120,H⟩:=H;have A12:=zh A120;clear A120
        by_cases c13 : t324≤0
        ·
         rw [if_pos c13] at H
         have c13b0 : decide (t324≤0)=true:=decide_eq_true c13;clear c13;have H':=zh H;clear H;have p321 : 0≤(x11_1 : Int):=zy jC;have q321 : x11_1<(l0_0.length : Int):=zy jC;obtain ⟨ad321,A321_1,c321_1,e321,hx321_0,hx321_1,hl321_1,hi321_1⟩:=at_T60 HR0_0.out x11_1 p321 q321
         cases e321
         replace hx321_0:=(HB.out.cell (zl w _ hx321_0)).trans hx321_0;replace hx321_1:=(HB.out.cell (zl w _ hx321_1)).trans hx321_1;have HR321_1:=zh hi321_1;have HC321_1:=zh hl321_1;clear hi321_1 hl321_1;replace p321:=eq_true p321;replace q321:=eq_true q321
         try go_wp2_with (first|((with_reducible refine zK (N:=7) rfl ?_);refine zI ?hg (N:=7) ?hd (cs:=#[.int .i64 0,.slice none 0 0]) (t:=60) ?hr ?_;(case hd=>rfl);(case hg=>rfl);(case hr=>go_simp <;> rfl);intro gb322 hg w14 hbox hb;have BK322:=zh (hbox);have hH_:=cH jBN hb hg;have GW322:=zh hH_.1;have GE322:=GW322;replace HB:=zh hH_.2;have NB319_322:=zh ((jB9 : gb319≠gb322));have NB322_319:=zh NB319_322.out.symm;replace BK319:=zh (cD BK319.out jw hb);have NB320_322:=zh ((jCA : gb320≠gb322));have NB322_320:=zh NB320_322.out.symm;replace BK320:=zh (cD BK320.out jAL hb);clear hb hbox hg hH_;have hnb15:=NB322_319.out;have hnc15:=NB319_322.out;have hnb16:=NB322_320.out;have hnc16:=NB320_322.out;obtain ⟨hcz17_0,hcz17_1,hfz17_0,hfz17_1⟩:=cB2 BK322.out))
         have n0_ : Aside0 (((w14.setCell ⟨gb322,0,none⟩ (.int .i64 ((rd_T60 l0_0 x11_1).f0))).setCell ⟨gb322,1,none⟩ (.slice A321_1 ((rd_T60 l0_0 x11_1).f1).length c321_1)).heap[gb319]? = some (.cells #[.slice (some ad321) l0_0.length c0_0,.int .i64 a0_1] 25 (0,0))):=⟨jCB⟩;have n1_ : Aside0 (((w14.setCell ⟨gb322,0,none⟩ (.int .i64 ((rd_T60 l0_0 x11_1).f0))).setCell ⟨gb322,1,none⟩ (.slice A321_1 ((rd_T60 l0_0 x11_1).f1).length c321_1)).heap[gb320]? = some (.cells #[.string a1_0,.int .i64 a1_1] 28 (0,0))):=⟨jCC⟩;have n2_ : Aside0 (((w14.setCell ⟨gb322,0,none⟩ (.int .i64 ((rd_T60 l0_0 x11_1).f0))).setCell ⟨gb322,1,none⟩ (.slice A321_1 ((rd_T60 l0_0 x11_1).f1).length c321_1)).heap[gb322]? = some (.cells #[.int .i64 ((rd_T60 l0_0 x11_1).f0),.slice A321_1 ((rd_T60 l0_0 x11_1).f1).length c321_1] 60 (0,0))):=⟨jCD⟩;have n3_ : Aside0 (Below w.heap.size w ((w14.setCell ⟨gb322,0,none⟩ (.int .i64 ((rd_T60 l0_0 x11_1).f0))).setCell ⟨gb322,1,none⟩ (.slice A321_1 ((rd_T60 l0_0 x11_1).f1).length c321_1))):=⟨jAc⟩;(try clear BK319);(try clear BK320);(try clear BK322);(try clear HB);generalize ((w14.setCell ⟨gb322,0,none⟩ (.int .i64 ((rd_T60 l0_0 x11_1).f0))).setCell ⟨gb322,1,none⟩ (.slice A321_1 ((rd_T60 l0_0 x11_1).f1).length c321_1))=w18 at n0_ n1_ n2_ n3_ ⊢;have BK319:=n0_;have BK320:=n1_;have BK322:=n2_;have HB:=n3_;clear n0_ n1_ n2_ n3_;replace BK319:=zh (zf BK319.out);replace BK320:=zh (zf BK320.out);replace BK322:=zh (zf BK322.out);replace HB:=zh (zc HB.out);have p323 : 0≤(0 : Int):=jD;have q323 : 0<(((rd_T60 l0_0 x11_1).f1).length : Int):=zy jC;obtain ⟨ad323,e323,hx323_0,hx323_1⟩:=at_T28 HR321_1.out 0 p323 q323;have hw323_1:=hx323_1;(try rw [show ((0 : Int)).toNat=0 from rfl] at hw323_1);(try rw [show 0*2=0 from rfl] at hw323_1);(try rw [Addr.add_zero'] at hw323_1);have hw323_0:=hx323_0;(try rw [show ((0 : Int)).toNat=0 from rfl] at hw323_0);(try rw [show 0*2=0 from rfl] at hw323_0);(try rw [Addr.add_zero'] at hw323_0)
         cases e323
         have qi323 : (0<((rd_T60 l0_0 x11_1).f1).length)=True:=eq_true jD;(try rw [show ((0 : Int)).toNat=0 from rfl] at hx323_0);(try rw [show 0*2=0 from rfl] at hx323_0);(try rw [Addr.add_zero'] at hx323_0);(try rw [show ((0 : Int)).toNat=0 from rfl] at hx323_1);(try rw [show 0*2=0 from rfl] at hx323_1);(try rw [Addr.add_zero'] at hx323_1);replace hx323_0:=(HB.out.cell (zl w _ hx323_0)).trans hx323_0;replace hx323_1:=(HB.out.cell (zl w _ hx323_1)).trans hx323_1;replace p323:=eq_true p323;replace q323:=eq_true q323;refine start_ (n:=13) (S:=fun w' => w'.cell? ⟨gb322,0,none⟩=some (.int .i64 ((rd_T60 l0_0 x11_1).f0))∧w'.cell? ⟨gb322,1,none⟩=some (.slice (some ad323) ((rd_T60 l0_0 x11_1).f1).length c321_1)∧w'.cell? ⟨gb320,0,none⟩=some (.string a1_0)∧w'.cell? ⟨gb320,1,none⟩=some (.int .i64 a1_1)∧w'.cell? ad323=some (.string ((rd_T28 ((rd_T60 l0_0 x11_1).f1) 0).f0))∧w'.cell? ⟨ad323.block,ad323.off+1,none⟩=some (.int .i64 ((rd_T28 ((rd_T60 l0_0 x11_1).f1) 0).f1))) (ds:=[]) (bm_ 0 13) jA rfl rfl ⟨(zz BK322.out 0).trans rfl,(zz BK322.out 1).trans rfl,(zz BK320.out 0).trans rfl,(zz BK320.out 1).trans rfl,((HB.out.cell (zl w _ hw323_0)).trans hw323_0),((HB.out.cell (zl w _ hw323_1)).trans hw323_1)⟩ (fun hHeld=>?_);refine with_tabW Fc.tab5 Fc.bits5 (fun HT_ HW_=>?_);generalize w18.drew=w19 at BK319 BK320 BK322 HB hx323_0 hx323_1 hHeld ⊢;refine pure_ (i:=0) (N:=some 16) (v:=?_) (a':=?_) (bm_ 1 13) rfl rfl (any_of HT_.out jA) (fun _ _ _ h=>h) (Or.inl ⟨by rfl,?_⟩) ?_ ?_;rotate_left;exact jb;rotate_left;exact jc
         refine take_ (i:=1) (N:=some 17) (v:=?_) (a':=?_) (bm_ 2 13) rfl rfl (yo HT_.out HW_.out jA) (fun _ _ _ h=>h) (Or.inl ⟨by rfl,?_⟩) hHeld ?_ ?_;rotate_left
         ·
          rintro w' ⟨s0,s1,s2,s3,s4,s5⟩
          go_simp
          with_reducible rfl
         rotate_left
         exact jc
         refine pure_ (i:=2) (N:=some 18) (v:=?_) (a':=?_) (bm_ 3 13) rfl rfl (any_of HT_.out jA) (fun _ _ _ h=>h) (Or.inl ⟨by rfl,?_⟩) ?_ ?_;rotate_left;exact jb;rotate_left;exact jc
         refine pure_ (i:=3) (N:=some 19) (v:=?_) (a':=?_) (bm_ 4 13) rfl rfl (any_of HT_.out jA) (fun _ _ _ h=>h) (Or.inl ⟨by rfl,?_⟩) ?_ ?_;rotate_left;exact jb;rotate_left;exact jc
         refine pure_ (i:=4) (N:=some 20) (v:=?_) (a':=?_) (bm_ 5 13) rfl rfl (any_of HT_.out jA) (fun _ _ _ h=>h) (Or.inl ⟨by rfl,?_⟩) ?_ ?_;rotate_left;exact jb;rotate_left;exact jc
         refine pure_ (i:=5) (N:=some 21) (v:=?_) (a':=?_) (bm_ 6 13) rfl rfl (any_of HT_.out jA) (fun _ _ _ h=>h) (Or.inl ⟨by rfl,?_⟩) ?_ ?_;rotate_left;exact jb;rotate_left;exact jc
         refine take_ (i:=6) (N:=some 22) (v:=?_) (a':=?_) (bm_ 7 13) rfl rfl (yo HT_.out HW_.out jA) (fun _ _ _ h=>h) (Or.inl ⟨by rfl,?_⟩) hHeld ?_ ?_;rotate_left
         ·
          rintro w' ⟨s0,s1,s2,s3,s4,s5⟩
          go_simp
          with_reducible rfl
         rotate_left
         exact jc
         refine pure_ (i:=7) (N:=some 23) (v:=?_) (a':=?_) (bm_ 8 13) rfl rfl (any_of HT_.out jA) (fun _ _ _ h=>h) (Or.inl ⟨by rfl,?_⟩) ?_ ?_;rotate_left;exact jb;rotate_left;exact jc
         refine take_ (i:=8) (N:=some 24) (v:=?_) (a':=?_) (bm_ 9 13) rfl rfl (yo HT_.out HW_.out jA) (fun _ _ _ h=>h) (Or.inl ⟨by rfl,?_⟩) hHeld ?_ ?_;rotate_left
         ·
          rintro w' ⟨s0,s1,s2,s3,s4,s5⟩
          go_simp
          with_reducible rfl
         rotate_left
         exact jc
         refine take_ (i:=9) (N:=some 25) (v:=?_) (a':=?_) (bm_ 10 13) rfl rfl (yo HT_.out HW_.out jA) (fun _ _ _ h=>h) (Or.inl ⟨by rfl,?_⟩) hHeld ?_ ?_;rotate_left
         ·
          rintro w' ⟨s0,s1,s2,s3,s4,s5⟩
          go_simp
          with_reducible rfl
         rotate_left
         exact jc
         refine one_ (i:=10) (N:=some 26) (bm_ 11 13) rfl rfl (one_of HT_.out jA) jB (fun K hK=>?_);refine goes_ Try.func42 jA rfl #[.agg #[.string ((rd_T28 ((rd_T60 l0_0 x11_1).f1) 0).f0),.int .i64 ((rd_T28 ((rd_T60 l0_0 x11_1).f1) 0).f1)],.agg #[.string a1_0,.int .i64 a1_1]] (by rfl) rfl rfl jF ?_
         with_reducible refine (Fm.calls k1  ((rd_T28 ((rd_T60 l0_0 x11_1).f1) 0).f0) ((rd_T28 ((rd_T60 l0_0 x11_1).f1) 0).f1) a1_0 a1_1 t324 _ A12.out).mono ?_
         rintro e w20 ⟨rfl,hb⟩;refine ⟨_,rfl,?_⟩;replace BK319:=zh (cD BK319.out jw hb);replace BK320:=zh (cD BK320.out jAL hb);replace BK322:=zh (cD BK322.out jC5 hb);replace HB:=zh (zC jAc hb);(try clear hb);(try clear hb2);(try clear hk);(try clear hi);refine hK.out _ _ ⟨(zz BK322.out 0).trans rfl,(zz BK322.out 1).trans rfl,(zz BK320.out 0).trans rfl,(zz BK320.out 1).trans rfl,((HB.out.cell (zl w _ hw323_0)).trans hw323_0),((HB.out.cell (zl w _ hw323_1)).trans hw323_1)⟩ (fun hHeld=>?_);clear hK K;refine norm_ (a':=?_) ?_ ?_;rotate_left
         ·
          show Act.put _ (some 26) _=_
          simp only [Act.put,zi,zj,zk,zG,zH]
          rfl
         refine pure_ (i:=11) (N:=some 27) (v:=?_) (a':=?_) (bm_ 12 13) rfl rfl (any_of HT_.out jA) (fun _ _ _ h=>h) (Or.inl ⟨by rfl,?_⟩) ?_ ?_;rotate_left;exact jb;rotate_left;exact jc
         refine pure_ (i:=12) (N:=some 28) (v:=?_) (a':=?_) (bm_ 13 13) rfl rfl (any_of HT_.out jA) (fun _ _ _ h=>h) (Or.inl ⟨by rfl,?_⟩) ?_ ?_;rotate_left;exact jb;rotate_left;exact jc
         refine done_ (done_of HT_.out jA) ?_
         try go_wp2
         go_roundg k1
         case measure=>have:=HK1.out;omega
         case rel=>exact ⟨(x11_1),(wrap64 (x11_1+1)),jE,jE,H',⟨jR⟩,⟨jw⟩,⟨jAL⟩,⟨jAc⟩⟩
        rw [if_neg c13] at H;have c13b0 : decide (t324≤0)=false:=decide_eq_false c13;clear c13;have H':=zh H;clear H;have p321 : 0≤(x11_1 : Int):=zy jC;have q321 : x11_1<(l0_0.length : Int):=zy jC;obtain ⟨ad321,A321_1,c321_1,e321,hx321_0,hx321_1,hl321_1,hi321_1⟩:=at_T60 HR0_0.out x11_1 p321 q321
        cases e321
        replace hx321_0:=(HB.out.cell (zl w _ hx321_0)).trans hx321_0;replace hx321_1:=(HB.out.cell (zl w _ hx321_1)).trans hx321_1;have HR321_1:=zh hi321_1;have HC321_1:=zh hl321_1;clear hi321_1 hl321_1;replace p321:=eq_true p321;replace q321:=eq_true q321
        try go_wp2_with (first|((with_reducible refine zK (N:=7) rfl ?_);refine zI ?hg (N:=7) ?hd (cs:=#[.int .i64 0,.slice none 0 0]) (t:=60) ?hr ?_;(case hd=>rfl);(case hg=>rfl);(case hr=>go_simp <;> rfl);intro gb322 hg w21 hbox hb;have BK322:=zh (hbox);have hH_:=cH jBN hb hg;have GW322:=zh hH_.1;have GE322:=GW322;replace HB:=zh hH_.2;have NB319_322:=zh ((jB9 : gb319≠gb322));have NB322_319:=zh NB319_322.out.symm;replace BK319:=zh (cD BK319.out jw hb);have NB320_322:=zh ((jCA : gb320≠gb322));have NB322_320:=zh NB320_322.out.symm;replace BK320:=zh (cD BK320.out jAL hb);clear hb hbox hg hH_;have hnb22:=NB322_319.out;have hnc22:=NB319_322.out;have hnb23:=NB322_320.out;have hnc23:=NB320_322.out;obtain ⟨hcz24_0,hcz24_1,hfz24_0,hfz24_1⟩:=cB2 BK322.out))
        have n0_ : Aside0 (((w21.setCell ⟨gb322,0,none⟩ (.int .i64 ((rd_T60 l0_0 x11_1).f0))).setCell ⟨gb322,1,none⟩ (.slice A321_1 ((rd_T60 l0_0 x11_1).f1).length c321_1)).heap[gb319]? = some (.cells #[.slice (some ad321) l0_0.length c0_0,.int .i64 a0_1] 25 (0,0))):=⟨jCB⟩;have n1_ : Aside0 (((w21.setCell ⟨gb322,0,none⟩ (.int .i64 ((rd_T60 l0_0 x11_1).f0))).setCell ⟨gb322,1,none⟩ (.slice A321_1 ((rd_T60 l0_0 x11_1).f1).length c321_1)).heap[gb320]? = some (.cells #[.string a1_0,.int .i64 a1_1] 28 (0,0))):=⟨jCC⟩;have n2_ : Aside0 (((w21.setCell ⟨gb322,0,none⟩ (.int .i64 ((rd_T60 l0_0 x11_1).f0))).setCell ⟨gb322,1,none⟩ (.slice A321_1 ((rd_T60 l0_0 x11_1).f1).length c321_1)).heap[gb322]? = some (.cells #[.int .i64 ((rd_T60 l0_0 x11_1).f0),.slice A321_1 ((rd_T60 l0_0 x11_1).f1).length c321_1] 60 (0,0))):=⟨jCD⟩;have n3_ : Aside0 (Below w.heap.size w ((w21.setCell ⟨gb322,0,none⟩ (.int .i64 ((rd_T60 l0_0 x11_1).f0))).setCell ⟨gb322,1,none⟩ (.slice A321_1 ((rd_T60 l0_0 x11_1).f1).length c321_1))):=⟨jAc⟩;(try clear BK319);(try clear BK320);(try clear BK322);(try clear HB);generalize ((w21.setCell ⟨gb322,0,none⟩ (.int .i64 ((rd_T60 l0_0 x11_1).f0))).setCell ⟨gb322,1,none⟩ (.slice A321_1 ((rd_T60 l0_0 x11_1).f1).length c321_1))=w25 at n0_ n1_ n2_ n3_ ⊢;have BK319:=n0_;have BK320:=n1_;have BK322:=n2_;have HB:=n3_;clear n0_ n1_ n2_ n3_;replace BK319:=zh (zf BK319.out);replace BK320:=zh (zf BK320.out);replace BK322:=zh (zf BK322.out);replace HB:=zh (zc HB.out);have p323 : 0≤(0 : Int):=jD;have q323 : 0<(((rd_T60 l0_0 x11_1).f1).length : Int):=zy jC;obtain ⟨ad323,e323,hx323_0,hx323_1⟩:=at_T28 HR321_1.out 0 p323 q323;have hw323_1:=hx323_1;(try rw [show ((0 : Int)).toNat=0 from rfl] at hw323_1);(try rw [show 0*2=0 from rfl] at hw323_1);(try rw [Addr.add_zero'] at hw323_1);have hw323_0:=hx323_0;(try rw [show ((0 : Int)).toNat=0 from rfl] at hw323_0);(try rw [show 0*2=0 from rfl] at hw323_0);(try rw [Addr.add_zero'] at hw323_0)
        cases e323
        have qi323 : (0<((rd_T60 l0_0 x11_1).f1).length)=True:=eq_true jD;(try rw [show ((0 : Int)).toNat=0 from rfl] at hx323_0);(try rw [show 0*2=0 from rfl] at hx323_0);(try rw [Addr.add_zero'] at hx323_0);(try rw [show ((0 : Int)).toNat=0 from rfl] at hx323_1);(try rw [show 0*2=0 from rfl] at hx323_1);(try rw [Addr.add_zero'] at hx323_1);replace hx323_0:=(HB.out.cell (zl w _ hx323_0)).trans hx323_0;replace hx323_1:=(HB.out.cell (zl w _ hx323_1)).trans hx323_1;replace p323:=eq_true p323;replace q323:=eq_true q323;refine start_ (n:=13) (S:=fun w' => w'.cell? ⟨gb322,0,none⟩=some (.int .i64 ((rd_T60 l0_0 x11_1).f0))∧w'.cell? ⟨gb322,1,none⟩=some (.slice (some ad323) ((rd_T60 l0_0 x11_1).f1).length c321_1)∧w'.cell? ⟨gb320,0,none⟩=some (.string a1_0)∧w'.cell? ⟨gb320,1,none⟩=some (.int .i64 a1_1)∧w'.cell? ad323=some (.string ((rd_T28 ((rd_T60 l0_0 x11_1).f1) 0).f0))∧w'.cell? ⟨ad323.block,ad323.off+1,none⟩=some (.int .i64 ((rd_T28 ((rd_T60 l0_0 x11_1).f1) 0).f1))) (ds:=[]) (bm_ 0 13) jA rfl rfl ⟨(zz BK322.out 0).trans rfl,(zz BK322.out 1).trans rfl,(zz BK320.out 0).trans rfl,(zz BK320.out 1).trans rfl,((HB.out.cell (zl w _ hw323_0)).trans hw323_0),((HB.out.cell (zl w _ hw323_1)).trans hw323_1)⟩ (fun hHeld=>?_);refine with_tabW Fc.tab5 Fc.bits5 (fun HT_ HW_=>?_);generalize w25.drew=w26 at BK319 BK320 BK322 HB hx323_0 hx323_1 hHeld ⊢;refine pure_ (i:=0) (N:=some 16) (v:=?_) (a':=?_) (bm_ 1 13) rfl rfl (any_of HT_.out jA) (fun _ _ _ h=>h) (Or.inl ⟨by rfl,?_⟩) ?_ ?_;rotate_left;exact jb;rotate_left;exact jc
        refine take_ (i:=1) (N:=some 17) (v:=?_) (a':=?_) (bm_ 2 13) rfl rfl (yo HT_.out HW_.out jA) (fun _ _ _ h=>h) (Or.inl ⟨by rfl,?_⟩) hHeld ?_ ?_;rotate_left
        ·
         rintro w' ⟨s0,s1,s2,s3,s4,s5⟩
         go_simp
         with_reducible rfl
        rotate_left
        exact jc
        refine pure_ (i:=2) (N:=some 18) (v:=?_) (a':=?_) (bm_ 3 13) rfl rfl (any_of HT_.out jA) (fun _ _ _ h=>h) (Or.inl ⟨by rfl,?_⟩) ?_ ?_;rotate_left;exact jb;rotate_left;exact jc
        refine pure_ (i:=3) (N:=some 19) (v:=?_) (a':=?_) (bm_ 4 13) rfl rfl (any_of HT_.out jA) (fun _ _ _ h=>h) (Or.inl ⟨by rfl,?_⟩) ?_ ?_;rotate_left;exact jb;rotate_left;exact jc
        refine pure_ (i:=4) (N:=some 20) (v:=?_) (a':=?_) (bm_ 5 13) rfl rfl (any_of HT_.out jA) (fun _ _ _ h=>h) (Or.inl ⟨by rfl,?_⟩) ?_ ?_;rotate_left;exact jb;rotate_left;exact jc
        refine pure_ (i:=5) (N:=some 21) (v:=?_) (a':=?_) (bm_ 6 13) rfl rfl (any_of HT_.out jA) (fun _ _ _ h=>h) (Or.inl ⟨by rfl,?_⟩) ?_ ?_;rotate_left;exact jb;rotate_left;exact jc
        refine take_ (i:=6) (N:=some 22) (v:=?_) (a':=?_) (bm_ 7 13) rfl rfl (yo HT_.out HW_.out jA) (fun _ _ _ h=>h) (Or.inl ⟨by rfl,?_⟩) hHeld ?_ ?_;rotate_left
        ·
         rintro w' ⟨s0,s1,s2,s3,s4,s5⟩
         go_simp
         with_reducible rfl
        rotate_left
        exact jc
        refine pure_ (i:=7) (N:=some 23) (v:=?_) (a':=?_) (bm_ 8 13) rfl rfl (any_of HT_.out jA) (fun _ _ _ h=>h) (Or.inl ⟨by rfl,?_⟩) ?_ ?_;rotate_left;exact jb;rotate_left;exact jc
        refine take_ (i:=8) (N:=some 24) (v:=?_) (a':=?_) (bm_ 9 13) rfl rfl (yo HT_.out HW_.out jA) (fun _ _ _ h=>h) (Or.inl ⟨by rfl,?_⟩) hHeld ?_ ?_;rotate_left
        ·
         rintro w' ⟨s0,s1,s2,s3,s4,s5⟩
         go_simp
         with_reducible rfl
        rotate_left
        exact jc
        refine take_ (i:=9) (N:=some 25) (v:=?_) (a':=?_) (bm_ 10 13) rfl rfl (yo HT_.out HW_.out jA) (fun _ _ _ h=>h) (Or.inl ⟨by rfl,?_⟩) hHeld ?_ ?_;rotate_left
        ·
         rintro w' ⟨s0,s1,s2,s3,s4,s5⟩
         go_simp
         with_reducible rfl
        rotate_left
        exact jc
        refine one_ (i:=10) (N:=some 26) (bm_ 11 13) rfl rfl (one_of HT_.out jA) jB (fun K hK=>?_);refine goes_ Try.func42 jA rfl #[.agg #[.string ((rd_T28 ((rd_T60 l0_0 x11_1).f1) 0).f0),.int .i64 ((rd_T28 ((rd_T60 l0_0 x11_1).f1) 0).f1)],.agg #[.string a1_0,.int .i64 a1_1]] (by rfl) rfl rfl jF ?_
        with_reducible refine (Fm.calls k1  ((rd_T28 ((rd_T60 l0_0 x11_1).f1) 0).f0) ((rd_T28 ((rd_T60 l0_0 x11_1).f1) 0).f1) a1_0 a1_1 t324 _ A12.out).mono ?_
        rintro e w27 ⟨rfl,hb⟩;refine ⟨_,rfl,?_⟩;replace BK319:=zh (cD BK319.out jw hb);replace BK320:=zh (cD BK320.out jAL hb);replace BK322:=zh (cD BK322.out jC5 hb);replace HB:=zh (zC jAc hb);(try clear hb);(try clear hb2);(try clear hk);(try clear hi);refine hK.out _ _ ⟨(zz BK322.out 0).trans rfl,(zz BK322.out 1).trans rfl,(zz BK320.out 0).trans rfl,(zz BK320.out 1).trans rfl,((HB.out.cell (zl w _ hw323_0)).trans hw323_0),((HB.out.cell (zl w _ hw323_1)).trans hw323_1)⟩ (fun hHeld=>?_);clear hK K;refine norm_ (a':=?_) ?_ ?_;rotate_left
        ·
         show Act.put _ (some 26) _=_
         simp only [Act.put,zi,zj,zk,zG,zH]
         rfl
        refine pure_ (i:=11) (N:=some 27) (v:=?_) (a':=?_) (bm_ 12 13) rfl rfl (any_of HT_.out jA) (fun _ _ _ h=>h) (Or.inl ⟨by rfl,?_⟩) ?_ ?_;rotate_left;exact jb;rotate_left;exact jc
        refine pure_ (i:=12) (N:=some 28) (v:=?_) (a':=?_) (bm_ 13 13) rfl rfl (any_of HT_.out jA) (fun _ _ _ h=>h) (Or.inl ⟨by rfl,?_⟩) ?_ ?_;rotate_left;exact jb;rotate_left;exact jc
        refine done_ (done_of HT_.out jA) ?_
        try go_wp2
        go_roundg k1
        case measure=>have:=HK1.out;omega
        case rel=>exact ⟨(x5_1),(wrap64 (x11_1+1)),jE,jE,H',⟨jR⟩,⟨jw⟩,⟨jAL⟩,⟨jAc⟩⟩
       rw [if_neg c11] at H;exact absurd H (by simp)
      rw [if_neg c10] at H;have c10b0 : decide (0<(((rd_T60 l0_0 x11_1).f1).length : Int))=false:=decide_eq_false c10;have c10b1 : decide (0<((rd_T60 l0_0 x11_1).f1).length)=false:=decide_eq_false jD;clear c10;have H':=zh H;clear H;have p321 : 0≤(x11_1 : Int):=zy jC;have q321 : x11_1<(l0_0.length : Int):=zy jC;obtain ⟨ad321,A321_1,c321_1,e321,hx321_0,hx321_1,hl321_1,hi321_1⟩:=at_T60 HR0_0.out x11_1 p321 q321
      cases e321
      replace hx321_0:=(HB.out.cell (zl w _ hx321_0)).trans hx321_0;replace hx321_1:=(HB.out.cell (zl w _ hx321_1)).trans hx321_1;have HR321_1:=zh hi321_1;have HC321_1:=zh hl321_1;clear hi321_1 hl321_1;replace p321:=eq_true p321;replace q321:=eq_true q321
      try go_wp2_with (first|((with_reducible refine zK (N:=7) rfl ?_);refine zI ?hg (N:=7) ?hd (cs:=#[.int .i64 0,.slice none 0 0]) (t:=60) ?hr ?_;(case hd=>rfl);(case hg=>rfl);(case hr=>go_simp <;> rfl);intro gb322 hg w28 hbox hb;have BK322:=zh (hbox);have hH_:=cH jBN hb hg;have GW322:=zh hH_.1;have GE322:=GW322;replace HB:=zh hH_.2;have NB319_322:=zh ((jB9 : gb319≠gb322));have NB322_319:=zh NB319_322.out.symm;replace BK319:=zh (cD BK319.out jw hb);have NB320_322:=zh ((jCA : gb320≠gb322));have NB322_320:=zh NB320_322.out.symm;replace BK320:=zh (cD BK320.out jAL hb);clear hb hbox hg hH_;have hnb29:=NB322_319.out;have hnc29:=NB319_322.out;have hnb30:=NB322_320.out;have hnc30:=NB320_322.out;obtain ⟨hcz31_0,hcz31_1,hfz31_0,hfz31_1⟩:=cB2 BK322.out))
      have n0_ : Aside0 (((w28.setCell ⟨gb322,0,none⟩ (.int .i64 ((rd_T60 l0_0 x11_1).f0))).setCell ⟨gb322,1,none⟩ (.slice A321_1 ((rd_T60 l0_0 x11_1).f1).length c321_1)).heap[gb319]? = some (.cells #[.slice (some ad321) l0_0.length c0_0,.int .i64 a0_1] 25 (0,0))):=⟨jCB⟩;have n1_ : Aside0 (((w28.setCell ⟨gb322,0,none⟩ (.int .i64 ((rd_T60 l0_0 x11_1).f0))).setCell ⟨gb322,1,none⟩ (.slice A321_1 ((rd_T60 l0_0 x11_1).f1).length c321_1)).heap[gb320]? = some (.cells #[.string a1_0,.int .i64 a1_1] 28 (0,0))):=⟨jCC⟩;have n2_ : Aside0 (((w28.setCell ⟨gb322,0,none⟩ (.int .i64 ((rd_T60 l0_0 x11_1).f0))).setCell ⟨gb322,1,none⟩ (.slice A321_1 ((rd_T60 l0_0 x11_1).f1).length c321_1)).heap[gb322]? = some (.cells #[.int .i64 ((rd_T60 l0_0 x11_1).f0),.slice A321_1 ((rd_T60 l0_0 x11_1).f1).length c321_1] 60 (0,0))):=⟨jCD⟩;have n3_ : Aside0 (Below w.heap.size w ((w28.setCell ⟨gb322,0,none⟩ (.int .i64 ((rd_T60 l0_0 x11_1).f0))).setCell ⟨gb322,1,none⟩ (.slice A321_1 ((rd_T60 l0_0 x11_1).f1).length c321_1))):=⟨jAc⟩;(try clear BK319);(try clear BK320);(try clear BK322);(try clear HB);generalize ((w28.setCell ⟨gb322,0,none⟩ (.int .i64 ((rd_T60 l0_0 x11_1).f0))).setCell ⟨gb322,1,none⟩ (.slice A321_1 ((rd_T60 l0_0 x11_1).f1).length c321_1))=w32 at n0_ n1_ n2_ n3_ ⊢;have BK319:=n0_;have BK320:=n1_;have BK322:=n2_;have HB:=n3_;clear n0_ n1_ n2_ n3_;replace BK319:=zh (zf BK319.out);replace BK320:=zh (zf BK320.out);replace BK322:=zh (zf BK322.out);replace HB:=zh (zc HB.out);refine start_ (n:=13) (S:=fun w' => w'.cell? ⟨gb322,0,none⟩=some (.int .i64 ((rd_T60 l0_0 x11_1).f0))∧w'.cell? ⟨gb322,1,none⟩=some (.slice A321_1 ((rd_T60 l0_0 x11_1).f1).length c321_1)) (ds:=[]) (bm_ 0 13) jA rfl rfl ⟨(zz BK322.out 0).trans rfl,(zz BK322.out 1).trans rfl⟩ (fun hHeld=>?_);refine with_tabW Fc.tab5 Fc.bits5 (fun HT_ HW_=>?_);generalize w32.drew=w33 at BK319 BK320 BK322 HB hHeld ⊢;refine pure_ (i:=0) (N:=some 16) (v:=?_) (a':=?_) (bm_ 1 13) rfl rfl (any_of HT_.out jA) (fun _ _ _ h=>h) (Or.inl ⟨by rfl,?_⟩) ?_ ?_;rotate_left;exact jb;rotate_left;exact jc
      refine take_ (i:=1) (N:=some 17) (v:=?_) (a':=?_) (bm_ 2 13) rfl rfl (yo HT_.out HW_.out jA) (fun _ _ _ h=>h) (Or.inl ⟨by rfl,?_⟩) hHeld ?_ ?_;rotate_left
      ·
       rintro w' ⟨s0,s1⟩
       go_simp
       with_reducible rfl
      rotate_left
      exact jc
      refine pure_ (i:=2) (N:=some 18) (v:=?_) (a':=?_) (bm_ 3 13) rfl rfl (any_of HT_.out jA) (fun _ _ _ h=>h) (Or.inl ⟨by rfl,?_⟩) ?_ ?_;rotate_left;exact jb;rotate_left;exact jc
      refine pure_ (i:=3) (N:=some 19) (v:=?_) (a':=?_) (bm_ 4 13) rfl rfl (any_of HT_.out jA) (fun _ _ _ h=>h) (Or.inl ⟨by rfl,?_⟩) ?_ ?_;rotate_left;exact jb;rotate_left;exact jc
      refine pure_ (i:=4) (N:=some 20) (v:=?_) (a':=?_) (bm_ 5 13) rfl rfl (any_of HT_.out jA) (fun _ _ _ h=>h) (Or.inl ⟨by rfl,?_⟩) ?_ ?_;rotate_left;exact jb;rotate_left;exact jc
      refine pure_ (i:=5) (N:=some 21) (v:=undef) (a':=?_) (bm_ 6 13) rfl rfl (any_of HT_.out jA) (fun _ _ _ h=>h) (Or.inr ⟨by rfl,rfl⟩) ?_ ?_;rotate_left
      exact jc
      refine pure_ (i:=6) (N:=some 22) (v:=undef) (a':=?_) (bm_ 7 13) rfl rfl (any_of HT_.out jA) (fun _ _ _ h=>h) (Or.inr ⟨by rfl,rfl⟩) ?_ ?_;rotate_left
      exact jc
      refine pure_ (i:=7) (N:=some 23) (v:=undef) (a':=?_) (bm_ 8 13) rfl rfl (any_of HT_.out jA) (fun _ _ _ h=>h) (Or.inr ⟨by rfl,rfl⟩) ?_ ?_;rotate_left
      exact jc
      refine pure_ (i:=8) (N:=some 24) (v:=undef) (a':=?_) (bm_ 9 13) rfl rfl (any_of HT_.out jA) (fun _ _ _ h=>h) (Or.inr ⟨by rfl,rfl⟩) ?_ ?_;rotate_left
      exact jc
      refine pure_ (i:=9) (N:=some 25) (v:=undef) (a':=?_) (bm_ 10 13) rfl rfl (any_of HT_.out jA) (fun _ _ _ h=>h) (Or.inr ⟨by rfl,rfl⟩) ?_ ?_;rotate_left
      exact jc
      refine pure_ (i:=10) (N:=some 26) (v:=undef) (a':=?_) (bm_ 11 13) rfl rfl (any_of HT_.out jA) (fun _ _ _ h=>h) (Or.inr ⟨by rfl,rfl⟩) ?_ ?_;rotate_left
      exact jc
      refine pure_ (i:=11) (N:=some 27) (v:=undef) (a':=?_) (bm_ 12 13) rfl rfl (any_of HT_.out jA) (fun _ _ _ h=>h) (Or.inr ⟨by rfl,rfl⟩) ?_ ?_;rotate_left
      exact jc
      refine pure_ (i:=12) (N:=some 28) (v:=?_) (a':=?_) (bm_ 13 13) rfl rfl (any_of HT_.out jA) (fun _ _ _ h=>h) (Or.inl ⟨by rfl,?_⟩) ?_ ?_;rotate_left;exact jb;rotate_left;exact jc
      refine done_ (done_of HT_.out jA) ?_
      try go_wp2
      go_roundg k1
      case measure=>have:=HK1.out;omega
      case rel=>exact ⟨(x5_1),(wrap64 (x11_1+1)),jE,jE,H',⟨jR⟩,⟨jw⟩,⟨jAL⟩,⟨jAc⟩⟩
     rw [if_neg c9] at H;exact absurd H (by simp)
    rw [if_neg c8] at H;exact absurd H (by simp)
   rw [if_neg c7] at H;have c7b0 : decide (x11_1<(l0_0.length : Int))=false:=decide_eq_false c7;clear c7;obtain rfl:=zU H
   go_wp2
   go_ret
   exact ⟨jG,jBN⟩


def Ff.l0 : Nat→List (S28)→Int→Int→Int→ByteArray→Int→Option (Int×Bool)
 | 0,_,_,_,_,_,_=>none
 | k+1,x0,x8,x9,x10,x488000,x488001=>if x9<x10 then (if 0≤(wrap64 ((IntKind.u64.wrap (wrap64 (x9+x10))) / 2)) then (if (wrap64 ((IntKind.u64.wrap (wrap64 (x9+x10))) / 2))<(x0.length : Int) then ((Fm.f k ((rd_T28 x0 (wrap64 ((IntKind.u64.wrap (wrap64 (x9+x10))) / 2))).f0) ((rd_T28 x0 (wrap64 ((IntKind.u64.wrap (wrap64 (x9+x10))) / 2))).f1) x488000 x488001).bind fun t489=>(if t489<0 then (Ff.l0 k x0 x8 (wrap64 ((wrap64 ((IntKind.u64.wrap (wrap64 (x9+x10))) / 2))+1)) x10 x488000 x488001) else (Ff.l0 k x0 x8 x9 (wrap64 ((IntKind.u64.wrap (wrap64 (x9+x10))) / 2)) x488000 x488001))) else (none)) else (none)) else (if x9<x8 then (if 0≤x9 then (if x9<(x0.length : Int) then ((Fm.f k ((rd_T28 x0 x9).f0) ((rd_T28 x0 x9).f1) x488000 x488001).bind fun t491=>(some (x9,(t491 == 0)))) else (none)) else (none)) else (some (x9,false)))
def Ff.f (k : Nat) (l0 : List (S28)) (a1_0 : ByteArray) (a1_1 : Int)  : Option (Int×Bool):=Ff.l0 k l0 (l0.length : Int) 0 (l0.length : Int) a1_0 a1_1
theorem Ff.mono_l : ∀ k,(∀ y0 y1 y2 y3 y4 y5,LeO (Ff.l0 k y0 y1 y2 y3 y4 y5) (Ff.l0 (k+1) y0 y1 y2 y3 y4 y5))
 | 0=>fun _ _ _ _ _ _ r h=>by simp [Ff.l0] at h
 | k+1=>by
  have ih0:=Ff.mono_l k;intro y0 y1 y2 y3 y4 y5;unfold Ff.l0
  repeat' first|(with_reducible first|exact ih0 _ _ _ _ _ _|exact Fm.mono _ _ _ _ _|exact zQ _|exact zN _|refine zP ?_ ?_|refine zO ?_ (fun _=>?_))|refine zP ?_ ?_|refine zO ?_ (fun _=>?_)
theorem Ff.mono : ∀ a0 a1 a2 k,LeO (Ff.f k a0 a1 a2) (Ff.f (k+1) a0 a1 a2):=by
 intro a0 a1 a2 k;have ih0:=Ff.mono_l k;unfold Ff.f
 repeat' first|(with_reducible first|exact ih0 _ _ _ _ _ _|exact Fm.mono _ _ _ _ _|exact zQ _|exact zN _|refine zP ?_ ?_|refine zO ?_ (fun _=>?_))|refine zP ?_ ?_|refine zO ?_ (fun _=>?_)
def Ff.T5 : Bool×List (List Nat×List Nat):=(true,[([],[]),([],[]),([],[]),([1,2],[1,2]),([3],[3]),([],[]),([0,4,5],[0,4,5]),([6],[6])])
def Ff.B5 : List Nat:=[0,0,0,6,14,0,63,127]
theorem Ff.tab5 : rtab .any (opsOf Try.f66 5)=Ff.T5:=by kernel_rfl
theorem Ff.bits5 : waitsOk Ff.T5.2 Ff.B5=true:=by kernel_rfl
def Ff.T8 : Bool×List (List Nat×List Nat):=(true,[([],[]),([],[]),([],[]),([1,2],[1,2]),([3],[3]),([4],[4]),([4],[4]),([4],[4]),([6,7,4],[4,6,7]),([8,4],[4,8]),([4],[4]),([5,9,10,4,4],[4,5,9,10]),([11,4],[4,11]),([4,12],[4,12]),([0,11,0],[0]),([13,14,0,1,2,3,4,5,6,7,8,9,10,11,12,13,14],[13])])
def Ff.B8 : List Nat:=[0,0,0,6,14,30,30,30,222,478,30,2046,4094,8190,4095,32767]
theorem Ff.tab8 : rtab .any (opsOf Try.f66 8)=Ff.T8:=by kernel_rfl
theorem Ff.bits8 : waitsOk Ff.T8.2 Ff.B8=true:=by kernel_rfl
theorem goesv_ {P : Program} {ops : Array Oper} {Q : Exit → Act → World → Prop} {oi : Oper} {N : Option Tmp} {a : Act} {w : World} {K : Act → World → Prop} {f : FuncId} {fn : Func} {as_ : Array Operand} {ts : Array TypeId} (fo : Operand) (hf : P.funcs[f]? = some fn) (hname : (fn.name == "runtime.NumGoroutine") = false) (hb : fn.body.isSome = true) (args : Array Value)
  (hw : Region.wanted oi (yielded ops a.tmps)=true) (hN : oi.dst=N) (hop : oi.op = .call { callee:=.value fo,args:=as_,argTypes:=ts }) (hfo : a.eval fo = .func (.func f) #[] #[]) (hargs : as_.map a.eval=args)
  (h : Calls P f args w fun e w' => ∃ v,e = .returned v∧K (a.put N v) w') : if Region.wanted oi (yielded ops a.tmps)=true then Oper.wp P oi a w K Q else K (a.put N undef) w:=by
 refine call_ f args hw hN ?_ h;have he:=enters_ hf hname hb args w;unfold execOp;simp [hop,resolve,Deferred.ofValue,invoke,hfo,hargs,he]
set_option maxHeartbeats 8000000 in
set_option maxRecDepth 100000 in
theorem Ff.calls (k : Nat) (A0 : Option Addr) (c0 : Nat) (l0 : List (S28)) (a1_0 : ByteArray) (a1_1 : Int)  (r1 : Int) (r2 : Bool) (w : World) (hr0 : Kd.C k28 w A0 l0.length l0) (hc0 : l0.length≤c0) (h : Ff.f k l0 a1_0 a1_1=some (r1,r2)) :
  Calls Try.prog 66 #[.slice A0 l0.length c0,.agg #[.string a1_0,.int .i64 a1_1],.func (.func 42) #[] #[]] w fun e w' => e = .returned (.tuple #[.int .i64 r1,.bool r2])∧Below w.heap.size w w':=by
 have hu28:=Try.underlying28;have HR0:=zh hr0;have HC0:=zh hc0;clear hr0 hc0;have HB:=zh (Below.refl w.heap.size w);have H : (Ff.l0 k l0 (l0.length : Int) 0 (l0.length : Int) a1_0 a1_1)=some (r1,r2):=h;clear h;have H':=zh H;clear H
 go_enter Try.func66,Try.ntmps66
 go_wp2_with (first|((with_reducible refine zK (N:=4) rfl ?_);refine zI ?hg (N:=4) ?hd (cs:=#[.string a1_0,.int .i64 a1_1]) (t:=28) ?hr ?_;(case hd=>rfl);(case hg=>rfl);(case hr=>go_simp <;> rfl);intro gb487 hg w4 hbox hb;have BK487:=zh (hbox);have hH_:=cH jH hb hg;have GW487:=zh hH_.1;have GE487:=GW487;replace HB:=zh hH_.2;clear hb hbox hg hH_))
 go_loopg [9,10] k (fun kq v9 v10 w' => ∃ (x9_1 : Int) (x10_1 : Int),v9 = .int .i64 x9_1∧v10 = .int .i64 x10_1∧Aside0 (Ff.l0 kq l0 (l0.length : Int) x9_1 x10_1 a1_0 a1_1=some (r1,r2))∧Aside0 (kq≤k)∧Aside0 (w'.heap[gb487]? = some (.cells #[.string a1_0,.int .i64 a1_1] 28 (0,0)))∧Aside0 (Below w.heap.size w w'))
 case atStart=>exact ⟨(0),((l0.length : Int)),jE,jE,H',⟨ye _⟩,⟨jA4⟩,⟨jAd⟩⟩
 case round =>
  clear H'
  try clear p2
  obtain ⟨x9_1,x10_1,rfl,rfl,HA,HK1,BK487,HB⟩:=hrel
  cases gk with
  | zero=>exact absurd HA.out (by simp [Ff.l0])
  | succ k1 =>
   have H:=HA.out;clear HA;simp only [Ff.l0] at H
   by_cases c5 : x9_1<x10_1
   ·
    rw [if_pos c5] at H
    have c5b0 : decide (x9_1<x10_1)=true:=decide_eq_true c5;clear c5;obtain ⟨ji6,hji6⟩ : ∃ j_ : Int,(wrap64 ((IntKind.u64.wrap (wrap64 (x9_1+x10_1))) / 2))=j_:=⟨_,rfl⟩;replace H : (if 0≤(ji6) then (if (ji6)<(l0.length : Int) then ((Fm.f k1 ((rd_T28 l0 (ji6)).f0) ((rd_T28 l0 (ji6)).f1) a1_0 a1_1).bind fun t489=>(if t489<0 then (Ff.l0 k1 l0 (l0.length : Int) (wrap64 ((ji6)+1)) x10_1 a1_0 a1_1) else (Ff.l0 k1 l0 (l0.length : Int) x9_1 ji6 a1_0 a1_1))) else (none)) else (none))=some (r1,r2):=by first|(rw [hji6] at H;exact H)|(simp only [hji6] at H ⊢;exact H)
    have hji6w : (IntKind.i64.wrap ((IntKind.u64.wrap (wrap64 (x9_1+x10_1))) / 2))=ji6:=(zG _).trans hji6
    by_cases c7 : 0≤(ji6)
    ·
     rw [if_pos c7] at H
     have c7b0 : decide (0≤(ji6))=true:=decide_eq_true c7;clear c7
     by_cases c8 : (ji6)<(l0.length : Int)
     ·
      rw [if_pos c8] at H
      have c8b0 : decide ((ji6)<(l0.length : Int))=true:=decide_eq_true c8;clear c8;replace H:=zT.mp H;obtain ⟨t489,A90,H⟩:=H;have A9:=zh A90;clear A90
      by_cases c10 : t489<0
      ·
       rw [if_pos c10] at H
       have c10b0 : decide (t489<0)=true:=decide_eq_true c10;clear c10;have H':=zh H;clear H
       try go_wp2
       replace BK487:=zh (zf BK487.out);replace HB:=zh (zc HB.out);have p488 : 0≤((ji6) : Int):=zy jC;have q488 : (ji6)<(l0.length : Int):=zy jC;obtain ⟨ad488,e488,hx488_0,hx488_1⟩:=at_T28 HR0.out (ji6) p488 q488;have hw488_1:=hx488_1;have hw488_0:=hx488_0
       cases e488
       replace hx488_0:=(HB.out.cell (zl w _ hx488_0)).trans hx488_0;replace hx488_1:=(HB.out.cell (zl w _ hx488_1)).trans hx488_1;replace p488:=eq_true p488;replace q488:=eq_true q488;refine start_ (n:=8) (S:=fun w' => w'.cell? ⟨gb487,0,none⟩=some (.string a1_0)∧w'.cell? ⟨gb487,1,none⟩=some (.int .i64 a1_1)∧w'.cell? (ad488.add (((ji6)).toNat*2))=some (.string ((rd_T28 l0 (ji6)).f0))∧w'.cell? ⟨(ad488.add (((ji6)).toNat*2)).block,(ad488.add (((ji6)).toNat*2)).off+1,none⟩=some (.int .i64 ((rd_T28 l0 (ji6)).f1))) (ds:=[]) (bm_ 0 8) jA rfl rfl ⟨(zz BK487.out 0).trans rfl,(zz BK487.out 1).trans rfl,((HB.out.cell (zl w _ hw488_0)).trans hw488_0),((HB.out.cell (zl w _ hw488_1)).trans hw488_1)⟩ (fun hHeld=>?_);refine with_tabW Ff.tab5 Ff.bits5 (fun HT_ HW_=>?_);generalize wr.drew=w11 at BK487 HB hx488_0 hx488_1 hHeld ⊢;refine pure_ (i:=0) (N:=some 24) (v:=?_) (a':=?_) (bm_ 1 8) rfl rfl (any_of HT_.out jA) (fun _ _ _ h=>h) (Or.inl ⟨by rfl,?_⟩) ?_ ?_;rotate_left;exact jb;rotate_left;exact jc
       refine pure_ (i:=1) (N:=some 25) (v:=?_) (a':=?_) (bm_ 2 8) rfl rfl (any_of HT_.out jA) (fun _ _ _ h=>h) (Or.inl ⟨by rfl,?_⟩) ?_ ?_;rotate_left;exact jb;rotate_left;exact jc
       refine pure_ (i:=2) (N:=some 26) (v:=?_) (a':=?_) (bm_ 3 8) rfl rfl (any_of HT_.out jA) (fun _ _ _ h=>h) (Or.inl ⟨by rfl,?_⟩) ?_ ?_;rotate_left;exact jb;rotate_left;exact jc
       refine pure_ (i:=3) (N:=some 27) (v:=?_) (a':=?_) (bm_ 4 8) rfl rfl (any_of HT_.out jA) (fun _ _ _ h=>h) (Or.inl ⟨by rfl,?_⟩) ?_ ?_;rotate_left;exact jb;rotate_left;exact jc
       refine take_ (i:=4) (N:=some 28) (v:=?_) (a':=?_) (bm_ 5 8) rfl rfl (yo HT_.out HW_.out jA) (fun _ _ _ h=>h) (Or.inl ⟨by rfl,?_⟩) hHeld ?_ ?_;rotate_left
       ·
        rintro w' ⟨s0,s1,s2,s3⟩
        go_simp
        with_reducible rfl
       rotate_left
       exact jc
       refine take_ (i:=5) (N:=some 29) (v:=?_) (a':=?_) (bm_ 6 8) rfl rfl (yo HT_.out HW_.out jA) (fun _ _ _ h=>h) (Or.inl ⟨by rfl,?_⟩) hHeld ?_ ?_;rotate_left
       ·
        rintro w' ⟨s0,s1,s2,s3⟩
        go_simp
        with_reducible rfl
       rotate_left
       exact jc
       refine one_ (i:=6) (N:=some 30) (bm_ 7 8) rfl rfl (one_of HT_.out jA) jB (fun K hK=>?_);refine goesv_ (.tmp 24) Try.func42 jA rfl #[.agg #[.string ((rd_T28 l0 (ji6)).f0),.int .i64 ((rd_T28 l0 (ji6)).f1)],.agg #[.string a1_0,.int .i64 a1_1]] (by rfl) rfl rfl (by rfl) jC6 ?_
       with_reducible refine (Fm.calls k1  ((rd_T28 l0 (ji6)).f0) ((rd_T28 l0 (ji6)).f1) a1_0 a1_1 t489 _ A9.out).mono ?_
       rintro e w12 ⟨rfl,hb⟩;refine ⟨_,rfl,?_⟩;replace BK487:=zh (cD BK487.out jA4 hb);replace HB:=zh (zC jAd hb);(try clear hb);(try clear hb2);(try clear hk);(try clear hi);refine hK.out _ _ ⟨(zz BK487.out 0).trans rfl,(zz BK487.out 1).trans rfl,((HB.out.cell (zl w _ hw488_0)).trans hw488_0),((HB.out.cell (zl w _ hw488_1)).trans hw488_1)⟩ (fun hHeld=>?_);clear hK K;refine norm_ (a':=?_) ?_ ?_;rotate_left
       ·
        show Act.put _ (some 30) _=_
        simp only [Act.put,zi,zj,zk,zG,zH]
        rfl
       refine pure_ (i:=7) (N:=some 31) (v:=?_) (a':=?_) (bm_ 8 8) rfl rfl (any_of HT_.out jA) (fun _ _ _ h=>h) (Or.inl ⟨by rfl,?_⟩) ?_ ?_;rotate_left;exact jb;rotate_left;exact jc
       refine done_ (done_of HT_.out jA) ?_
       try go_wp2
       go_roundg k1
       case measure=>have:=HK1.out;omega
       case rel=>exact ⟨(wrap64 ((ji6)+1)),(x10_1),jC7,jE,H',⟨jR⟩,⟨jA4⟩,⟨jAd⟩⟩
      rw [if_neg c10] at H;have c10b0 : decide (t489<0)=false:=decide_eq_false c10;clear c10;have H':=zh H;clear H
      try go_wp2
      replace BK487:=zh (zf BK487.out);replace HB:=zh (zc HB.out);have p488 : 0≤((ji6) : Int):=zy jC;have q488 : (ji6)<(l0.length : Int):=zy jC;obtain ⟨ad488,e488,hx488_0,hx488_1⟩:=at_T28 HR0.out (ji6) p488 q488;have hw488_1:=hx488_1;have hw488_0:=hx488_0
      cases e488
      replace hx488_0:=(HB.out.cell (zl w _ hx488_0)).trans hx488_0;replace hx488_1:=(HB.out.cell (zl w _ hx488_1)).trans hx488_1;replace p488:=eq_true p488;replace q488:=eq_true q488;refine start_ (n:=8) (S:=fun w' => w'.cell? ⟨gb487,0,none⟩=some (.string a1_0)∧w'.cell? ⟨gb487,1,none⟩=some (.int .i64 a1_1)∧w'.cell? (ad488.add (((ji6)).toNat*2))=some (.string ((rd_T28 l0 (ji6)).f0))∧w'.cell? ⟨(ad488.add (((ji6)).toNat*2)).block,(ad488.add (((ji6)).toNat*2)).off+1,none⟩=some (.int .i64 ((rd_T28 l0 (ji6)).f1))) (ds:=[]) (bm_ 0 8) jA rfl rfl ⟨(zz BK487.out 0).trans rfl,(zz BK487.out 1).trans rfl,((HB.out.cell (zl w _ hw488_0)).trans hw488_0),((HB.out.cell (zl w _ hw488_1)).trans hw488_1)⟩ (fun hHeld=>?_);refine with_tabW Ff.tab5 Ff.bits5 (fun HT_ HW_=>?_);generalize wr.drew=w13 at BK487 HB hx488_0 hx488_1 hHeld ⊢;refine pure_ (i:=0) (N:=some 24) (v:=?_) (a':=?_) (bm_ 1 8) rfl rfl (any_of HT_.out jA) (fun _ _ _ h=>h) (Or.inl ⟨by rfl,?_⟩) ?_ ?_;rotate_left;exact jb;rotate_left;exact jc
      refine pure_ (i:=1) (N:=some 25) (v:=?_) (a':=?_) (bm_ 2 8) rfl rfl (any_of HT_.out jA) (fun _ _ _ h=>h) (Or.inl ⟨by rfl,?_⟩) ?_ ?_;rotate_left;exact jb;rotate_left;exact jc
      refine pure_ (i:=2) (N:=some 26) (v:=?_) (a':=?_) (bm_ 3 8) rfl rfl (any_of HT_.out jA) (fun _ _ _ h=>h) (Or.inl ⟨by rfl,?_⟩) ?_ ?_;rotate_left;exact jb;rotate_left;exact jc
      refine pure_ (i:=3) (N:=some 27) (v:=?_) (a':=?_) (bm_ 4 8) rfl rfl (any_of HT_.out jA) (fun _ _ _ h=>h) (Or.inl ⟨by rfl,?_⟩) ?_ ?_;rotate_left;exact jb;rotate_left;exact jc
      refine take_ (i:=4) (N:=some 28) (v:=?_) (a':=?_) (bm_ 5 8) rfl rfl (yo HT_.out HW_.out jA) (fun _ _ _ h=>h) (Or.inl ⟨by rfl,?_⟩) hHeld ?_ ?_;rotate_left
      ·
       rintro w' ⟨s0,s1,s2,s3⟩
       go_simp
       with_reducible rfl
      rotate_left
      exact jc
      refine take_ (i:=5) (N:=some 29) (v:=?_) (a':=?_) (bm_ 6 8) rfl rfl (yo HT_.out HW_.out jA) (fun _ _ _ h=>h) (Or.inl ⟨by rfl,?_⟩) hHeld ?_ ?_;rotate_left
      ·
       rintro w' ⟨s0,s1,s2,s3⟩
       go_simp
       with_reducible rfl
      rotate_left
      exact jc
      refine one_ (i:=6) (N:=some 30) (bm_ 7 8) rfl rfl (one_of HT_.out jA) jB (fun K hK=>?_);refine goesv_ (.tmp 24) Try.func42 jA rfl #[.agg #[.string ((rd_T28 l0 (ji6)).f0),.int .i64 ((rd_T28 l0 (ji6)).f1)],.agg #[.string a1_0,.int .i64 a1_1]] (by rfl) rfl rfl (by rfl) jC6 ?_
      with_reducible refine (Fm.calls k1  ((rd_T28 l0 (ji6)).f0) ((rd_T28 l0 (ji6)).f1) a1_0 a1_1 t489 _ A9.out).mono ?_
      rintro e w14 ⟨rfl,hb⟩;refine ⟨_,rfl,?_⟩;replace BK487:=zh (cD BK487.out jA4 hb);replace HB:=zh (zC jAd hb);(try clear hb);(try clear hb2);(try clear hk);(try clear hi);refine hK.out _ _ ⟨(zz BK487.out 0).trans rfl,(zz BK487.out 1).trans rfl,((HB.out.cell (zl w _ hw488_0)).trans hw488_0),((HB.out.cell (zl w _ hw488_1)).trans hw488_1)⟩ (fun hHeld=>?_);clear hK K;refine norm_ (a':=?_) ?_ ?_;rotate_left
      ·
       show Act.put _ (some 30) _=_
       simp only [Act.put,zi,zj,zk,zG,zH]
       rfl
      refine pure_ (i:=7) (N:=some 31) (v:=?_) (a':=?_) (bm_ 8 8) rfl rfl (any_of HT_.out jA) (fun _ _ _ h=>h) (Or.inl ⟨by rfl,?_⟩) ?_ ?_;rotate_left;exact jb;rotate_left;exact jc
      refine done_ (done_of HT_.out jA) ?_
      try go_wp2
      go_roundg k1
      case measure=>have:=HK1.out;omega
      case rel=>exact ⟨(x9_1),(ji6),jE,jC7,H',⟨jR⟩,⟨jA4⟩,⟨jAd⟩⟩
     rw [if_neg c8] at H;exact absurd H (by simp)
    rw [if_neg c7] at H;exact absurd H (by simp)
   rw [if_neg c5] at H;have c5b0 : decide (x9_1<x10_1)=false:=decide_eq_false c5;clear c5
   by_cases c15 : x9_1<(l0.length : Int)
   ·
    rw [if_pos c15] at H
    have c15b0 : decide (x9_1<(l0.length : Int))=true:=decide_eq_true c15;clear c15
    by_cases c16 : 0≤x9_1
    ·
     rw [if_pos c16] at H
     have c16b0 : decide (0≤x9_1)=true:=decide_eq_true c16;clear c16
     by_cases c17 : x9_1<(l0.length : Int)
     ·
      rw [if_pos c17] at H
      have c17b0 : decide (x9_1<(l0.length : Int))=true:=decide_eq_true c17;clear c17;replace H:=zT.mp H;obtain ⟨t491,A180,H⟩:=H;have A18:=zh A180;clear A180;simp only [Option.some.injEq,Prod.mk.injEq] at H;obtain ⟨rfl,rfl⟩:=H
      try go_wp2
      replace BK487:=zh (zf BK487.out);replace HB:=zh (zc HB.out);have p490 : 0≤(x9_1 : Int):=zy jC;have q490 : x9_1<(l0.length : Int):=zy jC;obtain ⟨ad490,e490,hx490_0,hx490_1⟩:=at_T28 HR0.out x9_1 p490 q490;have hw490_1:=hx490_1;have hw490_0:=hx490_0
      cases e490
      replace hx490_0:=(HB.out.cell (zl w _ hx490_0)).trans hx490_0;replace hx490_1:=(HB.out.cell (zl w _ hx490_1)).trans hx490_1;replace p490:=eq_true p490;replace q490:=eq_true q490;refine start_ (n:=16) (S:=fun w' => w'.cell? ⟨gb487,0,none⟩=some (.string a1_0)∧w'.cell? ⟨gb487,1,none⟩=some (.int .i64 a1_1)∧w'.cell? (ad490.add ((x9_1).toNat*2))=some (.string ((rd_T28 l0 x9_1).f0))∧w'.cell? ⟨(ad490.add ((x9_1).toNat*2)).block,(ad490.add ((x9_1).toNat*2)).off+1,none⟩=some (.int .i64 ((rd_T28 l0 x9_1).f1))) (ds:=[]) (bm_ 0 16) jA rfl rfl ⟨(zz BK487.out 0).trans rfl,(zz BK487.out 1).trans rfl,((HB.out.cell (zl w _ hw490_0)).trans hw490_0),((HB.out.cell (zl w _ hw490_1)).trans hw490_1)⟩ (fun hHeld=>?_);refine with_tabW Ff.tab8 Ff.bits8 (fun HT_ HW_=>?_);generalize wr.drew=w19 at BK487 HB hx490_0 hx490_1 hHeld ⊢;refine pure_ (i:=0) (N:=some 35) (v:=?_) (a':=?_) (bm_ 1 16) rfl rfl (any_of HT_.out jA) (fun _ _ _ h=>h) (Or.inl ⟨by rfl,?_⟩) ?_ ?_;rotate_left;exact jb;rotate_left;exact jc
      refine pure_ (i:=1) (N:=some 36) (v:=?_) (a':=?_) (bm_ 2 16) rfl rfl (any_of HT_.out jA) (fun _ _ _ h=>h) (Or.inl ⟨by rfl,?_⟩) ?_ ?_;rotate_left;exact jb;rotate_left;exact jc
      refine pure_ (i:=2) (N:=some 37) (v:=?_) (a':=?_) (bm_ 3 16) rfl rfl (any_of HT_.out jA) (fun _ _ _ h=>h) (Or.inl ⟨by rfl,?_⟩) ?_ ?_;rotate_left;exact jb;rotate_left;exact jc
      refine pure_ (i:=3) (N:=some 38) (v:=?_) (a':=?_) (bm_ 4 16) rfl rfl (any_of HT_.out jA) (fun _ _ _ h=>h) (Or.inl ⟨by rfl,?_⟩) ?_ ?_;rotate_left;exact jb;rotate_left;exact jc
      refine pure_ (i:=4) (N:=some 39) (v:=?_) (a':=?_) (bm_ 5 16) rfl rfl (any_of HT_.out jA) (fun _ _ _ h=>h) (Or.inl ⟨by rfl,?_⟩) ?_ ?_;rotate_left;exact jb;rotate_left;exact jc
      refine pure_ (i:=5) (N:=some 40) (v:=?_) (a':=?_) (bm_ 6 16) rfl rfl (any_of HT_.out jA) (fun _ _ _ h=>h) (Or.inl ⟨by rfl,?_⟩) ?_ ?_;rotate_left;exact jb;rotate_left;exact jc
      refine pure_ (i:=6) (N:=some 41) (v:=?_) (a':=?_) (bm_ 7 16) rfl rfl (any_of HT_.out jA) (fun _ _ _ h=>h) (Or.inl ⟨by rfl,?_⟩) ?_ ?_;rotate_left;exact jb;rotate_left;exact jc
      refine pure_ (i:=7) (N:=some 42) (v:=?_) (a':=?_) (bm_ 8 16) rfl rfl (any_of HT_.out jA) (fun _ _ _ h=>h) (Or.inl ⟨by rfl,?_⟩) ?_ ?_;rotate_left;exact jb;rotate_left;exact jc
      refine pure_ (i:=8) (N:=some 43) (v:=?_) (a':=?_) (bm_ 9 16) rfl rfl (any_of HT_.out jA) (fun _ _ _ h=>h) (Or.inl ⟨by rfl,?_⟩) ?_ ?_;rotate_left;exact jb;rotate_left;exact jc
      refine take_ (i:=9) (N:=some 44) (v:=?_) (a':=?_) (bm_ 10 16) rfl rfl (yo HT_.out HW_.out jA) (fun _ _ _ h=>h) (Or.inl ⟨by rfl,?_⟩) hHeld ?_ ?_;rotate_left
      ·
       rintro w' ⟨s0,s1,s2,s3⟩
       go_simp
       with_reducible rfl
      rotate_left
      exact jc
      refine take_ (i:=10) (N:=some 45) (v:=?_) (a':=?_) (bm_ 11 16) rfl rfl (yo HT_.out HW_.out jA) (fun _ _ _ h=>h) (Or.inl ⟨by rfl,?_⟩) hHeld ?_ ?_;rotate_left
      ·
       rintro w' ⟨s0,s1,s2,s3⟩
       go_simp
       with_reducible rfl
      rotate_left
      exact jc
      refine one_ (i:=11) (N:=some 46) (bm_ 12 16) rfl rfl (one_of HT_.out jA) jB (fun K hK=>?_);refine goesv_ (.tmp 40) Try.func42 jA rfl #[.agg #[.string ((rd_T28 l0 x9_1).f0),.int .i64 ((rd_T28 l0 x9_1).f1)],.agg #[.string a1_0,.int .i64 a1_1]] (by rfl) rfl rfl (by rfl) jF ?_
      with_reducible refine (Fm.calls k1  ((rd_T28 l0 x9_1).f0) ((rd_T28 l0 x9_1).f1) a1_0 a1_1 t491 _ A18.out).mono ?_
      rintro e w20 ⟨rfl,hb⟩;refine ⟨_,rfl,?_⟩;replace BK487:=zh (cD BK487.out jA4 hb);replace HB:=zh (zC jAd hb);(try clear hb);(try clear hb2);(try clear hk);(try clear hi);refine hK.out _ _ ⟨(zz BK487.out 0).trans rfl,(zz BK487.out 1).trans rfl,((HB.out.cell (zl w _ hw490_0)).trans hw490_0),((HB.out.cell (zl w _ hw490_1)).trans hw490_1)⟩ (fun hHeld=>?_);clear hK K;refine norm_ (a':=?_) ?_ ?_;rotate_left
      ·
       show Act.put _ (some 46) _=_
       simp only [Act.put,zi,zj,zk,zG,zH]
       rfl
      refine pure_ (i:=12) (N:=some 47) (v:=?_) (a':=?_) (bm_ 13 16) rfl rfl (any_of HT_.out jA) (fun _ _ _ h=>h) (Or.inl ⟨by rfl,?_⟩) ?_ ?_;rotate_left;exact jb;rotate_left;exact jc
      refine pure_ (i:=13) (N:=some 48) (v:=?_) (a':=?_) (bm_ 14 16) rfl rfl (any_of HT_.out jA) (fun _ _ _ h=>h) (Or.inl ⟨by rfl,?_⟩) ?_ ?_;rotate_left;exact jb;rotate_left;exact jc
      refine pure_ (i:=14) (N:=some 6) (v:=?_) (a':=?_) (bm_ 15 16) rfl rfl (any_of HT_.out jA) (fun _ _ _ h=>h) (Or.inl ⟨by rfl,?_⟩) ?_ ?_;rotate_left;exact jb;rotate_left;exact jc
      refine pure_ (i:=15) (N:=some 7) (v:=?_) (a':=?_) (bm_ 16 16) rfl rfl (any_of HT_.out jA) (fun _ _ _ h=>h) (Or.inl ⟨by rfl,?_⟩) ?_ ?_;rotate_left;exact jb;rotate_left;exact jc
      refine done_ (done_of HT_.out jA) ?_
      try go_wp2
      go_ret2
      exact ⟨jG,jAd⟩
     rw [if_neg c17] at H;exact absurd H (by simp)
    rw [if_neg c16] at H;exact absurd H (by simp)
   rw [if_neg c15] at H;have c15b0 : decide (x9_1<(l0.length : Int))=false:=decide_eq_false c15;clear c15;simp only [Option.some.injEq,Prod.mk.injEq] at H;obtain ⟨rfl,rfl⟩:=H
   try go_wp2
   replace BK487:=zh (zf BK487.out);replace HB:=zh (zc HB.out);refine start_ (n:=16) (S:=fun w' => True) (ds:=[]) (bm_ 0 16) jA rfl rfl trivial (fun hHeld=>?_);refine with_tabW Ff.tab8 Ff.bits8 (fun HT_ HW_=>?_);generalize wr.drew=w21 at BK487 HB hHeld ⊢;refine pure_ (i:=0) (N:=some 35) (v:=?_) (a':=?_) (bm_ 1 16) rfl rfl (any_of HT_.out jA) (fun _ _ _ h=>h) (Or.inl ⟨by rfl,?_⟩) ?_ ?_;rotate_left;exact jb;rotate_left;exact jc
   refine pure_ (i:=1) (N:=some 36) (v:=?_) (a':=?_) (bm_ 2 16) rfl rfl (any_of HT_.out jA) (fun _ _ _ h=>h) (Or.inl ⟨by rfl,?_⟩) ?_ ?_;rotate_left;exact jb;rotate_left;exact jc
   refine pure_ (i:=2) (N:=some 37) (v:=?_) (a':=?_) (bm_ 3 16) rfl rfl (any_of HT_.out jA) (fun _ _ _ h=>h) (Or.inl ⟨by rfl,?_⟩) ?_ ?_;rotate_left;exact jb;rotate_left;exact jc
   refine pure_ (i:=3) (N:=some 38) (v:=?_) (a':=?_) (bm_ 4 16) rfl rfl (any_of HT_.out jA) (fun _ _ _ h=>h) (Or.inl ⟨by rfl,?_⟩) ?_ ?_;rotate_left;exact jb;rotate_left;exact jc
   refine pure_ (i:=4) (N:=some 39) (v:=?_) (a':=?_) (bm_ 5 16) rfl rfl (any_of HT_.out jA) (fun _ _ _ h=>h) (Or.inl ⟨by rfl,?_⟩) ?_ ?_;rotate_left;exact jb;rotate_left;exact jc
   refine pure_ (i:=5) (N:=some 40) (v:=undef) (a':=?_) (bm_ 6 16) rfl rfl (any_of HT_.out jA) (fun _ _ _ h=>h) (Or.inr ⟨by rfl,rfl⟩) ?_ ?_;rotate_left
   exact jc
   refine pure_ (i:=6) (N:=some 41) (v:=undef) (a':=?_) (bm_ 7 16) rfl rfl (any_of HT_.out jA) (fun _ _ _ h=>h) (Or.inr ⟨by rfl,rfl⟩) ?_ ?_;rotate_left
   exact jc
   refine pure_ (i:=7) (N:=some 42) (v:=undef) (a':=?_) (bm_ 8 16) rfl rfl (any_of HT_.out jA) (fun _ _ _ h=>h) (Or.inr ⟨by rfl,rfl⟩) ?_ ?_;rotate_left
   exact jc
   refine pure_ (i:=8) (N:=some 43) (v:=undef) (a':=?_) (bm_ 9 16) rfl rfl (any_of HT_.out jA) (fun _ _ _ h=>h) (Or.inr ⟨by rfl,rfl⟩) ?_ ?_;rotate_left
   exact jc
   refine pure_ (i:=9) (N:=some 44) (v:=undef) (a':=?_) (bm_ 10 16) rfl rfl (any_of HT_.out jA) (fun _ _ _ h=>h) (Or.inr ⟨by rfl,rfl⟩) ?_ ?_;rotate_left
   exact jc
   refine pure_ (i:=10) (N:=some 45) (v:=undef) (a':=?_) (bm_ 11 16) rfl rfl (any_of HT_.out jA) (fun _ _ _ h=>h) (Or.inr ⟨by rfl,rfl⟩) ?_ ?_;rotate_left
   exact jc
   refine pure_ (i:=11) (N:=some 46) (v:=undef) (a':=?_) (bm_ 12 16) rfl rfl (any_of HT_.out jA) (fun _ _ _ h=>h) (Or.inr ⟨by rfl,rfl⟩) ?_ ?_;rotate_left
   exact jc
   refine pure_ (i:=12) (N:=some 47) (v:=undef) (a':=?_) (bm_ 13 16) rfl rfl (any_of HT_.out jA) (fun _ _ _ h=>h) (Or.inr ⟨by rfl,rfl⟩) ?_ ?_;rotate_left
   exact jc
   refine pure_ (i:=13) (N:=some 48) (v:=?_) (a':=?_) (bm_ 14 16) rfl rfl (any_of HT_.out jA) (fun _ _ _ h=>h) (Or.inl ⟨by rfl,?_⟩) ?_ ?_;rotate_left;exact jb;rotate_left;exact jc
   refine pure_ (i:=14) (N:=some 6) (v:=?_) (a':=?_) (bm_ 15 16) rfl rfl (any_of HT_.out jA) (fun _ _ _ h=>h) (Or.inl ⟨by rfl,?_⟩) ?_ ?_;rotate_left;exact jb;rotate_left;exact jc
   refine pure_ (i:=15) (N:=some 7) (v:=?_) (a':=?_) (bm_ 16 16) rfl rfl (any_of HT_.out jA) (fun _ _ _ h=>h) (Or.inl ⟨by rfl,?_⟩) ?_ ?_;rotate_left;exact jb;rotate_left;exact jc
   refine done_ (done_of HT_.out jA) ?_
   try go_wp2
   go_ret2
   exact ⟨jG,jAd⟩


def Fz.f (k : Nat) (l0_0 : List (S60)) (a0_1 : Int) (a1_0 : ByteArray) (a1_1 : Int) : Option (Int×Int×Bool):=(Fc.f k l0_0 a0_1 a1_0 a1_1).bind fun t494=>(if 0≤t494 then (if t494<(l0_0.length : Int) then ((Ff.f k ((rd_T60 l0_0 t494).f1) a1_0 a1_1).bind fun bt496=>(some (t494,bt496.1,bt496.2))) else (none)) else (none))
theorem Fz.mono : ∀ a0 a1 a2 a3 k,LeO (Fz.f k a0 a1 a2 a3) (Fz.f (k+1) a0 a1 a2 a3):=by
 intro a0 a1 a2 a3 k;unfold Fz.f
 repeat' first|(with_reducible first|exact Fc.mono _ _ _ _ _|exact Ff.mono _ _ _ _|exact zQ _|exact zN _|refine zP ?_ ?_|refine zO ?_ (fun _=>?_))|refine zP ?_ ?_|refine zO ?_ (fun _=>?_)
def Fz.T2 : Bool×List (List Nat×List Nat):=(true,[([],[]),([0],[0]),([],[]),([1,2],[1,2]),([3],[3]),([4],[4]),([],[]),([5,6],[5,6]),([7],[7]),([8],[8]),([8],[8]),([9,7,0,1,2,3,4,5,6,7,8,9],[9]),([10,11,0,1,2,3,4,5,6,7,8,9,10,11],[10])])
def Fz.B2 : List Nat:=[0,1,0,7,15,31,0,127,255,511,511,1023,4095]
theorem Fz.tab2 : rtab .any (opsOf Try.f55 2)=Fz.T2:=by kernel_rfl
theorem Fz.bits2 : waitsOk Fz.T2.2 Fz.B2=true:=by kernel_rfl
set_option maxHeartbeats 8000000 in
set_option maxRecDepth 100000 in
theorem Fz.calls (k : Nat) (A0_0 : Option Addr) (c0_0 : Nat) (l0_0 : List (S60)) (a0_1 : Int) (a1_0 : ByteArray) (a1_1 : Int) (r1 : Int) (r2 : Int) (r3 : Bool) (w : World) (hr0_0 : Kd.C k60 w A0_0 l0_0.length l0_0) (hc0_0 : l0_0.length≤c0_0) (h : Fz.f k l0_0 a0_1 a1_0 a1_1=some (r1,r2,r3)) :
  Calls Try.prog 55 #[.agg #[.slice A0_0 l0_0.length c0_0,.int .i64 a0_1],.agg #[.string a1_0,.int .i64 a1_1]] w fun e w' => e = .returned (.tuple #[.int .i64 r1,.int .i64 r2,.bool r3])∧Below w.heap.size w w':=by
 have hu25:=Try.underlying25;have hu28:=Try.underlying28;have HR0_0:=zh hr0_0;have HC0_0:=zh hc0_0;clear hr0_0 hc0_0;have HB:=zh (Below.refl w.heap.size w);have H : ((Fc.f k l0_0 a0_1 a1_0 a1_1).bind fun t494=>(if 0≤t494 then (if t494<(l0_0.length : Int) then ((Ff.f k ((rd_T60 l0_0 t494).f1) a1_0 a1_1).bind fun bt496=>(some (t494,bt496.1,bt496.2))) else (none)) else (none)))=some (r1,r2,r3):=h;clear h;replace H:=zT.mp H;obtain ⟨t494,A30,H⟩:=H;have A3:=zh A30;clear A30
 by_cases c4 : 0≤t494
 ·
  rw [if_pos c4] at H
  have c4b0 : decide (0≤t494)=true:=decide_eq_true c4;clear c4
  by_cases c5 : t494<(l0_0.length : Int)
  ·
   rw [if_pos c5] at H
   have c5b0 : decide (t494<(l0_0.length : Int))=true:=decide_eq_true c5;clear c5;replace H:=zT.mp H;obtain ⟨⟨t496,t497⟩,A60,H⟩:=H;have A6:=zh A60;clear A60;simp only [Option.some.injEq,Prod.mk.injEq] at H;obtain ⟨rfl,rfl,rfl⟩:=H
   go_enter Try.func55,Try.ntmps55
   try go_wp2_with (first|((with_reducible refine zK (N:=2) rfl ?_);refine zI ?hg (N:=2) ?hd (cs:=#[.slice A0_0 l0_0.length c0_0,.int .i64 a0_1]) (t:=25) ?hr ?_;(case hd=>rfl);(case hg=>rfl);(case hr=>go_simp <;> rfl);intro gb492 hg w7 hbox hb;have BK492:=zh (hbox);have hH_:=cH jH hb hg;have GW492:=zh hH_.1;have GE492:=GW492;replace HB:=zh hH_.2;clear hb hbox hg hH_)|((with_reducible refine zK (N:=3) rfl ?_);refine zI ?hg (N:=3) ?hd (cs:=#[.string a1_0,.int .i64 a1_1]) (t:=28) ?hr ?_;(case hd=>rfl);(case hg=>rfl);(case hr=>go_simp <;> rfl);intro gb493 hg w8 hbox hb;have BK493:=zh (hbox);have hH_:=cH (by repeat (with_reducible first|exact HB.out|apply za|apply zb|apply zc|refine zd ?_ GE492.out)) hb hg;have GW493:=zh hH_.1;have GE493:=GW493;replace HB:=zh hH_.2;have NB492_493:=zh ((by rw [hg];exact yc (yi (g:=gb492) (o:=.cells #[.slice A0_0 l0_0.length c0_0,.int .i64 a0_1] 25 (0,0)) jBh) : gb492≠gb493));have NB493_492:=zh NB492_493.out.symm;replace BK492:=zh (cD BK492.out jBh hb);clear hb hbox hg hH_;have hnb9:=NB492_493.out;have hnc9:=NB493_492.out;obtain ⟨hcz10_0,hcz10_1,hfz10_0,hfz10_1⟩:=cB2 BK492.out;obtain ⟨hcz11_0,hcz11_1,hfz11_0,hfz11_1⟩:=cB2 BK493.out)|((with_reducible refine zJ (f:=28) rfl ?_);refine yj (some 12) rfl rfl Try.func28 jA rfl #[.agg #[.slice A0_0 l0_0.length c0_0,.int .i64 a0_1],.agg #[.string a1_0,.int .i64 a1_1]] rfl jF ?_;(with_reducible refine (Fc.calls k  _ _ l0_0 a0_1 a1_0 a1_1 t494 _ ?side1 ?side2 A3.out).mono ?_);(case side1=>repeat (first|exact (Kd.C_below HR0_0.out HB.out)|(with_reducible refine Kd.C_alloc ?_ _)|(with_reducible refine Kd.C_drewN ?_ _)|(with_reducible refine Kd.C_drew ?_)));(case side2=>exact HC0_0.out);rintro e w12 ⟨rfl,hb⟩;refine ⟨_,rfl,?_⟩;replace BK492:=zh (cD BK492.out jBh hb);replace BK493:=zh (cD BK493.out jC8 hb);replace HB:=zh (zC jCE hb);(try clear hb);(try clear hb2);(try clear hk);(try clear hi)))
   replace BK492:=zh (zf BK492.out);replace BK493:=zh (zf BK493.out);replace HB:=zh (zc HB.out);have p495 : 0≤(t494 : Int):=zy jC;have q495 : t494<(l0_0.length : Int):=zy jC;obtain ⟨ad495,A495_1,c495_1,e495,hx495_0,hx495_1,hl495_1,hi495_1⟩:=at_T60 HR0_0.out t494 p495 q495;have hw495_1:=hx495_1;have hw495_0:=hx495_0
   cases e495
   replace hx495_0:=(HB.out.cell (zl w _ hx495_0)).trans hx495_0;replace hx495_1:=(HB.out.cell (zl w _ hx495_1)).trans hx495_1;have HR495_1:=zh hi495_1;have HC495_1:=zh hl495_1;clear hi495_1 hl495_1;replace p495:=eq_true p495;replace q495:=eq_true q495;refine start_ (n:=13) (S:=fun w' => w'.cell? ⟨gb492,0,none⟩=some (.slice (some ad495) l0_0.length c0_0)∧w'.cell? ⟨gb492,1,none⟩=some (.int .i64 a0_1)∧w'.cell? ⟨gb493,0,none⟩=some (.string a1_0)∧w'.cell? ⟨gb493,1,none⟩=some (.int .i64 a1_1)∧w'.cell? (ad495.add ((t494).toNat*2))=some (.int .i64 ((rd_T60 l0_0 t494).f0))∧w'.cell? ⟨(ad495.add ((t494).toNat*2)).block,(ad495.add ((t494).toNat*2)).off+1,none⟩=some (.slice A495_1 ((rd_T60 l0_0 t494).f1).length c495_1)) (ds:=[]) (bm_ 0 13) jA rfl rfl ⟨(zz BK492.out 0).trans rfl,(zz BK492.out 1).trans rfl,(zz BK493.out 0).trans rfl,(zz BK493.out 1).trans rfl,((HB.out.cell (zl w _ hw495_0)).trans hw495_0),((HB.out.cell (zl w _ hw495_1)).trans hw495_1)⟩ (fun hHeld=>?_);refine with_tabW Fz.tab2 Fz.bits2 (fun HT_ HW_=>?_);generalize w12.drew=w13 at BK492 BK493 HB HR495_1 hx495_0 hx495_1 hHeld ⊢;refine pure_ (i:=0) (N:=some 14) (v:=?_) (a':=?_) (bm_ 1 13) rfl rfl (any_of HT_.out jA) (fun _ _ _ h=>h) (Or.inl ⟨by rfl,?_⟩) ?_ ?_;rotate_left;exact jb;rotate_left;exact jc
   refine pure_ (i:=2) (N:=some 16) (v:=?_) (a':=?_) #[true,false,true,false,false,false,false,false,false,false,false,false,false] rfl rfl (any_of HT_.out jA) (fun _ _ _ h=>h) (Or.inl ⟨by rfl,?_⟩) ?_ ?_;rotate_left;exact jb;rotate_left;exact jc
   refine take_ (i:=1) (N:=some 15) (v:=?_) (a':=?_) (bm_ 3 13) rfl rfl (yo HT_.out HW_.out jA) (fun _ _ _ h=>h) (Or.inl ⟨by rfl,?_⟩) hHeld ?_ ?_;rotate_left
   ·
    rintro w' ⟨s0,s1,s2,s3,s4,s5⟩
    go_simp
    with_reducible rfl
   rotate_left
   exact jc
   refine pure_ (i:=3) (N:=some 17) (v:=?_) (a':=?_) (bm_ 4 13) rfl rfl (any_of HT_.out jA) (fun _ _ _ h=>h) (Or.inl ⟨by rfl,?_⟩) ?_ ?_;rotate_left;exact jb;rotate_left;exact jc
   refine pure_ (i:=4) (N:=some 18) (v:=?_) (a':=?_) (bm_ 5 13) rfl rfl (any_of HT_.out jA) (fun _ _ _ h=>h) (Or.inl ⟨by rfl,?_⟩) ?_ ?_;rotate_left;exact jb;rotate_left;exact jc
   refine take_ (i:=5) (N:=some 19) (v:=?_) (a':=?_) (bm_ 6 13) rfl rfl (yo HT_.out HW_.out jA) (fun _ _ _ h=>h) (Or.inl ⟨by rfl,?_⟩) hHeld ?_ ?_;rotate_left
   ·
    rintro w' ⟨s0,s1,s2,s3,s4,s5⟩
    go_simp
    with_reducible rfl
   rotate_left
   exact jc
   refine take_ (i:=6) (N:=some 20) (v:=?_) (a':=?_) (bm_ 7 13) rfl rfl (yo HT_.out HW_.out jA) (fun _ _ _ h=>h) (Or.inl ⟨by rfl,?_⟩) hHeld ?_ ?_;rotate_left
   ·
    rintro w' ⟨s0,s1,s2,s3,s4,s5⟩
    go_simp
    with_reducible rfl
   rotate_left
   exact jc
   refine one_ (i:=7) (N:=some 21) (bm_ 8 13) rfl rfl (one_of HT_.out jA) jB (fun K hK=>?_);refine goes_ Try.func66 jA rfl #[.slice A495_1 ((rd_T60 l0_0 t494).f1).length c495_1,.agg #[.string a1_0,.int .i64 a1_1],.func (.func 42) #[] #[]] (by rfl) rfl rfl jF ?_
   with_reducible refine (Ff.calls k  _ _ ((rd_T60 l0_0 t494).f1) a1_0 a1_1  t496 t497 _ ?side1 ?side2 A6.out).mono ?_
   (case side1=>repeat (first|exact (Kd.C_below HR495_1.out HB.out)|(with_reducible refine Kd.C_alloc ?_ _)|(with_reducible refine Kd.C_drewN ?_ _)|(with_reducible refine Kd.C_drew ?_)))
   (case side2=>exact HC495_1.out)
   rintro e w14 ⟨rfl,hb⟩;refine ⟨_,rfl,?_⟩;replace BK492:=zh (cD BK492.out jBh hb);replace BK493:=zh (cD BK493.out jC8 hb);replace HB:=zh (zC jCE hb);(try clear hb);(try clear hb2);(try clear hk);(try clear hi);refine hK.out _ _ ⟨(zz BK492.out 0).trans rfl,(zz BK492.out 1).trans rfl,(zz BK493.out 0).trans rfl,(zz BK493.out 1).trans rfl,((HB.out.cell (zl w _ hw495_0)).trans hw495_0),((HB.out.cell (zl w _ hw495_1)).trans hw495_1)⟩ (fun hHeld=>?_);clear hK K;refine norm_ (a':=?_) ?_ ?_;rotate_left
   ·
    show Act.put _ (some 21) _=_
    simp only [Act.put,zi,zj,zk,zG,zH]
    rfl
   refine pure_ (i:=8) (N:=some 13) (v:=?_) (a':=?_) (bm_ 9 13) rfl rfl (any_of HT_.out jA) (fun _ _ _ h=>h) (Or.inl ⟨by rfl,?_⟩) ?_ ?_;rotate_left;exact jb;rotate_left;exact jc
   refine pure_ (i:=9) (N:=some 22) (v:=?_) (a':=?_) (bm_ 10 13) rfl rfl (any_of HT_.out jA) (fun _ _ _ h=>h) (Or.inl ⟨by rfl,?_⟩) ?_ ?_;rotate_left;exact jb;rotate_left;exact jc
   refine pure_ (i:=10) (N:=some 23) (v:=?_) (a':=?_) (bm_ 11 13) rfl rfl (any_of HT_.out jA) (fun _ _ _ h=>h) (Or.inl ⟨by rfl,?_⟩) ?_ ?_;rotate_left;exact jb;rotate_left;exact jc
   refine pure_ (i:=11) (N:=some 8) (v:=?_) (a':=?_) (bm_ 12 13) rfl rfl (any_of HT_.out jA) (fun _ _ _ h=>h) (Or.inl ⟨by rfl,?_⟩) ?_ ?_;rotate_left;exact jb;rotate_left;exact jc
   refine pure_ (i:=12) (N:=some 9) (v:=?_) (a':=?_) (bm_ 13 13) rfl rfl (any_of HT_.out jA) (fun _ _ _ h=>h) (Or.inl ⟨by rfl,?_⟩) ?_ ?_;rotate_left;exact jb;rotate_left;exact jc
   refine done_ (done_of HT_.out jA) ?_
   try go_wp2
   go_ret3
   exact ⟨jG,jCE⟩
  rw [if_neg c5] at H;exact absurd H (by simp)
 rw [if_neg c4] at H;exact absurd H (by simp)


theorem F00.R_behind {α : Type} {d : Kd α} {e base g n cap : Nat} {ok : Nat→Prop} {W : World} {xs : List α}
  (h : d.R e W base ok (.slice (some ⟨g,0,none⟩) n cap) xs) (o : Nat) (seg : List Value) (hno : n*d.sz≤o) (hs : o+seg.length≤cap*d.sz) :
  d.R e (W.setCells g o seg) base ok (.slice (some ⟨g,0,none⟩) n cap) xs∧W.grownBy (W.setCells g o seg) (some g):=by
 obtain ⟨hn,hnc,_⟩:=yh h;obtain ⟨hok,inner,ho,hr⟩:=h;obtain ⟨ho1,ho2⟩:=ho;rcases ho2 with ⟨hv,_⟩|⟨g',cap',cur,hv,hb,hh,hnc',hcm,hcs,ht⟩
 ·
  cases hv
 injection hv with ha _ hc;injection ha with ha;injection ha with hg;subst hg;subst hc;have hfit : o+seg.length≤cur.size:=by rw [hcs];omega
 obtain ⟨cur',h3,h4,h5⟩:=setCells_row seg o W cur hh hfit;obtain ⟨s1,s2,s3,s4⟩:=setCells_same g seg o W;have hfar : ∀ k,k≠g→(W.setCells g o seg).heap[k]? = W.heap[k]?:=fun k hk=>setCells_far seg _ k hk;have hgo : some g=(Value.slice (some ⟨g,0,none⟩) n cap).ownBlock:=by simp [Value.ownBlock]
 refine ⟨⟨hok,inner,⟨ho1,.inr ⟨g,cap,cur',by rw [hn],hb,h3,hnc',hcm,by rw [h4,hcs],?_⟩⟩,?_⟩,
  ⟨s1,s2,s3,by rw [s4];exact ye _,fun k _ hk=>hfar k (fun he=>hk (by rw [he]))⟩⟩
 ·
  rw [← ht]
  apply List.ext_getElem?
  intro q;rw [List.getElem?_take,List.getElem?_take,h5]
  by_cases hq : q<xs.length*d.sz
  ·
   rw [if_pos hq,if_pos hq,seg_get cur.toList seg o jCF q,if_pos (by rw [← hn] at hq;omega)]
  rw [if_neg hq,if_neg hq]
 exact hr.imp_ (fun x cs hM=>Kd.M_step hM (fun k hk _=>hfar k (fun he=>hk.2 (by rw [he];exact hgo))))
theorem F00.run_clear {P : Program} (w : World) (t e ty : TypeId) (z : Value) (ht : P.underlying t=some (.slice e)) (hv : ∀ w,(zeroValue e).run P w = .ok z w) (h1 : ∀ i,i<z.cells.size→(z.cells[i]!).oneCell' = true) (b o n c : Nat) (hn : 0<n)
  (hc : ∀ j,j<n*z.cells.size→(w.cell? ⟨b,o+j,none⟩).isSome=true) (hf : ∀ j,j<n*z.cells.size→w.frozen? ⟨b,o+j,none⟩=false) :
  (Builtin.clear_ #[t] ty #[.slice (some ⟨b,o,none⟩) n c]).run P w = .ok (.tuple #[]) (w.setCells b o (Builtin.zeroCells z.cells n).toList):=by
 have hlen : (Builtin.zeroCells z.cells n).toList.length=n*z.cells.size:=by simp [Builtin.zeroCells]
 have hst:=run_storeCells_cells (P:=P) b o (Builtin.zeroCells z.cells n).toList 0 w (by rw [hlen];simpa using hc) (by rw [hlen];simpa using hf) (by
  intro v hv';simp only [Builtin.zeroCells,Array.toList_map,Array.toList_range,List.mem_map,List.mem_range] at hv';obtain ⟨i,hi,rfl⟩:=hv'
  have hz : 0<z.cells.size:=by
   rcases Nat.eq_zero_or_pos z.cells.size with h|h
   ·
    rw [h] at hi;simp at hi
   exact h
  exact h1 _ (Nat.mod_lt _ hz))
 simp only [Nat.add_zero] at hst;obtain ⟨m,rfl⟩ : ∃ m,n=m+1:=⟨n - 1,jD⟩;simp [Builtin.clear_,run_underlying ht,hv,hst]
theorem F00.zeros_length (z : Array Value) (n : Nat) : (Builtin.zeroCells z n).toList.length=n*z.size:=by simp [Builtin.zeroCells]
theorem F00.there {α : Type} {d : Kd α} {e base g n cap : Nat} {ok : Nat→Prop} {W : World} {xs : List α} (h : d.R e W base ok (.slice (some ⟨g,0,none⟩) n cap) xs) (j : Nat) (hj : j<cap*d.sz) : (W.cell? ⟨g,j,none⟩).isSome=true∧W.frozen? ⟨g,j,none⟩=false:=by
 obtain ⟨_,inner,⟨_,h⟩,_⟩:=h;rcases h with ⟨hv,_⟩|⟨g',cap',cur,hv,_,hh,_,_,hcs,_⟩
 ·
  cases hv
 injection hv with ha _ hc;injection ha with ha;injection ha with hg;subst hg;subst hc;refine ⟨?_,zA hh j⟩;rw [zz hh,Array.getElem?_eq_getElem (by rw [hcs];exact hj)];rfl
def F00.f (l0 : List S28) (a1 : Int) (a2 : Int) : Option (List S28):=if 0≤a1 then (if a1<(l0.length : Int) then (if a2=a1+1 then (if l0.length≤4611686018427387904 then (some (l0.eraseIdx a1.toNat)) else none) else none) else none) else none
set_option maxHeartbeats 4000000 in
set_option maxRecDepth 100000 in
theorem F00.calls (P0_ : Nat→Prop) (u9000_ : Value) (l0 : List S28) (a1 : Int) (a2 : Int) (r : List S28) (w0 w : World) (hB : Below w0.heap.size w0 w) (ho0 : Kd.R k28 28 w w0.heap.size P0_ u9000_ l0) (h : F00.f l0 a1 a2=some r) :
  Calls Try.prog 58 #[u9000_,.int .i64 a1,.int .i64 a2] w fun e w' => ∃ v0_ : Value,e = .returned (v0_)∧Kd.R k28 28 w' w0.heap.size (fun k_=>(P0_ k_∨w.heap.size≤k_)) v0_ r∧Below w0.heap.size w0 w' ∧ Kept w w' (fun k_=>P0_ k_):=by
 unfold F00.f at h
 by_cases h0 : 0≤a1
 case neg=>rw [if_neg h0] at h;cases h
 rw [if_pos h0] at h
 by_cases h1 : a1<(l0.length : Int)
 case neg=>rw [if_neg h1] at h;cases h
 rw [if_pos h1] at h
 by_cases h2 : a2=a1+1
 case neg=>rw [if_neg h2] at h;cases h
 rw [if_pos h2] at h
 by_cases h3 : l0.length≤4611686018427387904
 case neg=>rw [if_neg h3] at h;cases h
 rw [if_pos h3] at h;obtain rfl:=zU h;clear h;obtain ⟨i,rfl⟩ : ∃ i : Nat,a1=(i : Int):=⟨a1.toNat,jD⟩;subst h2;have hil : i<l0.length:=by omega
 rw [Int.toNat_natCast];obtain ⟨g,c,rfl,gb,gl,cl,HGc⟩:=Kd.R_form ho0 jD;obtain ⟨hn,hnc,hC⟩:=yh ho0
 have hsz : (Try.prog.info? 28).map (·.size)=some 2:=by have:=info28;cases hq : Try.prog.info? 28 with
  | none=>rw [hq] at this;cases this
  | some i0=>rw [hq] at this;simp at this;simp [this.2.1]
 have hdc : w.drew.heap=w.heap:=rfl;have mixed : Try.prog.follows Departure.mixedOrders=true:=by rfl
 have hi0 : (0 : Int)≤(i : Int):=Int.natCast_nonneg i;have hi1 : (i : Int)≤(l0.length : Int):=by omega
 have hi2 : (i : Int)≤(c : Int):=by omega
 have hi3 : (0 : Int)≤(i : Int)+1:=by omega
 have hi4 : (i : Int)+1≤(l0.length : Int):=by omega
 have hi5 : (l0.length : Int)≤(c : Int):=by omega
 have hi6 : (i : Int)≤(i : Int)+1:=by omega
 have hi7 : (i : Int)+1≤(c : Int):=by omega
 have htn : ((i : Int)+1).toNat=i+1:=by omega
 have hne : ¬ ((i : Int)=(i : Int)+1):=by omega
 have hneb : ((i : Int) == (i : Int)+1)=false:=zY.mpr hne;have hci : ¬ (c=i):=by omega
 by_cases hc1 : c=i+1
 ·
  subst hc1
  go_enter Try.func58,Try.ntmps58
  go_wp2_with fail
  go_region_law_o (refine Kd.R_delete_step k28 (w0:=w0) w0.heap.size (by rfl) (.tmp 22) (.tmp 25) 33 28 (by rfl) Try.underlying33 hsz (g:=g) (n:=l0.length) (c:=i+1) (k:=i) (m:=l0.length - (i+1)) (c2:=0) (A:=some ⟨g,0,none⟩) jx jBi (by rw [if_pos rfl]) rfl (zo ho0) hil (below_drew hB) hB.size ?_;intro w1 hR1 hb1 hg1)
  have hg2 : w.grownBy w1 (some g):=⟨hg1.os,hg1.tape,hg1.output,hg1.size,hg1.block⟩
  have hcl : ∀ ty,(Builtin.clear_ #[33] ty #[.slice (some ⟨g,(l0.length - 1)*2,none⟩) (l0.length - (l0.length - 1)) (i+1 - (l0.length - 1))]).run Try.prog w1 = .ok (.tuple #[]) (w1.setCells g ((l0.length - 1)*2) (Builtin.zeroCells ((.agg #[(.string ⟨#[]⟩),(.int .i64 0)]) : Value).cells (l0.length - (l0.length - 1))).toList) :=
   fun ty=>F00.run_clear w1 33 28 ty (.agg #[(.string ⟨#[]⟩),(.int .i64 0)]) Try.underlying33 (fun w=>by rfl) (fun q hq=>by
    have hq' : q<2:=hq;obtain rfl|rfl : q=0∨q=1:=by omega
    ·
     rfl
    rfl) g ((l0.length - 1)*2) (l0.length - (l0.length - 1)) (i+1 - (l0.length - 1)) jD (fun q hq=>(F00.there hR1 _ (by have hq' : q<(l0.length - (l0.length - 1))*2:=hq;show _<(i+1)*2;omega)).1) (fun q hq=>(F00.there hR1 _ (by have hq' : q<(l0.length - (l0.length - 1))*2:=hq;show _<(i+1)*2;omega)).2)
  have HT:=zh (F00.R_behind hR1 ((l0.length - 1)*2) (Builtin.zeroCells ((.agg #[(.string ⟨#[]⟩),(.int .i64 0)]) : Value).cells (l0.length - (l0.length - 1))).toList (ye _) (by
   rw [F00.zeros_length];show (l0.length - 1)*2+(l0.length - (l0.length - 1))*2≤(i+1)*2
   omega))
  have hPg : P0_ g:=ho0.1 g rfl;have G2:=zh (yz HT.out.2 (yz hg2 (Kept.refl w (fun k_=>P0_ k_)) (fun k hk => .inl jAM)) (fun k hk => .inl jAM));have G3:=zh (pw_below_grown hb1 (some g) hb1.size HT.out.2 (fun k hk=>by injection hk with hk;subst hk;exact gb));clear hR1 hb1 hg1 hg2 ho0 hB HGc hC;have hcn : ¬ (i+1=l0.length - 1):=by omega
  have hj1 : (0 : Int)≤((l0.length - 1 : Nat) : Int):=Int.natCast_nonneg _;have hj2 : ((l0.length - 1 : Nat) : Int)≤(l0.length : Int):=by omega
  go_wp2_with fail
  go_ret
  exact ⟨_,rfl,zM HT.out.1 (fun _ hk => .inl hk),G3.out,G2.out⟩
 go_enter Try.func58,Try.ntmps58
 go_wp2_with fail
 go_region_law_o (refine Kd.R_delete_step k28 (w0:=w0) w0.heap.size (by rfl) (.tmp 22) (.tmp 25) 33 28 (by rfl) Try.underlying33 hsz (g:=g) (n:=l0.length) (c:=c) (k:=i) (m:=l0.length - (i+1)) (c2:=c - (i+1)) (A:=some ⟨g,(i+1)*2,none⟩) jx jBi jC9 rfl (zo ho0) hil (below_drew hB) hB.size ?_;intro w1 hR1 hb1 hg1)
 have hg2 : w.grownBy w1 (some g):=⟨hg1.os,hg1.tape,hg1.output,hg1.size,hg1.block⟩
 have hcl : ∀ ty,(Builtin.clear_ #[33] ty #[.slice (some ⟨g,(l0.length - 1)*2,none⟩) (l0.length - (l0.length - 1)) (c - (l0.length - 1))]).run Try.prog w1 = .ok (.tuple #[]) (w1.setCells g ((l0.length - 1)*2) (Builtin.zeroCells ((.agg #[(.string ⟨#[]⟩),(.int .i64 0)]) : Value).cells (l0.length - (l0.length - 1))).toList) :=
  fun ty=>F00.run_clear w1 33 28 ty (.agg #[(.string ⟨#[]⟩),(.int .i64 0)]) Try.underlying33 (fun w=>by rfl) (fun q hq=>by
   have hq' : q<2:=hq;obtain rfl|rfl : q=0∨q=1:=by omega
   ·
    rfl
   rfl) g ((l0.length - 1)*2) (l0.length - (l0.length - 1)) (c - (l0.length - 1)) jD (fun q hq=>(F00.there hR1 _ (by have hq' : q<(l0.length - (l0.length - 1))*2:=hq;show _<c*2;omega)).1) (fun q hq=>(F00.there hR1 _ (by have hq' : q<(l0.length - (l0.length - 1))*2:=hq;show _<c*2;omega)).2)
 have HT:=zh (F00.R_behind hR1 ((l0.length - 1)*2) (Builtin.zeroCells ((.agg #[(.string ⟨#[]⟩),(.int .i64 0)]) : Value).cells (l0.length - (l0.length - 1))).toList (ye _) (by
  rw [F00.zeros_length];show (l0.length - 1)*2+(l0.length - (l0.length - 1))*2≤c*2
  omega))
 have hPg : P0_ g:=ho0.1 g rfl;have G2:=zh (yz HT.out.2 (yz hg2 (Kept.refl w (fun k_=>P0_ k_)) (fun k hk => .inl jAM)) (fun k hk => .inl jAM));have G3:=zh (pw_below_grown hb1 (some g) hb1.size HT.out.2 (fun k hk=>by injection hk with hk;subst hk;exact gb));clear hR1 hb1 hg1 hg2 ho0 hB HGc hC;have hcn : ¬ (c=l0.length - 1):=by omega
 have hj1 : (0 : Int)≤((l0.length - 1 : Nat) : Int):=Int.natCast_nonneg _;have hj2 : ((l0.length - 1 : Nat) : Int)≤(l0.length : Int):=by omega
 go_wp2_with fail
 go_ret
 exact ⟨_,rfl,zM HT.out.1 (fun _ hk => .inl hk),G3.out,G2.out⟩

theorem Fy.R_behind {α : Type} {d : Kd α} {e base g n cap : Nat} {ok : Nat→Prop} {W : World} {xs : List α}
  (h : d.R e W base ok (.slice (some ⟨g,0,none⟩) n cap) xs) (o : Nat) (seg : List Value) (hno : n*d.sz≤o) (hs : o+seg.length≤cap*d.sz) :
  d.R e (W.setCells g o seg) base ok (.slice (some ⟨g,0,none⟩) n cap) xs∧W.grownBy (W.setCells g o seg) (some g):=by
 obtain ⟨hn,hnc,_⟩:=yh h;obtain ⟨hok,inner,ho,hr⟩:=h;obtain ⟨ho1,ho2⟩:=ho;rcases ho2 with ⟨hv,_⟩|⟨g',cap',cur,hv,hb,hh,hnc',hcm,hcs,ht⟩
 ·
  cases hv
 injection hv with ha _ hc;injection ha with ha;injection ha with hg;subst hg;subst hc;have hfit : o+seg.length≤cur.size:=by rw [hcs];omega
 obtain ⟨cur',h3,h4,h5⟩:=setCells_row seg o W cur hh hfit;obtain ⟨s1,s2,s3,s4⟩:=setCells_same g seg o W;have hfar : ∀ k,k≠g→(W.setCells g o seg).heap[k]? = W.heap[k]?:=fun k hk=>setCells_far seg _ k hk;have hgo : some g=(Value.slice (some ⟨g,0,none⟩) n cap).ownBlock:=by simp [Value.ownBlock]
 refine ⟨⟨hok,inner,⟨ho1,.inr ⟨g,cap,cur',by rw [hn],hb,h3,hnc',hcm,by rw [h4,hcs],?_⟩⟩,?_⟩,
  ⟨s1,s2,s3,by rw [s4];exact ye _,fun k _ hk=>hfar k (fun he=>hk (by rw [he]))⟩⟩
 ·
  rw [← ht]
  apply List.ext_getElem?
  intro q;rw [List.getElem?_take,List.getElem?_take,h5]
  by_cases hq : q<xs.length*d.sz
  ·
   rw [if_pos hq,if_pos hq,seg_get cur.toList seg o jCF q,if_pos (by rw [← hn] at hq;omega)]
  rw [if_neg hq,if_neg hq]
 exact hr.imp_ (fun x cs hM=>Kd.M_step hM (fun k hk _=>hfar k (fun he=>hk.2 (by rw [he];exact hgo))))
theorem Fy.run_clear {P : Program} (w : World) (t e ty : TypeId) (z : Value) (ht : P.underlying t=some (.slice e)) (hv : ∀ w,(zeroValue e).run P w = .ok z w) (h1 : ∀ i,i<z.cells.size→(z.cells[i]!).oneCell' = true) (b o n c : Nat) (hn : 0<n)
  (hc : ∀ j,j<n*z.cells.size→(w.cell? ⟨b,o+j,none⟩).isSome=true) (hf : ∀ j,j<n*z.cells.size→w.frozen? ⟨b,o+j,none⟩=false) :
  (Builtin.clear_ #[t] ty #[.slice (some ⟨b,o,none⟩) n c]).run P w = .ok (.tuple #[]) (w.setCells b o (Builtin.zeroCells z.cells n).toList):=by
 have hlen : (Builtin.zeroCells z.cells n).toList.length=n*z.cells.size:=by simp [Builtin.zeroCells]
 have hst:=run_storeCells_cells (P:=P) b o (Builtin.zeroCells z.cells n).toList 0 w (by rw [hlen];simpa using hc) (by rw [hlen];simpa using hf) (by
  intro v hv';simp only [Builtin.zeroCells,Array.toList_map,Array.toList_range,List.mem_map,List.mem_range] at hv';obtain ⟨i,hi,rfl⟩:=hv'
  have hz : 0<z.cells.size:=by
   rcases Nat.eq_zero_or_pos z.cells.size with h|h
   ·
    rw [h] at hi;simp at hi
   exact h
  exact h1 _ (Nat.mod_lt _ hz))
 simp only [Nat.add_zero] at hst;obtain ⟨m,rfl⟩ : ∃ m,n=m+1:=⟨n - 1,jD⟩;simp [Builtin.clear_,run_underlying ht,hv,hst]
theorem Fy.zeros_length (z : Array Value) (n : Nat) : (Builtin.zeroCells z n).toList.length=n*z.size:=by simp [Builtin.zeroCells]
theorem Fy.there {α : Type} {d : Kd α} {e base g n cap : Nat} {ok : Nat→Prop} {W : World} {xs : List α} (h : d.R e W base ok (.slice (some ⟨g,0,none⟩) n cap) xs) (j : Nat) (hj : j<cap*d.sz) : (W.cell? ⟨g,j,none⟩).isSome=true∧W.frozen? ⟨g,j,none⟩=false:=by
 obtain ⟨_,inner,⟨_,h⟩,_⟩:=h;rcases h with ⟨hv,_⟩|⟨g',cap',cur,hv,_,hh,_,_,hcs,_⟩
 ·
  cases hv
 injection hv with ha _ hc;injection ha with ha;injection ha with hg;subst hg;subst hc;refine ⟨?_,zA hh j⟩;rw [zz hh,Array.getElem?_eq_getElem (by rw [hcs];exact hj)];rfl
def Fy.f (l0 : List S60) (a1 : Int) (a2 : Int) : Option (List S60):=if 0≤a1 then (if a1<(l0.length : Int) then (if a2=a1+1 then (if l0.length≤4611686018427387904 then (some (l0.eraseIdx a1.toNat)) else none) else none) else none) else none
theorem Fy.S_behind {α : Type} {d : Kd α} {e base g n cap : Nat} {ok : Nat→Prop} {W : World} {xs : List α}
  (h : Kd.S d e W base ok (.slice (some ⟨g,0,none⟩) n cap) xs) (o : Nat) (seg : List Value) (hno : n*d.sz≤o) (hs : o+seg.length≤cap*d.sz) :
  Kd.S d e (W.setCells g o seg) base ok (.slice (some ⟨g,0,none⟩) n cap) xs∧W.grownBy (W.setCells g o seg) (some g):=by
 obtain ⟨f,h⟩:=h;obtain ⟨h1,h2⟩:=Fy.R_behind h o seg hno hs;exact ⟨⟨f,h1⟩,h2⟩
set_option maxHeartbeats 4000000 in
set_option maxRecDepth 100000 in
theorem Fy.calls (P0_ : Nat→Prop) (u9000_ : Value) (l0 : List S60) (a1 : Int) (a2 : Int) (r : List S60) (w0 w : World) (hB : Below w0.heap.size w0 w) (ho0 : Kd.S k60 60 w w0.heap.size P0_ u9000_ l0) (h : Fy.f l0 a1 a2=some r) :
  Calls Try.prog 59 #[u9000_,.int .i64 a1,.int .i64 a2] w fun e w' => ∃ v0_ : Value,e = .returned (v0_)∧Kd.S k60 60 w' w0.heap.size (fun k_=>(P0_ k_∨w.heap.size≤k_)) v0_ r∧Below w0.heap.size w0 w' ∧ Kept w w' (fun k_=>P0_ k_):=by
 unfold Fy.f at h
 by_cases h0 : 0≤a1
 case neg=>rw [if_neg h0] at h;cases h
 rw [if_pos h0] at h
 by_cases h1 : a1<(l0.length : Int)
 case neg=>rw [if_neg h1] at h;cases h
 rw [if_pos h1] at h
 by_cases h2 : a2=a1+1
 case neg=>rw [if_neg h2] at h;cases h
 rw [if_pos h2] at h
 by_cases h3 : l0.length≤4611686018427387904
 case neg=>rw [if_neg h3] at h;cases h
 rw [if_pos h3] at h;obtain rfl:=zU h;clear h;obtain ⟨i,rfl⟩ : ∃ i : Nat,a1=(i : Int):=⟨a1.toNat,jD⟩;subst h2;have hil : i<l0.length:=by omega
 rw [Int.toNat_natCast];obtain ⟨g,c,rfl,gb,gl,cl,HGc⟩:=Kd.S_form ho0 jD;obtain ⟨hn,hnc,hC⟩:=Kd.S_reads' ho0
 have hsz : (Try.prog.info? 60).map (·.size)=some 2:=by have:=info60;cases hq : Try.prog.info? 60 with
  | none=>rw [hq] at this;cases this
  | some i0=>rw [hq] at this;simp at this;simp [this.2.1]
 have hdc : w.drew.heap=w.heap:=rfl;have mixed : Try.prog.follows Departure.mixedOrders=true:=by rfl
 have hi0 : (0 : Int)≤(i : Int):=Int.natCast_nonneg i;have hi1 : (i : Int)≤(l0.length : Int):=by omega
 have hi2 : (i : Int)≤(c : Int):=by omega
 have hi3 : (0 : Int)≤(i : Int)+1:=by omega
 have hi4 : (i : Int)+1≤(l0.length : Int):=by omega
 have hi5 : (l0.length : Int)≤(c : Int):=by omega
 have hi6 : (i : Int)≤(i : Int)+1:=by omega
 have hi7 : (i : Int)+1≤(c : Int):=by omega
 have htn : ((i : Int)+1).toNat=i+1:=by omega
 have hne : ¬ ((i : Int)=(i : Int)+1):=by omega
 have hneb : ((i : Int) == (i : Int)+1)=false:=zY.mpr hne;have hci : ¬ (c=i):=by omega
 by_cases hc1 : c=i+1
 ·
  subst hc1
  go_enter Try.func59,Try.ntmps59
  go_wp2_with fail
  go_region_law_o (refine Kd.S_delete_step k60 (w0:=w0) w0.heap.size (by rfl) (.tmp 22) (.tmp 25) 23 60 (by rfl) Try.underlying23 hsz (g:=g) (n:=l0.length) (c:=i+1) (k:=i) (m:=l0.length - (i+1)) (c2:=0) (A:=some ⟨g,0,none⟩) jx jBi (by rw [if_pos rfl]) rfl (Kd.S_drew ho0) hil (below_drew hB) hB.size ?_;intro w1 hR1 hb1 hg1)
  have hg2 : w.grownBy w1 (some g):=⟨hg1.os,hg1.tape,hg1.output,hg1.size,hg1.block⟩
  have hcl : ∀ ty,(Builtin.clear_ #[23] ty #[.slice (some ⟨g,(l0.length - 1)*2,none⟩) (l0.length - (l0.length - 1)) (i+1 - (l0.length - 1))]).run Try.prog w1 = .ok (.tuple #[]) (w1.setCells g ((l0.length - 1)*2) (Builtin.zeroCells ((.agg #[(.int .i64 0),(.slice none 0 0)]) : Value).cells (l0.length - (l0.length - 1))).toList) :=
   fun ty=>Fy.run_clear w1 23 60 ty (.agg #[(.int .i64 0),(.slice none 0 0)]) Try.underlying23 (fun w=>by rfl) (fun q hq=>by
    have hq' : q<2:=hq;obtain rfl|rfl : q=0∨q=1:=by omega
    ·
     rfl
    rfl) g ((l0.length - 1)*2) (l0.length - (l0.length - 1)) (i+1 - (l0.length - 1)) jD (fun q hq=>(Fy.there (Kd.S_R hR1) _ (by have hq' : q<(l0.length - (l0.length - 1))*2:=hq;show _<(i+1)*2;omega)).1) (fun q hq=>(Fy.there (Kd.S_R hR1) _ (by have hq' : q<(l0.length - (l0.length - 1))*2:=hq;show _<(i+1)*2;omega)).2)
  have HT:=zh (Fy.S_behind hR1 ((l0.length - 1)*2) (Builtin.zeroCells ((.agg #[(.int .i64 0),(.slice none 0 0)]) : Value).cells (l0.length - (l0.length - 1))).toList (ye _) (by
   rw [Fy.zeros_length];show (l0.length - 1)*2+(l0.length - (l0.length - 1))*2≤(i+1)*2
   omega))
  have hPg : P0_ g:=(Kd.S_R ho0).1 g rfl;have G2:=zh (yz HT.out.2 (yz hg2 (Kept.refl w (fun k_=>P0_ k_)) (fun k hk => .inl jAM)) (fun k hk => .inl jAM));have G3:=zh (pw_below_grown hb1 (some g) hb1.size HT.out.2 (fun k hk=>by injection hk with hk;subst hk;exact gb));clear hR1 hb1 hg1 hg2 ho0 hB HGc hC;have hcn : ¬ (i+1=l0.length - 1):=by omega
  have hj1 : (0 : Int)≤((l0.length - 1 : Nat) : Int):=Int.natCast_nonneg _;have hj2 : ((l0.length - 1 : Nat) : Int)≤(l0.length : Int):=by omega
  go_wp2_with fail
  go_ret
  exact ⟨_,rfl,Kd.S_mono HT.out.1 (fun _ hk => .inl hk),G3.out,G2.out⟩
 go_enter Try.func59,Try.ntmps59
 go_wp2_with fail
 go_region_law_o (refine Kd.S_delete_step k60 (w0:=w0) w0.heap.size (by rfl) (.tmp 22) (.tmp 25) 23 60 (by rfl) Try.underlying23 hsz (g:=g) (n:=l0.length) (c:=c) (k:=i) (m:=l0.length - (i+1)) (c2:=c - (i+1)) (A:=some ⟨g,(i+1)*2,none⟩) jx jBi jC9 rfl (Kd.S_drew ho0) hil (below_drew hB) hB.size ?_;intro w1 hR1 hb1 hg1)
 have hg2 : w.grownBy w1 (some g):=⟨hg1.os,hg1.tape,hg1.output,hg1.size,hg1.block⟩
 have hcl : ∀ ty,(Builtin.clear_ #[23] ty #[.slice (some ⟨g,(l0.length - 1)*2,none⟩) (l0.length - (l0.length - 1)) (c - (l0.length - 1))]).run Try.prog w1 = .ok (.tuple #[]) (w1.setCells g ((l0.length - 1)*2) (Builtin.zeroCells ((.agg #[(.int .i64 0),(.slice none 0 0)]) : Value).cells (l0.length - (l0.length - 1))).toList) :=
  fun ty=>Fy.run_clear w1 23 60 ty (.agg #[(.int .i64 0),(.slice none 0 0)]) Try.underlying23 (fun w=>by rfl) (fun q hq=>by
   have hq' : q<2:=hq;obtain rfl|rfl : q=0∨q=1:=by omega
   ·
    rfl
   rfl) g ((l0.length - 1)*2) (l0.length - (l0.length - 1)) (c - (l0.length - 1)) jD (fun q hq=>(Fy.there (Kd.S_R hR1) _ (by have hq' : q<(l0.length - (l0.length - 1))*2:=hq;show _<c*2;omega)).1) (fun q hq=>(Fy.there (Kd.S_R hR1) _ (by have hq' : q<(l0.length - (l0.length - 1))*2:=hq;show _<c*2;omega)).2)
 have HT:=zh (Fy.S_behind hR1 ((l0.length - 1)*2) (Builtin.zeroCells ((.agg #[(.int .i64 0),(.slice none 0 0)]) : Value).cells (l0.length - (l0.length - 1))).toList (ye _) (by
  rw [Fy.zeros_length];show (l0.length - 1)*2+(l0.length - (l0.length - 1))*2≤c*2
  omega))
 have hPg : P0_ g:=(Kd.S_R ho0).1 g rfl;have G2:=zh (yz HT.out.2 (yz hg2 (Kept.refl w (fun k_=>P0_ k_)) (fun k hk => .inl jAM)) (fun k hk => .inl jAM));have G3:=zh (pw_below_grown hb1 (some g) hb1.size HT.out.2 (fun k hk=>by injection hk with hk;subst hk;exact gb));clear hR1 hb1 hg1 hg2 ho0 hB HGc hC;have hcn : ¬ (c=l0.length - 1):=by omega
 have hj1 : (0 : Int)≤((l0.length - 1 : Nat) : Int):=Int.natCast_nonneg _;have hj2 : ((l0.length - 1 : Nat) : Int)≤(l0.length : Int):=by omega
 go_wp2_with fail
 go_ret
 exact ⟨_,rfl,Kd.S_mono HT.out.1 (fun _ hk => .inl hk),G3.out,G2.out⟩

def F0e.f (k : Nat) (L : List S60) (nx : Int) (key : ByteArray) (id : Int) : Option (Bool×List S60):=(Fz.f k L nx key id).bind fun t=>(if t.2.2=true then (if 0≤t.1 then (if t.1<(L.length : Int) then (if L.length≤4611686018427387904 then ((F00.f (rd_T60 L t.1).f1 t.2.1 (wrap64 (t.2.1+1))).bind fun es=>(if es.length=0∧1<L.length then ((Fy.f (L.set t.1.toNat (⟨(rd_T60 L t.1).f0,es⟩ : S60)) t.1 (wrap64 (t.1+1))).bind fun L2=>some (true,L2)) else some (true,L.set t.1.toNat (⟨(rd_T60 L t.1).f0,es⟩ : S60)))) else none) else none) else none) else some (false,L))
theorem F0e.mono : ∀ a0 a1 a2 a3 k,LeO (F0e.f k a0 a1 a2 a3) (F0e.f (k+1) a0 a1 a2 a3):=by
 intro a0 a1 a2 a3 k;unfold F0e.f;exact zO (Fz.mono _ _ _ _ _) (fun _=>zQ _)
set_option maxHeartbeats 8000000 in
set_option maxRecDepth 100000 in
theorem F0e.calls (k : Nat) (gb : Nat) (pv : Value) (L : List S60) (nx : Int) (key : ByteArray) (id : Int) (r : Bool) (L' : List S60) (w0 w : World) (hB : Below w0.heap.size w0 w) (hb : w.heap[gb]? = some (.cells #[pv,.int .i64 nx] 25 (0,0))) (hg : w0.heap.size≤gb) (hS0 : Kd.S k60 60 w w0.heap.size (fun _=>True) pv L) (h : F0e.f k L nx key id=some (r,L')) :
  Calls Try.prog 38 #[.pointer (some ⟨gb,0,none⟩),.agg #[.string key,.int .i64 id]] w fun e w' => ∃ pv',e = .returned (.bool r)∧w'.heap[gb]? = some (.cells #[pv',.int .i64 nx] 25 (0,0))∧Kd.S k60 60 w' w0.heap.size (fun _=>True) pv' L' ∧ Below w0.heap.size w0 w':=by
 have hu35:=Try.underlying25;have hu51:=Try.underlying28;have hu67:=Try.underlying60;have hS:=Kd.S_types hS0 hb jB;clear hS0;obtain ⟨A,c,rfl⟩:=Kd.S_slice hS;unfold F0e.f at h;obtain ⟨⟨pg,at_,th⟩,hF,h⟩:=zT.mp h;simp only at h;obtain ⟨V,hV⟩ : ∃ V,V=w.alloc (.cells #[.string key,.int .i64 id] 28):=⟨_,rfl⟩;have hbV : Below w.heap.size w V:=by rw [hV];exact za (Below.refl _ _) _
 have hVe : V.heap[w.heap.size]? = some (.cells #[.string key,.int .i64 id] 28 (0,0)):=by rw [hV];exact blk_new w _
 obtain ⟨ge,hge⟩ : ∃ ge,ge=w.heap.size:=⟨_,rfl⟩;rw [← hge] at hVe;have hSV:=Kd.S_below hS hbV;have hbb:=zD hb hbV;have hBV:=zC hB hbV;have mixed : Try.prog.follows Departure.mixedOrders=true:=by rfl
 have late : Try.prog.follows Departure.lateStores=true:=by rfl
 have k0 : V.cell? ⟨gb,0,none⟩=some (.slice A L.length c):=(zz hbb 0).trans rfl;have k1 : V.cell? ⟨gb,1,none⟩=some (.int .i64 nx):=(zz hbb 1).trans rfl;have k2 : V.cell? ⟨ge,0,none⟩=some (.string key):=(zz hVe 0).trans rfl;have k3 : V.cell? ⟨ge,1,none⟩=some (.int .i64 id):=(zz hVe 1).trans rfl;have hlb:=yi hbb;have hle:=yi hVe
 have hcell : ∀ W1,Below V.heap.size V W1→(W1.cell? ⟨gb,0,none⟩=some (.slice A L.length c)∧W1.cell? ⟨gb,1,none⟩=some (.int .i64 nx)∧W1.cell? ⟨ge,0,none⟩=some (.string key)∧W1.cell? ⟨ge,1,none⟩=some (.int .i64 id)) :=
  fun W1 hb=>⟨(hb.cell hlb).trans k0,(hb.cell hlb).trans k1,(hb.cell hle).trans k2,(hb.cell hle).trans k3⟩
 have hCV:=fun W1 (hb : Below V.heap.size V W1)=>Kd.C_below (Kd.S_reads' hSV).2.2 hb;have hLc:=(Kd.S_reads' hSV).2.1
 go_enter Try.func38,Try.ntmps38
 go_wp2_with fail
 rw [← hV];simp only [← hge];clear hV hge
 go_region_held3 (fun w' => w'.cell? ⟨gb,0,none⟩=some (.slice A L.length c)∧w'.cell? ⟨gb,1,none⟩=some (.int .i64 nx)∧w'.cell? ⟨ge,0,none⟩=some (.string key)∧w'.cell? ⟨ge,1,none⟩=some (.int .i64 id)) (exact hcell _ jBk) (first|(go_at_call 55;refine (Fz.calls k A c L nx key id pg at_ th _ (hCV _ jBk) hLc hF).mono ?_;rintro e w1 ⟨rfl,hb0⟩;have hb1 : Below V.heap.size V w1:=zC jDA hb0))
 have hB1:=zh (zC hBV hb1);have hS1:=zh (Kd.S_below hSV hb1);have hbb1:=zh (zD hbb hb1);clear hbV hVe hSV hbb hBV k0 k1 k2 k3 hlb hle hcell hCV hb0 hb1 hF hS hB hb
 cases th with
 | false =>
  rw [if_neg jB] at h;simp only [Option.some.injEq,Prod.mk.injEq] at h;obtain ⟨rfl,rfl⟩:=h
  go_wp2_with fail
  go_ret
  exact ⟨_,rfl,hbb1.out,Kd.S_mono hS1.out (fun _ _=>trivial),hB1.out⟩
 | true =>
  rw [if_pos rfl] at h
  by_cases hp0 : 0≤pg
  case neg=>rw [if_neg hp0] at h;cases h
  rw [if_pos hp0] at h
  by_cases hp1 : pg<(L.length : Int)
  case neg=>rw [if_neg hp1] at h;cases h
  rw [if_pos hp1] at h
  by_cases hLm : L.length≤4611686018427387904
  case neg=>rw [if_neg hLm] at h;cases h
  rw [if_pos hLm] at h;obtain ⟨es,hE,h⟩:=zT.mp h;obtain ⟨g,co,eo,gb2,gl,cl,HGc⟩:=Kd.S_form hS1.out jD;injection eo with ea _ ec;subst ea;subst ec;obtain ⟨oki,ce,hcl,hM,hcc,hfr,hoki,hH⟩:=Kd.S_elem hS1.out z60 pg hp0 hp1;have er : L.getD pg.toNat z60=rd_T60 L pg:=rfl;rw [er] at hM;obtain ⟨ve,rfl,hRe⟩:=k60_openM hM;obtain ⟨Ae,ke,rfl⟩:=yk hRe
  have hgb : gb≠g:=fun e9=>by
   have h9:=hbb1.out;rw [e9] at h9;rw [h9] at HGc;injection HGc with HGc;injection HGc with _ HGc;exact absurd HGc jB
  have q0 : w1.cell? ⟨gb,0,none⟩=some (.slice (some ⟨g,0,none⟩) L.length c):=(zz hbb1.out 0).trans rfl;have q1 : w1.cell? ⟨gb,1,none⟩=some (.int .i64 nx):=(zz hbb1.out 1).trans rfl;have q2 : w1.cell? ⟨g,pg.toNat*2+1,none⟩=some (.slice Ae (rd_T60 L pg).f1.length ke):=hcc 1 _ rfl;have hlg : gb<w1.heap.size:=yi hbb1.out
  have hcell : ∀ W1,Kept w1 W1 oki→(W1.cell? ⟨gb,0,none⟩=some (.slice (some ⟨g,0,none⟩) L.length c)∧W1.cell? ⟨gb,1,none⟩=some (.int .i64 nx)∧W1.cell? ⟨g,pg.toNat*2+1,none⟩=some (.slice Ae (rd_T60 L pg).f1.length ke)) :=
   fun W1 hk=>by
    have e1 : W1.heap[gb]? = w1.heap[gb]?:=hk.2 gb hlg (fun h9=>(hoki gb h9).1.2 rfl);have e2 : W1.heap[g]? = w1.heap[g]?:=hk.2 g gl (fun h9=>(hoki g h9).2 rfl);exact ⟨(World.cell?_of_block e1).trans q0,(World.cell?_of_block e1).trans q1,(World.cell?_of_block e2).trans q2⟩
  obtain ⟨ha0,ha1,hw⟩ : 0≤at_∧at_<((rd_T60 L pg).f1.length : Int)∧wrap64 (at_+1)=at_+1:=by
   have h9:=hE;unfold F00.f at h9
   by_cases c1 : 0≤at_
   case neg=>rw [if_neg c1] at h9;cases h9
   rw [if_pos c1] at h9
   by_cases c2 : at_<((rd_T60 L pg).f1.length : Int)
   case neg=>rw [if_neg c2] at h9;cases h9
   rw [if_pos c2] at h9
   by_cases c3 : wrap64 (at_+1)=at_+1
   case neg=>rw [if_neg c3] at h9;cases h9
   exact ⟨c1,c2,c3⟩
  have hwi : IntKind.i64.wrap (at_+1)=at_+1:=(zG _).trans hw;rw [hw] at hE;have hgo : ¬ oki g:=fun h9=>(hoki g h9).2 rfl;have hpi0 : (0≤pg)=True:=eq_true hp0;have hpi1 : (pg<(L.length : Int))=True:=eq_true hp1;have HH:=zh (Kd.H_widen hH);have HRe:=zh hRe;have HOK:=zh hoki;have HF:=zh hfr;clear hM hcl hcc hoki hH hRe hfr er q0 q1 q2
  go_wp2_with fail
  refine start_ (n:=20) (S:=fun w' => w'.cell? ⟨gb,0,none⟩=some (.slice (some ⟨g,0,none⟩) L.length c)∧w'.cell? ⟨gb,1,none⟩=some (.int .i64 nx)∧w'.cell? ⟨g,pg.toNat*2+1,none⟩=some (.slice Ae (rd_T60 L pg).f1.length ke)) (ds:=[19]) (bm_ 0 20) jA rfl rfl ⟨(hcell _ (zq (Kept.refl w1 oki))).1,(hcell _ (zq (Kept.refl w1 oki))).2.1,(hcell _ (zq (Kept.refl w1 oki))).2.2⟩ (fun hHeld=>?_);refine pure_ (i:=0) (N:=some 19) (v:=?_) (a':=?_) (bm_ 1 20) rfl rfl jA (fun _ _ _ h=>h) (Or.inl ⟨by rfl,?_⟩) ?_ ?_;rotate_left;exact jb;rotate_left;exact jc
  refine pure_ (i:=1) (N:=some 20) (v:=?_) (a':=?_) (bm_ 2 20) rfl rfl jA (fun _ _ _ h=>h) (Or.inl ⟨by rfl,?_⟩) ?_ ?_;rotate_left;exact jb;rotate_left;exact jc
  refine pure_ (i:=2) (N:=some 21) (v:=?_) (a':=?_) (bm_ 3 20) rfl rfl jA (fun _ _ _ h=>h) (Or.inl ⟨by rfl,?_⟩) ?_ ?_;rotate_left;exact jb;rotate_left;exact jc
  refine pure_ (i:=4) (N:=some 23) (v:=?_) (a':=?_) #[true,true,true,false,true,false,false,false,false,false,false,false,false,false,false,false,false,false,false,false] rfl rfl jA (fun _ _ _ h=>h) (Or.inl ⟨by rfl,?_⟩) ?_ ?_;rotate_left;exact jb;rotate_left;exact jc
  refine pure_ (i:=5) (N:=some 24) (v:=?_) (a':=?_) #[true,true,true,false,true,true,false,false,false,false,false,false,false,false,false,false,false,false,false,false] rfl rfl jA (fun _ _ _ h=>h) (Or.inl ⟨by rfl,?_⟩) ?_ ?_;rotate_left;exact jb;rotate_left;exact jc
  refine pure_ (i:=6) (N:=some 25) (v:=?_) (a':=?_) #[true,true,true,false,true,true,true,false,false,false,false,false,false,false,false,false,false,false,false,false] rfl rfl jA (fun _ _ _ h=>h) (Or.inl ⟨by rfl,?_⟩) ?_ ?_;rotate_left;exact jb;rotate_left;exact jc
  refine pure_ (i:=7) (N:=some 26) (v:=?_) (a':=?_) #[true,true,true,false,true,true,true,true,false,false,false,false,false,false,false,false,false,false,false,false] rfl rfl jA (fun _ _ _ h=>h) (Or.inl ⟨by rfl,?_⟩) ?_ ?_;rotate_left;exact jb;rotate_left;exact jc
  refine pure_ (i:=9) (N:=some 28) (v:=?_) (a':=?_) #[true,true,true,false,true,true,true,true,false,true,false,false,false,false,false,false,false,false,false,false] rfl rfl jA (fun _ _ _ h=>h) (Or.inl ⟨by rfl,?_⟩) ?_ ?_;rotate_left;exact jb;rotate_left;exact jc
  refine pure_ (i:=13) (N:=some 32) (v:=?_) (a':=?_) #[true,true,true,false,true,true,true,true,false,true,false,false,false,true,false,false,false,false,false,false] rfl rfl jA (fun _ _ _ h=>h) (Or.inl ⟨by rfl,?_⟩) ?_ ?_;rotate_left;exact jb;rotate_left;exact jc
  refine pure_ (i:=14) (N:=some 33) (v:=?_) (a':=?_) #[true,true,true,false,true,true,true,true,false,true,false,false,false,true,true,false,false,false,false,false] rfl rfl jA (fun _ _ _ h=>h) (Or.inl ⟨by rfl,?_⟩) ?_ ?_;rotate_left;exact jb;rotate_left;exact jc
  refine pure_ (i:=15) (N:=some 34) (v:=?_) (a':=?_) #[true,true,true,false,true,true,true,true,false,true,false,false,false,true,true,true,false,false,false,false] rfl rfl jA (fun _ _ _ h=>h) (Or.inl ⟨by rfl,?_⟩) ?_ ?_;rotate_left;exact jb;rotate_left;exact jc
  refine take_ (i:=3) (N:=some 22) (v:=?_) (a':=?_) #[true,true,true,true,true,true,true,true,false,true,false,false,false,true,true,true,false,false,false,false] rfl rfl jA (fun _ _ _ h=>h) (Or.inl ⟨by rfl,?_⟩) hHeld ?_ ?_;rotate_left
  ·
   rintro w' ⟨s0,s1,s2⟩
   go_simp
   with_reducible rfl
  rotate_left
  exact jc
  refine take_ (i:=8) (N:=some 27) (v:=?_) (a':=?_) #[true,true,true,true,true,true,true,true,true,true,false,false,false,true,true,true,false,false,false,false] rfl rfl jA (fun _ _ _ h=>h) (Or.inl ⟨by rfl,?_⟩) hHeld ?_ ?_;rotate_left
  ·
   rintro w' ⟨s0,s1,s2⟩
   go_simp
   with_reducible rfl
  rotate_left
  exact jc
  refine pure_ (i:=10) (N:=some 29) (v:=?_) (a':=?_) #[true,true,true,true,true,true,true,true,true,true,true,false,false,true,true,true,false,false,false,false] rfl rfl jA (fun _ _ _ h=>h) (Or.inl ⟨by rfl,?_⟩) ?_ ?_;rotate_left;exact jb;rotate_left;exact jc
  refine pure_ (i:=11) (N:=some 30) (v:=?_) (a':=?_) #[true,true,true,true,true,true,true,true,true,true,true,true,false,true,true,true,false,false,false,false] rfl rfl jA (fun _ _ _ h=>h) (Or.inl ⟨by rfl,?_⟩) ?_ ?_;rotate_left;exact jb;rotate_left;exact jc
  refine take_ (i:=12) (N:=some 31) (v:=?_) (a':=?_) (bm_ 16 20) rfl rfl jA (fun _ _ _ h=>h) (Or.inl ⟨by rfl,?_⟩) hHeld ?_ ?_;rotate_left
  ·
   rintro w' ⟨s0,s1,s2⟩
   go_simp
   with_reducible rfl
  rotate_left
  exact jc
  refine one_ (i:=16) (N:=some 35) (bm_ 17 20) rfl rfl jA jB (fun K hK=>?_);refine goes_ Try.func58 jA rfl #[.slice Ae (rd_T60 L pg).f1.length ke,.int .i64 at_,.int .i64 (at_+1)] (by rfl) rfl rfl jAC ?_
  with_reducible refine (F00.calls oki _ (rd_T60 L pg).f1 at_ (at_+1) es w0 _ (zc hB1.out) (zo HRe.out) hE).mono ?_
  rintro e w2 ⟨v1,rfl,hR2,hB2,hK0⟩;refine ⟨_,rfl,?_⟩;obtain ⟨A1,k1,rfl⟩:=yk hR2;have hK2 : Kept w1 w2 oki:=hK0;have kc:=(hcell w2 hK2).2.2;have kf : w2.frozen? ⟨g,pg.toNat*2+1,none⟩=false:=(World.frozen?_of_block (hK2.2 g gl hgo)).trans (HF.out 1);refine hK.out _ _ ⟨(hcell w2 hK2).1,(hcell w2 hK2).2.1,(hcell w2 hK2).2.2⟩ (fun hHeld=>?_);clear hK K;refine norm_ (a':=?_) ?_ ?_;rotate_left
  ·
   show Act.put _ (some 35) _=_
   simp only [Act.put,zi,zj,zk,zG,zH]
   rfl
  refine pure_ (i:=17) (N:=some 36) (v:=?_) (a':=?_) (bm_ 18 20) rfl rfl jA (fun _ _ _ h=>h) (Or.inl ⟨by rfl,?_⟩) ?_ ?_;rotate_left;exact jb;rotate_left;exact jc
  refine pure_ (i:=18) (N:=some 37) (v:=?_) (a':=?_) (bm_ 19 20) rfl rfl jA (fun _ _ _ h=>h) (Or.inl ⟨by rfl,?_⟩) ?_ ?_;rotate_left;exact jb;rotate_left;exact jc
  refine last_ (i:=19) (N:=none) (bm_ 20 20) rfl rfl jA jB (fun K hK=>?_);refine skip_ (w1:=?_) (by rfl) rfl ?_ ?_;rotate_left
  ·
   go_simp
   rfl
  refine hK.out _ _ ?_;clear hK K;refine done_ jA ?_
  obtain ⟨hH2,hG2⟩ : Kd.H k60 60 (w2.setCell ⟨g,pg.toNat*2+1,none⟩ (.slice A1 es.length k1)) w0.heap.size (fun k=>True∧k≠gb) (.slice (some ⟨g,0,none⟩) L.length c) L pg (fun k=>oki k∨(True∧k≠gb)∧w1.heap.size≤k) [.int .i64 (rd_T60 L pg).f0,.slice A1 es.length k1]∧w2.grownBy (w2.setCell ⟨g,pg.toNat*2+1,none⟩ (.slice A1 es.length k1)) (some g) :=
   Kd.H_seg (Kd.H_kept HH.out hK2 (fun k _ hn hk=>hn (.inl hk))) hp0 hp1 (seg:=[.slice A1 es.length k1]) (j:=1) (show 1+1≤2 from by decide) (by simp [Value.oneCell'])
  have hR3:=Kd.R_grown hR2 hG2 (fun k hk he=>by
   injection he with he;rcases hk with hk|hk
   ·
    exact (HOK.out k hk).2 he
   rw [he] at hk;exact absurd gl (Nat.not_lt.2 hk))
  have HS3:=zh (Kd.H_back hH2 (x':=(⟨(rd_T60 L pg).f0,es⟩ : S60)) (k60_mkM _ _ _ ⟨(rd_T60 L pg).f0,es⟩ hR3) (fun k hk=>by
   rcases hk with hk|hk
   ·
    exact .inl hk
   exact .inr ⟨⟨trivial,fun e9=>by rw [e9] at hk;exact absurd hlg (Nat.not_lt.2 hk)⟩,hk⟩))
  have HB3:=zh (pw_below_grown hB2 (some g) hB2.size hG2 (fun k hk=>by injection hk with hk;subst hk;exact gb2));have hbb2 : w2.heap[gb]? = some (.cells #[.slice (some ⟨g,0,none⟩) L.length c,.int .i64 nx] 25 (0,0)):=(hK2.2 gb hlg (fun h9=>(HOK.out gb h9).1.2 rfl)).trans hbb1.out;have hbb3 : (w2.setCell ⟨g,pg.toNat*2+1,none⟩ (.slice A1 es.length k1)).heap[gb]? = some (.cells #[.slice (some ⟨g,0,none⟩) L.length c,.int .i64 nx] 25 (0,0)):=(Below.heap_setCell w2 ⟨g,_,none⟩ _ gb hgb).trans hbb2
  have q3 : (w2.setCell ⟨g,pg.toNat*2+1,none⟩ (.slice A1 es.length k1)).cell? ⟨g,pg.toNat*2+1,none⟩=some (.slice A1 es.length k1):=by
   have e2 : w2.heap[g]? = some (.cells cl 60 (0,0)):=(hK2.2 g gl hgo).trans HGc;have h3:=kc;rw [zz e2] at h3;rw [zz (blk_set e2 _ _)];have h4 : pg.toNat*2+1<cl.size:=(Array.getElem?_eq_some_iff.1 h3).1;simp [h4]
  generalize hW3 : w2.setCell ⟨g,pg.toNat*2+1,none⟩ (.slice A1 es.length k1)=W3 at *;have HZ3:=zh hbb3;have hlg3 : gb<W3.heap.size:=yi hbb3;have q0:=(zz hbb3 0).trans (show _=some (.slice (some ⟨g,0,none⟩) L.length c) from rfl);have q1:=(zz hbb3 1).trans (show _=some (.int .i64 nx) from rfl);have f0:=zA hbb3 0;have f1:=zA hbb3 1;clear hH2 hG2 hR3 hR2 hB2 hK0 hK2 kc kf hbb2 hbb3 hW3 hcell HGc HH HRe HOK HF hgo gl hlg hgb hLm
  by_cases hn : es.length=0∧1<L.length
  ·
   rw [if_pos hn] at h
   obtain ⟨L2,hD,h⟩:=zT.mp h;simp only [Option.some.injEq,Prod.mk.injEq] at h;obtain ⟨rfl,rfl⟩:=h;obtain ⟨hn0,hn1⟩:=hn
   obtain ⟨hwp,_⟩ : wrap64 (pg+1)=pg+1∧True:=by
    have h9:=hD;unfold Fy.f at h9;rw [if_pos hp0] at h9
    by_cases c2 : pg<((L.set pg.toNat (⟨(rd_T60 L pg).f0,es⟩ : S60)).length : Int)
    case neg=>rw [if_neg c2] at h9;cases h9
    rw [if_pos c2] at h9
    by_cases c3 : wrap64 (pg+1)=pg+1
    case neg=>rw [if_neg c3] at h9;cases h9
    exact ⟨c3,trivial⟩
   have hwpi : IntKind.i64.wrap (pg+1)=pg+1:=(zG _).trans hwp;rw [hwp] at hD;have hes : ((es.length : Int) == 0)=true:=ya.mpr jD;have hes2 : (es.length == 0)=true:=ya.mpr hn0;have hl1 : decide ((1 : Int)<(L.length : Int))=true:=decide_eq_true jD;have hl2 : decide (1<L.length)=true:=decide_eq_true hn1;have hSL : Kd.S k60 60 W3 w0.heap.size (fun k=>True∧k≠gb) (.slice (some ⟨g,0,none⟩) L.length c) (L.set pg.toNat (⟨(rd_T60 L pg).f0,es⟩ : S60)):=HS3.out;clear hn0 hn1
   go_wp2_with fail
   go_at_call 59
   refine (Fy.calls (fun k=>True∧k≠gb) _ (L.set pg.toNat (⟨(rd_T60 L pg).f0,es⟩ : S60)) pg (pg+1) L2 w0 _ HB3.out hSL hD).mono ?_;rintro e w4 ⟨v4,rfl,hS4,hB4,hK4⟩;have hbb4:=(hK4.2 gb hlg3 (fun h9=>h9.2 rfl)).trans HZ3.out
   have HS4:=zh (Kd.S_far (p:=⟨gb,0,none⟩) hS4 (fun k hk=>by
    rcases hk with hk|hk
    ·
     exact hk.2
    intro e9;rw [e9] at hk;exact absurd hlg3 (Nat.not_lt.2 hk)) v4)
   have HB4:=zh (show Below w0.heap.size w0 (w4.setCell ⟨gb,0,none⟩ v4) from zd hB4 hg);have HZ4:=zh (blk_set hbb4 0 v4);obtain ⟨A4,c4,rfl⟩:=Kd.S_slice hS4;have q4:=(zz hbb4 0).trans (show _=some (.slice (some ⟨g,0,none⟩) L.length c) from rfl);have f4:=zA hbb4 0;clear q0 q1 f0 f1 q3 hS4 hB4 hK4 hbb4
   go_wp2_with fail
   go_ret
   exact ⟨_,rfl,HZ4.out,Kd.S_mono HS4.out (fun _ _=>trivial),HB4.out⟩
  rw [if_neg hn] at h;simp only [Option.some.injEq,Prod.mk.injEq] at h;obtain ⟨rfl,rfl⟩:=h;have hSL : Kd.S k60 60 W3 w0.heap.size (fun k=>True∧k≠gb) (.slice (some ⟨g,0,none⟩) L.length c) (L.set pg.toNat (⟨(rd_T60 L pg).f0,es⟩ : S60)):=HS3.out
  by_cases hn0 : es.length=0
  ·
   have hl1 : decide ((1 : Int)<(L.length : Int))=false:=decide_eq_false jD
   have hl2 : decide (1<L.length)=false:=decide_eq_false jD;have hes : ((es.length : Int) == 0)=true:=ya.mpr jD;have hes2 : (es.length == 0)=true:=ya.mpr hn0;clear hn0 hn
   go_wp2_with fail
   go_ret
   exact ⟨_,rfl,HZ3.out,Kd.S_mono hSL (fun _ _=>trivial),HB3.out⟩
  have hes : ((es.length : Int) == 0)=false:=zY.mpr jD;have hes2 : (es.length == 0)=false:=zY.mpr hn0;clear hn0 hn
  go_wp2_with fail
  go_ret
  exact ⟨_,rfl,HZ3.out,Kd.S_mono hSL (fun _ _=>trivial),HB3.out⟩

def Fn.f (k : Nat) (l0_0 : List (S60)) (a0_1 : Int) (a1_0 : ByteArray) (a1_1 : Int) : Option ((List (S60))×Int×Int):=(F3.f k l0_0 a0_1).bind fun t=>(if t=true then ((F08.f a1_0 a1_1).bind fun u=>(if u=true then ((Fh.f k l0_0 a0_1).bind fun c=>((F0e.f k c.1 c.2 a1_0 a1_1).bind fun d=>(if d.1=true then ((Fh.f k d.2 c.2).bind fun z=>some (z.1,z.2,0)) else (some (d.2,c.2,5))))) else (some (([] : List S60),0,1)))) else (some (([] : List S60),0,1)))
theorem Fn.mono : ∀ a0 a1 a2 a3 k,LeO (Fn.f k a0 a1 a2 a3) (Fn.f (k+1) a0 a1 a2 a3):=by
 intro a0 a1 a2 a3 k;unfold Fn.f;refine zO (F3.mono _ _ _) (fun _=>zP (zO (zQ _) (fun _=>zP (zO (Fh.mono _ _ _) (fun _=>zO (F0e.mono _ _ _ _ _) (fun _=>zP (zO (Fh.mono _ _ _) (fun _=>zQ _)) (zQ _)))) (zQ _))) (zQ _))
theorem Fn.three (w : World) (o0 o1 o2 : Obj) : (((w.alloc o0).alloc o1).alloc o2).heap[w.heap.size]? = some o0∧(((w.alloc o0).alloc o1).alloc o2).heap[w.heap.size+1]? = some o1∧(((w.alloc o0).alloc o1).alloc o2).heap[w.heap.size+1+1]? = some o2∧Below w.heap.size w (((w.alloc o0).alloc o1).alloc o2):=by
 refine ⟨zg (zg (blk_new w _) _) _,zg ?_ _,?_,za (za (za (Below.refl _ _) _) _) _⟩
 ·
  have:=blk_new (w.alloc o0) o1
  simpa using this
 have:=blk_new ((w.alloc o0).alloc o1) o2
 simpa using this
set_option maxHeartbeats 8000000 in
set_option maxRecDepth 100000 in
theorem Fn.calls (k : Nat) (A0_0 : Option Addr) (c0_0 : Nat) (l0_0 : List (S60)) (a0_1 : Int) (a1_0 : ByteArray) (a1_1 : Int) (r1 : List (S60)) (r2 : Int) (r3 : Int) (w : World) (hr0_0 : Kd.C k60 w A0_0 l0_0.length l0_0) (hc0_0 : l0_0.length≤c0_0) (h : Fn.f k l0_0 a0_1 a1_0 a1_1=some (r1,r2,r3)) :
  Calls Try.prog 17 #[.agg #[.slice A0_0 l0_0.length c0_0,.int .i64 a0_1],.agg #[.string a1_0,.int .i64 a1_1]] w fun e w' => ∃ v0_ : Value,e = .returned (.tuple #[.agg #[v0_,.int .i64 r2],.int .i64 r3])∧Kd.S k60 60 w' w.heap.size (fun _=>True) v0_ r1∧Below w.heap.size w w':=by
 have hu35:=Try.underlying25;have hu51:=Try.underlying28;unfold Fn.f at h;obtain ⟨t,hT,h⟩:=zT.mp h;obtain ⟨V,hV⟩ : ∃ V,V=((w.alloc (.cells #[.slice A0_0 l0_0.length c0_0,.int .i64 a0_1] 25)).alloc (.cells #[.string a1_0,.int .i64 a1_1] 28)).alloc (.cells #[.slice none 0 0,.int .i64 0] 25):=⟨_,rfl⟩;obtain ⟨h0,h1,h2,hBV⟩:=Fn.three w (.cells #[.slice A0_0 l0_0.length c0_0,.int .i64 a0_1] 25) (.cells #[.string a1_0,.int .i64 a1_1] 28) (.cells #[.slice none 0 0,.int .i64 0] 25);rw [← hV] at h0 h1 h2 hBV;obtain ⟨g0,hg0⟩ : ∃ g,g=w.heap.size:=⟨_,rfl⟩;rw [← hg0] at h0 h1 h2;obtain ⟨g1,hg1⟩ : ∃ g,g=g0+1:=⟨_,rfl⟩;rw [← hg1] at h1 h2;obtain ⟨g2,hg2⟩ : ∃ g,g=g1+1:=⟨_,rfl⟩;rw [← hg2] at h2;have hbase : w.heap.size≤g2:=by rw [hg2,hg1,hg0,Nat.add_assoc];exact Nat.le_add_right _ _
 have H0 : Aside0 (V.heap[g0]? = some (.cells #[.slice A0_0 l0_0.length c0_0,.int .i64 a0_1] 25 (0,0))):=⟨h0⟩;have H1 : Aside0 (V.heap[g1]? = some (.cells #[.string a1_0,.int .i64 a1_1] 28 (0,0))):=⟨h1⟩;have H2 : Aside0 (V.heap[g2]? = some (.cells #[.slice none 0 0,.int .i64 0] 25 (0,0))):=⟨h2⟩;have HB:=zh hBV;have HC:=zh (Kd.C_below hr0_0 hBV);clear h0 h1 h2 hBV hr0_0
 have hcells : ∀ W1,Below V.heap.size V W1→(W1.cell? ⟨g0,0,none⟩=some (.slice A0_0 l0_0.length c0_0)∧W1.cell? ⟨g0,1,none⟩=some (.int .i64 a0_1)∧W1.cell? ⟨g1,0,none⟩=some (.string a1_0)∧W1.cell? ⟨g1,1,none⟩=some (.int .i64 a1_1)) :=
  fun W1 hb=>⟨(zz (zD H0.out hb) 0).trans rfl,(zz (zD H0.out hb) 1).trans rfl,(zz (zD H1.out hb) 0).trans rfl,(zz (zD H1.out hb) 1).trans rfl⟩
 obtain ⟨k0,k1,-,-⟩:=hcells V (Below.refl _ _);have HCE:=zh hcells;clear hcells
 -- an early answer
 have early : ∀ W1,Below V.heap.size V W1→W1.heap[g2]? = some (.cells #[.slice none 0 0,.int .i64 0] 25 (0,0))∧Below w.heap.size w W1:=fun W1 hb=>⟨zD H2.out hb,zC HB.out hb⟩;have HEA:=zh early;clear early
 go_enter Try.func17,Try.ntmps17
 go_wp2_with fail
 rw [← hV];simp only [← hg0];simp only [← hg1];simp only [← hg2];clear hV hg0 hg1 hg2
 go_at_call 20
 refine (F3.calls k A0_0 c0_0 l0_0 a0_1 t V HC.out hc0_0 hT).mono ?_;rintro e w1 ⟨rfl,hb1⟩;have HB1:=zh hb1;clear hb1 hT k0 k1
 cases t with
 | false =>
  rw [if_neg jB] at h;simp only [Option.some.injEq,Prod.mk.injEq] at h;obtain ⟨rfl,rfl,rfl⟩:=h;obtain ⟨hz,hbz⟩:=HEA.out w1 HB1.out;have q0:=zz hz 0;have q1:=zz hz 1;have f0:=zA hz 0;have f1:=zA hz 1
  go_wp2_with fail
  refine bodyPost_ret (results_ct rfl _ _ g2 25 #[.slice none 0 0,.int .i64 0] (0,0) _ rfl (blk_set (blk_set hz 0 (.slice none 0 0)) 1 (.int .i64 0)) hu35 rfl jA) rfl ?_;exact ⟨_,rfl,Kd.S_nil _ _ _ _ _,zd (zd hbz hbase) hbase⟩
 | true =>
  rw [if_pos rfl] at h;obtain ⟨u,hU,h⟩:=zT.mp h;obtain ⟨-,-,k2,k3⟩:=HCE.out w1 HB1.out
  go_wp2_with fail
  go_at_call 32
  refine (F08.calls a1_0 a1_1 u w1 hU).mono ?_;rintro e w2 ⟨rfl,hb2⟩;have HB2:=zh (zC HB1.out hb2);clear hb2 hU k2 k3 HB1
  cases u with
  | false =>
   rw [if_neg jB] at h;simp only [Option.some.injEq,Prod.mk.injEq] at h;obtain ⟨rfl,rfl,rfl⟩:=h;obtain ⟨hz,hbz⟩:=HEA.out w2 HB2.out;have q0:=zz hz 0;have q1:=zz hz 1;have f0:=zA hz 0;have f1:=zA hz 1
   go_wp2_with fail
   refine bodyPost_ret (results_ct rfl _ _ g2 25 #[.slice none 0 0,.int .i64 0] (0,0) _ rfl (blk_set (blk_set hz 0 (.slice none 0 0)) 1 (.int .i64 0)) hu35 rfl jA) rfl ?_;exact ⟨_,rfl,Kd.S_nil _ _ _ _ _,zd (zd hbz hbase) hbase⟩
  | true =>
   rw [if_pos rfl] at h;obtain ⟨⟨L1,n1⟩,hK,h⟩:=zT.mp h;obtain ⟨⟨d1,L2⟩,hD,h⟩:=zT.mp h;simp only at hD h;obtain ⟨k0,k1,-,-⟩:=HCE.out w2 HB2.out
   go_wp2_with fail
   go_at_call 33
   refine (Fh.calls k A0_0 c0_0 l0_0 a0_1 L1 n1 w2 (Kd.C_below HC.out HB2.out) hc0_0 hK).mono ?_;rintro e w3 ⟨v3,rfl,hS3,hb3⟩;have HB3:=zh hb3;have HS3:=zh hS3;obtain ⟨A3,c3,rfl⟩:=Kd.S_slice hS3;clear hS3 hb3 hK k0 k1;obtain ⟨-,-,k2,k3⟩:=HCE.out (w3.alloc (.cells #[.slice A3 L1.length c3,.int .i64 n1] 25)) (za (zC HB2.out HB3.out) _)
   go_wp2_with fail
   go_at_call 38
   refine (F0e.calls k w3.heap.size (.slice A3 L1.length c3) L1 n1 a1_0 a1_1 d1 L2 w2 _ (za HB3.out _) (blk_new w3 _) HB3.out.size (Kd.S_alloc HS3.out _) hD).mono ?_;rintro e w5 ⟨pv,rfl,hb5,hS5,hB5⟩;have hz : w5.heap[g2]? = some (.cells #[.slice none 0 0,.int .i64 0] 25 (0,0)):=zD (HEA.out w2 HB2.out).1 hB5;have hbz : Below w.heap.size w w5:=zC (HEA.out w2 HB2.out).2 hB5;have hle : w.heap.size≤w2.heap.size:=(HEA.out w2 HB2.out).2.size;obtain ⟨A5,c5,rfl⟩:=Kd.S_slice hS5;have HS5:=zh (Kd.S_lower hS5 hle);have HZ:=zh hz;have HBZ:=zh hbz;have p0:=zz hb5 0;have p1:=zz hb5 1;clear hS5 hB5 hD hb5 k2 k3 HS3 HB3 hz hbz
   cases d1 with
   | false =>
    rw [if_neg jB] at h;simp only [Option.some.injEq,Prod.mk.injEq] at h;obtain ⟨rfl,rfl,rfl⟩:=h;have q0:=zz HZ.out 0;have q1:=zz HZ.out 1;have f0:=zA HZ.out 0;have f1:=zA HZ.out 1
    go_wp2_with fail
    refine bodyPost_ret (results_ct rfl _ _ g2 25 #[.slice A5 L2.length c5,.int .i64 n1] (0,0) _ rfl (blk_set (blk_set HZ.out 0 (.slice A5 L2.length c5)) 1 (.int .i64 n1)) hu35 rfl jA) rfl ?_;exact ⟨_,rfl,Kd.S_set (Kd.S_set HS5.out HZ.out jB 0 _) (blk_set HZ.out 0 _) jB 1 _,zd (zd HBZ.out hbase) hbase⟩
   | true =>
    rw [if_pos rfl] at h;obtain ⟨⟨L3,n3⟩,hK2,h⟩:=zT.mp h;simp only [Option.some.injEq,Prod.mk.injEq] at h;obtain ⟨rfl,rfl,rfl⟩:=h
    go_wp2_with fail
    go_at_call 33
    refine (Fh.calls k A5 c5 L2 n1 L3 n3 w5 (Kd.S_reads' HS5.out).2.2 (Kd.S_reads' HS5.out).2.1 hK2).mono ?_;rintro e w6 ⟨v6,rfl,hS6,hb6⟩;have HZ6:=zh (zD HZ.out hb6);have HB6:=zh (zC HBZ.out hb6);have HS6:=zh (Kd.S_lower hS6 HBZ.out.size);obtain ⟨A6,c6,rfl⟩:=Kd.S_slice hS6;clear hS6 hb6 hK2 p0 p1 HS5 HZ HBZ;have q0:=zz HZ6.out 0;have q1:=zz HZ6.out 1;have f0:=zA HZ6.out 0;have f1:=zA HZ6.out 1
    go_wp2_with fail
    refine bodyPost_ret (results_ct rfl _ _ g2 25 #[.slice A6 L3.length c6,.int .i64 n3] (0,0) _ rfl (blk_set (blk_set HZ6.out 0 (.slice A6 L3.length c6)) 1 (.int .i64 n3)) hu35 rfl jA) rfl ?_;exact ⟨_,rfl,Kd.S_set (Kd.S_set HS6.out HZ6.out jB 0 _) (blk_set HZ6.out 0 _) jB 1 _,zd (zd HB6.out hbase) hbase⟩

end Go.Proofs.Ytgifonogfgpjdaa.Q
end
section
namespace Go.Proofs.Ytgifonogfgpjdaa.Q
open Go.RowKit Go.Proofs.YtgifonogfgpjdaaW.PrintWords Go.Proofs.YtgifonogfgpjdaaW.PrintLast Go.Proofs.YtgifonogfgpjdaaW.PrintMore
attribute [local go_sem] max2_int min2_int max_two min_two max_three min_three max_four min_four max2_str min2_str str_geq str_gtr str_leq
set_option linter.unusedVariables false
set_option linter.unusedSimpArgs false
set_option maxHeartbeats 4000000 in
set_option maxRecDepth 100000 in
theorem slices_Insert_entries.ins2 (ok okp : Nat→Prop) (base : Nat) (v : Value) (xs : List S28) (p : S28) (cs : List Value) (gl i : Nat) (w0 W : World) (hi : i≤xs.length)
  (HO : Kd.R k28 28 W base ok v xs) (hvb : W.heap[gl]? = some (.cells cs.toArray 28 (0,0))) (hgl : some gl≠v.ownBlock) (hp : Kd.M k28 W base okp p cs) (hKM : ∀ x c,Kd.K k28 W x c→Kd.M k28 W base okp x c) (hokp : ∀ q,okp q→ok q∧some q≠v.ownBlock) (hfresh : ∀ q,W.heap.size≤q→ok q) (HB : Below base w0 W) (hbase : base≤W.heap.size) (hl : (xs.length+1)*24≤140737488355328) :
  Calls Try.prog 56 #[v,.int .i64 i,.slice (some ⟨gl,0,none⟩) 1 1] W fun ex w' => ∃ v1,ex = .returned v1∧Kd.R k28 28 w' base ok v1 (xs.take i ++ [p]++xs.drop i)∧Below base w0 w' ∧ W.grownBy w' v.ownBlock∧(v1.ownBlock=v.ownBlock ∨ ∃ b,v1.ownBlock=some b∧W.heap.size≤b):=by
 have hcl : cs.length=2:=Kd.K_len k28 (Kd.K_of_M k28 hp);have h1c : ∀ u ∈ cs,u.oneCell' = true:=Kd.K_one k28 (Kd.K_of_M k28 hp)
 have hCone : Kd.C k28 W (some ⟨gl,0,none⟩) 1 [p] :=
  ⟨rfl,jD,fun _=>⟨_,rfl,fun j q hj=>by
   cases j with
   | succ j=>simp at hj
   | zero =>
    obtain rfl : p=q:=by simpa using hj
    refine ⟨cs,hcl,Kd.K_of_M k28 hp,fun i u hi=>?_⟩;rw [add_plain,zz hvb]
    simpa using hi⟩⟩
 by_cases hin : i=xs.length
 ·
  subst hin
  have e0 : xs.take xs.length ++ [p]++xs.drop xs.length=xs ++ [p]:=by simp
  rw [e0];obtain ⟨A,c,rfl⟩:=yk HO;have hlx : ¬ ((1 : Int)=0):=by decide
  by_cases hcn : c=xs.length
  ·
   subst hcn
   go_enter Try.func56,Try.ntmps56
   go_wp2_with (at_builtin;refine Kd.R_append_rows k28 base (by rfl) (.tmp 23) (.tmp 24) 33 28 (.agg #[(.string ⟨#[]⟩),(.int .i64 0)]) 24 rfl Try.underlying33 info28 rfl jB jB (.slice A xs.length xs.length) xs [p] (some ⟨gl,0,none⟩) 1 1 ok okp rfl rfl HO hCone hKM hokp hfresh HB hbase hl ?_;intro v1 w1 hR hb hg hat)
   go_ret
   exact ⟨v1,rfl,hR,hb,hg,hat⟩
  have hcn2 : ¬ xs.length=c:=fun h=>hcn h.symm
  go_enter Try.func56,Try.ntmps56
  go_wp2_with (at_builtin;refine Kd.R_append_rows k28 base (by rfl) (.tmp 23) (.tmp 24) 33 28 (.agg #[(.string ⟨#[]⟩),(.int .i64 0)]) 24 rfl Try.underlying33 info28 rfl jB jB (.slice A xs.length c) xs [p] (some ⟨gl,0,none⟩) 1 1 ok okp rfl rfl HO hCone hKM hokp hfresh HB hbase hl ?_;intro v1 w1 hR hb hg hat)
  go_ret
  exact ⟨v1,rfl,hR,hb,hg,hat⟩
 have hlt : i<xs.length:=by omega
 obtain ⟨hok,inner,hown,hreps⟩:=HO;obtain ⟨hil,⟨rfl,h0⟩|⟨g,cap,cur,rfl,hbg,hh,hnc,hcm,hcs,ht⟩⟩:=hown
 ·
  rw [h0] at hlt;exact absurd hlt (Nat.not_lt_zero _)
 have hsz0 : k28.sz=2:=rfl;rw [hsz0] at hil hcs ht hreps;have hglt : g<W.heap.size:=yi hh;have hh1 : W.heap[g]? = some (.cells cur 28 (0,0)):=hh;have hgo : (Value.slice (some ⟨g,0,none⟩) xs.length cap).ownBlock=some g:=by simp [Value.ownBlock]
 have hcm' : cap≤9223372036854775807:=hcm;have hnb : xs.length≤140737488355328:=by omega
 have hcells : ∀ j u,inner[j]? = some u→W.cell? ⟨g,j,none⟩=some u:=fun j u hj=>by
  rw [zz hh];rw [← ht,List.getElem?_take] at hj
  split at hj
  ·
   rw [← Array.getElem?_toList];exact hj
  cases hj
 have h1i : ∀ u ∈ inner,u.oneCell' = true:=by
  obtain ⟨A',c',he,_,hC⟩:=Kd.R_reads (d:=k28) (e:=28) (w:=W) (base:=base) (ok:=ok) (xs:=xs) (v:=.slice (some ⟨g,0,none⟩) xs.length cap) ⟨hok,inner,⟨hil,.inr ⟨g,cap,cur,rfl,hbg,hh,hnc,hcm,hcs,ht⟩⟩,hreps⟩;intro u hu;obtain ⟨q,hq,rfl⟩:=List.getElem_of_mem hu;have hq2 : q / 2<xs.length:=by rw [hil] at hq;omega
  have h3:=hreps.2 (q / 2) _ (List.getElem?_eq_getElem hq2);refine Kd.K_one k28 (Kd.K_of_M k28 h3) _ ?_;have e3 : q=q / 2*2+q % 2:=by omega
  rw [List.mem_take_iff_getElem];refine ⟨q % 2,jDB,?_⟩;rw [List.getElem_drop]
  congr 1
  omega
 have hRE : ∀ w1 v1,w1.ownsRow base 28 2 v1 (xs.take i ++ [p]++xs.drop i).length (inner.take (i*2)++cs++inner.drop (i*2))→W.grownBy w1 (some g)→(v1.ownBlock=some g ∨ ∃ b,v1.ownBlock=some b∧W.heap.size≤b)→Kd.R k28 28 w1 base ok v1 (xs.take i ++ [p]++xs.drop i):=by
  intro w1 v1 ho hg hat;refine Go.Proofs.Ytgifonogfgpjdaa.Row.R_again (v:=.slice (some ⟨g,0,none⟩) xs.length cap) hok ?_ hfresh ho (by rw [hgo];exact hg) jDC;exact Kd.reps_append (Kd.reps_append (Kd.reps_take hreps (Nat.le_of_lt hlt)) (Go.Proofs.Ytgifonogfgpjdaa.Row.reps_one (Kd.M_mono k28 (fun q hq=>hokp q hq) hp) hcl)) (Go.Proofs.Ytgifonogfgpjdaa.Row.reps_drop hreps)
 have hlen : (xs.take i ++ [p]++xs.drop i).length=xs.length+1:=by simp;omega
 have hlen2 : (inner.take (i*2)++cs++inner.drop (i*2)).length=(xs.length+1)*2:=by simp [hcl,hil];omega
 have hdl : (inner.drop (i*2)).length=(xs.length - i)*2:=by rw [zw,hil,Nat.sub_mul]
 have htl : (inner.take (i*2)).length=i*2:=by rw [zx,hil];omega
 have hsz : (Try.prog.info? 28).map (·.size)=some 2:=by have:=info28;cases hq : Try.prog.info? 28 with
  | none=>rw [hq] at this;cases this
  | some i0=>rw [hq] at this;simp at this;simp [this.2.1]
 have hw1 : IntKind.i64.wrap ((xs.length : Int)+1)=(xs.length : Int)+1:=by rw [IntKind.wrap_i64];omega
 have hw2 : IntKind.i64.wrap ((i : Int)+1)=(i : Int)+1:=by rw [IntKind.wrap_i64];omega
 have hw3 : IntKind.i64.wrap ((i : Int)+(1 : Int))=(i : Int)+1:=by rw [IntKind.wrap_i64];omega
 have hw4 : IntKind.i64.wrap ((xs.length : Int)+1 - (i : Int))=(xs.length : Int)+1 - (i : Int):=by rw [IntKind.wrap_i64];omega
 have hq1 : ¬ ((i : Int)=(xs.length : Int)):=by omega
 have hq1b : ((i : Int) == (xs.length : Int))=false:=zY.mpr hq1;have hrow1 : ∀ (C : List Value) (q : Nat) (x : List Value),q+x.length≤C.length→(C.take q++x++C.drop (q+x.length)).length=C.length:=fun C q x h=>by simp;omega
 have hu:=Try.underlying33
 have hfc : ∀ j u,cs[j]? = some u→W.cell? ⟨gl,j,none⟩=some u:=fun j u hj=>by
  rw [zz hvb];simpa using hj
 have hgv : gl≠g:=fun e=>hgl (by rw [hgo,e]);have mixed : Try.prog.follows Departure.mixedOrders=true:=by rfl
 by_cases hroom : cap<xs.length+1
 ·
  have hz3 : (cap : Int)<(xs.length : Int)+1:=by omega
  have hz3b : decide ((cap : Int)<(xs.length : Int)+1)=true:=decide_eq_true hz3
  obtain ⟨i0,hi0,hzz,hzs,hzb⟩ : ∃ i0,Try.prog.info? 28=some i0∧i0.zero=some (.agg #[(.string ⟨#[]⟩),(.int .i64 0)])∧i0.size=2∧i0.bytes=24:=by
   have:=info28
   cases hq : Try.prog.info? 28 with
   | none=>rw [hq] at this;cases this
   | some i0=>rw [hq] at this;simp at this;exact ⟨i0,rfl,this.1,this.2.1,this.2.2⟩
  obtain ⟨V,hV⟩ : ∃ V,V=W:=⟨_,rfl⟩;have hvb0:=hvb;rw [← hV] at hvb hh1 hfc ⊢;have hVs : V.heap.size=W.heap.size:=by rw [hV]
  have hcellsV : ∀ j u,inner[j]? = some u→V.cell? ⟨g,j,none⟩=some u:=fun j u hj=>by
   have:=hcells j u hj;rw [zz hh] at this;rw [zz hh1];exact this
  have hold : (Builtin.firstCells i0.size i (.slice (some ⟨g,0,none⟩) i cap)).run Try.prog V.drew = .ok (inner.take (i*2)).toArray V.drew:=by
   rw [hzs]
   exact run_firstCells_some V.drew 2 i ⟨g,0,none⟩ i cap (inner.take (i*2)) (by rw [htl]) (fun j v hj=>by
    rw [add_plain];rw [List.getElem?_take] at hj
    split at hj
    ·
     exact hcellsV j v hj
    cases hj)
  have hik : i+(xs.length+1 - i)=xs.length+1:=by omega
  have hrz : ∀ ty,(Builtin.append_ #[33,3] ty #[.slice (some ⟨g,0,none⟩) i cap,.int .i64 ((xs.length : Int)+1 - (i : Int))]).run Try.prog V =
    .ok (.slice (some ⟨V.heap.size,0,none⟩) (xs.length+1) (grownCap V (xs.length+1) cap 28)) (V.drew.alloc (.cells ((inner.take (i*2)).toArray++Builtin.zeroCells ((.agg #[(.string ⟨#[]⟩),(.int .i64 0)]) : Value).cells (xs.length+1 - i)++Builtin.zeroCells ((.agg #[(.string ⟨#[]⟩),(.int .i64 0)]) : Value).cells (grownCap V (xs.length+1) cap 28 - (xs.length+1))) 28)):=fun ty=>by
   have h:=Lib.run_append_grow_zeros V 33 3 ty 28 i0 _ .i64 .i64 hu Try.underlying3 hi0 hzz (some ⟨g,0,none⟩) i cap (inner.take (i*2)) hold (xs.length+1 - i) jD (by rw [hzs];decide) jD jD (by rw [hzb];omega) (by rw [hzb,hik];exact growslice_fits hroom hl);rw [hik,show ((xs.length+1 - i : Nat) : Int)=(xs.length : Int)+1 - (i : Int) by omega] at h;exact h
  obtain ⟨G,hG⟩ : ∃ G,G=grownCap V (xs.length+1) cap 28:=⟨_,rfl⟩;have hGn : xs.length+1≤G:=by rw [hG];exact grownCap_ge _ _ _ _
  have hGm : G≤maxLen:=by rw [hG];exact grownCap_le_maxLen _ _ _ _ (by unfold maxLen;omega)
  obtain ⟨ROW,hROW⟩ : ∃ ROW : Array Value,ROW=(inner.take (i*2)).toArray++Builtin.zeroCells ((.agg #[(.string ⟨#[]⟩),(.int .i64 0)]) : Value).cells (xs.length+1 - i)++Builtin.zeroCells ((.agg #[(.string ⟨#[]⟩),(.int .i64 0)]) : Value).cells (G - (xs.length+1)):=⟨_,rfl⟩;rw [← hG,← hROW] at hrz
  have hRs : ROW.size=G*2:=by
   rw [hROW];have hz9 : ((.agg #[(.string ⟨#[]⟩),(.int .i64 0)]) : Value).cells.size=2:=by rfl
   simp only [Array.size_append,List.size_toArray,htl,Builtin.zeroCells,Array.size_map,Array.size_range,hz9]
   omega
  have hRl : ROW.toList.length=G*2:=(Array.length_toList (xs:=ROW)).trans hRs
  have hRt : ROW.toList.take (i*2)=inner.take (i*2):=by
   rw [hROW];simp only [Array.toList_append,List.append_assoc];rw [List.take_append_of_le_length jBl,List.take_of_length_le jBl]
  clear hROW;obtain ⟨W1,hW1⟩ : ∃ W1,W1=V.drew.alloc (.cells ROW 28):=⟨_,rfl⟩;rw [← hW1] at hrz;have hN1 : W1.heap[V.heap.size]? = some (.cells ROW 28 (0,0)):=by rw [hW1];exact blk_new V.drew _
  have hvb1 : W1.heap[gl]? = some (.cells cs.toArray 28 (0,0)):=by rw [hW1];exact zg (zf hvb) _
  have hg1 : W1.heap[g]? = some (.cells cur 28 (0,0)):=by rw [hW1];exact zg (zf hh1) _
  have hB1 : Below W.heap.size W W1:=by rw [hW1,hV];exact za (below_drew (Below.refl _ _)) _
  obtain ⟨R1,hR1⟩ : ∃ R1 : List Value,R1=ROW.toList.take (i*2)++cs++ROW.toList.drop (i*2+cs.length):=⟨_,rfl⟩;have hR1l : R1.length=G*2:=by rw [hR1,hrow1 _ _ _ (by rw [hRl,hcl];omega),hRl]
  have hcp1 : ∀ ty dc,(Builtin.copy_ #[33,33] ty #[.slice (some ⟨V.heap.size,i*2,none⟩) (xs.length+1 - i) dc,.slice (some ⟨gl,0,none⟩) 1 1]).run Try.prog W1 = .ok (goInt (Nat.min 1 (xs.length+1 - i))) (W1.setRow V.heap.size R1.toArray):=fun ty dc=>by
   rw [hR1];exact Go.Proofs.Ytgifonogfgpjdaa.Row.run_copy_rowk W1 _ _ ty 28 2 V.heap.size (i*2) (xs.length+1 - i) dc ⟨gl,0,none⟩ 1 1 ROW 28 cs hu hsz hN1 (by rw [hcl];have : Nat.min 1 (xs.length+1 - i)=1:=Nat.min_eq_left jD;rw [this]) (fun j v hj=>by rw [add_plain,zz hvb1];simpa using hj) (by rw [hRs,hcl];omega) h1c
  obtain ⟨W2,hW2⟩ : ∃ W2,W2=W1.setRow V.heap.size R1.toArray:=⟨_,rfl⟩;rw [← hW2] at hcp1;have hN2 : W2.heap[V.heap.size]? = some (.cells R1.toArray 28 (0,0)):=by rw [hW2];exact setRow_heap W1 _ _ _ _ _ hN1
  have hoth2 : ∀ k,k≠V.heap.size→W2.heap[k]? = W1.heap[k]?:=fun k hk=>by rw [hW2];exact setRow_other _ _ _ _ hk
  have hg2 : W2.heap[g]? = some (.cells cur 28 (0,0)):=(hoth2 g jD).trans hg1;obtain ⟨R2,hR2⟩ : ∃ R2 : List Value,R2=R1.take ((i+1)*2)++inner.drop (i*2)++R1.drop ((i+1)*2+(inner.drop (i*2)).length):=⟨_,rfl⟩;have hR2l : R2.length=G*2:=by rw [hR2,hrow1 _ _ _ (by rw [hR1l,hdl];omega),hR1l]
  have hR2t : R2.take ((xs.length+1)*2)=inner.take (i*2)++cs++inner.drop (i*2):=by
   have e1 : R1.take ((i+1)*2)=inner.take (i*2)++cs:=by
    rw [hR1,hRt,List.take_append_of_le_length jBm,List.take_of_length_le jBm]
   rw [hR2,e1,List.take_append_of_le_length jA5,List.take_of_length_le jA5]
  have hcp2 : ∀ ty dc sc,(Builtin.copy_ #[33,33] ty #[.slice (some ⟨V.heap.size,(i+1)*2,none⟩) (xs.length+1 - (i+1)) dc,.slice (some ⟨g,i*2,none⟩) (xs.length - i) sc]).run Try.prog W2.drew = .ok (goInt (Nat.min (xs.length - i) (xs.length+1 - (i+1)))) (W2.drew.setRow V.heap.size R2.toArray):=fun ty dc sc=>by
   rw [hR2]
   have:=Go.Proofs.Ytgifonogfgpjdaa.Row.run_copy_rowk W2.drew 33 33 ty 28 2 V.heap.size ((i+1)*2) (xs.length+1 - (i+1)) dc ⟨g,i*2,none⟩ (xs.length - i) sc R1.toArray 28 (inner.drop (i*2)) hu hsz (zf hN2) (by rw [hdl];have : Nat.min (xs.length - i) (xs.length+1 - (i+1))=xs.length - i:=Nat.min_eq_left jD;rw [this]) (fun j v hj=>by
    rw [add_at,zz (zf hg2)];rw [List.getElem?_drop,← ht,List.getElem?_take] at hj
    split at hj
    ·
     rw [← Array.getElem?_toList];exact hj
    cases hj) jDD (fun u hu=>h1i u (List.mem_of_mem_drop hu))
   simpa using this
  obtain ⟨W3,hW3⟩ : ∃ W3,W3=W2.drew.setRow V.heap.size R2.toArray:=⟨_,rfl⟩;rw [← hW3] at hcp2;have hN3 : W3.heap[V.heap.size]? = some (.cells R2.toArray 28 (0,0)):=by rw [hW3];exact setRow_heap W2.drew _ _ _ _ _ (zf hN2)
  have hB3 : Below W.heap.size W W3:=by
   refine ⟨by rw [hW3,hW2];exact hB1.os,by rw [hW3,hW2];exact hB1.tape,by rw [hW3,hW2];exact hB1.output,by rw [hW3,hW2];simpa using hB1.size,fun k hk=>?_⟩;rw [hW3,setRow_other _ _ _ _ jD];show W2.heap[k]? = _;rw [hoth2 k jD];exact hB1.block k hk
  have hfin : ∃ v1,(Value.slice (some ⟨V.heap.size,0,none⟩) (xs.length+1) G)=v1∧Kd.R k28 28 W3 base ok v1 (xs.take i ++ [p]++xs.drop i)∧Below base w0 W3∧W.grownBy W3 (some g)∧(v1.ownBlock=some g ∨ ∃ b,v1.ownBlock=some b∧W.heap.size≤b):=by
   refine ⟨_,rfl,hRE W3 _ ?_ (grown_of_below hB3 _) ?_,below_then HB hbase hB3,grown_of_below hB3 _,?_⟩
   ·
    refine ⟨by rw [hlen2,hlen],.inr ⟨V.heap.size,G,R2.toArray,by rw [hlen],jD,hN3,by rw [hlen];exact hGn,hGm,jBn,jBo⟩⟩
   ·
    exact .inr ⟨V.heap.size,jAe,jD⟩
   exact .inr ⟨V.heap.size,jAe,jD⟩
  clear hRE hreps hW3 hW2 hW1 hR1 hR2 hold hrow1 hokp hok HB hp;rw [← hV] at hfin;clear hV hVs hG;rw [hgo];have hi0 : (0 : Int)≤(i : Int):=by omega
  have hin2 : (i : Int)≤(xs.length : Int):=by omega
  have hcn : ¬ (cap=i):=by omega
  have hGi : ¬ (G=i):=by omega
  have hGi1 : ¬ (G=i+1):=by omega
  have htn : ((i : Int)+1).toNat=i+1:=by omega
  have hb1 : (0 : Int)≤(i : Int)+1:=by omega
  have hb3 : (i : Int)≤(xs.length : Int):=by omega
  have hb4 : i≤xs.length:=hi;have hb5 : (i : Int)+1≤(xs.length : Int)+1:=by omega
  have hb6 : (i : Int)<(xs.length : Int):=by omega
  go_enter Try.func56,Try.ntmps56
  go_wp2_with (first
   | (at_builtin;refine Lib.wpList_append_run _ rfl _ _ _ _ rfl _ _ rfl rfl _ _ (hrz _) ?_)
   | (at_builtin;(refine Go.Proofs.Ytgifonogfgpjdaa.Row.copy_run rfl _ _ 33 33 rfl _ _ rfl rfl (hcp1 _ _) ?_)))
  go_region_law_o (refine Go.Proofs.Ytgifonogfgpjdaa.Row.copy_step rfl _ _ 33 33 rfl (.slice (some ⟨V.heap.size,(i+1)*2,none⟩) (xs.length+1 - (i+1)) (G - (i+1))) (.slice (some ⟨g,i*2,none⟩) (xs.length - i) (cap - i)) jx jx (hcp2 3 (G - (i+1)) (cap - i)) ?_)
  go_wp2
  go_ret
  obtain ⟨v1,rfl,h1,h2,h3,h4⟩:=hfin;exact ⟨_,rfl,h1,h2,h3,h4⟩
 have hr : xs.length+1≤cap:=by omega
 have hz3b : decide ((cap : Int)<(xs.length : Int)+1)=false:=decide_eq_false jD;have hz3 : ¬ ((cap : Int)<(xs.length : Int)+1):=by omega
 obtain ⟨V,hV⟩ : ∃ V,V=W:=⟨_,rfl⟩;have hvb0:=hvb;rw [← hV] at hvb hh1 hfc ⊢;have hVs : V.heap.size=W.heap.size:=by rw [hV]
 have hov : ∀ lb cb,(callFunc 67 #[.slice (some ⟨gl,0,none⟩) 1 1,.slice (some ⟨g,(i+1)*2,none⟩) lb cb]).run Try.prog V = .ok (.value (.bool false)) V:=fun lb cb=>by
  rw [run_callFunc_extern Try.func67 jA jA jA (e:=Extern.SlicesOverlaps.overlaps #[33,33] #[4]) jA,
   Lib.run_overlaps_apart V 33 4 28 hu 2 (fun w=>by
    cases hq : Try.prog.info? 28 with
    | none=>rw [hq] at hsz;cases hsz
    | some i0=>rw [hq] at hsz;simp at hsz;simp [sizeOf,typeInfo,hq,hsz]) ⟨gl,0,none⟩ ⟨g,(i+1)*2,none⟩ 1 1 lb cb hgv 28 28 cs.toArray.size cur.size (by simp [World.shape?,hvb]) (by simp [World.shape?,hh1]) (by rw [hcs];omega) (zA hvb 0) (zA hvb _)]
  rfl
 obtain ⟨R1,hR1⟩ : ∃ R1 : List Value,R1=cur.toList.take ((i+1)*2)++inner.drop (i*2)++cur.toList.drop ((i+1)*2+(inner.drop (i*2)).length):=⟨_,rfl⟩;have hcl2 : cur.toList.length=cap*2:=(Array.length_toList (xs:=cur)).trans hcs;have hR1l : R1.length=cap*2:=by rw [hR1,hrow1 _ _ _ (by rw [hcl2,hdl];omega),hcl2]
 have hcp1 : ∀ ty dc sc,(Builtin.copy_ #[33,33] ty #[.slice (some ⟨g,(i+1)*2,none⟩) (xs.length+1 - (i+1)) dc,.slice (some ⟨g,i*2,none⟩) (xs.length+1 - i) sc]).run Try.prog V.drew = .ok (goInt (Nat.min (xs.length+1 - i) (xs.length+1 - (i+1)))) (V.drew.setRow g R1.toArray):=fun ty dc sc=>by
  rw [hR1]
  exact Go.Proofs.Ytgifonogfgpjdaa.Row.run_copy_rowk V.drew 33 33 ty 28 2 g ((i+1)*2) (xs.length+1 - (i+1)) dc ⟨g,i*2,none⟩ (xs.length+1 - i) sc cur 28 (inner.drop (i*2)) hu hsz (zf hh1) (by rw [hdl];have : Nat.min (xs.length+1 - i) (xs.length+1 - (i+1))=xs.length - i:=(Nat.min_eq_right jD).trans jD;rw [this]) (fun j v hj=>by
   rw [add_at,zz (zf hh1)];rw [List.getElem?_drop,← ht,List.getElem?_take] at hj
   split at hj
   ·
    rw [← Array.getElem?_toList];exact hj
   cases hj) (by rw [hcs,hdl];omega) (fun u hu=>h1i u (List.mem_of_mem_drop hu))
 obtain ⟨W1,hW1⟩ : ∃ W1,W1=V.drew.setRow g R1.toArray:=⟨_,rfl⟩;rw [← hW1] at hcp1;have hg1 : W1.heap[g]? = some (.cells R1.toArray 28 (0,0)):=by rw [hW1];exact setRow_heap V.drew _ _ _ _ _ (zf hh1)
 have hoth1 : ∀ k,k≠g→W1.heap[k]? = V.heap[k]?:=fun k hk=>by rw [hW1];exact setRow_other _ _ _ _ hk
 have hvb1 : W1.heap[gl]? = some (.cells cs.toArray 28 (0,0)):=(hoth1 _ hgv).trans hvb;obtain ⟨R2,hR2⟩ : ∃ R2 : List Value,R2=R1.take (i*2)++cs++R1.drop (i*2+cs.length):=⟨_,rfl⟩;have hR2l : R2.length=cap*2:=by rw [hR2,hrow1 _ _ _ (by rw [hR1l,hcl];omega),hR1l]
 have hct : cur.toList.take (i*2)=inner.take (i*2):=by rw [← ht,List.take_take,Nat.min_eq_left jD]
 have hR2t : R2.take ((xs.length+1)*2)=inner.take (i*2)++cs++inner.drop (i*2):=by
  have e1 : R1.take (i*2)=inner.take (i*2):=by
   rw [hR1,List.append_assoc,List.take_append_of_le_length (by simp [hcl2,hcs];omega),List.take_take,Nat.min_eq_left jD,hct]
  have e2 : (R1.drop (i*2+cs.length)).take ((xs.length - i)*2)=inner.drop (i*2):=by
   have e3 : (cur.toList.take ((i+1)*2)).length=i*2+cs.length:=by rw [zx,hcl2,hcl];omega
   rw [hR1,List.append_assoc,← e3,List.drop_left,← hdl,List.take_left]
  rw [hR2,e1,List.take_append,List.take_of_length_le jA5]
  congr 1
  rw [← e2]
  congr 1
  simp [hcl,hil];omega
 have hcp2 : ∀ ty dc,(Builtin.copy_ #[33,33] ty #[.slice (some ⟨g,i*2,none⟩) (xs.length+1 - i) dc,.slice (some ⟨gl,0,none⟩) 1 1]).run Try.prog W1 = .ok (goInt (Nat.min 1 (xs.length+1 - i))) (W1.setRow g R2.toArray):=fun ty dc=>by
  rw [hR2];exact Go.Proofs.Ytgifonogfgpjdaa.Row.run_copy_rowk W1 33 33 ty 28 2 g (i*2) (xs.length+1 - i) dc ⟨gl,0,none⟩ 1 1 R1.toArray 28 cs hu hsz hg1 (by rw [hcl];have : Nat.min 1 (xs.length+1 - i)=1:=Nat.min_eq_left jD;rw [this]) (fun j v hj=>by rw [add_plain,zz hvb1];simpa using hj) jDE h1c
 obtain ⟨W2,hW2⟩ : ∃ W2,W2=W1.setRow g R2.toArray:=⟨_,rfl⟩;rw [← hW2] at hcp2;have hg2 : W2.heap[g]? = some (.cells R2.toArray 28 (0,0)):=by rw [hW2];exact setRow_heap W1 _ _ _ _ _ hg1
 have hgr : W.grownBy W2 (some g):=by
  have hsz2 : W2.heap.size=W.heap.size:=by rw [hW2,hW1];simp only [setRow_size];exact hVs
  refine ⟨jA6,jA6,jA6,by rw [hsz2];omega,fun k hk hkg=>?_⟩;have hkg' : k≠g:=fun e=>hkg (by rw [e]);rw [hW2,setRow_other _ _ _ _ hkg',hoth1 k hkg',hV]
 have hfin : ∃ v1,(Value.slice (some ⟨g,0,none⟩) (xs.length+1) cap)=v1∧Kd.R k28 28 W2 base ok v1 (xs.take i ++ [p]++xs.drop i)∧Below base w0 W2∧W.grownBy W2 (some g)∧(v1.ownBlock=some g ∨ ∃ b,v1.ownBlock=some b∧W.heap.size≤b):=by
  refine ⟨_,rfl,hRE W2 _ ?_ hgr (.inl jAe),pw_below_grown HB (some g) hbase hgr (fun k hk=>by injection hk with hk;omega),hgr,.inl jAe⟩;refine ⟨by rw [hlen2,hlen],.inr ⟨g,cap,R2.toArray,by rw [hlen],hbg,hg2,by rw [hlen];exact hr,hcm,jBn,jBo⟩⟩
 clear hRE hreps hW2 hW1 hR1 hR2 hrow1 hokp hok HB hp hgr;rw [← hV] at hfin;clear hV hVs;rw [hgo];have hi0 : (0 : Int)≤(i : Int):=by omega
 have hin2 : (i : Int)≤(xs.length : Int):=by omega
 have hcn : ¬ (cap=i):=by omega
 have hcn1 : ¬ (cap=i+1):=by omega
 have htn : ((i : Int)+1).toNat=i+1:=by omega
 have htn2 : ((xs.length : Int)+1).toNat=xs.length+1:=by omega
 have hb0 : (0 : Int)≤(xs.length : Int)+1:=by omega
 have hb1 : (0 : Int)≤(i : Int)+1:=by omega
 have hb5 : (i : Int)+1≤(xs.length : Int)+1:=by omega
 have hb6 : (i : Int)<(xs.length : Int):=by omega
 have hb7 : (xs.length : Int)+1≤(cap : Int):=by omega
 have hb8 : (i : Int)≤(xs.length : Int)+1:=by omega
 go_enter Try.func56,Try.ntmps56
 go_wp2_with (simp only [hov])
 go_region_law_o (refine Go.Proofs.Ytgifonogfgpjdaa.Row.copy_step rfl _ _ 33 33 rfl (.slice (some ⟨g,(i+1)*2,none⟩) (xs.length+1 - (i+1)) (cap - (i+1))) (.slice (some ⟨g,i*2,none⟩) (xs.length+1 - i) (cap - i)) jx jx (hcp1 3 (cap - (i+1)) (cap - i)) ?_)
 go_wp2_with (at_builtin;(refine Go.Proofs.Ytgifonogfgpjdaa.Row.copy_run rfl _ _ 33 33 rfl _ _ rfl rfl (hcp2 _ _) ?_))
 go_ret
 obtain ⟨v1,rfl,h1,h2,h3,h4⟩:=hfin;exact ⟨_,rfl,h1,h2,h3,h4⟩

set_option maxHeartbeats 4000000 in
set_option maxRecDepth 100000 in
theorem slices_Insert_pages.ins2 (ok okp : Nat→Prop) (base : Nat) (v : Value) (xs : List (List Value)) (p : (List Value)) (cs : List Value) (gl i : Nat) (w0 W : World) (hi : i≤xs.length)
  (HO : Kd.R (Kd.raw 2) 60 W base ok v xs) (hvb : W.heap[gl]? = some (.cells cs.toArray 60 (0,0))) (hgl : some gl≠v.ownBlock) (hp : Kd.M (Kd.raw 2) W base okp p cs) (hKM : ∀ x c,Kd.K (Kd.raw 2) W x c→Kd.M (Kd.raw 2) W base okp x c) (hokp : ∀ q,okp q→ok q∧some q≠v.ownBlock) (hfresh : ∀ q,W.heap.size≤q→ok q) (HB : Below base w0 W) (hbase : base≤W.heap.size) (hl : (xs.length+1)*32≤140737488355328) :
  Calls Try.prog 57 #[v,.int .i64 i,.slice (some ⟨gl,0,none⟩) 1 1] W fun ex w' => ∃ v1,ex = .returned v1∧Kd.R (Kd.raw 2) 60 w' base ok v1 (xs.take i ++ [p]++xs.drop i)∧Below base w0 w' ∧ W.grownBy w' v.ownBlock∧(v1.ownBlock=v.ownBlock ∨ ∃ b,v1.ownBlock=some b∧W.heap.size≤b):=by
 have hcl : cs.length=2:=Kd.K_len (Kd.raw 2) (Kd.K_of_M (Kd.raw 2) hp);have h1c : ∀ u ∈ cs,u.oneCell' = true:=Kd.K_one (Kd.raw 2) (Kd.K_of_M (Kd.raw 2) hp)
 have hCone : Kd.C (Kd.raw 2) W (some ⟨gl,0,none⟩) 1 [p] :=
  ⟨rfl,jD,fun _=>⟨_,rfl,fun j q hj=>by
   cases j with
   | succ j=>simp at hj
   | zero =>
    obtain rfl : p=q:=by simpa using hj
    refine ⟨cs,hcl,Kd.K_of_M (Kd.raw 2) hp,fun i u hi=>?_⟩;rw [add_plain,zz hvb]
    simpa using hi⟩⟩
 by_cases hin : i=xs.length
 ·
  subst hin
  have e0 : xs.take xs.length ++ [p]++xs.drop xs.length=xs ++ [p]:=by simp
  rw [e0];obtain ⟨A,c,rfl⟩:=yk HO;have hlx : ¬ ((1 : Int)=0):=by decide
  by_cases hcn : c=xs.length
  ·
   subst hcn
   go_enter Try.func57,Try.ntmps57
   go_wp2_with (at_builtin;refine Kd.R_append_rows (Kd.raw 2) base (by rfl) (.tmp 23) (.tmp 24) 23 60 (.agg #[(.int .i64 0),(.slice none 0 0)]) 32 rfl Try.underlying23 info60 rfl jB jB (.slice A xs.length xs.length) xs [p] (some ⟨gl,0,none⟩) 1 1 ok okp rfl rfl HO hCone hKM hokp hfresh HB hbase hl ?_;intro v1 w1 hR hb hg hat)
   go_ret
   exact ⟨v1,rfl,hR,hb,hg,hat⟩
  have hcn2 : ¬ xs.length=c:=fun h=>hcn h.symm
  go_enter Try.func57,Try.ntmps57
  go_wp2_with (at_builtin;refine Kd.R_append_rows (Kd.raw 2) base (by rfl) (.tmp 23) (.tmp 24) 23 60 (.agg #[(.int .i64 0),(.slice none 0 0)]) 32 rfl Try.underlying23 info60 rfl jB jB (.slice A xs.length c) xs [p] (some ⟨gl,0,none⟩) 1 1 ok okp rfl rfl HO hCone hKM hokp hfresh HB hbase hl ?_;intro v1 w1 hR hb hg hat)
  go_ret
  exact ⟨v1,rfl,hR,hb,hg,hat⟩
 have hlt : i<xs.length:=by omega
 obtain ⟨hok,inner,hown,hreps⟩:=HO;obtain ⟨hil,⟨rfl,h0⟩|⟨g,cap,cur,rfl,hbg,hh,hnc,hcm,hcs,ht⟩⟩:=hown
 ·
  rw [h0] at hlt;exact absurd hlt (Nat.not_lt_zero _)
 have hsz0 : (Kd.raw 2).sz=2:=rfl;rw [hsz0] at hil hcs ht hreps;have hglt : g<W.heap.size:=yi hh;have hh1 : W.heap[g]? = some (.cells cur 60 (0,0)):=hh;have hgo : (Value.slice (some ⟨g,0,none⟩) xs.length cap).ownBlock=some g:=by simp [Value.ownBlock]
 have hcm' : cap≤9223372036854775807:=hcm;have hnb : xs.length≤140737488355328:=by omega
 have hcells : ∀ j u,inner[j]? = some u→W.cell? ⟨g,j,none⟩=some u:=fun j u hj=>by
  rw [zz hh];rw [← ht,List.getElem?_take] at hj
  split at hj
  ·
   rw [← Array.getElem?_toList];exact hj
  cases hj
 have h1i : ∀ u ∈ inner,u.oneCell' = true:=by
  obtain ⟨A',c',he,_,hC⟩:=Kd.R_reads (d:=(Kd.raw 2)) (e:=60) (w:=W) (base:=base) (ok:=ok) (xs:=xs) (v:=.slice (some ⟨g,0,none⟩) xs.length cap) ⟨hok,inner,⟨hil,.inr ⟨g,cap,cur,rfl,hbg,hh,hnc,hcm,hcs,ht⟩⟩,hreps⟩;intro u hu;obtain ⟨q,hq,rfl⟩:=List.getElem_of_mem hu;have hq2 : q / 2<xs.length:=by rw [hil] at hq;omega
  have h3:=hreps.2 (q / 2) _ (List.getElem?_eq_getElem hq2);refine Kd.K_one (Kd.raw 2) (Kd.K_of_M (Kd.raw 2) h3) _ ?_;have e3 : q=q / 2*2+q % 2:=by omega
  rw [List.mem_take_iff_getElem];refine ⟨q % 2,jDB,?_⟩;rw [List.getElem_drop]
  congr 1
  omega
 have hRE : ∀ w1 v1,w1.ownsRow base 60 2 v1 (xs.take i ++ [p]++xs.drop i).length (inner.take (i*2)++cs++inner.drop (i*2))→W.grownBy w1 (some g)→(v1.ownBlock=some g ∨ ∃ b,v1.ownBlock=some b∧W.heap.size≤b)→Kd.R (Kd.raw 2) 60 w1 base ok v1 (xs.take i ++ [p]++xs.drop i):=by
  intro w1 v1 ho hg hat;refine Go.Proofs.Ytgifonogfgpjdaa.Row.R_again (v:=.slice (some ⟨g,0,none⟩) xs.length cap) hok ?_ hfresh ho (by rw [hgo];exact hg) jDC;exact Kd.reps_append (Kd.reps_append (Kd.reps_take hreps (Nat.le_of_lt hlt)) (Go.Proofs.Ytgifonogfgpjdaa.Row.reps_one (Kd.M_mono (Kd.raw 2) (fun q hq=>hokp q hq) hp) hcl)) (Go.Proofs.Ytgifonogfgpjdaa.Row.reps_drop hreps)
 have hlen : (xs.take i ++ [p]++xs.drop i).length=xs.length+1:=by simp;omega
 have hlen2 : (inner.take (i*2)++cs++inner.drop (i*2)).length=(xs.length+1)*2:=by simp [hcl,hil];omega
 have hdl : (inner.drop (i*2)).length=(xs.length - i)*2:=by rw [zw,hil,Nat.sub_mul]
 have htl : (inner.take (i*2)).length=i*2:=by rw [zx,hil];omega
 have hsz : (Try.prog.info? 60).map (·.size)=some 2:=by have:=info60;cases hq : Try.prog.info? 60 with
  | none=>rw [hq] at this;cases this
  | some i0=>rw [hq] at this;simp at this;simp [this.2.1]
 have hw1 : IntKind.i64.wrap ((xs.length : Int)+1)=(xs.length : Int)+1:=by rw [IntKind.wrap_i64];omega
 have hw2 : IntKind.i64.wrap ((i : Int)+1)=(i : Int)+1:=by rw [IntKind.wrap_i64];omega
 have hw3 : IntKind.i64.wrap ((i : Int)+(1 : Int))=(i : Int)+1:=by rw [IntKind.wrap_i64];omega
 have hw4 : IntKind.i64.wrap ((xs.length : Int)+1 - (i : Int))=(xs.length : Int)+1 - (i : Int):=by rw [IntKind.wrap_i64];omega
 have hq1 : ¬ ((i : Int)=(xs.length : Int)):=by omega
 have hq1b : ((i : Int) == (xs.length : Int))=false:=zY.mpr hq1;have hrow1 : ∀ (C : List Value) (q : Nat) (x : List Value),q+x.length≤C.length→(C.take q++x++C.drop (q+x.length)).length=C.length:=fun C q x h=>by simp;omega
 have hu:=Try.underlying23
 have hfc : ∀ j u,cs[j]? = some u→W.cell? ⟨gl,j,none⟩=some u:=fun j u hj=>by
  rw [zz hvb];simpa using hj
 have hgv : gl≠g:=fun e=>hgl (by rw [hgo,e]);have mixed : Try.prog.follows Departure.mixedOrders=true:=by rfl
 by_cases hroom : cap<xs.length+1
 ·
  have hz3 : (cap : Int)<(xs.length : Int)+1:=by omega
  have hz3b : decide ((cap : Int)<(xs.length : Int)+1)=true:=decide_eq_true hz3
  obtain ⟨i0,hi0,hzz,hzs,hzb⟩ : ∃ i0,Try.prog.info? 60=some i0∧i0.zero=some (.agg #[(.int .i64 0),(.slice none 0 0)])∧i0.size=2∧i0.bytes=32:=by
   have:=info60
   cases hq : Try.prog.info? 60 with
   | none=>rw [hq] at this;cases this
   | some i0=>rw [hq] at this;simp at this;exact ⟨i0,rfl,this.1,this.2.1,this.2.2⟩
  obtain ⟨V,hV⟩ : ∃ V,V=W:=⟨_,rfl⟩;have hvb0:=hvb;rw [← hV] at hvb hh1 hfc ⊢;have hVs : V.heap.size=W.heap.size:=by rw [hV]
  have hcellsV : ∀ j u,inner[j]? = some u→V.cell? ⟨g,j,none⟩=some u:=fun j u hj=>by
   have:=hcells j u hj;rw [zz hh] at this;rw [zz hh1];exact this
  have hold : (Builtin.firstCells i0.size i (.slice (some ⟨g,0,none⟩) i cap)).run Try.prog V.drew = .ok (inner.take (i*2)).toArray V.drew:=by
   rw [hzs]
   exact run_firstCells_some V.drew 2 i ⟨g,0,none⟩ i cap (inner.take (i*2)) (by rw [htl]) (fun j v hj=>by
    rw [add_plain];rw [List.getElem?_take] at hj
    split at hj
    ·
     exact hcellsV j v hj
    cases hj)
  have hik : i+(xs.length+1 - i)=xs.length+1:=by omega
  have hrz : ∀ ty,(Builtin.append_ #[23,3] ty #[.slice (some ⟨g,0,none⟩) i cap,.int .i64 ((xs.length : Int)+1 - (i : Int))]).run Try.prog V =
    .ok (.slice (some ⟨V.heap.size,0,none⟩) (xs.length+1) (grownCap V (xs.length+1) cap 60)) (V.drew.alloc (.cells ((inner.take (i*2)).toArray++Builtin.zeroCells ((.agg #[(.int .i64 0),(.slice none 0 0)]) : Value).cells (xs.length+1 - i)++Builtin.zeroCells ((.agg #[(.int .i64 0),(.slice none 0 0)]) : Value).cells (grownCap V (xs.length+1) cap 60 - (xs.length+1))) 60)):=fun ty=>by
   have h:=Lib.run_append_grow_zeros V 23 3 ty 60 i0 _ .i64 .i64 hu Try.underlying3 hi0 hzz (some ⟨g,0,none⟩) i cap (inner.take (i*2)) hold (xs.length+1 - i) jD (by rw [hzs];decide) jD jD (by rw [hzb];omega) (by rw [hzb,hik];exact growslice_fits hroom hl);rw [hik,show ((xs.length+1 - i : Nat) : Int)=(xs.length : Int)+1 - (i : Int) by omega] at h;exact h
  obtain ⟨G,hG⟩ : ∃ G,G=grownCap V (xs.length+1) cap 60:=⟨_,rfl⟩;have hGn : xs.length+1≤G:=by rw [hG];exact grownCap_ge _ _ _ _
  have hGm : G≤maxLen:=by rw [hG];exact grownCap_le_maxLen _ _ _ _ (by unfold maxLen;omega)
  obtain ⟨ROW,hROW⟩ : ∃ ROW : Array Value,ROW=(inner.take (i*2)).toArray++Builtin.zeroCells ((.agg #[(.int .i64 0),(.slice none 0 0)]) : Value).cells (xs.length+1 - i)++Builtin.zeroCells ((.agg #[(.int .i64 0),(.slice none 0 0)]) : Value).cells (G - (xs.length+1)):=⟨_,rfl⟩;rw [← hG,← hROW] at hrz
  have hRs : ROW.size=G*2:=by
   rw [hROW];have hz9 : ((.agg #[(.int .i64 0),(.slice none 0 0)]) : Value).cells.size=2:=by rfl
   simp only [Array.size_append,List.size_toArray,htl,Builtin.zeroCells,Array.size_map,Array.size_range,hz9]
   omega
  have hRl : ROW.toList.length=G*2:=(Array.length_toList (xs:=ROW)).trans hRs
  have hRt : ROW.toList.take (i*2)=inner.take (i*2):=by
   rw [hROW];simp only [Array.toList_append,List.append_assoc];rw [List.take_append_of_le_length jBl,List.take_of_length_le jBl]
  clear hROW;obtain ⟨W1,hW1⟩ : ∃ W1,W1=V.drew.alloc (.cells ROW 60):=⟨_,rfl⟩;rw [← hW1] at hrz;have hN1 : W1.heap[V.heap.size]? = some (.cells ROW 60 (0,0)):=by rw [hW1];exact blk_new V.drew _
  have hvb1 : W1.heap[gl]? = some (.cells cs.toArray 60 (0,0)):=by rw [hW1];exact zg (zf hvb) _
  have hg1 : W1.heap[g]? = some (.cells cur 60 (0,0)):=by rw [hW1];exact zg (zf hh1) _
  have hB1 : Below W.heap.size W W1:=by rw [hW1,hV];exact za (below_drew (Below.refl _ _)) _
  obtain ⟨R1,hR1⟩ : ∃ R1 : List Value,R1=ROW.toList.take (i*2)++cs++ROW.toList.drop (i*2+cs.length):=⟨_,rfl⟩;have hR1l : R1.length=G*2:=by rw [hR1,hrow1 _ _ _ (by rw [hRl,hcl];omega),hRl]
  have hcp1 : ∀ ty dc,(Builtin.copy_ #[23,23] ty #[.slice (some ⟨V.heap.size,i*2,none⟩) (xs.length+1 - i) dc,.slice (some ⟨gl,0,none⟩) 1 1]).run Try.prog W1 = .ok (goInt (Nat.min 1 (xs.length+1 - i))) (W1.setRow V.heap.size R1.toArray):=fun ty dc=>by
   rw [hR1];exact Go.Proofs.Ytgifonogfgpjdaa.Row.run_copy_rowk W1 _ _ ty 60 2 V.heap.size (i*2) (xs.length+1 - i) dc ⟨gl,0,none⟩ 1 1 ROW 60 cs hu hsz hN1 (by rw [hcl];have : Nat.min 1 (xs.length+1 - i)=1:=Nat.min_eq_left jD;rw [this]) (fun j v hj=>by rw [add_plain,zz hvb1];simpa using hj) (by rw [hRs,hcl];omega) h1c
  obtain ⟨W2,hW2⟩ : ∃ W2,W2=W1.setRow V.heap.size R1.toArray:=⟨_,rfl⟩;rw [← hW2] at hcp1;have hN2 : W2.heap[V.heap.size]? = some (.cells R1.toArray 60 (0,0)):=by rw [hW2];exact setRow_heap W1 _ _ _ _ _ hN1
  have hoth2 : ∀ k,k≠V.heap.size→W2.heap[k]? = W1.heap[k]?:=fun k hk=>by rw [hW2];exact setRow_other _ _ _ _ hk
  have hg2 : W2.heap[g]? = some (.cells cur 60 (0,0)):=(hoth2 g jD).trans hg1;obtain ⟨R2,hR2⟩ : ∃ R2 : List Value,R2=R1.take ((i+1)*2)++inner.drop (i*2)++R1.drop ((i+1)*2+(inner.drop (i*2)).length):=⟨_,rfl⟩;have hR2l : R2.length=G*2:=by rw [hR2,hrow1 _ _ _ (by rw [hR1l,hdl];omega),hR1l]
  have hR2t : R2.take ((xs.length+1)*2)=inner.take (i*2)++cs++inner.drop (i*2):=by
   have e1 : R1.take ((i+1)*2)=inner.take (i*2)++cs:=by
    rw [hR1,hRt,List.take_append_of_le_length jBm,List.take_of_length_le jBm]
   rw [hR2,e1,List.take_append_of_le_length jA5,List.take_of_length_le jA5]
  have hcp2 : ∀ ty dc sc,(Builtin.copy_ #[23,23] ty #[.slice (some ⟨V.heap.size,(i+1)*2,none⟩) (xs.length+1 - (i+1)) dc,.slice (some ⟨g,i*2,none⟩) (xs.length - i) sc]).run Try.prog W2.drew = .ok (goInt (Nat.min (xs.length - i) (xs.length+1 - (i+1)))) (W2.drew.setRow V.heap.size R2.toArray):=fun ty dc sc=>by
   rw [hR2]
   have:=Go.Proofs.Ytgifonogfgpjdaa.Row.run_copy_rowk W2.drew 23 23 ty 60 2 V.heap.size ((i+1)*2) (xs.length+1 - (i+1)) dc ⟨g,i*2,none⟩ (xs.length - i) sc R1.toArray 60 (inner.drop (i*2)) hu hsz (zf hN2) (by rw [hdl];have : Nat.min (xs.length - i) (xs.length+1 - (i+1))=xs.length - i:=Nat.min_eq_left jD;rw [this]) (fun j v hj=>by
    rw [add_at,zz (zf hg2)];rw [List.getElem?_drop,← ht,List.getElem?_take] at hj
    split at hj
    ·
     rw [← Array.getElem?_toList];exact hj
    cases hj) jDD (fun u hu=>h1i u (List.mem_of_mem_drop hu))
   simpa using this
  obtain ⟨W3,hW3⟩ : ∃ W3,W3=W2.drew.setRow V.heap.size R2.toArray:=⟨_,rfl⟩;rw [← hW3] at hcp2;have hN3 : W3.heap[V.heap.size]? = some (.cells R2.toArray 60 (0,0)):=by rw [hW3];exact setRow_heap W2.drew _ _ _ _ _ (zf hN2)
  have hB3 : Below W.heap.size W W3:=by
   refine ⟨by rw [hW3,hW2];exact hB1.os,by rw [hW3,hW2];exact hB1.tape,by rw [hW3,hW2];exact hB1.output,by rw [hW3,hW2];simpa using hB1.size,fun k hk=>?_⟩;rw [hW3,setRow_other _ _ _ _ jD];show W2.heap[k]? = _;rw [hoth2 k jD];exact hB1.block k hk
  have hfin : ∃ v1,(Value.slice (some ⟨V.heap.size,0,none⟩) (xs.length+1) G)=v1∧Kd.R (Kd.raw 2) 60 W3 base ok v1 (xs.take i ++ [p]++xs.drop i)∧Below base w0 W3∧W.grownBy W3 (some g)∧(v1.ownBlock=some g ∨ ∃ b,v1.ownBlock=some b∧W.heap.size≤b):=by
   refine ⟨_,rfl,hRE W3 _ ?_ (grown_of_below hB3 _) ?_,below_then HB hbase hB3,grown_of_below hB3 _,?_⟩
   ·
    refine ⟨by rw [hlen2,hlen],.inr ⟨V.heap.size,G,R2.toArray,by rw [hlen],jD,hN3,by rw [hlen];exact hGn,hGm,jBn,jBo⟩⟩
   ·
    exact .inr ⟨V.heap.size,jAe,jD⟩
   exact .inr ⟨V.heap.size,jAe,jD⟩
  clear hRE hreps hW3 hW2 hW1 hR1 hR2 hold hrow1 hokp hok HB hp;rw [← hV] at hfin;clear hV hVs hG;rw [hgo];have hi0 : (0 : Int)≤(i : Int):=by omega
  have hin2 : (i : Int)≤(xs.length : Int):=by omega
  have hcn : ¬ (cap=i):=by omega
  have hGi : ¬ (G=i):=by omega
  have hGi1 : ¬ (G=i+1):=by omega
  have htn : ((i : Int)+1).toNat=i+1:=by omega
  have hb1 : (0 : Int)≤(i : Int)+1:=by omega
  have hb3 : (i : Int)≤(xs.length : Int):=by omega
  have hb4 : i≤xs.length:=hi;have hb5 : (i : Int)+1≤(xs.length : Int)+1:=by omega
  have hb6 : (i : Int)<(xs.length : Int):=by omega
  go_enter Try.func57,Try.ntmps57
  go_wp2_with (first
   | (at_builtin;refine Lib.wpList_append_run _ rfl _ _ _ _ rfl _ _ rfl rfl _ _ (hrz _) ?_)
   | (at_builtin;(refine Go.Proofs.Ytgifonogfgpjdaa.Row.copy_run rfl _ _ 23 23 rfl _ _ rfl rfl (hcp1 _ _) ?_)))
  go_region_law_o (refine Go.Proofs.Ytgifonogfgpjdaa.Row.copy_step rfl _ _ 23 23 rfl (.slice (some ⟨V.heap.size,(i+1)*2,none⟩) (xs.length+1 - (i+1)) (G - (i+1))) (.slice (some ⟨g,i*2,none⟩) (xs.length - i) (cap - i)) jx jx (hcp2 3 (G - (i+1)) (cap - i)) ?_)
  go_wp2
  go_ret
  obtain ⟨v1,rfl,h1,h2,h3,h4⟩:=hfin;exact ⟨_,rfl,h1,h2,h3,h4⟩
 have hr : xs.length+1≤cap:=by omega
 have hz3b : decide ((cap : Int)<(xs.length : Int)+1)=false:=decide_eq_false jD;have hz3 : ¬ ((cap : Int)<(xs.length : Int)+1):=by omega
 obtain ⟨V,hV⟩ : ∃ V,V=W:=⟨_,rfl⟩;have hvb0:=hvb;rw [← hV] at hvb hh1 hfc ⊢;have hVs : V.heap.size=W.heap.size:=by rw [hV]
 have hov : ∀ lb cb,(callFunc 69 #[.slice (some ⟨gl,0,none⟩) 1 1,.slice (some ⟨g,(i+1)*2,none⟩) lb cb]).run Try.prog V = .ok (.value (.bool false)) V:=fun lb cb=>by
  rw [run_callFunc_extern Try.func69 jA jA jA (e:=Extern.SlicesOverlaps.overlaps #[23,23] #[4]) jA,
   Lib.run_overlaps_apart V 23 4 60 hu 2 (fun w=>by
    cases hq : Try.prog.info? 60 with
    | none=>rw [hq] at hsz;cases hsz
    | some i0=>rw [hq] at hsz;simp at hsz;simp [sizeOf,typeInfo,hq,hsz]) ⟨gl,0,none⟩ ⟨g,(i+1)*2,none⟩ 1 1 lb cb hgv 60 60 cs.toArray.size cur.size (by simp [World.shape?,hvb]) (by simp [World.shape?,hh1]) (by rw [hcs];omega) (zA hvb 0) (zA hvb _)]
  rfl
 obtain ⟨R1,hR1⟩ : ∃ R1 : List Value,R1=cur.toList.take ((i+1)*2)++inner.drop (i*2)++cur.toList.drop ((i+1)*2+(inner.drop (i*2)).length):=⟨_,rfl⟩;have hcl2 : cur.toList.length=cap*2:=(Array.length_toList (xs:=cur)).trans hcs;have hR1l : R1.length=cap*2:=by rw [hR1,hrow1 _ _ _ (by rw [hcl2,hdl];omega),hcl2]
 have hcp1 : ∀ ty dc sc,(Builtin.copy_ #[23,23] ty #[.slice (some ⟨g,(i+1)*2,none⟩) (xs.length+1 - (i+1)) dc,.slice (some ⟨g,i*2,none⟩) (xs.length+1 - i) sc]).run Try.prog V.drew = .ok (goInt (Nat.min (xs.length+1 - i) (xs.length+1 - (i+1)))) (V.drew.setRow g R1.toArray):=fun ty dc sc=>by
  rw [hR1]
  exact Go.Proofs.Ytgifonogfgpjdaa.Row.run_copy_rowk V.drew 23 23 ty 60 2 g ((i+1)*2) (xs.length+1 - (i+1)) dc ⟨g,i*2,none⟩ (xs.length+1 - i) sc cur 60 (inner.drop (i*2)) hu hsz (zf hh1) (by rw [hdl];have : Nat.min (xs.length+1 - i) (xs.length+1 - (i+1))=xs.length - i:=(Nat.min_eq_right jD).trans jD;rw [this]) (fun j v hj=>by
   rw [add_at,zz (zf hh1)];rw [List.getElem?_drop,← ht,List.getElem?_take] at hj
   split at hj
   ·
    rw [← Array.getElem?_toList];exact hj
   cases hj) (by rw [hcs,hdl];omega) (fun u hu=>h1i u (List.mem_of_mem_drop hu))
 obtain ⟨W1,hW1⟩ : ∃ W1,W1=V.drew.setRow g R1.toArray:=⟨_,rfl⟩;rw [← hW1] at hcp1;have hg1 : W1.heap[g]? = some (.cells R1.toArray 60 (0,0)):=by rw [hW1];exact setRow_heap V.drew _ _ _ _ _ (zf hh1)
 have hoth1 : ∀ k,k≠g→W1.heap[k]? = V.heap[k]?:=fun k hk=>by rw [hW1];exact setRow_other _ _ _ _ hk
 have hvb1 : W1.heap[gl]? = some (.cells cs.toArray 60 (0,0)):=(hoth1 _ hgv).trans hvb;obtain ⟨R2,hR2⟩ : ∃ R2 : List Value,R2=R1.take (i*2)++cs++R1.drop (i*2+cs.length):=⟨_,rfl⟩;have hR2l : R2.length=cap*2:=by rw [hR2,hrow1 _ _ _ (by rw [hR1l,hcl];omega),hR1l]
 have hct : cur.toList.take (i*2)=inner.take (i*2):=by rw [← ht,List.take_take,Nat.min_eq_left jD]
 have hR2t : R2.take ((xs.length+1)*2)=inner.take (i*2)++cs++inner.drop (i*2):=by
  have e1 : R1.take (i*2)=inner.take (i*2):=by
   rw [hR1,List.append_assoc,List.take_append_of_le_length (by simp [hcl2,hcs];omega),List.take_take,Nat.min_eq_left jD,hct]
  have e2 : (R1.drop (i*2+cs.length)).take ((xs.length - i)*2)=inner.drop (i*2):=by
   have e3 : (cur.toList.take ((i+1)*2)).length=i*2+cs.length:=by rw [zx,hcl2,hcl];omega
   rw [hR1,List.append_assoc,← e3,List.drop_left,← hdl,List.take_left]
  rw [hR2,e1,List.take_append,List.take_of_length_le jA5]
  congr 1
  rw [← e2]
  congr 1
  simp [hcl,hil];omega
 have hcp2 : ∀ ty dc,(Builtin.copy_ #[23,23] ty #[.slice (some ⟨g,i*2,none⟩) (xs.length+1 - i) dc,.slice (some ⟨gl,0,none⟩) 1 1]).run Try.prog W1 = .ok (goInt (Nat.min 1 (xs.length+1 - i))) (W1.setRow g R2.toArray):=fun ty dc=>by
  rw [hR2];exact Go.Proofs.Ytgifonogfgpjdaa.Row.run_copy_rowk W1 23 23 ty 60 2 g (i*2) (xs.length+1 - i) dc ⟨gl,0,none⟩ 1 1 R1.toArray 60 cs hu hsz hg1 (by rw [hcl];have : Nat.min 1 (xs.length+1 - i)=1:=Nat.min_eq_left jD;rw [this]) (fun j v hj=>by rw [add_plain,zz hvb1];simpa using hj) jDE h1c
 obtain ⟨W2,hW2⟩ : ∃ W2,W2=W1.setRow g R2.toArray:=⟨_,rfl⟩;rw [← hW2] at hcp2;have hg2 : W2.heap[g]? = some (.cells R2.toArray 60 (0,0)):=by rw [hW2];exact setRow_heap W1 _ _ _ _ _ hg1
 have hgr : W.grownBy W2 (some g):=by
  have hsz2 : W2.heap.size=W.heap.size:=by rw [hW2,hW1];simp only [setRow_size];exact hVs
  refine ⟨jA6,jA6,jA6,by rw [hsz2];omega,fun k hk hkg=>?_⟩;have hkg' : k≠g:=fun e=>hkg (by rw [e]);rw [hW2,setRow_other _ _ _ _ hkg',hoth1 k hkg',hV]
 have hfin : ∃ v1,(Value.slice (some ⟨g,0,none⟩) (xs.length+1) cap)=v1∧Kd.R (Kd.raw 2) 60 W2 base ok v1 (xs.take i ++ [p]++xs.drop i)∧Below base w0 W2∧W.grownBy W2 (some g)∧(v1.ownBlock=some g ∨ ∃ b,v1.ownBlock=some b∧W.heap.size≤b):=by
  refine ⟨_,rfl,hRE W2 _ ?_ hgr (.inl jAe),pw_below_grown HB (some g) hbase hgr (fun k hk=>by injection hk with hk;omega),hgr,.inl jAe⟩;refine ⟨by rw [hlen2,hlen],.inr ⟨g,cap,R2.toArray,by rw [hlen],hbg,hg2,by rw [hlen];exact hr,hcm,jBn,jBo⟩⟩
 clear hRE hreps hW2 hW1 hR1 hR2 hrow1 hokp hok HB hp hgr;rw [← hV] at hfin;clear hV hVs;rw [hgo];have hi0 : (0 : Int)≤(i : Int):=by omega
 have hin2 : (i : Int)≤(xs.length : Int):=by omega
 have hcn : ¬ (cap=i):=by omega
 have hcn1 : ¬ (cap=i+1):=by omega
 have htn : ((i : Int)+1).toNat=i+1:=by omega
 have htn2 : ((xs.length : Int)+1).toNat=xs.length+1:=by omega
 have hb0 : (0 : Int)≤(xs.length : Int)+1:=by omega
 have hb1 : (0 : Int)≤(i : Int)+1:=by omega
 have hb5 : (i : Int)+1≤(xs.length : Int)+1:=by omega
 have hb6 : (i : Int)<(xs.length : Int):=by omega
 have hb7 : (xs.length : Int)+1≤(cap : Int):=by omega
 have hb8 : (i : Int)≤(xs.length : Int)+1:=by omega
 go_enter Try.func57,Try.ntmps57
 go_wp2_with (simp only [hov])
 go_region_law_o (refine Go.Proofs.Ytgifonogfgpjdaa.Row.copy_step rfl _ _ 23 23 rfl (.slice (some ⟨g,(i+1)*2,none⟩) (xs.length+1 - (i+1)) (cap - (i+1))) (.slice (some ⟨g,i*2,none⟩) (xs.length+1 - i) (cap - i)) jx jx (hcp1 3 (cap - (i+1)) (cap - i)) ?_)
 go_wp2_with (at_builtin;(refine Go.Proofs.Ytgifonogfgpjdaa.Row.copy_run rfl _ _ 23 23 rfl _ _ rfl rfl (hcp2 _ _) ?_))
 go_ret
 obtain ⟨v1,rfl,h1,h2,h3,h4⟩:=hfin;exact ⟨_,rfl,h1,h2,h3,h4⟩

theorem slices_Insert_pages.fk {d : Kd S60} {W w1 : World} {ok : Nat→Prop} {v v1 : Value} {x : S60} {c : List Value} (h : Kd.FK d W (fun k=>ok k∧some k≠v.ownBlock) x c) (hg : W.grownBy w1 v.ownBlock) (hat : v1.ownBlock=v.ownBlock ∨ ∃ b,v1.ownBlock=some b∧W.heap.size≤b) : Kd.FK d w1 (fun k=>ok k∧some k≠v1.ownBlock) x c:=by
 refine Kd.FK_mono (Kd.FK_step (Kd.FK_bound h) (fun k hk hlt=>hg.block k hlt hk.1.2)) (fun k hk=>⟨hk.1.1,?_⟩);rcases hat with hat|⟨b,hb,hle⟩
 ·
  rw [hat];exact hk.1.2
 rw [hb];intro he;injection he with he;have:=hk.2
 omega
theorem slices_Insert_pages.insN (ok okp : Nat→Prop) (base : Nat) (v : Value) (xs : List S60) (p : S60) (cs : List Value) (gl i : Nat) (w0 W : World) (hi : i≤xs.length)
  (HO : Kd.N k60 60 W base ok v xs) (hvb : W.heap[gl]? = some (.cells cs.toArray 60 (0,0))) (hgl : some gl≠v.ownBlock) (hp : Kd.FK k60 W okp p cs) (hokp : ∀ q,okp q→ok q∧some q≠v.ownBlock) (hfresh : ∀ q,W.heap.size≤q→ok q) (HB : Below base w0 W) (hbase : base≤W.heap.size) (hl : (xs.length+1)*32≤140737488355328) :
  Calls Try.prog 57 #[v,.int .i64 i,.slice (some ⟨gl,0,none⟩) 1 1] W fun ex w' => ∃ v1,ex = .returned v1∧Kd.N k60 60 w' base ok v1 (xs.take i ++ [p]++xs.drop i)∧Below base w0 w' ∧ W.grownBy w' v.ownBlock:=by
 obtain ⟨h0,rows,hlr,hR,hf⟩:=HO;have hraw : cs=cs∧cs.length=2 ∧ ∀ u ∈ cs,u.oneCell' = true:=⟨rfl,Kd.K_len k60 (Kd.FK_now hp),Kd.K_one k60 (Kd.FK_now hp)⟩;refine (slices_Insert_pages.ins2 (fun _=>True) (fun _=>False) base v rows cs cs gl i w0 W (by rw [hlr];exact hi) (Kd.raw_any hR) hvb hgl hraw (fun x c h9=>h9) (fun _ h9=>h9.elim) (fun _ _=>trivial) HB hbase (by rw [hlr];exact hl)).mono ?_;rintro e w' ⟨v1,rfl,hR1,hB1,hg,hat⟩;refine ⟨v1,rfl,⟨fun k hk=>?_,rows.take i ++ [cs]++rows.drop i,by simp [hlr],Kd.raw_tight hR1,fun j x c hx hc=>?_⟩,hB1,hg⟩
 ·
  rcases hat with hat|⟨b,hb,hle⟩
  ·
   exact h0 k (hat ▸ hk)
  rw [hb] at hk;injection hk with hk;exact hfresh k (hk ▸ hle)
 have hli : (xs.take i).length=i:=by rw [zx];omega
 have hri : (rows.take i).length=i:=by rw [zx];omega
 rw [List.append_assoc] at hx hc
 by_cases h1 : j<i
 ·
  rw [List.getElem?_append_left jD,List.getElem?_take,if_pos h1] at hx hc
  exact slices_Insert_pages.fk (hf j x c hx hc) hg hat
 rw [List.getElem?_append_right jD,hli] at hx;rw [List.getElem?_append_right jD,hri] at hc;obtain ⟨q,hq⟩ : ∃ q,q=j - i:=⟨_,rfl⟩;rw [← hq] at hx hc
 cases q with
 | zero =>
  simp only [List.singleton_append,List.getElem?_cons_zero,Option.some.injEq] at hx hc;rw [← hx,← hc];exact slices_Insert_pages.fk (Kd.FK_mono hp hokp) hg hat
 | succ q =>
  simp only [List.singleton_append,List.getElem?_cons_succ,List.getElem?_drop] at hx hc;exact slices_Insert_pages.fk (hf (i+q) x c hx hc) hg hat

end Go.Proofs.Ytgifonogfgpjdaa.Q
end

/- Texts of this claim, merged by a program of this session. -/
import Derived.Test.YtgifonogfgpjdaaKLawFnRangep22
section
namespace Go.Proofs.Ytgifonogfgpjdaa.Q
open Go.RowKit Go.Proofs.YtgifonogfgpjdaaW.PrintWords Go.Proofs.YtgifonogfgpjdaaW.PrintLast Go.Proofs.YtgifonogfgpjdaaW.PrintMore
attribute [local go_sem] max2_int min2_int max_two min_two max_three min_three max_four min_four max2_str min2_str str_geq str_gtr str_leq
set_option linter.unusedVariables false
set_option linter.unusedSimpArgs false

def F9.l0 : Nat→Int→List (S60)→Int→Int→ByteArray→Int→Option (Int)
 | 0,_,_,_,_,_,_=>none
 | k+1,x5,x9,x10,x11,x321000,x321001=>if x11<x10 then (if 0≤x11 then (if x11<(x9.length : Int) then (if (((rd_T60 x9 x11).f1).length : Int) > 0 then (if 0<(((rd_T60 x9 x11).f1).length : Int) then ((Fi.f k ((rd_T28 ((rd_T60 x9 x11).f1) 0).f0) ((rd_T28 ((rd_T60 x9 x11).f1) 0).f1) x321000 x321001).bind fun t324=>(if t324≤0 then (F9.l0 k x11 x9 x10 (wrap64 (x11+1)) x321000 x321001) else (F9.l0 k x5 x9 x10 (wrap64 (x11+1)) x321000 x321001))) else (none)) else (F9.l0 k x5 x9 x10 (wrap64 (x11+1)) x321000 x321001)) else (none)) else (none)) else (some x5)
def F9.f (k : Nat) (l0_0 : List (S60)) (a0_1 : Int) (a1_0 : ByteArray) (a1_1 : Int) : Option (Int):=F9.l0 k 0 l0_0 (l0_0.length : Int) 0 a1_0 a1_1
theorem F9.mono_l : ∀ k,(∀ y0 y1 y2 y3 y4 y5,LeO (F9.l0 k y0 y1 y2 y3 y4 y5) (F9.l0 (k+1) y0 y1 y2 y3 y4 y5))
 | 0=>fun _ _ _ _ _ _ r h=>by simp [F9.l0] at h
 | k+1=>by
  have ih0:=F9.mono_l k;intro y0 y1 y2 y3 y4 y5;unfold F9.l0
  repeat' first|(with_reducible first|exact ih0 _ _ _ _ _ _|exact Fi.mono _ _ _ _ _|exact zQ _|exact zN _|refine zP ?_ ?_|refine zO ?_ (fun _=>?_))|refine zP ?_ ?_|refine zO ?_ (fun _=>?_)
theorem F9.mono : ∀ a0 a1 a2 a3 k,LeO (F9.f k a0 a1 a2 a3) (F9.f (k+1) a0 a1 a2 a3):=by
 intro a0 a1 a2 a3 k;have ih0:=F9.mono_l k;unfold F9.f
 repeat' first|(with_reducible first|exact ih0 _ _ _ _ _ _|exact Fi.mono _ _ _ _ _|exact zQ _|exact zN _|refine zP ?_ ?_|refine zO ?_ (fun _=>?_))|refine zP ?_ ?_|refine zO ?_ (fun _=>?_)
def F9.T5 : Bool×List (List Nat×List Nat):=(true,[([],[]),([0],[0]),([1],[1]),([2],[2]),([3],[3]),([4],[4]),([5,4],[4,5]),([6,4],[4,6]),([7,4],[4,7]),([4],[4]),([8,9,4,4],[4,8,9]),([10,4],[4,10]),([4,11],[4,11])])
def F9.B5 : List Nat:=[0,1,3,7,15,31,63,127,255,31,1023,2047,4095]
theorem F9.tab5 : rtab .any (opsOf Try.f28 5)=F9.T5:=by kernel_rfl
theorem F9.bits5 : waitsOk F9.T5.2 F9.B5=true:=by kernel_rfl
set_option maxHeartbeats 8000000 in
set_option maxRecDepth 100000 in
theorem F9.calls (k : Nat) (A0_0 : Option Addr) (c0_0 : Nat) (l0_0 : List (S60)) (a0_1 : Int) (a1_0 : ByteArray) (a1_1 : Int) (r : Int) (w : World) (hr0_0 : Kd.C k60 w A0_0 l0_0.length l0_0) (hc0_0 : l0_0.length≤c0_0) (h : F9.f k l0_0 a0_1 a1_0 a1_1=some r) :
  Calls Try.prog 28 #[.agg #[.slice A0_0 l0_0.length c0_0,.int .i64 a0_1],.agg #[.string a1_0,.int .i64 a1_1]] w fun e w' => e = .returned (.int .i64 r)∧Below w.heap.size w w':=by
 have hu25:=Try.underlying25;have hu28:=Try.underlying28;have hu60:=Try.underlying60;have HR0_0:=zh hr0_0;have HC0_0:=zh hc0_0;clear hr0_0 hc0_0;have HB:=zh (Below.refl w.heap.size w);have H : (F9.l0 k 0 l0_0 (l0_0.length : Int) 0 a1_0 a1_1)=some r:=h;clear h;have H':=zh H;clear H
 go_enter Try.func28,Try.ntmps28
 go_wp2_with (first|((with_reducible refine zK (N:=2) rfl ?_);refine zI ?hg (N:=2) ?hd (cs:=#[.slice A0_0 l0_0.length c0_0,.int .i64 a0_1]) (t:=25) ?hr ?_;(case hd=>rfl);(case hg=>rfl);(case hr=>go_simp <;> rfl);intro gb319 hg w3 hbox hb;have BK319:=zh (hbox);have hH_:=cH jH hb hg;have GW319:=zh hH_.1;have GE319:=GW319;replace HB:=zh hH_.2;clear hb hbox hg hH_)|((with_reducible refine zK (N:=3) rfl ?_);refine zI ?hg (N:=3) ?hd (cs:=#[.string a1_0,.int .i64 a1_1]) (t:=28) ?hr ?_;(case hd=>rfl);(case hg=>rfl);(case hr=>go_simp <;> rfl);intro gb320 hg w4 hbox hb;have BK320:=zh (hbox);have hH_:=cH (by repeat (with_reducible first|exact HB.out|apply za|apply zb|apply zc|refine zd ?_ GE319.out)) hb hg;have GW320:=zh hH_.1;have GE320:=GW320;replace HB:=zh hH_.2;have NB319_320:=zh ((by rw [hg];exact yc (yi (g:=gb319) (o:=.cells #[.slice A0_0 l0_0.length c0_0,.int .i64 a0_1] 25 (0,0)) jm) : gb319≠gb320));have NB320_319:=zh NB319_320.out.symm;replace BK319:=zh (cD BK319.out jm hb);clear hb hbox hg hH_;have hnb5:=NB319_320.out;have hnc5:=NB320_319.out;obtain ⟨hcz6_0,hcz6_1,hfz6_0,hfz6_1⟩:=cB2 BK319.out))
 go_loopg [5,11] k (fun kq v5 v11 w' => ∃ (x5_1 : Int) (x11_1 : Int),v5 = .int .i64 x5_1∧v11 = .int .i64 x11_1∧Aside0 (F9.l0 kq x5_1 l0_0 (l0_0.length : Int) x11_1 a1_0 a1_1=some r)∧Aside0 (kq≤k)∧Aside0 (w'.heap[gb319]? = some (.cells #[(.slice A0_0 l0_0.length c0_0),.int .i64 a0_1] 25 (0,0)))∧Aside0 (w'.heap[gb320]? = some (.cells #[.string a1_0,.int .i64 a1_1] 28 (0,0)))∧Aside0 (Below w.heap.size w w'))
 case atStart=>exact ⟨(0),(0),jD,jD,H',⟨ye _⟩,⟨jm⟩,⟨jAA⟩,⟨jAp⟩⟩
 case round =>
  clear H'
  try clear c2
  try clear p2
  try clear c5
  try clear hcz6_0 hcz6_1 hfz6_0 hfz6_1
  obtain ⟨x5_1,x11_1,rfl,rfl,HA,HK1,BK319,BK320,HB⟩:=hrel
  cases gk with
  | zero=>exact absurd HA.out (by simp [F9.l0])
  | succ k1 =>
   have H:=HA.out;clear HA;simp only [F9.l0] at H
   by_cases c7 : x11_1<(l0_0.length : Int)
   ·
    rw [if_pos c7] at H
    have c7b0 : decide (x11_1<(l0_0.length : Int))=true:=decide_eq_true c7;clear c7
    by_cases c8 : 0≤x11_1
    ·
     rw [if_pos c8] at H
     have c8b0 : decide (0≤x11_1)=true:=decide_eq_true c8;clear c8
     by_cases c9 : x11_1<(l0_0.length : Int)
     ·
      rw [if_pos c9] at H
      have c9b0 : decide (x11_1<(l0_0.length : Int))=true:=decide_eq_true c9;clear c9
      by_cases c10 : (((rd_T60 l0_0 x11_1).f1).length : Int) > 0
      ·
       rw [if_pos c10] at H
       have c10b0 : decide (0<(((rd_T60 l0_0 x11_1).f1).length : Int))=true:=decide_eq_true c10;have c10b1 : decide (0<((rd_T60 l0_0 x11_1).f1).length)=true:=decide_eq_true jE;clear c10
       by_cases c11 : 0<(((rd_T60 l0_0 x11_1).f1).length : Int)
       ·
        rw [if_pos c11] at H
        have c11b0 : decide (0<(((rd_T60 l0_0 x11_1).f1).length : Int))=true:=decide_eq_true c11;have c11b1 : decide (0<((rd_T60 l0_0 x11_1).f1).length)=true:=decide_eq_true jE;clear c11;replace H:=zT.mp H;obtain ⟨t324,A120,H⟩:=H;have A12:=zh A120;clear A120
        by_cases c13 : t324≤0
        ·
         rw [if_pos c13] at H
         have c13b0 : decide (t324≤0)=true:=decide_eq_true c13;clear c13;have H':=zh H;clear H;have p321 : 0≤(x11_1 : Int):=zy jC;have q321 : x11_1<(l0_0.length : Int):=zy jC;obtain ⟨ad321,A321_1,c321_1,e321,hx321_0,hx321_1,hl321_1,hi321_1⟩:=at_T60 HR0_0.out x11_1 p321 q321
         cases e321
         replace hx321_0:=(HB.out.cell (zl w _ hx321_0)).trans hx321_0;replace hx321_1:=(HB.out.cell (zl w _ hx321_1)).trans hx321_1;have HR321_1:=zh hi321_1;have HC321_1:=zh hl321_1;clear hi321_1 hl321_1;replace p321:=eq_true p321;replace q321:=eq_true q321
         try go_wp2_with (first|((with_reducible refine zK (N:=7) rfl ?_);refine zI ?hg (N:=7) ?hd (cs:=#[.int .i64 0,.slice none 0 0]) (t:=60) ?hr ?_;(case hd=>rfl);(case hg=>rfl);(case hr=>go_simp <;> rfl);intro gb322 hg w14 hbox hb;have BK322:=zh (hbox);have hH_:=cH jAp hb hg;have GW322:=zh hH_.1;have GE322:=GW322;replace HB:=zh hH_.2;have NB319_322:=zh ((jBQ : gb319≠gb322));have NB322_319:=zh NB319_322.out.symm;replace BK319:=zh (cD BK319.out jm hb);have NB320_322:=zh ((jBR : gb320≠gb322));have NB322_320:=zh NB320_322.out.symm;replace BK320:=zh (cD BK320.out jAA hb);clear hb hbox hg hH_;have hnb15:=NB322_319.out;have hnc15:=NB319_322.out;have hnb16:=NB322_320.out;have hnc16:=NB320_322.out;obtain ⟨hcz17_0,hcz17_1,hfz17_0,hfz17_1⟩:=cB2 BK322.out))
         have n0_ : Aside0 (((w14.setCell ⟨gb322,0,none⟩ (.int .i64 ((rd_T60 l0_0 x11_1).f0))).setCell ⟨gb322,1,none⟩ (.slice A321_1 ((rd_T60 l0_0 x11_1).f1).length c321_1)).heap[gb319]? = some (.cells #[.slice (some ad321) l0_0.length c0_0,.int .i64 a0_1] 25 (0,0))):=⟨jBS⟩;have n1_ : Aside0 (((w14.setCell ⟨gb322,0,none⟩ (.int .i64 ((rd_T60 l0_0 x11_1).f0))).setCell ⟨gb322,1,none⟩ (.slice A321_1 ((rd_T60 l0_0 x11_1).f1).length c321_1)).heap[gb320]? = some (.cells #[.string a1_0,.int .i64 a1_1] 28 (0,0))):=⟨jBT⟩;have n2_ : Aside0 (((w14.setCell ⟨gb322,0,none⟩ (.int .i64 ((rd_T60 l0_0 x11_1).f0))).setCell ⟨gb322,1,none⟩ (.slice A321_1 ((rd_T60 l0_0 x11_1).f1).length c321_1)).heap[gb322]? = some (.cells #[.int .i64 ((rd_T60 l0_0 x11_1).f0),.slice A321_1 ((rd_T60 l0_0 x11_1).f1).length c321_1] 60 (0,0))):=⟨jBU⟩;have n3_ : Aside0 (Below w.heap.size w ((w14.setCell ⟨gb322,0,none⟩ (.int .i64 ((rd_T60 l0_0 x11_1).f0))).setCell ⟨gb322,1,none⟩ (.slice A321_1 ((rd_T60 l0_0 x11_1).f1).length c321_1))):=⟨jAL⟩;(try clear BK319);(try clear BK320);(try clear BK322);(try clear HB);generalize ((w14.setCell ⟨gb322,0,none⟩ (.int .i64 ((rd_T60 l0_0 x11_1).f0))).setCell ⟨gb322,1,none⟩ (.slice A321_1 ((rd_T60 l0_0 x11_1).f1).length c321_1))=w18 at n0_ n1_ n2_ n3_ ⊢;have BK319:=n0_;have BK320:=n1_;have BK322:=n2_;have HB:=n3_;clear n0_ n1_ n2_ n3_;replace BK319:=zh (zf BK319.out);replace BK320:=zh (zf BK320.out);replace BK322:=zh (zf BK322.out);replace HB:=zh (zc HB.out);have p323 : 0≤(0 : Int):=jE;have q323 : 0<(((rd_T60 l0_0 x11_1).f1).length : Int):=zy jC;obtain ⟨ad323,e323,hx323_0,hx323_1⟩:=at_T28 HR321_1.out 0 p323 q323;have hw323_1:=hx323_1;(try rw [show ((0 : Int)).toNat=0 from rfl] at hw323_1);(try rw [show 0*2=0 from rfl] at hw323_1);(try rw [Addr.add_zero'] at hw323_1);have hw323_0:=hx323_0;(try rw [show ((0 : Int)).toNat=0 from rfl] at hw323_0);(try rw [show 0*2=0 from rfl] at hw323_0);(try rw [Addr.add_zero'] at hw323_0)
         cases e323
         have qi323 : (0<((rd_T60 l0_0 x11_1).f1).length)=True:=eq_true jE;(try rw [show ((0 : Int)).toNat=0 from rfl] at hx323_0);(try rw [show 0*2=0 from rfl] at hx323_0);(try rw [Addr.add_zero'] at hx323_0);(try rw [show ((0 : Int)).toNat=0 from rfl] at hx323_1);(try rw [show 0*2=0 from rfl] at hx323_1);(try rw [Addr.add_zero'] at hx323_1);replace hx323_0:=(HB.out.cell (zl w _ hx323_0)).trans hx323_0;replace hx323_1:=(HB.out.cell (zl w _ hx323_1)).trans hx323_1;replace p323:=eq_true p323;replace q323:=eq_true q323;refine start_ (n:=13) (S:=fun w' => w'.cell? ⟨gb322,0,none⟩=some (.int .i64 ((rd_T60 l0_0 x11_1).f0))∧w'.cell? ⟨gb322,1,none⟩=some (.slice (some ad323) ((rd_T60 l0_0 x11_1).f1).length c321_1)∧w'.cell? ⟨gb320,0,none⟩=some (.string a1_0)∧w'.cell? ⟨gb320,1,none⟩=some (.int .i64 a1_1)∧w'.cell? ad323=some (.string ((rd_T28 ((rd_T60 l0_0 x11_1).f1) 0).f0))∧w'.cell? ⟨ad323.block,ad323.off+1,none⟩=some (.int .i64 ((rd_T28 ((rd_T60 l0_0 x11_1).f1) 0).f1))) (ds:=[]) (bm_ 0 13) jA rfl rfl ⟨(zz BK322.out 0).trans rfl,(zz BK322.out 1).trans rfl,(zz BK320.out 0).trans rfl,(zz BK320.out 1).trans rfl,((HB.out.cell (zl w _ hw323_0)).trans hw323_0),((HB.out.cell (zl w _ hw323_1)).trans hw323_1)⟩ (fun hHeld=>?_);refine with_tabW F9.tab5 F9.bits5 (fun HT_ HW_=>?_);generalize w18.drew=w19 at BK319 BK320 BK322 HB hx323_0 hx323_1 hHeld ⊢;refine pure_ (i:=0) (N:=some 16) (v:=?_) (a':=?_) (bm_ 1 13) rfl rfl (any_of HT_.out jA) (fun _ _ _ h=>h) (Or.inl ⟨by rfl,?_⟩) ?_ ?_;rotate_left;exact jb;rotate_left;exact jc
         refine take_ (i:=1) (N:=some 17) (v:=?_) (a':=?_) (bm_ 2 13) rfl rfl (yo HT_.out HW_.out jA) (fun _ _ _ h=>h) (Or.inl ⟨by rfl,?_⟩) hHeld ?_ ?_;rotate_left
         ·
          rintro w' ⟨s0,s1,s2,s3,s4,s5⟩
          go_simp
          with_reducible rfl
         rotate_left
         exact jc
         refine pure_ (i:=2) (N:=some 18) (v:=?_) (a':=?_) (bm_ 3 13) rfl rfl (any_of HT_.out jA) (fun _ _ _ h=>h) (Or.inl ⟨by rfl,?_⟩) ?_ ?_;rotate_left;exact jb;rotate_left;exact jc
         refine pure_ (i:=3) (N:=some 19) (v:=?_) (a':=?_) (bm_ 4 13) rfl rfl (any_of HT_.out jA) (fun _ _ _ h=>h) (Or.inl ⟨by rfl,?_⟩) ?_ ?_;rotate_left;exact jb;rotate_left;exact jc
         refine pure_ (i:=4) (N:=some 20) (v:=?_) (a':=?_) (bm_ 5 13) rfl rfl (any_of HT_.out jA) (fun _ _ _ h=>h) (Or.inl ⟨by rfl,?_⟩) ?_ ?_;rotate_left;exact jb;rotate_left;exact jc
         refine pure_ (i:=5) (N:=some 21) (v:=?_) (a':=?_) (bm_ 6 13) rfl rfl (any_of HT_.out jA) (fun _ _ _ h=>h) (Or.inl ⟨by rfl,?_⟩) ?_ ?_;rotate_left;exact jb;rotate_left;exact jc
         refine take_ (i:=6) (N:=some 22) (v:=?_) (a':=?_) (bm_ 7 13) rfl rfl (yo HT_.out HW_.out jA) (fun _ _ _ h=>h) (Or.inl ⟨by rfl,?_⟩) hHeld ?_ ?_;rotate_left
         ·
          rintro w' ⟨s0,s1,s2,s3,s4,s5⟩
          go_simp
          with_reducible rfl
         rotate_left
         exact jc
         refine pure_ (i:=7) (N:=some 23) (v:=?_) (a':=?_) (bm_ 8 13) rfl rfl (any_of HT_.out jA) (fun _ _ _ h=>h) (Or.inl ⟨by rfl,?_⟩) ?_ ?_;rotate_left;exact jb;rotate_left;exact jc
         refine take_ (i:=8) (N:=some 24) (v:=?_) (a':=?_) (bm_ 9 13) rfl rfl (yo HT_.out HW_.out jA) (fun _ _ _ h=>h) (Or.inl ⟨by rfl,?_⟩) hHeld ?_ ?_;rotate_left
         ·
          rintro w' ⟨s0,s1,s2,s3,s4,s5⟩
          go_simp
          with_reducible rfl
         rotate_left
         exact jc
         refine take_ (i:=9) (N:=some 25) (v:=?_) (a':=?_) (bm_ 10 13) rfl rfl (yo HT_.out HW_.out jA) (fun _ _ _ h=>h) (Or.inl ⟨by rfl,?_⟩) hHeld ?_ ?_;rotate_left
         ·
          rintro w' ⟨s0,s1,s2,s3,s4,s5⟩
          go_simp
          with_reducible rfl
         rotate_left
         exact jc
         refine one_ (i:=10) (N:=some 26) (bm_ 11 13) rfl rfl (one_of HT_.out jA) jB (fun K hK=>?_);refine goes_ Try.func42 jA rfl #[.agg #[.string ((rd_T28 ((rd_T60 l0_0 x11_1).f1) 0).f0),.int .i64 ((rd_T28 ((rd_T60 l0_0 x11_1).f1) 0).f1)],.agg #[.string a1_0,.int .i64 a1_1]] (by rfl) rfl rfl jF ?_
         with_reducible refine (Fi.calls k1  ((rd_T28 ((rd_T60 l0_0 x11_1).f1) 0).f0) ((rd_T28 ((rd_T60 l0_0 x11_1).f1) 0).f1) a1_0 a1_1 t324 _ A12.out).mono ?_
         rintro e w20 ⟨rfl,hb⟩;refine ⟨_,rfl,?_⟩;replace BK319:=zh (cD BK319.out jm hb);replace BK320:=zh (cD BK320.out jAA hb);replace BK322:=zh (cD BK322.out jB0 hb);replace HB:=zh (zC jAL hb);(try clear hb);(try clear hb2);(try clear hk);(try clear hi);refine hK.out _ _ ⟨(zz BK322.out 0).trans rfl,(zz BK322.out 1).trans rfl,(zz BK320.out 0).trans rfl,(zz BK320.out 1).trans rfl,((HB.out.cell (zl w _ hw323_0)).trans hw323_0),((HB.out.cell (zl w _ hw323_1)).trans hw323_1)⟩ (fun hHeld=>?_);clear hK K;refine norm_ (a':=?_) ?_ ?_;rotate_left
         ·
          show Act.put _ (some 26) _=_
          simp only [Act.put,zi,zj,zk,zG,zH]
          rfl
         refine pure_ (i:=11) (N:=some 27) (v:=?_) (a':=?_) (bm_ 12 13) rfl rfl (any_of HT_.out jA) (fun _ _ _ h=>h) (Or.inl ⟨by rfl,?_⟩) ?_ ?_;rotate_left;exact jb;rotate_left;exact jc
         refine pure_ (i:=12) (N:=some 28) (v:=?_) (a':=?_) (bm_ 13 13) rfl rfl (any_of HT_.out jA) (fun _ _ _ h=>h) (Or.inl ⟨by rfl,?_⟩) ?_ ?_;rotate_left;exact jb;rotate_left;exact jc
         refine done_ (done_of HT_.out jA) ?_
         try go_wp2
         go_roundg k1
         case measure=>have:=HK1.out;omega
         case rel=>exact ⟨(x11_1),(wrap64 (x11_1+1)),jD,jD,H',⟨jV⟩,⟨jm⟩,⟨jAA⟩,⟨jAL⟩⟩
        rw [if_neg c13] at H;have c13b0 : decide (t324≤0)=false:=decide_eq_false c13;clear c13;have H':=zh H;clear H;have p321 : 0≤(x11_1 : Int):=zy jC;have q321 : x11_1<(l0_0.length : Int):=zy jC;obtain ⟨ad321,A321_1,c321_1,e321,hx321_0,hx321_1,hl321_1,hi321_1⟩:=at_T60 HR0_0.out x11_1 p321 q321
        cases e321
        replace hx321_0:=(HB.out.cell (zl w _ hx321_0)).trans hx321_0;replace hx321_1:=(HB.out.cell (zl w _ hx321_1)).trans hx321_1;have HR321_1:=zh hi321_1;have HC321_1:=zh hl321_1;clear hi321_1 hl321_1;replace p321:=eq_true p321;replace q321:=eq_true q321
        try go_wp2_with (first|((with_reducible refine zK (N:=7) rfl ?_);refine zI ?hg (N:=7) ?hd (cs:=#[.int .i64 0,.slice none 0 0]) (t:=60) ?hr ?_;(case hd=>rfl);(case hg=>rfl);(case hr=>go_simp <;> rfl);intro gb322 hg w21 hbox hb;have BK322:=zh (hbox);have hH_:=cH jAp hb hg;have GW322:=zh hH_.1;have GE322:=GW322;replace HB:=zh hH_.2;have NB319_322:=zh ((jBQ : gb319≠gb322));have NB322_319:=zh NB319_322.out.symm;replace BK319:=zh (cD BK319.out jm hb);have NB320_322:=zh ((jBR : gb320≠gb322));have NB322_320:=zh NB320_322.out.symm;replace BK320:=zh (cD BK320.out jAA hb);clear hb hbox hg hH_;have hnb22:=NB322_319.out;have hnc22:=NB319_322.out;have hnb23:=NB322_320.out;have hnc23:=NB320_322.out;obtain ⟨hcz24_0,hcz24_1,hfz24_0,hfz24_1⟩:=cB2 BK322.out))
        have n0_ : Aside0 (((w21.setCell ⟨gb322,0,none⟩ (.int .i64 ((rd_T60 l0_0 x11_1).f0))).setCell ⟨gb322,1,none⟩ (.slice A321_1 ((rd_T60 l0_0 x11_1).f1).length c321_1)).heap[gb319]? = some (.cells #[.slice (some ad321) l0_0.length c0_0,.int .i64 a0_1] 25 (0,0))):=⟨jBS⟩;have n1_ : Aside0 (((w21.setCell ⟨gb322,0,none⟩ (.int .i64 ((rd_T60 l0_0 x11_1).f0))).setCell ⟨gb322,1,none⟩ (.slice A321_1 ((rd_T60 l0_0 x11_1).f1).length c321_1)).heap[gb320]? = some (.cells #[.string a1_0,.int .i64 a1_1] 28 (0,0))):=⟨jBT⟩;have n2_ : Aside0 (((w21.setCell ⟨gb322,0,none⟩ (.int .i64 ((rd_T60 l0_0 x11_1).f0))).setCell ⟨gb322,1,none⟩ (.slice A321_1 ((rd_T60 l0_0 x11_1).f1).length c321_1)).heap[gb322]? = some (.cells #[.int .i64 ((rd_T60 l0_0 x11_1).f0),.slice A321_1 ((rd_T60 l0_0 x11_1).f1).length c321_1] 60 (0,0))):=⟨jBU⟩;have n3_ : Aside0 (Below w.heap.size w ((w21.setCell ⟨gb322,0,none⟩ (.int .i64 ((rd_T60 l0_0 x11_1).f0))).setCell ⟨gb322,1,none⟩ (.slice A321_1 ((rd_T60 l0_0 x11_1).f1).length c321_1))):=⟨jAL⟩;(try clear BK319);(try clear BK320);(try clear BK322);(try clear HB);generalize ((w21.setCell ⟨gb322,0,none⟩ (.int .i64 ((rd_T60 l0_0 x11_1).f0))).setCell ⟨gb322,1,none⟩ (.slice A321_1 ((rd_T60 l0_0 x11_1).f1).length c321_1))=w25 at n0_ n1_ n2_ n3_ ⊢;have BK319:=n0_;have BK320:=n1_;have BK322:=n2_;have HB:=n3_;clear n0_ n1_ n2_ n3_;replace BK319:=zh (zf BK319.out);replace BK320:=zh (zf BK320.out);replace BK322:=zh (zf BK322.out);replace HB:=zh (zc HB.out);have p323 : 0≤(0 : Int):=jE;have q323 : 0<(((rd_T60 l0_0 x11_1).f1).length : Int):=zy jC;obtain ⟨ad323,e323,hx323_0,hx323_1⟩:=at_T28 HR321_1.out 0 p323 q323;have hw323_1:=hx323_1;(try rw [show ((0 : Int)).toNat=0 from rfl] at hw323_1);(try rw [show 0*2=0 from rfl] at hw323_1);(try rw [Addr.add_zero'] at hw323_1);have hw323_0:=hx323_0;(try rw [show ((0 : Int)).toNat=0 from rfl] at hw323_0);(try rw [show 0*2=0 from rfl] at hw323_0);(try rw [Addr.add_zero'] at hw323_0)
        cases e323
        have qi323 : (0<((rd_T60 l0_0 x11_1).f1).length)=True:=eq_true jE;(try rw [show ((0 : Int)).toNat=0 from rfl] at hx323_0);(try rw [show 0*2=0 from rfl] at hx323_0);(try rw [Addr.add_zero'] at hx323_0);(try rw [show ((0 : Int)).toNat=0 from rfl] at hx323_1);(try rw [show 0*2=0 from rfl] at hx323_1);(try rw [Addr.add_zero'] at hx323_1);replace hx323_0:=(HB.out.cell (zl w _ hx323_0)).trans hx323_0;replace hx323_1:=(HB.out.cell (zl w _ hx323_1)).trans hx323_1;replace p323:=eq_true p323;replace q323:=eq_true q323;refine start_ (n:=13) (S:=fun w' => w'.cell? ⟨gb322,0,none⟩=some (.int .i64 ((rd_T60 l0_0 x11_1).f0))∧w'.cell? ⟨gb322,1,none⟩=some (.slice (some ad323) ((rd_T60 l0_0 x11_1).f1).length c321_1)∧w'.cell? ⟨gb320,0,none⟩=some (.string a1_0)∧w'.cell? ⟨gb320,1,none⟩=some (.int .i64 a1_1)∧w'.cell? ad323=some (.string ((rd_T28 ((rd_T60 l0_0 x11_1).f1) 0).f0))∧w'.cell? ⟨ad323.block,ad323.off+1,none⟩=some (.int .i64 ((rd_T28 ((rd_T60 l0_0 x11_1).f1) 0).f1))) (ds:=[]) (bm_ 0 13) jA rfl rfl ⟨(zz BK322.out 0).trans rfl,(zz BK322.out 1).trans rfl,(zz BK320.out 0).trans rfl,(zz BK320.out 1).trans rfl,((HB.out.cell (zl w _ hw323_0)).trans hw323_0),((HB.out.cell (zl w _ hw323_1)).trans hw323_1)⟩ (fun hHeld=>?_);refine with_tabW F9.tab5 F9.bits5 (fun HT_ HW_=>?_);generalize w25.drew=w26 at BK319 BK320 BK322 HB hx323_0 hx323_1 hHeld ⊢;refine pure_ (i:=0) (N:=some 16) (v:=?_) (a':=?_) (bm_ 1 13) rfl rfl (any_of HT_.out jA) (fun _ _ _ h=>h) (Or.inl ⟨by rfl,?_⟩) ?_ ?_;rotate_left;exact jb;rotate_left;exact jc
        refine take_ (i:=1) (N:=some 17) (v:=?_) (a':=?_) (bm_ 2 13) rfl rfl (yo HT_.out HW_.out jA) (fun _ _ _ h=>h) (Or.inl ⟨by rfl,?_⟩) hHeld ?_ ?_;rotate_left
        ·
         rintro w' ⟨s0,s1,s2,s3,s4,s5⟩
         go_simp
         with_reducible rfl
        rotate_left
        exact jc
        refine pure_ (i:=2) (N:=some 18) (v:=?_) (a':=?_) (bm_ 3 13) rfl rfl (any_of HT_.out jA) (fun _ _ _ h=>h) (Or.inl ⟨by rfl,?_⟩) ?_ ?_;rotate_left;exact jb;rotate_left;exact jc
        refine pure_ (i:=3) (N:=some 19) (v:=?_) (a':=?_) (bm_ 4 13) rfl rfl (any_of HT_.out jA) (fun _ _ _ h=>h) (Or.inl ⟨by rfl,?_⟩) ?_ ?_;rotate_left;exact jb;rotate_left;exact jc
        refine pure_ (i:=4) (N:=some 20) (v:=?_) (a':=?_) (bm_ 5 13) rfl rfl (any_of HT_.out jA) (fun _ _ _ h=>h) (Or.inl ⟨by rfl,?_⟩) ?_ ?_;rotate_left;exact jb;rotate_left;exact jc
        refine pure_ (i:=5) (N:=some 21) (v:=?_) (a':=?_) (bm_ 6 13) rfl rfl (any_of HT_.out jA) (fun _ _ _ h=>h) (Or.inl ⟨by rfl,?_⟩) ?_ ?_;rotate_left;exact jb;rotate_left;exact jc
        refine take_ (i:=6) (N:=some 22) (v:=?_) (a':=?_) (bm_ 7 13) rfl rfl (yo HT_.out HW_.out jA) (fun _ _ _ h=>h) (Or.inl ⟨by rfl,?_⟩) hHeld ?_ ?_;rotate_left
        ·
         rintro w' ⟨s0,s1,s2,s3,s4,s5⟩
         go_simp
         with_reducible rfl
        rotate_left
        exact jc
        refine pure_ (i:=7) (N:=some 23) (v:=?_) (a':=?_) (bm_ 8 13) rfl rfl (any_of HT_.out jA) (fun _ _ _ h=>h) (Or.inl ⟨by rfl,?_⟩) ?_ ?_;rotate_left;exact jb;rotate_left;exact jc
        refine take_ (i:=8) (N:=some 24) (v:=?_) (a':=?_) (bm_ 9 13) rfl rfl (yo HT_.out HW_.out jA) (fun _ _ _ h=>h) (Or.inl ⟨by rfl,?_⟩) hHeld ?_ ?_;rotate_left
        ·
         rintro w' ⟨s0,s1,s2,s3,s4,s5⟩
         go_simp
         with_reducible rfl
        rotate_left
        exact jc
        refine take_ (i:=9) (N:=some 25) (v:=?_) (a':=?_) (bm_ 10 13) rfl rfl (yo HT_.out HW_.out jA) (fun _ _ _ h=>h) (Or.inl ⟨by rfl,?_⟩) hHeld ?_ ?_;rotate_left
        ·
         rintro w' ⟨s0,s1,s2,s3,s4,s5⟩
         go_simp
         with_reducible rfl
        rotate_left
        exact jc
        refine one_ (i:=10) (N:=some 26) (bm_ 11 13) rfl rfl (one_of HT_.out jA) jB (fun K hK=>?_);refine goes_ Try.func42 jA rfl #[.agg #[.string ((rd_T28 ((rd_T60 l0_0 x11_1).f1) 0).f0),.int .i64 ((rd_T28 ((rd_T60 l0_0 x11_1).f1) 0).f1)],.agg #[.string a1_0,.int .i64 a1_1]] (by rfl) rfl rfl jF ?_
        with_reducible refine (Fi.calls k1  ((rd_T28 ((rd_T60 l0_0 x11_1).f1) 0).f0) ((rd_T28 ((rd_T60 l0_0 x11_1).f1) 0).f1) a1_0 a1_1 t324 _ A12.out).mono ?_
        rintro e w27 ⟨rfl,hb⟩;refine ⟨_,rfl,?_⟩;replace BK319:=zh (cD BK319.out jm hb);replace BK320:=zh (cD BK320.out jAA hb);replace BK322:=zh (cD BK322.out jB0 hb);replace HB:=zh (zC jAL hb);(try clear hb);(try clear hb2);(try clear hk);(try clear hi);refine hK.out _ _ ⟨(zz BK322.out 0).trans rfl,(zz BK322.out 1).trans rfl,(zz BK320.out 0).trans rfl,(zz BK320.out 1).trans rfl,((HB.out.cell (zl w _ hw323_0)).trans hw323_0),((HB.out.cell (zl w _ hw323_1)).trans hw323_1)⟩ (fun hHeld=>?_);clear hK K;refine norm_ (a':=?_) ?_ ?_;rotate_left
        ·
         show Act.put _ (some 26) _=_
         simp only [Act.put,zi,zj,zk,zG,zH]
         rfl
        refine pure_ (i:=11) (N:=some 27) (v:=?_) (a':=?_) (bm_ 12 13) rfl rfl (any_of HT_.out jA) (fun _ _ _ h=>h) (Or.inl ⟨by rfl,?_⟩) ?_ ?_;rotate_left;exact jb;rotate_left;exact jc
        refine pure_ (i:=12) (N:=some 28) (v:=?_) (a':=?_) (bm_ 13 13) rfl rfl (any_of HT_.out jA) (fun _ _ _ h=>h) (Or.inl ⟨by rfl,?_⟩) ?_ ?_;rotate_left;exact jb;rotate_left;exact jc
        refine done_ (done_of HT_.out jA) ?_
        try go_wp2
        go_roundg k1
        case measure=>have:=HK1.out;omega
        case rel=>exact ⟨(x5_1),(wrap64 (x11_1+1)),jD,jD,H',⟨jV⟩,⟨jm⟩,⟨jAA⟩,⟨jAL⟩⟩
       rw [if_neg c11] at H;exact absurd H (by simp)
      rw [if_neg c10] at H;have c10b0 : decide (0<(((rd_T60 l0_0 x11_1).f1).length : Int))=false:=decide_eq_false c10;have c10b1 : decide (0<((rd_T60 l0_0 x11_1).f1).length)=false:=decide_eq_false jE;clear c10;have H':=zh H;clear H;have p321 : 0≤(x11_1 : Int):=zy jC;have q321 : x11_1<(l0_0.length : Int):=zy jC;obtain ⟨ad321,A321_1,c321_1,e321,hx321_0,hx321_1,hl321_1,hi321_1⟩:=at_T60 HR0_0.out x11_1 p321 q321
      cases e321
      replace hx321_0:=(HB.out.cell (zl w _ hx321_0)).trans hx321_0;replace hx321_1:=(HB.out.cell (zl w _ hx321_1)).trans hx321_1;have HR321_1:=zh hi321_1;have HC321_1:=zh hl321_1;clear hi321_1 hl321_1;replace p321:=eq_true p321;replace q321:=eq_true q321
      try go_wp2_with (first|((with_reducible refine zK (N:=7) rfl ?_);refine zI ?hg (N:=7) ?hd (cs:=#[.int .i64 0,.slice none 0 0]) (t:=60) ?hr ?_;(case hd=>rfl);(case hg=>rfl);(case hr=>go_simp <;> rfl);intro gb322 hg w28 hbox hb;have BK322:=zh (hbox);have hH_:=cH jAp hb hg;have GW322:=zh hH_.1;have GE322:=GW322;replace HB:=zh hH_.2;have NB319_322:=zh ((jBQ : gb319≠gb322));have NB322_319:=zh NB319_322.out.symm;replace BK319:=zh (cD BK319.out jm hb);have NB320_322:=zh ((jBR : gb320≠gb322));have NB322_320:=zh NB320_322.out.symm;replace BK320:=zh (cD BK320.out jAA hb);clear hb hbox hg hH_;have hnb29:=NB322_319.out;have hnc29:=NB319_322.out;have hnb30:=NB322_320.out;have hnc30:=NB320_322.out;obtain ⟨hcz31_0,hcz31_1,hfz31_0,hfz31_1⟩:=cB2 BK322.out))
      have n0_ : Aside0 (((w28.setCell ⟨gb322,0,none⟩ (.int .i64 ((rd_T60 l0_0 x11_1).f0))).setCell ⟨gb322,1,none⟩ (.slice A321_1 ((rd_T60 l0_0 x11_1).f1).length c321_1)).heap[gb319]? = some (.cells #[.slice (some ad321) l0_0.length c0_0,.int .i64 a0_1] 25 (0,0))):=⟨jBS⟩;have n1_ : Aside0 (((w28.setCell ⟨gb322,0,none⟩ (.int .i64 ((rd_T60 l0_0 x11_1).f0))).setCell ⟨gb322,1,none⟩ (.slice A321_1 ((rd_T60 l0_0 x11_1).f1).length c321_1)).heap[gb320]? = some (.cells #[.string a1_0,.int .i64 a1_1] 28 (0,0))):=⟨jBT⟩;have n2_ : Aside0 (((w28.setCell ⟨gb322,0,none⟩ (.int .i64 ((rd_T60 l0_0 x11_1).f0))).setCell ⟨gb322,1,none⟩ (.slice A321_1 ((rd_T60 l0_0 x11_1).f1).length c321_1)).heap[gb322]? = some (.cells #[.int .i64 ((rd_T60 l0_0 x11_1).f0),.slice A321_1 ((rd_T60 l0_0 x11_1).f1).length c321_1] 60 (0,0))):=⟨jBU⟩;have n3_ : Aside0 (Below w.heap.size w ((w28.setCell ⟨gb322,0,none⟩ (.int .i64 ((rd_T60 l0_0 x11_1).f0))).setCell ⟨gb322,1,none⟩ (.slice A321_1 ((rd_T60 l0_0 x11_1).f1).length c321_1))):=⟨jAL⟩;(try clear BK319);(try clear BK320);(try clear BK322);(try clear HB);generalize ((w28.setCell ⟨gb322,0,none⟩ (.int .i64 ((rd_T60 l0_0 x11_1).f0))).setCell ⟨gb322,1,none⟩ (.slice A321_1 ((rd_T60 l0_0 x11_1).f1).length c321_1))=w32 at n0_ n1_ n2_ n3_ ⊢;have BK319:=n0_;have BK320:=n1_;have BK322:=n2_;have HB:=n3_;clear n0_ n1_ n2_ n3_;replace BK319:=zh (zf BK319.out);replace BK320:=zh (zf BK320.out);replace BK322:=zh (zf BK322.out);replace HB:=zh (zc HB.out);refine start_ (n:=13) (S:=fun w' => w'.cell? ⟨gb322,0,none⟩=some (.int .i64 ((rd_T60 l0_0 x11_1).f0))∧w'.cell? ⟨gb322,1,none⟩=some (.slice A321_1 ((rd_T60 l0_0 x11_1).f1).length c321_1)) (ds:=[]) (bm_ 0 13) jA rfl rfl ⟨(zz BK322.out 0).trans rfl,(zz BK322.out 1).trans rfl⟩ (fun hHeld=>?_);refine with_tabW F9.tab5 F9.bits5 (fun HT_ HW_=>?_);generalize w32.drew=w33 at BK319 BK320 BK322 HB hHeld ⊢;refine pure_ (i:=0) (N:=some 16) (v:=?_) (a':=?_) (bm_ 1 13) rfl rfl (any_of HT_.out jA) (fun _ _ _ h=>h) (Or.inl ⟨by rfl,?_⟩) ?_ ?_;rotate_left;exact jb;rotate_left;exact jc
      refine take_ (i:=1) (N:=some 17) (v:=?_) (a':=?_) (bm_ 2 13) rfl rfl (yo HT_.out HW_.out jA) (fun _ _ _ h=>h) (Or.inl ⟨by rfl,?_⟩) hHeld ?_ ?_;rotate_left
      ·
       rintro w' ⟨s0,s1⟩
       go_simp
       with_reducible rfl
      rotate_left
      exact jc
      refine pure_ (i:=2) (N:=some 18) (v:=?_) (a':=?_) (bm_ 3 13) rfl rfl (any_of HT_.out jA) (fun _ _ _ h=>h) (Or.inl ⟨by rfl,?_⟩) ?_ ?_;rotate_left;exact jb;rotate_left;exact jc
      refine pure_ (i:=3) (N:=some 19) (v:=?_) (a':=?_) (bm_ 4 13) rfl rfl (any_of HT_.out jA) (fun _ _ _ h=>h) (Or.inl ⟨by rfl,?_⟩) ?_ ?_;rotate_left;exact jb;rotate_left;exact jc
      refine pure_ (i:=4) (N:=some 20) (v:=?_) (a':=?_) (bm_ 5 13) rfl rfl (any_of HT_.out jA) (fun _ _ _ h=>h) (Or.inl ⟨by rfl,?_⟩) ?_ ?_;rotate_left;exact jb;rotate_left;exact jc
      refine pure_ (i:=5) (N:=some 21) (v:=undef) (a':=?_) (bm_ 6 13) rfl rfl (any_of HT_.out jA) (fun _ _ _ h=>h) (Or.inr ⟨by rfl,rfl⟩) ?_ ?_;rotate_left
      exact jc
      refine pure_ (i:=6) (N:=some 22) (v:=undef) (a':=?_) (bm_ 7 13) rfl rfl (any_of HT_.out jA) (fun _ _ _ h=>h) (Or.inr ⟨by rfl,rfl⟩) ?_ ?_;rotate_left
      exact jc
      refine pure_ (i:=7) (N:=some 23) (v:=undef) (a':=?_) (bm_ 8 13) rfl rfl (any_of HT_.out jA) (fun _ _ _ h=>h) (Or.inr ⟨by rfl,rfl⟩) ?_ ?_;rotate_left
      exact jc
      refine pure_ (i:=8) (N:=some 24) (v:=undef) (a':=?_) (bm_ 9 13) rfl rfl (any_of HT_.out jA) (fun _ _ _ h=>h) (Or.inr ⟨by rfl,rfl⟩) ?_ ?_;rotate_left
      exact jc
      refine pure_ (i:=9) (N:=some 25) (v:=undef) (a':=?_) (bm_ 10 13) rfl rfl (any_of HT_.out jA) (fun _ _ _ h=>h) (Or.inr ⟨by rfl,rfl⟩) ?_ ?_;rotate_left
      exact jc
      refine pure_ (i:=10) (N:=some 26) (v:=undef) (a':=?_) (bm_ 11 13) rfl rfl (any_of HT_.out jA) (fun _ _ _ h=>h) (Or.inr ⟨by rfl,rfl⟩) ?_ ?_;rotate_left
      exact jc
      refine pure_ (i:=11) (N:=some 27) (v:=undef) (a':=?_) (bm_ 12 13) rfl rfl (any_of HT_.out jA) (fun _ _ _ h=>h) (Or.inr ⟨by rfl,rfl⟩) ?_ ?_;rotate_left
      exact jc
      refine pure_ (i:=12) (N:=some 28) (v:=?_) (a':=?_) (bm_ 13 13) rfl rfl (any_of HT_.out jA) (fun _ _ _ h=>h) (Or.inl ⟨by rfl,?_⟩) ?_ ?_;rotate_left;exact jb;rotate_left;exact jc
      refine done_ (done_of HT_.out jA) ?_
      try go_wp2
      go_roundg k1
      case measure=>have:=HK1.out;omega
      case rel=>exact ⟨(x5_1),(wrap64 (x11_1+1)),jD,jD,H',⟨jV⟩,⟨jm⟩,⟨jAA⟩,⟨jAL⟩⟩
     rw [if_neg c9] at H;exact absurd H (by simp)
    rw [if_neg c8] at H;exact absurd H (by simp)
   rw [if_neg c7] at H;have c7b0 : decide (x11_1<(l0_0.length : Int))=false:=decide_eq_false c7;clear c7;obtain rfl:=zU H
   go_wp2
   go_ret
   exact ⟨jG,jAp⟩


def Fn.f (k : Nat) (l0_0 : List (S60)) (a0_1 : Int) (a1_0 : ByteArray) (a1_1 : Int) : Option (Int×Int):=(F4.f k l0_0 a0_1).bind fun t424=>(if t424=true then ((F00.f a1_0 a1_1).bind fun t425=>(if t425=true then ((F9.f k l0_0 a0_1 a1_0 a1_1).bind fun t426=>(if 0≤t426 then (if t426<(l0_0.length : Int) then (some ((rd_T60 l0_0 t426).f0,0)) else (none)) else (none))) else (some (0,1)))) else (some (0,1)))
theorem Fn.mono : ∀ a0 a1 a2 a3 k,LeO (Fn.f k a0 a1 a2 a3) (Fn.f (k+1) a0 a1 a2 a3):=by
 intro a0 a1 a2 a3 k;unfold Fn.f
 repeat' first|(with_reducible first|exact F4.mono _ _ _|exact F9.mono _ _ _ _ _|exact zQ _|exact zN _|refine zP ?_ ?_|refine zO ?_ (fun _=>?_))|refine zP ?_ ?_|refine zO ?_ (fun _=>?_)
def Fn.T3 : Bool×List (List Nat×List Nat):=(true,[([],[]),([0],[0]),([],[]),([],[]),([2,3],[2,3]),([1,4],[1,4]),([5],[5]),([6],[6]),([7,4,0,1,2,3,4,5,6,7],[7]),([8,0,1,2,3,4,5,6,7,8],[])])
def Fn.B3 : List Nat:=[0,1,0,0,12,31,63,127,255,511]
theorem Fn.tab3 : rtab .any (opsOf Try.f13 3)=Fn.T3:=by kernel_rfl
theorem Fn.bits3 : waitsOk Fn.T3.2 Fn.B3=true:=by kernel_rfl
set_option maxHeartbeats 8000000 in
set_option maxRecDepth 100000 in
theorem Fn.calls (k : Nat) (A0_0 : Option Addr) (c0_0 : Nat) (l0_0 : List (S60)) (a0_1 : Int) (a1_0 : ByteArray) (a1_1 : Int) (r1 : Int) (r2 : Int) (w : World) (hr0_0 : Kd.C k60 w A0_0 l0_0.length l0_0) (hc0_0 : l0_0.length≤c0_0) (h : Fn.f k l0_0 a0_1 a1_0 a1_1=some (r1,r2)) :
  Calls Try.prog 13 #[.agg #[.slice A0_0 l0_0.length c0_0,.int .i64 a0_1],.agg #[.string a1_0,.int .i64 a1_1]] w fun e w' => e = .returned (.tuple #[.int .i64 r1,.int .i64 r2])∧Below w.heap.size w w':=by
 have hu25:=Try.underlying25;have hu28:=Try.underlying28;have HR0_0:=zh hr0_0;have HC0_0:=zh hc0_0;clear hr0_0 hc0_0;have HB:=zh (Below.refl w.heap.size w);have H : ((F4.f k l0_0 a0_1).bind fun t424=>(if t424=true then ((F00.f a1_0 a1_1).bind fun t425=>(if t425=true then ((F9.f k l0_0 a0_1 a1_0 a1_1).bind fun t426=>(if 0≤t426 then (if t426<(l0_0.length : Int) then (some ((rd_T60 l0_0 t426).f0,0)) else (none)) else (none))) else (some (0,1)))) else (some (0,1))))=some (r1,r2):=h;clear h;replace H:=zT.mp H;obtain ⟨t424,A30,H⟩:=H;have A3:=zh A30;clear A30
 by_cases c4 : t424=true
 ·
  subst c4
  rw [if_pos rfl] at H;replace H:=zT.mp H;obtain ⟨t425,A50,H⟩:=H;have A5:=zh A50;clear A50
  by_cases c6 : t425=true
  ·
   subst c6
   rw [if_pos rfl] at H;replace H:=zT.mp H;obtain ⟨t426,A70,H⟩:=H;have A7:=zh A70;clear A70
   by_cases c8 : 0≤t426
   ·
    rw [if_pos c8] at H
    have c8b0 : decide (0≤t426)=true:=decide_eq_true c8;clear c8
    by_cases c9 : t426<(l0_0.length : Int)
    ·
     rw [if_pos c9] at H
     have c9b0 : decide (t426<(l0_0.length : Int))=true:=decide_eq_true c9;clear c9;simp only [Option.some.injEq,Prod.mk.injEq] at H;obtain ⟨rfl,rfl⟩:=H
     go_enter Try.func13,Try.ntmps13
     try go_wp2_with (first|((with_reducible refine zK (N:=2) rfl ?_);refine zI ?hg (N:=2) ?hd (cs:=#[.slice A0_0 l0_0.length c0_0,.int .i64 a0_1]) (t:=25) ?hr ?_;(case hd=>rfl);(case hg=>rfl);(case hr=>go_simp <;> rfl);intro gb422 hg w10 hbox hb;have BK422:=zh (hbox);have hH_:=cH jH hb hg;have GW422:=zh hH_.1;have GE422:=GW422;replace HB:=zh hH_.2;clear hb hbox hg hH_)|((with_reducible refine zK (N:=3) rfl ?_);refine zI ?hg (N:=3) ?hd (cs:=#[.string a1_0,.int .i64 a1_1]) (t:=28) ?hr ?_;(case hd=>rfl);(case hg=>rfl);(case hr=>go_simp <;> rfl);intro gb423 hg w11 hbox hb;have BK423:=zh (hbox);have hH_:=cH jBV hb hg;have GW423:=zh hH_.1;have GE423:=GW423;replace HB:=zh hH_.2;have NB422_423:=zh ((jBW : gb422≠gb423));have NB423_422:=zh NB422_423.out.symm;replace BK422:=zh (cD BK422.out jAB hb);clear hb hbox hg hH_;have hnb12:=NB422_423.out;have hnc12:=NB423_422.out;obtain ⟨hcz13_0,hcz13_1,hfz13_0,hfz13_1⟩:=cB2 BK422.out)|((with_reducible refine zJ (f:=20) rfl ?_);refine yj (some 7) rfl rfl Try.func20 jA rfl #[.agg #[.slice A0_0 l0_0.length c0_0,.int .i64 a0_1]] rfl jF ?_;(with_reducible refine (F4.calls k  _ _ l0_0 a0_1 true _ ?side1 ?side2 A3.out).mono ?_);(case side1=>repeat (first|exact (Kd.C_below HR0_0.out HB.out)|(with_reducible refine Kd.C_alloc ?_ _)|(with_reducible refine Kd.C_drewN ?_ _)|(with_reducible refine Kd.C_drew ?_)));(case side2=>exact HC0_0.out);rintro e w14 ⟨rfl,hb⟩;refine ⟨_,rfl,?_⟩;replace BK422:=zh (cD BK422.out jAB hb);replace BK423:=zh (cD BK423.out jAb hb);replace HB:=zh (zC jAF hb);(try clear hb);(try clear hb2);(try clear hk);(try clear hi);obtain ⟨hcz15_0,hcz15_1,hfz15_0,hfz15_1⟩:=cB2 BK423.out)|(go_at_call 32;(with_reducible refine (F00.calls  a1_0 a1_1 true _ A5.out).mono ?_);rintro e w16 ⟨rfl,hb⟩;replace BK422:=zh (cD BK422.out jAB hb);replace BK423:=zh (cD BK423.out jAb hb);replace HB:=zh (zC jAF hb);(try clear hb);(try clear hb2);(try clear hk);(try clear hi)))
     replace BK422:=zh (zf BK422.out);replace BK423:=zh (zf BK423.out);replace HB:=zh (zc HB.out);have p427 : 0≤(t426 : Int):=zy jC;have q427 : t426<(l0_0.length : Int):=zy jC;obtain ⟨ad427,A427_1,c427_1,e427,hx427_0,hx427_1,hl427_1,hi427_1⟩:=at_T60 HR0_0.out t426 p427 q427;have hw427_1:=hx427_1;have hw427_0:=hx427_0
     cases e427
     replace hx427_0:=(HB.out.cell (zl w _ hx427_0)).trans hx427_0;replace hx427_1:=(HB.out.cell (zl w _ hx427_1)).trans hx427_1;have HR427_1:=zh hi427_1;have HC427_1:=zh hl427_1;clear hi427_1 hl427_1;replace p427:=eq_true p427;replace q427:=eq_true q427;refine start_ (n:=10) (S:=fun w' => w'.cell? ⟨gb422,0,none⟩=some (.slice (some ad427) l0_0.length c0_0)∧w'.cell? ⟨gb422,1,none⟩=some (.int .i64 a0_1)∧w'.cell? ⟨gb423,0,none⟩=some (.string a1_0)∧w'.cell? ⟨gb423,1,none⟩=some (.int .i64 a1_1)∧w'.cell? (ad427.add ((t426).toNat*2))=some (.int .i64 ((rd_T60 l0_0 t426).f0))∧w'.cell? ⟨(ad427.add ((t426).toNat*2)).block,(ad427.add ((t426).toNat*2)).off+1,none⟩=some (.slice A427_1 ((rd_T60 l0_0 t426).f1).length c427_1)) (ds:=[]) (bm_ 0 10) jA rfl rfl ⟨(zz BK422.out 0).trans rfl,(zz BK422.out 1).trans rfl,(zz BK423.out 0).trans rfl,(zz BK423.out 1).trans rfl,((HB.out.cell (zl w _ hw427_0)).trans hw427_0),((HB.out.cell (zl w _ hw427_1)).trans hw427_1)⟩ (fun hHeld=>?_);refine with_tabW Fn.tab3 Fn.bits3 (fun HT_ HW_=>?_);generalize w16.drew=w17 at BK422 BK423 HB HR427_1 hx427_0 hx427_1 hHeld ⊢;refine pure_ (i:=0) (N:=some 14) (v:=?_) (a':=?_) (bm_ 1 10) rfl rfl (any_of HT_.out jA) (fun _ _ _ h=>h) (Or.inl ⟨by rfl,?_⟩) ?_ ?_;rotate_left;exact jb;rotate_left;exact jc
     refine take_ (i:=1) (N:=some 15) (v:=?_) (a':=?_) (bm_ 2 10) rfl rfl (yo HT_.out HW_.out jA) (fun _ _ _ h=>h) (Or.inl ⟨by rfl,?_⟩) hHeld ?_ ?_;rotate_left
     ·
      rintro w' ⟨s0,s1,s2,s3,s4,s5⟩
      go_simp
      with_reducible rfl
     rotate_left
     exact jc
     refine take_ (i:=2) (N:=some 16) (v:=?_) (a':=?_) (bm_ 3 10) rfl rfl (yo HT_.out HW_.out jA) (fun _ _ _ h=>h) (Or.inl ⟨by rfl,?_⟩) hHeld ?_ ?_;rotate_left
     ·
      rintro w' ⟨s0,s1,s2,s3,s4,s5⟩
      go_simp
      with_reducible rfl
     rotate_left
     exact jc
     refine take_ (i:=3) (N:=some 17) (v:=?_) (a':=?_) (bm_ 4 10) rfl rfl (yo HT_.out HW_.out jA) (fun _ _ _ h=>h) (Or.inl ⟨by rfl,?_⟩) hHeld ?_ ?_;rotate_left
     ·
      rintro w' ⟨s0,s1,s2,s3,s4,s5⟩
      go_simp
      with_reducible rfl
     rotate_left
     exact jc
     refine one_ (i:=4) (N:=some 18) (bm_ 5 10) rfl rfl (one_of HT_.out jA) jB (fun K hK=>?_);refine goes_ Try.func28 jA rfl #[.agg #[.slice (some ad427) l0_0.length c0_0,.int .i64 a0_1],.agg #[.string a1_0,.int .i64 a1_1]] (by rfl) rfl rfl jF ?_
     with_reducible refine (F9.calls k  _ _ l0_0 a0_1 a1_0 a1_1 t426 _ ?side1 ?side2 A7.out).mono ?_
     (case side1=>repeat (first|exact (Kd.C_below HR0_0.out HB.out)|(with_reducible refine Kd.C_alloc ?_ _)|(with_reducible refine Kd.C_drewN ?_ _)|(with_reducible refine Kd.C_drew ?_)))
     (case side2=>exact HC0_0.out)
     rintro e w18 ⟨rfl,hb⟩;refine ⟨_,rfl,?_⟩;replace BK422:=zh (cD BK422.out jAB hb);replace BK423:=zh (cD BK423.out jAb hb);replace HB:=zh (zC jAF hb);(try clear hb);(try clear hb2);(try clear hk);(try clear hi);refine hK.out _ _ ⟨(zz BK422.out 0).trans rfl,(zz BK422.out 1).trans rfl,(zz BK423.out 0).trans rfl,(zz BK423.out 1).trans rfl,((HB.out.cell (zl w _ hw427_0)).trans hw427_0),((HB.out.cell (zl w _ hw427_1)).trans hw427_1)⟩ (fun hHeld=>?_);clear hK K;refine norm_ (a':=?_) ?_ ?_;rotate_left
     ·
      show Act.put _ (some 18) _=_
      simp only [Act.put,zi,zj,zk,zG,zH]
      rfl
     refine pure_ (i:=5) (N:=some 19) (v:=?_) (a':=?_) (bm_ 6 10) rfl rfl (any_of HT_.out jA) (fun _ _ _ h=>h) (Or.inl ⟨by rfl,?_⟩) ?_ ?_;rotate_left;exact jb;rotate_left;exact jc
     refine pure_ (i:=6) (N:=some 20) (v:=?_) (a':=?_) (bm_ 7 10) rfl rfl (any_of HT_.out jA) (fun _ _ _ h=>h) (Or.inl ⟨by rfl,?_⟩) ?_ ?_;rotate_left;exact jb;rotate_left;exact jc
     refine take_ (i:=7) (N:=some 21) (v:=?_) (a':=?_) (bm_ 8 10) rfl rfl (yo HT_.out HW_.out jA) (fun _ _ _ h=>h) (Or.inl ⟨by rfl,?_⟩) hHeld ?_ ?_;rotate_left
     ·
      rintro w' ⟨s0,s1,s2,s3,s4,s5⟩
      go_simp
      with_reducible rfl
     rotate_left
     exact jc
     refine pure_ (i:=8) (N:=some 4) (v:=?_) (a':=?_) (bm_ 9 10) rfl rfl (any_of HT_.out jA) (fun _ _ _ h=>h) (Or.inl ⟨by rfl,?_⟩) ?_ ?_;rotate_left;exact jb;rotate_left;exact jc
     refine pure_ (i:=9) (N:=some 5) (v:=?_) (a':=?_) (bm_ 10 10) rfl rfl (any_of HT_.out jA) (fun _ _ _ h=>h) (Or.inl ⟨by rfl,?_⟩) ?_ ?_;rotate_left;exact jb;rotate_left;exact jc
     refine done_ (done_of HT_.out jA) ?_
     try go_wp2
     go_ret2
     exact ⟨jG,jAF⟩
    rw [if_neg c9] at H;exact absurd H (by simp)
   rw [if_neg c8] at H;exact absurd H (by simp)
  replace c6:=yb.mpr c6;subst c6;rw [if_neg (show ¬ (false=true) by decide)] at H;simp only [Option.some.injEq,Prod.mk.injEq] at H;obtain ⟨rfl,rfl⟩:=H
  go_enter Try.func13,Try.ntmps13
  go_wp2_with (first|((with_reducible refine zK (N:=2) rfl ?_);refine zI ?hg (N:=2) ?hd (cs:=#[.slice A0_0 l0_0.length c0_0,.int .i64 a0_1]) (t:=25) ?hr ?_;(case hd=>rfl);(case hg=>rfl);(case hr=>go_simp <;> rfl);intro gb422 hg w19 hbox hb;have BK422:=zh (hbox);have hH_:=cH jH hb hg;have GW422:=zh hH_.1;have GE422:=GW422;replace HB:=zh hH_.2;clear hb hbox hg hH_)|((with_reducible refine zK (N:=3) rfl ?_);refine zI ?hg (N:=3) ?hd (cs:=#[.string a1_0,.int .i64 a1_1]) (t:=28) ?hr ?_;(case hd=>rfl);(case hg=>rfl);(case hr=>go_simp <;> rfl);intro gb423 hg w20 hbox hb;have BK423:=zh (hbox);have hH_:=cH jBV hb hg;have GW423:=zh hH_.1;have GE423:=GW423;replace HB:=zh hH_.2;have NB422_423:=zh ((jBW : gb422≠gb423));have NB423_422:=zh NB422_423.out.symm;replace BK422:=zh (cD BK422.out jAB hb);clear hb hbox hg hH_;have hnb21:=NB422_423.out;have hnc21:=NB423_422.out;obtain ⟨hcz22_0,hcz22_1,hfz22_0,hfz22_1⟩:=cB2 BK422.out)|((with_reducible refine zJ (f:=20) rfl ?_);refine yj (some 7) rfl rfl Try.func20 jA rfl #[.agg #[.slice A0_0 l0_0.length c0_0,.int .i64 a0_1]] rfl jF ?_;(with_reducible refine (F4.calls k  _ _ l0_0 a0_1 true _ ?side1 ?side2 A3.out).mono ?_);(case side1=>repeat (first|exact (Kd.C_below HR0_0.out HB.out)|(with_reducible refine Kd.C_alloc ?_ _)|(with_reducible refine Kd.C_drewN ?_ _)|(with_reducible refine Kd.C_drew ?_)));(case side2=>exact HC0_0.out);rintro e w23 ⟨rfl,hb⟩;refine ⟨_,rfl,?_⟩;replace BK422:=zh (cD BK422.out jAB hb);replace BK423:=zh (cD BK423.out jAb hb);replace HB:=zh (zC jAF hb);(try clear hb);(try clear hb2);(try clear hk);(try clear hi);obtain ⟨hcz24_0,hcz24_1,hfz24_0,hfz24_1⟩:=cB2 BK423.out)|(go_at_call 32;(with_reducible refine (F00.calls  a1_0 a1_1 false _ A5.out).mono ?_);rintro e w25 ⟨rfl,hb⟩;replace BK422:=zh (cD BK422.out jAB hb);replace BK423:=zh (cD BK423.out jAb hb);replace HB:=zh (zC jAF hb);(try clear hb);(try clear hb2);(try clear hk);(try clear hi)))
  go_ret2
  exact ⟨jG,jAF⟩
 replace c4:=yb.mpr c4;subst c4;rw [if_neg (show ¬ (false=true) by decide)] at H;simp only [Option.some.injEq,Prod.mk.injEq] at H;obtain ⟨rfl,rfl⟩:=H
 go_enter Try.func13,Try.ntmps13
 go_wp2_with (first|((with_reducible refine zK (N:=2) rfl ?_);refine zI ?hg (N:=2) ?hd (cs:=#[.slice A0_0 l0_0.length c0_0,.int .i64 a0_1]) (t:=25) ?hr ?_;(case hd=>rfl);(case hg=>rfl);(case hr=>go_simp <;> rfl);intro gb422 hg w26 hbox hb;have BK422:=zh (hbox);have hH_:=cH jH hb hg;have GW422:=zh hH_.1;have GE422:=GW422;replace HB:=zh hH_.2;clear hb hbox hg hH_)|((with_reducible refine zK (N:=3) rfl ?_);refine zI ?hg (N:=3) ?hd (cs:=#[.string a1_0,.int .i64 a1_1]) (t:=28) ?hr ?_;(case hd=>rfl);(case hg=>rfl);(case hr=>go_simp <;> rfl);intro gb423 hg w27 hbox hb;have BK423:=zh (hbox);have hH_:=cH jBV hb hg;have GW423:=zh hH_.1;have GE423:=GW423;replace HB:=zh hH_.2;have NB422_423:=zh ((jBW : gb422≠gb423));have NB423_422:=zh NB422_423.out.symm;replace BK422:=zh (cD BK422.out jAB hb);clear hb hbox hg hH_;have hnb28:=NB422_423.out;have hnc28:=NB423_422.out;obtain ⟨hcz29_0,hcz29_1,hfz29_0,hfz29_1⟩:=cB2 BK422.out)|((with_reducible refine zJ (f:=20) rfl ?_);refine yj (some 7) rfl rfl Try.func20 jA rfl #[.agg #[.slice A0_0 l0_0.length c0_0,.int .i64 a0_1]] rfl jF ?_;(with_reducible refine (F4.calls k  _ _ l0_0 a0_1 false _ ?side1 ?side2 A3.out).mono ?_);(case side1=>repeat (first|exact (Kd.C_below HR0_0.out HB.out)|(with_reducible refine Kd.C_alloc ?_ _)|(with_reducible refine Kd.C_drewN ?_ _)|(with_reducible refine Kd.C_drew ?_)));(case side2=>exact HC0_0.out);rintro e w30 ⟨rfl,hb⟩;refine ⟨_,rfl,?_⟩;replace BK422:=zh (cD BK422.out jAB hb);replace BK423:=zh (cD BK423.out jAb hb);replace HB:=zh (zC jAF hb);(try clear hb);(try clear hb2);(try clear hk);(try clear hi)))
 go_ret2
 exact ⟨jG,jAF⟩


def IsS71 (w0 W : World) (g : Nat) (f0 : List Int) (f1 : Int) (f2 : Int) : Prop:=∃ A0 c0,W.heap[g]? = some (.cells #[.slice A0 f0.length c0,.int .i64 f1,.int .i64 f2] 71 (0,0))∧w0.heap.size≤g∧Kd.C (Kd.int .u8) w0 A0 f0.length f0
theorem IsS71.grown {w0 W : World} {g : Nat} {f0 : List Int} {f1 : Int} {f2 : Int} {W1 : World} {row : Option Nat} (h : IsS71 w0 W g f0 f1 f2) (hw : W.grownBy W1 row) (hne : some g≠row) : IsS71 w0 W1 g f0 f1 f2:=by
 obtain ⟨A0,c0,hb,hg,hr0⟩:=h;exact ⟨A0,c0,yv hb hw hne,hg,hr0⟩
theorem IsS71.fresh {w0 W : World} {g : Nat} {f0 : List Int} {f1 : Int} {f2 : Int} (h : IsS71 w0 W g f0 f1 f2) : ∀ k,W.heap.size≤k→k≠g:=by
 obtain ⟨A0,c0,hb,hg,hr0⟩:=h;exact Kd.freshB hb
theorem IsS71.kept {w0 W : World} {g : Nat} {f0 : List Int} {f1 : Int} {f2 : Int} {W1 : World} {S : Nat→Prop} (h : IsS71 w0 W g f0 f1 f2) (hk : Kept W W1 S) (hne : ¬ S g) : IsS71 w0 W1 g f0 f1 f2:=by
 obtain ⟨A0,c0,hb,hg,hr0⟩:=h;exact ⟨A0,c0,blk_kept hb hk hne,hg,hr0⟩
theorem IsS71.below {w0 W : World} {g : Nat} {f0 : List Int} {f1 : Int} {f2 : Int} {W1 : World} (h : IsS71 w0 W g f0 f1 f2) (hw : Below W.heap.size W W1) : IsS71 w0 W1 g f0 f1 f2:=h.grown (grown_of_below hw none) (by simp)
theorem IsS71.alloc {w0 W : World} {g : Nat} {f0 : List Int} {f1 : Int} {f2 : Int} (h : IsS71 w0 W g f0 f1 f2) (o : Obj) : IsS71 w0 (W.alloc o) g f0 f1 f2:=h.below (za (Below.refl _ _) o)
theorem IsS71.drewN {w0 W : World} {g : Nat} {f0 : List Int} {f1 : Int} {f2 : Int} (h : IsS71 w0 W g f0 f1 f2) (m : Nat) : IsS71 w0 (W.drewN m) g f0 f1 f2:=h
theorem IsS71.drew {w0 W : World} {g : Nat} {f0 : List Int} {f1 : Int} {f2 : Int} (h : IsS71 w0 W g f0 f1 f2) : IsS71 w0 W.drew g f0 f1 f2:=h
theorem IsS71.at_ {w0 W : World} {g : Nat} {f0 : List Int} {f1 : Int} {f2 : Int} {w' : World} {m : Nat} (hq : W.drewN m=w') (h : IsS71 w0 W g f0 f1 f2) : IsS71 w0 w' g f0 f1 f2:=by subst hq;exact IsS71.drewN h m
theorem IsS71.apart {w0 W : World} {g : Nat} {f0 : List Int} {f1 : Int} {f2 : Int} {α : Type} {d : Kd α} {e : Nat} {base : Nat} {ok : Nat→Prop} {v : Value} {xs : List α} (h : IsS71 w0 W g f0 f1 f2) (ho : d.R e W base ok v xs) (ht : ∀ q,q ∈ e :: d.E→q≠71) : d.R e W base (fun k=>ok k∧k≠g) v xs:=by
 obtain ⟨A0,c0,hb,hg,hr0⟩:=h;exact yf ho hb ht
theorem IsS71.own_ne {w0 W : World} {g : Nat} {f0 : List Int} {f1 : Int} {f2 : Int} {α : Type} {d : Kd α} {e : Nat} {base : Nat} {ok : Nat→Prop} {v : Value} {xs : List α} (h : IsS71 w0 W g f0 f1 f2) (ho : d.R e W base ok v xs) (ht : e≠71) : some g≠v.ownBlock:=by
 obtain ⟨A0,c0,hb,hg,hr0⟩:=h;exact Kd.R_ne ho hb ht
theorem IsS71.lt {w0 W : World} {g : Nat} {f0 : List Int} {f1 : Int} {f2 : Int} (h : IsS71 w0 W g f0 f1 f2) : g<W.heap.size:=by
 obtain ⟨A0,c0,hb,hg,hr0⟩:=h;exact yi hb
theorem IsS71.ge {w0 W : World} {g : Nat} {f0 : List Int} {f1 : Int} {f2 : Int} (h : IsS71 w0 W g f0 f1 f2) : w0.heap.size≤g:=by
 obtain ⟨A0,c0,hb,hg,hr0⟩:=h;exact hg
theorem IsS71.ne_blk {w0 W : World} {g : Nat} {f0 : List Int} {f1 : Int} {f2 : Int} {a : Nat} {cs : Array Value} {t : TypeId} {fr : Nat×Nat} (h : IsS71 w0 W g f0 f1 f2) (hb2 : W.heap[a]? = some (.cells cs t fr)) (ht : t≠71) : g≠a:=by
 obtain ⟨A0,c0,hb,hg,hr0⟩:=h;rintro rfl;rw [hb] at hb2;injection hb2 with hb2;injection hb2 with _ ht2;exact ht ht2.symm
theorem IsS71.far {w0 W : World} {g : Nat} {f0 : List Int} {f1 : Int} {f2 : Int} {p : Addr} (h : IsS71 w0 W g f0 f1 f2) (hne : g≠p.block) (u : Value) : IsS71 w0 (W.setCell p u) g f0 f1 f2:=by
 obtain ⟨A0,c0,hb,hg,hr0⟩:=h;exact ⟨A0,c0,zS hb hne u,hg,hr0⟩
theorem cellS71_0 {W : World} {g : Nat} {A0 : Option Addr} {c0 : Nat} {f0 : List Int} {f1 : Int} {f2 : Int} (h : W.heap[g]? = some (.cells #[.slice A0 f0.length c0,.int .i64 f1,.int .i64 f2] 71 (0,0))) : W.cell? ⟨g,0,none⟩=some (.slice A0 f0.length c0):=(zz h 0).trans rfl
theorem cellS71_1 {W : World} {g : Nat} {A0 : Option Addr} {c0 : Nat} {f0 : List Int} {f1 : Int} {f2 : Int} (h : W.heap[g]? = some (.cells #[.slice A0 f0.length c0,.int .i64 f1,.int .i64 f2] 71 (0,0))) : W.cell? ⟨g,1,none⟩=some (.int .i64 f1):=(zz h 1).trans rfl
theorem IsS71.set_1 {w0 W : World} {g : Nat} {f0 : List Int} {f1 : Int} {f2 : Int} (h : IsS71 w0 W g f0 f1 f2) (x : Int) : IsS71 w0 (W.setCell ⟨g,1,none⟩ (.int .i64 x)) g f0 x f2:=by
 obtain ⟨A0,c0,hb,hg,hr0⟩:=h;exact ⟨A0,c0,by simpa using blk_set hb 1 (.int .i64 x),hg,hr0⟩
theorem cellS71_2 {W : World} {g : Nat} {A0 : Option Addr} {c0 : Nat} {f0 : List Int} {f1 : Int} {f2 : Int} (h : W.heap[g]? = some (.cells #[.slice A0 f0.length c0,.int .i64 f1,.int .i64 f2] 71 (0,0))) : W.cell? ⟨g,2,none⟩=some (.int .i64 f2):=(zz h 2).trans rfl
theorem IsS71.set_2 {w0 W : World} {g : Nat} {f0 : List Int} {f1 : Int} {f2 : Int} (h : IsS71 w0 W g f0 f1 f2) (x : Int) : IsS71 w0 (W.setCell ⟨g,2,none⟩ (.int .i64 x)) g f0 f1 x:=by
 obtain ⟨A0,c0,hb,hg,hr0⟩:=h;exact ⟨A0,c0,by simpa using blk_set hb 2 (.int .i64 x),hg,hr0⟩
theorem IsS71.new (w0 W : World) (A0 : Option Addr) (c0 : Nat) (f0 : List Int) (f1 : Int) (f2 : Int) (hB : Below w0.heap.size w0 W) (hr0 : Kd.C (Kd.int .u8) w0 A0 f0.length f0) : IsS71 w0 (W.alloc (.cells #[.slice A0 f0.length c0,.int .i64 f1,.int .i64 f2] 71)) W.heap.size f0 f1 f2:=⟨A0,c0,by simpa using heap_alloc_new W _,hB.size,hr0⟩

def F04.f (l0 : List Int) : Option (List Int×Int×Int):=some (l0,0,(l0.length : Int) % 1000)
set_option maxHeartbeats 8000000 in
set_option maxRecDepth 100000 in
theorem F04.calls (A0 : Option Addr) (c0 : Nat) (l0 : List Int) (r1 : List Int) (r2 : Int) (r3 : Int) (w0 w : World) (hB : Below w0.heap.size w0 w) (hr0 : Kd.C (Kd.int .u8) w0 A0 l0.length l0) (hc0 : l0.length≤c0) (h : F04.f l0=some (r1,r2,r3)) :
  Calls Try.prog 21 #[.slice A0 l0.length c0] w fun e w' => ∃ g_ : Nat,e = .returned (.pointer (some ⟨g_,0,none⟩))∧IsS71 w0 w' g_ r1 r2 r3∧Below w0.heap.size w0 w' ∧ Below w.heap.size w w':=by
 have hu71:=Try.underlying71;have HR0:=zh hr0;have HC0:=zh hc0;clear hr0 hc0;have HBW:=zh (Below.refl w.heap.size w);have HW0:=zh hB.size;have HB:=zh hB;clear hB;have H : (some (l0,0,(l0.length : Int) % 1000))=some (r1,r2,r3):=h;clear h;simp only [Option.some.injEq,Prod.mk.injEq] at H;obtain ⟨rfl,rfl,rfl⟩:=H
 go_enter Try.func21,Try.ntmps21
 go_wp2_with (first|((with_reducible refine zK (N:=8) rfl ?_);refine zI ?hg (N:=8) ?hd (cs:=#[.slice A0 l0.length c0,.int .i64 0,.int .i64 ((l0.length : Int) % 1000)]) (t:=71) ?hr ?_;(case hd=>rfl);(case hg=>rfl);(case hr=>go_simp <;> rfl);intro gb101 hg w2 hbox hb;replace HB:=zh (zC jH hb);have BK101:=zh (hbox);have GW101:=zh ((jB1 : w.heap.size≤gb101));have GE101:=zh ((Nat.le_trans HW0.out (jB1 : w.heap.size≤gb101) : w0.heap.size≤gb101));replace HBW:=zh (zC HBW.out hb);clear hb hbox hg))
 go_ret
 exact ⟨_,rfl,(show IsS71 w0 _ gb101 l0 0 ((l0.length : Int) % 1000) from ⟨_,_,by (with_reducible repeat first|apply ze|apply zf|apply zg);exact BK101.out,GE101.out,HR0.out⟩),by repeat (with_reducible first|exact HB.out|apply za|apply zb|apply zc|refine zd ?_ GE101.out),by repeat (with_reducible first|exact HBW.out|apply za|apply zb|apply zc|refine zd ?_ GW101.out)⟩


def Fc.l0 : Nat→List (S60)→Int→List (S60)→Int→Option ((List (S60))×Int)
 | 0,_,_,_,_=>none
 | k+1,x3,x4,x131000,x131001=>if x4<(x131000.length : Int) then (if 0≤x4 then ((some (([] : List (S28)) : List (S28))).bind fun y136=>(if y136.length+((rd_T60 x131000 x4).f1).length<5864062014805 then (if x3.length<4398046511104 then (Fc.l0 k (x3 ++ [(⟨(rd_T60 x131000 x4).f0,(y136++((rd_T60 x131000 x4).f1))⟩ : S60)]) (wrap64 (x4+1)) x131000 x131001) else (none)) else (none))) else (none)) else (some (x3,x131001))
def Fc.f (k : Nat) (l0_0 : List (S60)) (a0_1 : Int) : Option ((List (S60))×Int):=Fc.l0 k (([] : List (S60))) 0 l0_0 a0_1
theorem Fc.mono_l : ∀ k,(∀ y0 y1 y2 y3,LeO (Fc.l0 k y0 y1 y2 y3) (Fc.l0 (k+1) y0 y1 y2 y3))
 | 0=>fun _ _ _ _ r h=>by simp [Fc.l0] at h
 | k+1=>by
  have ih0:=Fc.mono_l k;intro y0 y1 y2 y3;unfold Fc.l0
  repeat' first|(with_reducible first|exact ih0 _ _ _ _|exact zQ _|exact zN _|refine zP ?_ ?_|refine zO ?_ (fun _=>?_))|refine zP ?_ ?_|refine zO ?_ (fun _=>?_)
theorem Fc.mono : ∀ a0 a1 k,LeO (Fc.f k a0 a1) (Fc.f (k+1) a0 a1):=by
 intro a0 a1 k;have ih0:=Fc.mono_l k;unfold Fc.f
 repeat' first|(with_reducible first|exact ih0 _ _ _ _|exact zQ _|exact zN _|refine zP ?_ ?_|refine zO ?_ (fun _=>?_))|refine zP ?_ ?_|refine zO ?_ (fun _=>?_)
def Fc.T5 : Bool×List (List Nat×List Nat):=(true,[([],[]),([],[]),([1],[1]),([],[]),([2,3],[2,3]),([4],[4]),([5],[5]),([],[]),([],[]),([8],[8]),([],[]),([9,10],[9,10]),([11],[11]),([12],[12]),([7,13],[7,13]),([6,14],[6,14]),([15],[15]),([0,16,14],[0,16]),([17,17,0,1,2,3,4,5,6,7,8,9,10,11,12,13,14,15,16,17],[0,17])])
def Fc.B5 : List Nat:=[0,0,2,0,14,30,62,0,0,256,0,1792,3840,7936,16256,32766,65534,131071,262143]
theorem Fc.tab5 : rtab .any (opsOf Try.f37 5)=Fc.T5:=by kernel_rfl
theorem Fc.bits5 : waitsOk Fc.T5.2 Fc.B5=true:=by kernel_rfl
set_option maxHeartbeats 8000000 in
set_option maxRecDepth 100000 in
theorem Fc.calls (k : Nat) (A0_0 : Option Addr) (c0_0 : Nat) (l0_0 : List (S60)) (a0_1 : Int) (r1 : List (S60)) (r2 : Int) (w : World) (hr0_0 : Kd.C k60 w A0_0 l0_0.length l0_0) (hc0_0 : l0_0.length≤c0_0) (h : Fc.f k l0_0 a0_1=some (r1,r2)) :
  Calls Try.prog 37 #[.agg #[.slice A0_0 l0_0.length c0_0,.int .i64 a0_1]] w fun e w' => ∃ v0_ : Value,e = .returned (.agg #[v0_,.int .i64 r2])∧Kd.S k60 60 w' w.heap.size (fun _=>True) v0_ r1∧Below w.heap.size w w':=by
 have hu25:=Try.underlying25;have hu60:=Try.underlying60;have HR0_0:=zh hr0_0;have HC0_0:=zh hc0_0;clear hr0_0 hc0_0;have HB:=zh (Below.refl w.heap.size w);have H : (Fc.l0 k (([] : List (S60))) 0 l0_0 a0_1)=some (r1,r2):=h;clear h;obtain ⟨y132,hy132⟩ : ∃ y_ : List (S60),y_=(([] : List (S60))):=⟨_,rfl⟩;replace H : (Fc.l0 k y132 0 l0_0 a0_1)=some (r1,r2):=by first|(rw [hy132];with_reducible exact H)|(have H2_:=(Option.bind_some _ _).symm.trans H;rw [hy132];with_reducible exact H2_)|(have H2_:=(Option.bind_some _ _).symm.trans H;with_reducible exact H2_)|with_reducible exact H|(rw [hy132];exact H)|exact H
 have Ny132:=zh hy132;clear hy132;have H':=zh H;clear H
 go_enter Try.func37,Try.ntmps37
 go_wp2_with (first|((with_reducible refine zK (N:=1) rfl ?_);refine zI ?hg (N:=1) ?hd (cs:=#[.slice A0_0 l0_0.length c0_0,.int .i64 a0_1]) (t:=25) ?hr ?_;(case hd=>rfl);(case hg=>rfl);(case hr=>go_simp <;> rfl);intro gb130 hg w2 hbox hb;have BK130:=zh (hbox);have hH_:=cH jH hb hg;have GW130:=zh hH_.1;have GE130:=GW130;replace HB:=zh hH_.2;clear hb hbox hg hH_)|((with_reducible refine zK (N:=2) rfl ?_);refine zI ?hg (N:=2) ?hd (cs:=#[.slice none 0 0,.int .i64 0]) (t:=25) ?hr ?_;(case hd=>rfl);(case hg=>rfl);(case hr=>go_simp <;> rfl);intro gb131 hg w3 hbox hb;have BK131:=zh (hbox);have hH_:=cH (by repeat (with_reducible first|exact HB.out|apply za|apply zb|apply zc|refine zd ?_ GE130.out)) hb hg;have GW131:=zh hH_.1;have GE131:=GW131;replace HB:=zh hH_.2;have NB130_131:=zh ((by rw [hg];exact yc (yi (g:=gb130) (o:=.cells #[.slice A0_0 l0_0.length c0_0,.int .i64 a0_1] 25 (0,0)) jAM) : gb130≠gb131));have NB131_130:=zh NB130_131.out.symm;replace BK130:=zh (cD BK130.out jAM hb);clear hb hbox hg hH_)|((with_reducible refine zK (N:=5) rfl ?_);refine Kd.S_lit k60 _ 60 ?hg (N:=5) ?hd (xs:=([] : List (S60))) (inner:=[]) (ok:=fun _=>True) (okp:=fun _=>True) ?hr ?hp (fun _ hk=>hk) trivial (Below.refl _ _) (ye _) (by simp) ?_;(case hd=>rfl);(case hg=>rfl);(case hr=>go_simp <;> rfl);(case hp=>exact (Reps.none _ _));intro v133 w4 ho5 hb hg_ hnew_;clear hg_ hnew_;(first|rw [← Ny132.out] at ho5|(simp only [Int.reduceToNat] at ho5;rw [← Ny132.out] at ho5));have HO134:=zh (Kd.S_lower ho5 (zB jr));replace BK130:=zh (cD BK130.out jAM hb);replace BK131:=zh (cD BK131.out jAc hb);replace HB:=zh (zC jr hb);clear hb ho5))
 go_loopg [3,4] k (fun kq v3 v4 w' => ∃ (x3_1 : List (S60)) (x4_1 : Int),v4 = .int .i64 x4_1∧Aside0 (Fc.l0 kq x3_1 x4_1 l0_0 a0_1=some (r1,r2))∧Aside0 (kq≤k)∧Aside0 (Kd.S k60 60 w' w.heap.size (fun _=>True) v3 x3_1)∧Aside0 (w'.heap[gb130]? = some (.cells #[(.slice A0_0 l0_0.length c0_0),.int .i64 a0_1] 25 (0,0)))∧Aside0 (w'.heap[gb131]? = some (.cells #[(.slice none 0 0),.int .i64 0] 25 (0,0)))∧Aside0 (Below w.heap.size w w'))
 case atStart=>exact ⟨(y132),(0),jD,H',⟨ye _⟩,⟨by (with_reducible repeat (first|apply Kd.S_alloc|apply Kd.S_drewN|apply Kd.S_drew));exact HO134.out⟩,⟨jAM⟩,⟨jAc⟩,⟨jr⟩⟩
 case round =>
  clear H'
  try clear p2
  try clear c3
  obtain ⟨x3_1,x4_1,rfl,HA,HK1,HO_3,BK130,BK131,HB⟩:=hrel
  cases gk with
  | zero=>exact absurd HA.out (by simp [Fc.l0])
  | succ k1 =>
   have H:=HA.out;clear HA;simp only [Fc.l0] at H
   by_cases c6 : x4_1<(l0_0.length : Int)
   ·
    rw [if_pos c6] at H
    have c6b0 : decide (x4_1<(l0_0.length : Int))=true:=decide_eq_true c6;clear c6
    by_cases c7 : 0≤x4_1
    ·
     rw [if_pos c7] at H
     have c7b0 : decide (0≤x4_1)=true:=decide_eq_true c7;clear c7;obtain ⟨y136,hy136⟩ : ∃ y_ : List (S28),y_=(([] : List (S28))):=⟨_,rfl⟩;replace H : (if y136.length+((rd_T60 l0_0 x4_1).f1).length<5864062014805 then (if x3_1.length<4398046511104 then (Fc.l0 k1 (x3_1 ++ [(⟨(rd_T60 l0_0 x4_1).f0,(y136++((rd_T60 l0_0 x4_1).f1))⟩ : S60)]) (wrap64 (x4_1+1)) l0_0 a0_1) else (none)) else (none))=some (r1,r2):=by first|(rw [hy136];with_reducible exact H)|(have H2_:=(Option.bind_some _ _).symm.trans H;rw [hy136];with_reducible exact H2_)|(have H2_:=(Option.bind_some _ _).symm.trans H;with_reducible exact H2_)|with_reducible exact H|(rw [hy136];exact H)|exact H
     have Ny136:=zh hy136;clear hy136
     by_cases c8 : y136.length+((rd_T60 l0_0 x4_1).f1).length<5864062014805
     ·
      rw [if_pos c8] at H
      have LMc8:=zh c8;clear c8;obtain ⟨y140,hy140⟩ : ∃ y_ : List (S28),y_=(y136++((rd_T60 l0_0 x4_1).f1)):=⟨_,rfl⟩;replace H : (if x3_1.length<4398046511104 then (Fc.l0 k1 (x3_1 ++ [(⟨(rd_T60 l0_0 x4_1).f0,y140⟩ : S60)]) (wrap64 (x4_1+1)) l0_0 a0_1) else (none))=some (r1,r2):=by first|(rw [hy140];with_reducible exact H)|(have H2_:=(Option.bind_some _ _).symm.trans H;rw [hy140];with_reducible exact H2_)|(have H2_:=(Option.bind_some _ _).symm.trans H;with_reducible exact H2_)|with_reducible exact H|(rw [hy140];exact H)|exact H
      have Ny140:=zh hy140;clear hy140
      by_cases c9 : x3_1.length<4398046511104
      ·
       rw [if_pos c9] at H
       have LMc9:=zh c9;clear c9;obtain ⟨y143,hy143⟩ : ∃ y_ : List (S60),y_=(x3_1 ++ [(⟨(rd_T60 l0_0 x4_1).f0,y140⟩ : S60)]):=⟨_,rfl⟩;replace H : (Fc.l0 k1 y143 (wrap64 (x4_1+1)) l0_0 a0_1)=some (r1,r2):=by first|(rw [hy143];with_reducible exact H)|(have H2_:=(Option.bind_some _ _).symm.trans H;rw [hy143];with_reducible exact H2_)|(have H2_:=(Option.bind_some _ _).symm.trans H;with_reducible exact H2_)|with_reducible exact H|(rw [hy143];exact H)|exact H
       have Ny143:=zh hy143;clear hy143;have H':=zh H;clear H;have hnb10:=NB130_131.out;have hnc10:=NB131_130.out;obtain ⟨hcz11_0,hcz11_1,hfz11_0,hfz11_1⟩:=cB2 BK130.out
       try go_wp2
       replace HO_3:=zh (Kd.S_drew HO_3.out);replace BK130:=zh (zf BK130.out);replace BK131:=zh (zf BK131.out);replace HB:=zh (zc HB.out);have p135 : 0≤(x4_1 : Int):=zy jC;have q135 : x4_1<(l0_0.length : Int):=zy jC;obtain ⟨ad135,A135_1,c135_1,e135,hx135_0,hx135_1,hl135_1,hi135_1⟩:=at_T60 HR0_0.out x4_1 p135 q135;have hw135_1:=hx135_1;have hw135_0:=hx135_0
       cases e135
       replace hx135_0:=(HB.out.cell (zl w _ hx135_0)).trans hx135_0;replace hx135_1:=(HB.out.cell (zl w _ hx135_1)).trans hx135_1;have HR135_1:=zh hi135_1;have HC135_1:=zh hl135_1;clear hi135_1 hl135_1;replace p135:=eq_true p135;replace q135:=eq_true q135;have p139 : 0≤(x4_1 : Int):=zy jC;have q139 : x4_1<(l0_0.length : Int):=zy jC;obtain ⟨ad139,A139_1,c139_1,e139,hx139_0,hx139_1,hl139_1,hi139_1⟩:=at_T60 HR0_0.out x4_1 p139 q139;have hw139_1:=hx139_1;have hw139_0:=hx139_0;obtain rfl : ad135=ad139:=(by injection e139);replace hx139_0:=(HB.out.cell (zl w _ hx139_0)).trans hx139_0;replace hx139_1:=(HB.out.cell (zl w _ hx139_1)).trans hx139_1;have HR139_1:=zh hi139_1;have HC139_1:=zh hl139_1;clear hi139_1 hl139_1;replace p139:=eq_true p139;replace q139:=eq_true q139;have ea_:=zU (hx135_1.symm.trans hx139_1);injection ea_ with ea_ en_ ec_;subst ea_;subst ec_;clear en_;refine start_ (n:=19) (S:=fun w' => w'.cell? ⟨gb130,0,none⟩=some (.slice (some ad135) l0_0.length c0_0)∧w'.cell? ⟨gb130,1,none⟩=some (.int .i64 a0_1)∧w'.cell? (ad135.add ((x4_1).toNat*2))=some (.int .i64 ((rd_T60 l0_0 x4_1).f0))∧w'.cell? ⟨(ad135.add ((x4_1).toNat*2)).block,(ad135.add ((x4_1).toNat*2)).off+1,none⟩=some (.slice A135_1 ((rd_T60 l0_0 x4_1).f1).length c135_1)∧w'.cell? (ad135.add ((x4_1).toNat*2))=some (.int .i64 ((rd_T60 l0_0 x4_1).f0))∧w'.cell? ⟨(ad135.add ((x4_1).toNat*2)).block,(ad135.add ((x4_1).toNat*2)).off+1,none⟩=some (.slice A135_1 ((rd_T60 l0_0 x4_1).f1).length c135_1)) (ds:=[]) (bm_ 0 19) jA rfl rfl ⟨(zz BK130.out 0).trans rfl,(zz BK130.out 1).trans rfl,((HB.out.cell (zl w _ hw135_0)).trans hw135_0),((HB.out.cell (zl w _ hw135_1)).trans hw135_1),((HB.out.cell (zl w _ hw139_0)).trans hw139_0),((HB.out.cell (zl w _ hw139_1)).trans hw139_1)⟩ (fun hHeld=>?_);refine with_tabW Fc.tab5 Fc.bits5 (fun HT_ HW_=>?_);generalize wr.drew=w12 at HO_3 BK130 BK131 HB HR135_1 HR139_1 hx135_0 hx135_1 hx139_0 hx139_1 hHeld ⊢;refine pure_ (i:=0) (N:=some 13) (v:=?_) (a':=?_) (bm_ 1 19) rfl rfl (any_of HT_.out jA) (fun _ _ _ h=>h) (Or.inl ⟨by rfl,?_⟩) ?_ ?_;rotate_left;exact jb;rotate_left;exact jc
       refine pure_ (i:=1) (N:=some 14) (v:=?_) (a':=?_) (bm_ 2 19) rfl rfl (any_of HT_.out jA) (fun _ _ _ h=>h) (Or.inl ⟨by rfl,?_⟩) ?_ ?_;rotate_left;exact jb;rotate_left;exact jc
       refine pure_ (i:=3) (N:=some 16) (v:=?_) (a':=?_) #[true,true,false,true,false,false,false,false,false,false,false,false,false,false,false,false,false,false,false] rfl rfl (any_of HT_.out jA) (fun _ _ _ h=>h) (Or.inl ⟨by rfl,?_⟩) ?_ ?_;rotate_left;exact jb;rotate_left;exact jc
       refine pure_ (i:=8) (N:=some 21) (v:=?_) (a':=?_) #[true,true,false,true,false,false,false,false,true,false,false,false,false,false,false,false,false,false,false] rfl rfl (any_of HT_.out jA) (fun _ _ _ h=>h) (Or.inl ⟨by rfl,?_⟩) ?_ ?_;rotate_left;exact jb;rotate_left;exact jc
       refine pure_ (i:=10) (N:=some 23) (v:=?_) (a':=?_) #[true,true,false,true,false,false,false,false,true,false,true,false,false,false,false,false,false,false,false] rfl rfl (any_of HT_.out jA) (fun _ _ _ h=>h) (Or.inl ⟨by rfl,?_⟩) ?_ ?_;rotate_left;exact jb;rotate_left;exact jc
       refine take_ (i:=2) (N:=some 15) (v:=?_) (a':=?_) #[true,true,true,true,false,false,false,false,true,false,true,false,false,false,false,false,false,false,false] rfl rfl (yo HT_.out HW_.out jA) (fun _ _ _ h=>h) (Or.inl ⟨by rfl,?_⟩) hHeld ?_ ?_;rotate_left
       ·
        rintro w' ⟨s0,s1,s2,s3,s4,s5⟩
        go_simp
        with_reducible rfl
       rotate_left
       exact jc
       refine pure_ (i:=4) (N:=some 17) (v:=?_) (a':=?_) #[true,true,true,true,true,false,false,false,true,false,true,false,false,false,false,false,false,false,false] rfl rfl (any_of HT_.out jA) (fun _ _ _ h=>h) (Or.inl ⟨by rfl,?_⟩) ?_ ?_;rotate_left;exact jb;rotate_left;exact jc
       refine pure_ (i:=5) (N:=some 18) (v:=?_) (a':=?_) #[true,true,true,true,true,true,false,false,true,false,true,false,false,false,false,false,false,false,false] rfl rfl (any_of HT_.out jA) (fun _ _ _ h=>h) (Or.inl ⟨by rfl,?_⟩) ?_ ?_;rotate_left;exact jb;rotate_left;exact jc
       refine take_ (i:=6) (N:=some 19) (v:=?_) (a':=?_) #[true,true,true,true,true,true,true,false,true,false,true,false,false,false,false,false,false,false,false] rfl rfl (yo HT_.out HW_.out jA) (fun _ _ _ h=>h) (Or.inl ⟨by rfl,?_⟩) hHeld ?_ ?_;rotate_left
       ·
        rintro w' ⟨s0,s1,s2,s3,s4,s5⟩
        go_simp
        with_reducible rfl
       rotate_left
       exact jc
       refine take_ (i:=9) (N:=some 22) (v:=?_) (a':=?_) #[true,true,true,true,true,true,true,false,true,true,true,false,false,false,false,false,false,false,false] rfl rfl (yo HT_.out HW_.out jA) (fun _ _ _ h=>h) (Or.inl ⟨by rfl,?_⟩) hHeld ?_ ?_;rotate_left
       ·
        rintro w' ⟨s0,s1,s2,s3,s4,s5⟩
        go_simp
        with_reducible rfl
       rotate_left
       exact jc
       refine pure_ (i:=11) (N:=some 24) (v:=?_) (a':=?_) #[true,true,true,true,true,true,true,false,true,true,true,true,false,false,false,false,false,false,false] rfl rfl (any_of HT_.out jA) (fun _ _ _ h=>h) (Or.inl ⟨by rfl,?_⟩) ?_ ?_;rotate_left;exact jb;rotate_left;exact jc
       refine pure_ (i:=12) (N:=some 25) (v:=?_) (a':=?_) #[true,true,true,true,true,true,true,false,true,true,true,true,true,false,false,false,false,false,false] rfl rfl (any_of HT_.out jA) (fun _ _ _ h=>h) (Or.inl ⟨by rfl,?_⟩) ?_ ?_;rotate_left;exact jb;rotate_left;exact jc
       refine take_ (i:=13) (N:=some 26) (v:=?_) (a':=?_) #[true,true,true,true,true,true,true,false,true,true,true,true,true,true,false,false,false,false,false] rfl rfl (yo HT_.out HW_.out jA) (fun _ _ _ h=>h) (Or.inl ⟨by rfl,?_⟩) hHeld ?_ ?_;rotate_left
       ·
        rintro w' ⟨s0,s1,s2,s3,s4,s5⟩
        go_simp
        with_reducible rfl
       rotate_left
       exact jc
       refine one_ (i:=7) (N:=some 20) (bm_ 14 19) rfl rfl (one_of HT_.out jA) jB (fun K hK=>?_);refine Kd.R_lit_step k28 _ 28 ?hg (N:=20) ?hd (xs:=([] : List (S28))) (inner:=[]) (ok:=fun _=>True) (okp:=fun _=>True) ?hr ?hp (fun _ hk=>hk) trivial (Below.refl _ _) (ye _) (by simp) ?_;(case hd=>rfl);(case hg=>rfl);(case hr=>go_simp <;> rfl);(case hp=>exact (Reps.none _ _));intro v137 w13 ho14 hb hg_ hnew_;clear hg_ hnew_;(first|rw [← Ny136.out] at ho14|(simp only [Int.reduceToNat] at ho14;rw [← Ny136.out] at ho14));replace HO_3:=zh (Kd.S_elder' jB2 (Kd.R_base ho14) hb);have HO138:=zh (yx ho14 (zB jr));replace BK130:=zh (cD BK130.out jAM hb);replace BK131:=zh (cD BK131.out jAc hb);replace HB:=zh (zC jr hb);clear hb ho14;refine hK.out _ _ ⟨(zz BK130.out 0).trans rfl,(zz BK130.out 1).trans rfl,((HB.out.cell (zl w _ hw135_0)).trans hw135_0),((HB.out.cell (zl w _ hw135_1)).trans hw135_1),((HB.out.cell (zl w _ hw139_0)).trans hw139_0),((HB.out.cell (zl w _ hw139_1)).trans hw139_1)⟩ (fun hHeld=>?_);clear hK K;refine norm_ (a':=?_) ?_ ?_;rotate_left
       ·
        show Act.put _ (some 20) _=_
        simp only [Act.put,zi,zj,zk,zG,zH]
        rfl
       refine one_ (i:=14) (N:=some 27) (bm_ 15 19) rfl rfl (one_of HT_.out jA) jB (fun K hK=>?_);refine Kd.R_append_rows_step k28 (w0:=w) w.heap.size (by rfl) (.tmp 20) (.tmp 26) 33 28 (.agg #[(.string ⟨#[]⟩),(.int .i64 0)]) 24 rfl Try.underlying33 info28 rfl jB jE v137 y136 ((rd_T60 l0_0 x4_1).f1) _ _ _ (fun _=>True) (fun _=>False) rfl rfl ?aO ?aR (fun _ _ h=>h) (fun _ h=>h.elim) ?aF ?aB ?aS ?aL ?_;(case aR=>repeat (first|exact (Kd.C_below HR139_1.out HB.out)|(with_reducible refine Kd.C_alloc ?_ _)|(with_reducible refine Kd.C_drewN ?_ _)|(with_reducible refine Kd.C_drew ?_)))
       (case aB=>exact jr)
       (case aF=>exact (fun _ _=>trivial))
       (case aO=>exact (by (with_reducible repeat (first|apply zm|apply zn|apply zo));exact HO138.out))
       (case aS=>exact (zB jr))
       (case aL=>have:=LMc8.out;omega)
       intro v141 w15 ho hb hg hat;rw [← Ny140.out] at ho;replace HO_3:=zh (Kd.S_after (ok:=(fun _=>True)) jB2 hg hat);replace BK130:=zh (yv (g:=gb130) (o:=.cells #[.slice (some ad135) l0_0.length c0_0,.int .i64 a0_1] 25 (0,0)) jAM hg (Kd.R_ne HO138.out BK130.out jB));replace BK131:=zh (yv (g:=gb131) (o:=.cells #[.slice none 0 0,.int .i64 0] 25 (0,0)) jAc hg (Kd.R_ne HO138.out BK131.out jB));replace HB:=zh (hb);have HO142:=zh (ho);clear HO138 ho hb hg hat;obtain ⟨Ao16,co16,eo16⟩:=yk HO142.out;(first|subst eo16|(injection eo16 with f1_ f2_ f3_;have f4_:=f1_.symm;have f5_:=f3_.symm;clear f1_ f2_ f3_;subst f4_;subst f5_));refine hK.out _ _ ⟨(zz BK130.out 0).trans rfl,(zz BK130.out 1).trans rfl,((HB.out.cell (zl w _ hw135_0)).trans hw135_0),((HB.out.cell (zl w _ hw135_1)).trans hw135_1),((HB.out.cell (zl w _ hw139_0)).trans hw139_0),((HB.out.cell (zl w _ hw139_1)).trans hw139_1)⟩ (fun hHeld=>?_);clear hK K;refine norm_ (a':=?_) ?_ ?_;rotate_left
       ·
        show Act.put _ (some 27) _=_
        simp only [Act.put,zi,zj,zk,zG,zH]
        rfl
       refine pure_ (i:=15) (N:=some 28) (v:=?_) (a':=?_) (bm_ 16 19) rfl rfl (any_of HT_.out jA) (fun _ _ _ h=>h) (Or.inl ⟨by rfl,?_⟩) ?_ ?_;rotate_left;exact jb;rotate_left;exact jc
       refine one_ (i:=16) (N:=some 29) (bm_ 17 19) rfl rfl (one_of HT_.out jA) jB (fun K hK=>?_);refine value_ (w1:=?_) (v:=?_) (by rfl) rfl ?_ ?_;rotate_left 2
       ·
        go_simp
        constructor
        ·
         rfl
        rfl
       refine hK.out _ _ ⟨(zz (zg BK130.out _) 0).trans rfl,(zz (zg BK130.out _) 1).trans rfl,(World.cell?_alloc_lt _ _ _ (zl _ _ (((HB.out.cell (zl w _ hw135_0)).trans hw135_0)))).trans (((HB.out.cell (zl w _ hw135_0)).trans hw135_0)),(World.cell?_alloc_lt _ _ _ (zl _ _ (((HB.out.cell (zl w _ hw135_1)).trans hw135_1)))).trans (((HB.out.cell (zl w _ hw135_1)).trans hw135_1)),(World.cell?_alloc_lt _ _ _ (zl _ _ (((HB.out.cell (zl w _ hw139_0)).trans hw139_0)))).trans (((HB.out.cell (zl w _ hw139_0)).trans hw139_0)),(World.cell?_alloc_lt _ _ _ (zl _ _ (((HB.out.cell (zl w _ hw139_1)).trans hw139_1)))).trans (((HB.out.cell (zl w _ hw139_1)).trans hw139_1))⟩ (fun hHeld=>?_);clear hK K;refine norm_ (a':=?_) ?_ ?_;rotate_left
       ·
        show Act.put _ (some 29) _=_
        simp only [Act.put,zi,zj,zk,zG,zH]
        rfl
       refine one_ (i:=17) (N:=some 30) (bm_ 18 19) rfl rfl (one_of HT_.out jA) jB (fun K hK=>?_);refine Kd.S_append_step k60 (w0:=w) w.heap.size (by rfl) (.tmp 13) (.tmp 29) 23 60 (.agg #[(.int .i64 0),(.slice none 0 0)]) 32 rfl Try.underlying23 info60 rfl jB jE u3 x3_1 (⟨(rd_T60 l0_0 x4_1).f0,y140⟩ : S60) [.int .i64 ((rd_T60 l0_0 x4_1).f0),.slice Ao16 y140.length co16] (fun _=>True) (fun k_=>some k_=(.slice Ao16 y140.length co16 : Value).ownBlock) rfl rfl ?aP (fun k_ hk_=>((zM (ok':=fun k_=>((fun _=>True)) k_∧some k_≠(u3 : Value).ownBlock) (Kd.R_apart' (HO142.out) (Kd.S_typed HO_3.out) jB) (fun k_ hk=>⟨trivial,hk.2⟩))).1 k_ hk_.symm) ?aF ?aO ?aB ?aS ?aL ?_;(case aP=>exact k60_mkM _ _ _ (⟨(rd_T60 l0_0 x4_1).f0,y140⟩ : S60) (zM (Kd.R_tight rfl (zM (ok':=fun k_=>((fun _=>True)) k_∧some k_≠(u3 : Value).ownBlock) (Kd.R_apart' (HO142.out) (Kd.S_typed HO_3.out) jB) (fun k_ hk=>⟨trivial,hk.2⟩))) (fun _ h_=>h_)))
       (case aB=>exact jr)
       (case aF=>exact (fun _ _=>trivial))
       (case aO=>exact (by (with_reducible repeat (first|apply Kd.S_alloc|apply Kd.S_drewN|apply Kd.S_drew));exact Kd.S_mono HO_3.out (fun k_ hk=>⟨trivial,fun e_=>hk.2 e_⟩)))
       (case aS=>exact (zB jr))
       (case aL=>have:=LMc9.out;omega)
       intro v144 w17 ho hb hg hat;rw [← Ny143.out] at ho;replace BK130:=zh (yv (g:=gb130) (o:=.cells #[.slice (some ad135) l0_0.length c0_0,.int .i64 a0_1] 25 (0,0)) jAM hg (Kd.S_ne HO_3.out BK130.out jB));replace BK131:=zh (yv (g:=gb131) (o:=.cells #[.slice none 0 0,.int .i64 0] 25 (0,0)) jAc hg (Kd.S_ne HO_3.out BK131.out jB));replace HB:=zh (hb);have HO145:=zh (ho);clear HO_3 HO142 ho hb hg hat;refine hK.out _ _ ⟨(zz BK130.out 0).trans rfl,(zz BK130.out 1).trans rfl,((HB.out.cell (zl w _ hw135_0)).trans hw135_0),((HB.out.cell (zl w _ hw135_1)).trans hw135_1),((HB.out.cell (zl w _ hw139_0)).trans hw139_0),((HB.out.cell (zl w _ hw139_1)).trans hw139_1)⟩ (fun hHeld=>?_);clear hK K;refine norm_ (a':=?_) ?_ ?_;rotate_left
       ·
        show Act.put _ (some 30) _=_
        simp only [Act.put,zi,zj,zk,zG,zH]
        rfl
       refine pure_ (i:=18) (N:=some 3) (v:=?_) (a':=?_) (bm_ 19 19) rfl rfl (any_of HT_.out jA) (fun _ _ _ h=>h) (Or.inl ⟨by rfl,?_⟩) ?_ ?_;rotate_left;exact jb;rotate_left;exact jc
       refine done_ (done_of HT_.out jA) ?_
       try go_wp2
       go_roundg k1
       case measure=>have:=HK1.out;omega
       case rel=>exact ⟨(y143),(wrap64 (x4_1+1)),jD,H',⟨jV⟩,⟨by (with_reducible repeat (first|apply Kd.S_alloc|apply Kd.S_drewN|apply Kd.S_drew));exact HO145.out⟩,⟨jAM⟩,⟨jAc⟩,⟨jr⟩⟩
      rw [if_neg c9] at H;exact absurd H (by simp)
     rw [if_neg c8] at H;exact absurd H (by simp)
    rw [if_neg c7] at H;exact absurd H (by simp)
   rw [if_neg c6] at H;have c6b0 : decide (x4_1<(l0_0.length : Int))=false:=decide_eq_false c6;clear c6;simp only [Option.some.injEq,Prod.mk.injEq] at H;obtain ⟨rfl,rfl⟩:=H;have hnb18:=NB130_131.out;have hnc18:=NB131_130.out;obtain ⟨hcz19_0,hcz19_1,hfz19_0,hfz19_1⟩:=cB2 BK130.out;obtain ⟨Ao20,co20,eo20⟩:=Kd.S_slice HO_3.out;subst eo20;obtain ⟨hcz21_0,hcz21_1,hfz21_0,hfz21_1⟩:=cB2 BK131.out
   go_wp2
   refine bodyPost_ret (results_cell_row rfl _ _ gb131 25 #[.slice Ao20 x3_1.length co20,.int .i64 a0_1] (0,0) _ rfl (by (with_reducible repeat first|apply ze|apply zf|apply zg);refine zL (cs:=#[.slice Ao20 x3_1.length co20,.int .i64 0]) ?_ 1 _ rfl;(with_reducible repeat first|apply ze|apply zf|apply zg);refine zL (cs:=#[.slice none 0 0,.int .i64 0]) ?_ 0 _ rfl;(with_reducible repeat first|apply ze|apply zf|apply zg);refine zS ?_ NB131_130.out _;(with_reducible repeat first|apply ze|apply zf|apply zg);exact BK131.out) Try.underlying25 rfl jA) rfl ?_;exact ⟨_,jG,by (with_reducible repeat (first|apply Kd.S_alloc|apply Kd.S_drewN|apply Kd.S_drew));exact Kd.S_mono (Kd.S_far (p:=⟨gb131,1,none⟩) (Kd.S_far (p:=⟨gb131,0,none⟩) (Kd.S_far (p:=⟨gb130,0,none⟩) (Kd.S_types (Kd.S_types HO_3.out BK130.out jB) BK131.out jB) (fun _ hk=>hk.1.2) (.slice Ao20 x3_1.length co20)) (fun _ hk=>hk.2) (.slice Ao20 x3_1.length co20)) (fun _ hk=>hk.2) (.int .i64 a0_1)) (fun _ hk=>trivial),jr⟩


def F01.f (a0_0 : ByteArray) (a0_1 : Int) (a1_0 : ByteArray) (a1_1 : Int) : Option (Bool):=if (Op.bytesLess a0_0.toList a1_0.toList)=true then (some true) else (if a0_0.toList=a1_0.toList then (some (decide (a0_1<a1_1))) else (some false))
set_option maxHeartbeats 8000000 in
set_option maxRecDepth 100000 in
theorem F01.calls (a0_0 : ByteArray) (a0_1 : Int) (a1_0 : ByteArray) (a1_1 : Int) (r : Bool) (w : World) (h : F01.f a0_0 a0_1 a1_0 a1_1=some r) :
  Calls Try.prog 50 #[.agg #[.string a0_0,.int .i64 a0_1],.agg #[.string a1_0,.int .i64 a1_1]] w fun e w' => e = .returned (.bool r)∧Below w.heap.size w w':=by
 have hu28:=Try.underlying28;have HB:=zh (Below.refl w.heap.size w);have H : (if (Op.bytesLess a0_0.toList a1_0.toList)=true then (some true) else (if a0_0.toList=a1_0.toList then (some (decide (a0_1<a1_1))) else (some false)))=some r:=h;clear h
 by_cases c3 : (Op.bytesLess a0_0.toList a1_0.toList)=true
 ·
  rw [if_pos c3] at H
  have c3b0 : (Op.bytesLess a0_0.toList a1_0.toList)=true:=c3;clear c3;obtain rfl:=zU H
  go_enter Try.func50,Try.ntmps50
  go_wp2_with (first|((with_reducible refine zK (N:=2) rfl ?_);refine zI ?hg (N:=2) ?hd (cs:=#[.string a0_0,.int .i64 a0_1]) (t:=28) ?hr ?_;(case hd=>rfl);(case hg=>rfl);(case hr=>go_simp <;> rfl);intro gb146 hg w4 hbox hb;have BK146:=zh (hbox);have hH_:=cH jH hb hg;have GW146:=zh hH_.1;have GE146:=GW146;replace HB:=zh hH_.2;clear hb hbox hg hH_)|((with_reducible refine zK (N:=3) rfl ?_);refine zI ?hg (N:=3) ?hd (cs:=#[.string a1_0,.int .i64 a1_1]) (t:=28) ?hr ?_;(case hd=>rfl);(case hg=>rfl);(case hr=>go_simp <;> rfl);intro gb147 hg w5 hbox hb;have BK147:=zh (hbox);have hH_:=cH jBX hb hg;have GW147:=zh hH_.1;have GE147:=GW147;replace HB:=zh hH_.2;have NB146_147:=zh ((jBY : gb146≠gb147));have NB147_146:=zh NB146_147.out.symm;replace BK146:=zh (cD BK146.out jA3 hb);clear hb hbox hg hH_;have hnb6:=NB146_147.out;have hnc6:=NB147_146.out;obtain ⟨hcz7_0,hcz7_1,hfz7_0,hfz7_1⟩:=cB2 BK146.out;obtain ⟨hcz8_0,hcz8_1,hfz8_0,hfz8_1⟩:=cB2 BK147.out))
  go_ret
  exact ⟨jG,jBZ⟩
 rw [if_neg c3] at H;have c3b0 : (Op.bytesLess a0_0.toList a1_0.toList)=false:=by simpa using c3
 clear c3
 by_cases c9 : a0_0.toList=a1_0.toList
 ·
  rw [if_pos c9] at H
  have c9b0 : (a0_0.toList == a1_0.toList)=true:=ya.mpr c9;have c9b1 : (a0_0.toList != a1_0.toList)=false:=zX.mpr c9;clear c9;obtain rfl:=zU H
  go_enter Try.func50,Try.ntmps50
  go_wp2_with (first|((with_reducible refine zK (N:=2) rfl ?_);refine zI ?hg (N:=2) ?hd (cs:=#[.string a0_0,.int .i64 a0_1]) (t:=28) ?hr ?_;(case hd=>rfl);(case hg=>rfl);(case hr=>go_simp <;> rfl);intro gb146 hg w10 hbox hb;have BK146:=zh (hbox);have hH_:=cH jH hb hg;have GW146:=zh hH_.1;have GE146:=GW146;replace HB:=zh hH_.2;clear hb hbox hg hH_)|((with_reducible refine zK (N:=3) rfl ?_);refine zI ?hg (N:=3) ?hd (cs:=#[.string a1_0,.int .i64 a1_1]) (t:=28) ?hr ?_;(case hd=>rfl);(case hg=>rfl);(case hr=>go_simp <;> rfl);intro gb147 hg w11 hbox hb;have BK147:=zh (hbox);have hH_:=cH jBX hb hg;have GW147:=zh hH_.1;have GE147:=GW147;replace HB:=zh hH_.2;have NB146_147:=zh ((jBY : gb146≠gb147));have NB147_146:=zh NB146_147.out.symm;replace BK146:=zh (cD BK146.out jA3 hb);clear hb hbox hg hH_;have hnb12:=NB146_147.out;have hnc12:=NB147_146.out;obtain ⟨hcz13_0,hcz13_1,hfz13_0,hfz13_1⟩:=cB2 BK146.out;obtain ⟨hcz14_0,hcz14_1,hfz14_0,hfz14_1⟩:=cB2 BK147.out))
  go_ret
  exact ⟨jG,jBZ⟩
 rw [if_neg c9] at H;have c9b0 : (a0_0.toList == a1_0.toList)=false:=zY.mpr c9;have c9b1 : (a0_0.toList != a1_0.toList)=true:=zZ.mpr c9;obtain rfl:=zU H
 go_enter Try.func50,Try.ntmps50
 go_wp2_with (first|((with_reducible refine zK (N:=2) rfl ?_);refine zI ?hg (N:=2) ?hd (cs:=#[.string a0_0,.int .i64 a0_1]) (t:=28) ?hr ?_;(case hd=>rfl);(case hg=>rfl);(case hr=>go_simp <;> rfl);intro gb146 hg w15 hbox hb;have BK146:=zh (hbox);have hH_:=cH jH hb hg;have GW146:=zh hH_.1;have GE146:=GW146;replace HB:=zh hH_.2;clear hb hbox hg hH_)|((with_reducible refine zK (N:=3) rfl ?_);refine zI ?hg (N:=3) ?hd (cs:=#[.string a1_0,.int .i64 a1_1]) (t:=28) ?hr ?_;(case hd=>rfl);(case hg=>rfl);(case hr=>go_simp <;> rfl);intro gb147 hg w16 hbox hb;have BK147:=zh (hbox);have hH_:=cH jBX hb hg;have GW147:=zh hH_.1;have GE147:=GW147;replace HB:=zh hH_.2;have NB146_147:=zh ((jBY : gb146≠gb147));have NB147_146:=zh NB146_147.out.symm;replace BK146:=zh (cD BK146.out jA3 hb);clear hb hbox hg hH_;have hnb17:=NB146_147.out;have hnc17:=NB147_146.out;obtain ⟨hcz18_0,hcz18_1,hfz18_0,hfz18_1⟩:=cB2 BK146.out;obtain ⟨hcz19_0,hcz19_1,hfz19_0,hfz19_1⟩:=cB2 BK147.out))
 go_ret
 exact ⟨jG,jBZ⟩


def Fb.l0 : Nat→Int→Int→List (S60)→Int→ByteArray→Int→Option (Int)
 | 0,_,_,_,_,_,_=>none
 | k+1,x5,x6,x149000,x149001,x150000,x150001=>if x6<(x149000.length : Int) then (if 0≤x6 then (if (((rd_T60 x149000 x6).f1).length : Int) > 0 then (if 0<(((rd_T60 x149000 x6).f1).length : Int) then ((F01.f x150000 x150001 ((rd_T28 ((rd_T60 x149000 x6).f1) 0).f0) ((rd_T28 ((rd_T60 x149000 x6).f1) 0).f1)).bind fun t153=>(if t153=true then (Fb.l0 k x5 (wrap64 (x6+1)) x149000 x149001 x150000 x150001) else (Fb.l0 k x6 (wrap64 (x6+1)) x149000 x149001 x150000 x150001))) else (none)) else (Fb.l0 k x5 (wrap64 (x6+1)) x149000 x149001 x150000 x150001)) else (none)) else (some x5)
def Fb.f (k : Nat) (l0_0 : List (S60)) (a0_1 : Int) (a1_0 : ByteArray) (a1_1 : Int) : Option (Int):=Fb.l0 k 0 1 l0_0 a0_1 a1_0 a1_1
theorem Fb.mono_l : ∀ k,(∀ y0 y1 y2 y3 y4 y5,LeO (Fb.l0 k y0 y1 y2 y3 y4 y5) (Fb.l0 (k+1) y0 y1 y2 y3 y4 y5))
 | 0=>fun _ _ _ _ _ _ r h=>by simp [Fb.l0] at h
 | k+1=>by
  have ih0:=Fb.mono_l k;intro y0 y1 y2 y3 y4 y5;unfold Fb.l0
  repeat' first|(with_reducible first|exact ih0 _ _ _ _ _ _|exact zQ _|exact zN _|refine zP ?_ ?_|refine zO ?_ (fun _=>?_))|refine zP ?_ ?_|refine zO ?_ (fun _=>?_)
theorem Fb.mono : ∀ a0 a1 a2 a3 k,LeO (Fb.f k a0 a1 a2 a3) (Fb.f (k+1) a0 a1 a2 a3):=by
 intro a0 a1 a2 a3 k;have ih0:=Fb.mono_l k;unfold Fb.f
 repeat' first|(with_reducible first|exact ih0 _ _ _ _ _ _|exact zQ _|exact zN _|refine zP ?_ ?_|refine zO ?_ (fun _=>?_))|refine zP ?_ ?_|refine zO ?_ (fun _=>?_)
def Fb.T5 : Bool×List (List Nat×List Nat):=(true,[([],[]),([0],[0]),([],[]),([1,2],[1,2]),([3],[3]),([4],[4]),([5],[5]),([6],[6]),([7],[7]),([8],[8]),([8],[8]),([10,8],[8,10]),([8],[8]),([11,12,8],[8,11,12]),([13,8],[8,13]),([14,8],[8,14]),([15,8],[8,15]),([16,8],[8,16]),([9,17,8,8],[8,9,17]),([18,8],[8,18]),([8,19],[8,19])])
def Fb.B5 : List Nat:=[0,1,0,7,15,31,63,127,255,511,511,1535,511,7679,15871,32255,65023,130559,262143,524287,1048575]
theorem Fb.tab5 : rtab .any (opsOf Try.f39 5)=Fb.T5:=by kernel_rfl
theorem Fb.bits5 : waitsOk Fb.T5.2 Fb.B5=true:=by kernel_rfl
set_option maxHeartbeats 8000000 in
set_option maxRecDepth 100000 in
theorem Fb.calls (k : Nat) (A0_0 : Option Addr) (c0_0 : Nat) (l0_0 : List (S60)) (a0_1 : Int) (a1_0 : ByteArray) (a1_1 : Int) (r : Int) (w : World) (hr0_0 : Kd.C k60 w A0_0 l0_0.length l0_0) (hc0_0 : l0_0.length≤c0_0) (h : Fb.f k l0_0 a0_1 a1_0 a1_1=some r) :
  Calls Try.prog 39 #[.agg #[.slice A0_0 l0_0.length c0_0,.int .i64 a0_1],.agg #[.string a1_0,.int .i64 a1_1]] w fun e w' => e = .returned (.int .i64 r)∧Below w.heap.size w w':=by
 have hu25:=Try.underlying25;have hu28:=Try.underlying28;have HR0_0:=zh hr0_0;have HC0_0:=zh hc0_0;clear hr0_0 hc0_0;have HB:=zh (Below.refl w.heap.size w);have H : (Fb.l0 k 0 1 l0_0 a0_1 a1_0 a1_1)=some r:=h;clear h;have H':=zh H;clear H
 go_enter Try.func39,Try.ntmps39
 go_wp2_with (first|((with_reducible refine zK (N:=2) rfl ?_);refine zI ?hg (N:=2) ?hd (cs:=#[.slice A0_0 l0_0.length c0_0,.int .i64 a0_1]) (t:=25) ?hr ?_;(case hd=>rfl);(case hg=>rfl);(case hr=>go_simp <;> rfl);intro gb148 hg w3 hbox hb;have BK148:=zh (hbox);have hH_:=cH jH hb hg;have GW148:=zh hH_.1;have GE148:=GW148;replace HB:=zh hH_.2;clear hb hbox hg hH_)|((with_reducible refine zK (N:=3) rfl ?_);refine zI ?hg (N:=3) ?hd (cs:=#[.string a1_0,.int .i64 a1_1]) (t:=28) ?hr ?_;(case hd=>rfl);(case hg=>rfl);(case hr=>go_simp <;> rfl);intro gb149 hg w4 hbox hb;have BK149:=zh (hbox);have hH_:=cH (by repeat (with_reducible first|exact HB.out|apply za|apply zb|apply zc|refine zd ?_ GE148.out)) hb hg;have GW149:=zh hH_.1;have GE149:=GW149;replace HB:=zh hH_.2;have NB148_149:=zh ((by rw [hg];exact yc (yi (g:=gb148) (o:=.cells #[.slice A0_0 l0_0.length c0_0,.int .i64 a0_1] 25 (0,0)) jAN) : gb148≠gb149));have NB149_148:=zh NB148_149.out.symm;replace BK148:=zh (cD BK148.out jAN hb);clear hb hbox hg hH_))
 go_loopg [5,6] k (fun kq v5 v6 w' => ∃ (x5_1 : Int) (x6_1 : Int),v5 = .int .i64 x5_1∧v6 = .int .i64 x6_1∧Aside0 (Fb.l0 kq x5_1 x6_1 l0_0 a0_1 a1_0 a1_1=some r)∧Aside0 (kq≤k)∧Aside0 (w'.heap[gb148]? = some (.cells #[(.slice A0_0 l0_0.length c0_0),.int .i64 a0_1] 25 (0,0)))∧Aside0 (w'.heap[gb149]? = some (.cells #[.string a1_0,.int .i64 a1_1] 28 (0,0)))∧Aside0 (Below w.heap.size w w'))
 case atStart=>exact ⟨(0),(1),jD,jD,H',⟨ye _⟩,⟨jAN⟩,⟨jAd⟩,⟨jAR⟩⟩
 case round =>
  clear H'
  try clear p2
  try clear c3
  obtain ⟨x5_1,x6_1,rfl,rfl,HA,HK1,BK148,BK149,HB⟩:=hrel
  cases gk with
  | zero=>exact absurd HA.out (by simp [Fb.l0])
  | succ k1 =>
   have H:=HA.out;clear HA;simp only [Fb.l0] at H
   by_cases c5 : x6_1<(l0_0.length : Int)
   ·
    rw [if_pos c5] at H
    have c5b0 : decide (x6_1<(l0_0.length : Int))=true:=decide_eq_true c5;clear c5
    by_cases c6 : 0≤x6_1
    ·
     rw [if_pos c6] at H
     have c6b0 : decide (0≤x6_1)=true:=decide_eq_true c6;clear c6
     by_cases c7 : (((rd_T60 l0_0 x6_1).f1).length : Int) > 0
     ·
      rw [if_pos c7] at H
      have c7b0 : decide (0<(((rd_T60 l0_0 x6_1).f1).length : Int))=true:=decide_eq_true c7;have c7b1 : decide (0<((rd_T60 l0_0 x6_1).f1).length)=true:=decide_eq_true jE;clear c7
      by_cases c8 : 0<(((rd_T60 l0_0 x6_1).f1).length : Int)
      ·
       rw [if_pos c8] at H
       have c8b0 : decide (0<(((rd_T60 l0_0 x6_1).f1).length : Int))=true:=decide_eq_true c8;have c8b1 : decide (0<((rd_T60 l0_0 x6_1).f1).length)=true:=decide_eq_true jE;clear c8;replace H:=zT.mp H;obtain ⟨t153,A90,H⟩:=H;have A9:=zh A90;clear A90
       by_cases c10 : t153=true
       ·
        subst c10
        rw [if_pos rfl] at H;have H':=zh H;clear H;have hnb11:=NB148_149.out;have hnc11:=NB149_148.out;obtain ⟨hcz12_0,hcz12_1,hfz12_0,hfz12_1⟩:=cB2 BK148.out
        try go_wp2
        replace BK148:=zh (zf BK148.out);replace BK149:=zh (zf BK149.out);replace HB:=zh (zc HB.out);have p150 : 0≤(x6_1 : Int):=zy jC;have q150 : x6_1<(l0_0.length : Int):=zy jC;obtain ⟨ad150,A150_1,c150_1,e150,hx150_0,hx150_1,hl150_1,hi150_1⟩:=at_T60 HR0_0.out x6_1 p150 q150;have hw150_1:=hx150_1;have hw150_0:=hx150_0
        cases e150
        replace hx150_0:=(HB.out.cell (zl w _ hx150_0)).trans hx150_0;replace hx150_1:=(HB.out.cell (zl w _ hx150_1)).trans hx150_1;have HR150_1:=zh hi150_1;have HC150_1:=zh hl150_1;clear hi150_1 hl150_1;replace p150:=eq_true p150;replace q150:=eq_true q150;have p151 : 0≤(x6_1 : Int):=zy jC;have q151 : x6_1<(l0_0.length : Int):=zy jC;obtain ⟨ad151,A151_1,c151_1,e151,hx151_0,hx151_1,hl151_1,hi151_1⟩:=at_T60 HR0_0.out x6_1 p151 q151;have hw151_1:=hx151_1;have hw151_0:=hx151_0;obtain rfl : ad150=ad151:=(by injection e151);replace hx151_0:=(HB.out.cell (zl w _ hx151_0)).trans hx151_0;replace hx151_1:=(HB.out.cell (zl w _ hx151_1)).trans hx151_1;have HR151_1:=zh hi151_1;have HC151_1:=zh hl151_1;clear hi151_1 hl151_1;replace p151:=eq_true p151;replace q151:=eq_true q151;have ea_:=zU (hx150_1.symm.trans hx151_1);injection ea_ with ea_ en_ ec_;subst ea_;subst ec_;clear en_;have p152 : 0≤(0 : Int):=jE;have q152 : 0<(((rd_T60 l0_0 x6_1).f1).length : Int):=zy jC;obtain ⟨ad152,e152,hx152_0,hx152_1⟩:=at_T28 HR151_1.out 0 p152 q152;have hw152_1:=hx152_1;(try rw [show ((0 : Int)).toNat=0 from rfl] at hw152_1);(try rw [show 0*2=0 from rfl] at hw152_1);(try rw [Addr.add_zero'] at hw152_1);have hw152_0:=hx152_0;(try rw [show ((0 : Int)).toNat=0 from rfl] at hw152_0);(try rw [show 0*2=0 from rfl] at hw152_0);(try rw [Addr.add_zero'] at hw152_0)
        cases e152
        have qi152 : (0<((rd_T60 l0_0 x6_1).f1).length)=True:=eq_true jE;(try rw [show ((0 : Int)).toNat=0 from rfl] at hx152_0);(try rw [show 0*2=0 from rfl] at hx152_0);(try rw [Addr.add_zero'] at hx152_0);(try rw [show ((0 : Int)).toNat=0 from rfl] at hx152_1);(try rw [show 0*2=0 from rfl] at hx152_1);(try rw [Addr.add_zero'] at hx152_1);replace hx152_0:=(HB.out.cell (zl w _ hx152_0)).trans hx152_0;replace hx152_1:=(HB.out.cell (zl w _ hx152_1)).trans hx152_1;replace p152:=eq_true p152;replace q152:=eq_true q152;refine start_ (n:=21) (S:=fun w' => w'.cell? ⟨gb148,0,none⟩=some (.slice (some ad150) l0_0.length c0_0)∧w'.cell? ⟨gb148,1,none⟩=some (.int .i64 a0_1)∧w'.cell? ⟨gb149,0,none⟩=some (.string a1_0)∧w'.cell? ⟨gb149,1,none⟩=some (.int .i64 a1_1)∧w'.cell? (ad150.add ((x6_1).toNat*2))=some (.int .i64 ((rd_T60 l0_0 x6_1).f0))∧w'.cell? ⟨(ad150.add ((x6_1).toNat*2)).block,(ad150.add ((x6_1).toNat*2)).off+1,none⟩=some (.slice (some ad152) ((rd_T60 l0_0 x6_1).f1).length c150_1)∧w'.cell? (ad150.add ((x6_1).toNat*2))=some (.int .i64 ((rd_T60 l0_0 x6_1).f0))∧w'.cell? ⟨(ad150.add ((x6_1).toNat*2)).block,(ad150.add ((x6_1).toNat*2)).off+1,none⟩=some (.slice (some ad152) ((rd_T60 l0_0 x6_1).f1).length c150_1)∧w'.cell? ad152=some (.string ((rd_T28 ((rd_T60 l0_0 x6_1).f1) 0).f0))∧w'.cell? ⟨ad152.block,ad152.off+1,none⟩=some (.int .i64 ((rd_T28 ((rd_T60 l0_0 x6_1).f1) 0).f1))) (ds:=[]) (bm_ 0 21) jA rfl rfl ⟨(zz BK148.out 0).trans rfl,(zz BK148.out 1).trans rfl,(zz BK149.out 0).trans rfl,(zz BK149.out 1).trans rfl,((HB.out.cell (zl w _ hw150_0)).trans hw150_0),((HB.out.cell (zl w _ hw150_1)).trans hw150_1),((HB.out.cell (zl w _ hw151_0)).trans hw151_0),((HB.out.cell (zl w _ hw151_1)).trans hw151_1),((HB.out.cell (zl w _ hw152_0)).trans hw152_0),((HB.out.cell (zl w _ hw152_1)).trans hw152_1)⟩ (fun hHeld=>?_);refine with_tabW Fb.tab5 Fb.bits5 (fun HT_ HW_=>?_);generalize wr.drew=w13 at BK148 BK149 HB HR150_1 HR151_1 hx150_0 hx150_1 hx151_0 hx151_1 hx152_0 hx152_1 hHeld ⊢;refine pure_ (i:=0) (N:=some 14) (v:=?_) (a':=?_) (bm_ 1 21) rfl rfl (any_of HT_.out jA) (fun _ _ _ h=>h) (Or.inl ⟨by rfl,?_⟩) ?_ ?_;rotate_left;exact jb;rotate_left;exact jc
        refine pure_ (i:=2) (N:=some 16) (v:=?_) (a':=?_) #[true,false,true,false,false,false,false,false,false,false,false,false,false,false,false,false,false,false,false,false,false] rfl rfl (any_of HT_.out jA) (fun _ _ _ h=>h) (Or.inl ⟨by rfl,?_⟩) ?_ ?_;rotate_left;exact jb;rotate_left;exact jc
        refine take_ (i:=1) (N:=some 15) (v:=?_) (a':=?_) (bm_ 3 21) rfl rfl (yo HT_.out HW_.out jA) (fun _ _ _ h=>h) (Or.inl ⟨by rfl,?_⟩) hHeld ?_ ?_;rotate_left
        ·
         rintro w' ⟨s0,s1,s2,s3,s4,s5,s6,s7,s8,s9⟩
         go_simp
         with_reducible rfl
        rotate_left
        exact jc
        refine pure_ (i:=3) (N:=some 17) (v:=?_) (a':=?_) (bm_ 4 21) rfl rfl (any_of HT_.out jA) (fun _ _ _ h=>h) (Or.inl ⟨by rfl,?_⟩) ?_ ?_;rotate_left;exact jb;rotate_left;exact jc
        refine pure_ (i:=4) (N:=some 18) (v:=?_) (a':=?_) (bm_ 5 21) rfl rfl (any_of HT_.out jA) (fun _ _ _ h=>h) (Or.inl ⟨by rfl,?_⟩) ?_ ?_;rotate_left;exact jb;rotate_left;exact jc
        refine take_ (i:=5) (N:=some 19) (v:=?_) (a':=?_) (bm_ 6 21) rfl rfl (yo HT_.out HW_.out jA) (fun _ _ _ h=>h) (Or.inl ⟨by rfl,?_⟩) hHeld ?_ ?_;rotate_left
        ·
         rintro w' ⟨s0,s1,s2,s3,s4,s5,s6,s7,s8,s9⟩
         go_simp
         with_reducible rfl
        rotate_left
        exact jc
        refine pure_ (i:=6) (N:=some 20) (v:=?_) (a':=?_) (bm_ 7 21) rfl rfl (any_of HT_.out jA) (fun _ _ _ h=>h) (Or.inl ⟨by rfl,?_⟩) ?_ ?_;rotate_left;exact jb;rotate_left;exact jc
        refine pure_ (i:=7) (N:=some 21) (v:=?_) (a':=?_) (bm_ 8 21) rfl rfl (any_of HT_.out jA) (fun _ _ _ h=>h) (Or.inl ⟨by rfl,?_⟩) ?_ ?_;rotate_left;exact jb;rotate_left;exact jc
        refine pure_ (i:=8) (N:=some 22) (v:=?_) (a':=?_) (bm_ 9 21) rfl rfl (any_of HT_.out jA) (fun _ _ _ h=>h) (Or.inl ⟨by rfl,?_⟩) ?_ ?_;rotate_left;exact jb;rotate_left;exact jc
        refine pure_ (i:=10) (N:=some 24) (v:=?_) (a':=?_) #[true,true,true,true,true,true,true,true,true,false,true,false,false,false,false,false,false,false,false,false,false] rfl rfl (any_of HT_.out jA) (fun _ _ _ h=>h) (Or.inl ⟨by rfl,?_⟩) ?_ ?_;rotate_left;exact jb;rotate_left;exact jc
        refine pure_ (i:=12) (N:=some 26) (v:=?_) (a':=?_) #[true,true,true,true,true,true,true,true,true,false,true,false,true,false,false,false,false,false,false,false,false] rfl rfl (any_of HT_.out jA) (fun _ _ _ h=>h) (Or.inl ⟨by rfl,?_⟩) ?_ ?_;rotate_left;exact jb;rotate_left;exact jc
        refine take_ (i:=9) (N:=some 23) (v:=?_) (a':=?_) #[true,true,true,true,true,true,true,true,true,true,true,false,true,false,false,false,false,false,false,false,false] rfl rfl (yo HT_.out HW_.out jA) (fun _ _ _ h=>h) (Or.inl ⟨by rfl,?_⟩) hHeld ?_ ?_;rotate_left
        ·
         rintro w' ⟨s0,s1,s2,s3,s4,s5,s6,s7,s8,s9⟩
         go_simp
         with_reducible rfl
        rotate_left
        exact jc
        refine take_ (i:=11) (N:=some 25) (v:=?_) (a':=?_) (bm_ 13 21) rfl rfl (yo HT_.out HW_.out jA) (fun _ _ _ h=>h) (Or.inl ⟨by rfl,?_⟩) hHeld ?_ ?_;rotate_left
        ·
         rintro w' ⟨s0,s1,s2,s3,s4,s5,s6,s7,s8,s9⟩
         go_simp
         with_reducible rfl
        rotate_left
        exact jc
        refine pure_ (i:=13) (N:=some 27) (v:=?_) (a':=?_) (bm_ 14 21) rfl rfl (any_of HT_.out jA) (fun _ _ _ h=>h) (Or.inl ⟨by rfl,?_⟩) ?_ ?_;rotate_left;exact jb;rotate_left;exact jc
        refine pure_ (i:=14) (N:=some 28) (v:=?_) (a':=?_) (bm_ 15 21) rfl rfl (any_of HT_.out jA) (fun _ _ _ h=>h) (Or.inl ⟨by rfl,?_⟩) ?_ ?_;rotate_left;exact jb;rotate_left;exact jc
        refine take_ (i:=15) (N:=some 29) (v:=?_) (a':=?_) (bm_ 16 21) rfl rfl (yo HT_.out HW_.out jA) (fun _ _ _ h=>h) (Or.inl ⟨by rfl,?_⟩) hHeld ?_ ?_;rotate_left
        ·
         rintro w' ⟨s0,s1,s2,s3,s4,s5,s6,s7,s8,s9⟩
         go_simp
         with_reducible rfl
        rotate_left
        exact jc
        refine pure_ (i:=16) (N:=some 30) (v:=?_) (a':=?_) (bm_ 17 21) rfl rfl (any_of HT_.out jA) (fun _ _ _ h=>h) (Or.inl ⟨by rfl,?_⟩) ?_ ?_;rotate_left;exact jb;rotate_left;exact jc
        refine take_ (i:=17) (N:=some 31) (v:=?_) (a':=?_) (bm_ 18 21) rfl rfl (yo HT_.out HW_.out jA) (fun _ _ _ h=>h) (Or.inl ⟨by rfl,?_⟩) hHeld ?_ ?_;rotate_left
        ·
         rintro w' ⟨s0,s1,s2,s3,s4,s5,s6,s7,s8,s9⟩
         go_simp
         with_reducible rfl
        rotate_left
        exact jc
        refine one_ (i:=18) (N:=some 32) (bm_ 19 21) rfl rfl (one_of HT_.out jA) jB (fun K hK=>?_);refine goes_ Try.func50 jA rfl #[.agg #[.string a1_0,.int .i64 a1_1],.agg #[.string ((rd_T28 ((rd_T60 l0_0 x6_1).f1) 0).f0),.int .i64 ((rd_T28 ((rd_T60 l0_0 x6_1).f1) 0).f1)]] (by rfl) rfl rfl jF ?_
        with_reducible refine (F01.calls  a1_0 a1_1 ((rd_T28 ((rd_T60 l0_0 x6_1).f1) 0).f0) ((rd_T28 ((rd_T60 l0_0 x6_1).f1) 0).f1) true _ A9.out).mono ?_
        rintro e w14 ⟨rfl,hb⟩;refine ⟨_,rfl,?_⟩;replace BK148:=zh (cD BK148.out jAN hb);replace BK149:=zh (cD BK149.out jAd hb);replace HB:=zh (zC jAR hb);(try clear hb);(try clear hb2);(try clear hk);(try clear hi);refine hK.out _ _ ⟨(zz BK148.out 0).trans rfl,(zz BK148.out 1).trans rfl,(zz BK149.out 0).trans rfl,(zz BK149.out 1).trans rfl,((HB.out.cell (zl w _ hw150_0)).trans hw150_0),((HB.out.cell (zl w _ hw150_1)).trans hw150_1),((HB.out.cell (zl w _ hw151_0)).trans hw151_0),((HB.out.cell (zl w _ hw151_1)).trans hw151_1),((HB.out.cell (zl w _ hw152_0)).trans hw152_0),((HB.out.cell (zl w _ hw152_1)).trans hw152_1)⟩ (fun hHeld=>?_);clear hK K;refine norm_ (a':=?_) ?_ ?_;rotate_left
        ·
         show Act.put _ (some 32) _=_
         simp only [Act.put,zi,zj,zk,zG,zH]
         rfl
        refine pure_ (i:=19) (N:=some 33) (v:=?_) (a':=?_) (bm_ 20 21) rfl rfl (any_of HT_.out jA) (fun _ _ _ h=>h) (Or.inl ⟨by rfl,?_⟩) ?_ ?_;rotate_left;exact jb;rotate_left;exact jc
        refine pure_ (i:=20) (N:=some 34) (v:=?_) (a':=?_) (bm_ 21 21) rfl rfl (any_of HT_.out jA) (fun _ _ _ h=>h) (Or.inl ⟨by rfl,?_⟩) ?_ ?_;rotate_left;exact jb;rotate_left;exact jc
        refine done_ (done_of HT_.out jA) ?_
        try go_wp2
        go_roundg k1
        case measure=>have:=HK1.out;omega
        case rel=>exact ⟨(x5_1),(wrap64 (x6_1+1)),jD,jD,H',⟨jV⟩,⟨jAN⟩,⟨jAd⟩,⟨jAR⟩⟩
       replace c10:=yb.mpr c10;subst c10;rw [if_neg (show ¬ (false=true) by decide)] at H;have H':=zh H;clear H;have hnb15:=NB148_149.out;have hnc15:=NB149_148.out;obtain ⟨hcz16_0,hcz16_1,hfz16_0,hfz16_1⟩:=cB2 BK148.out
       try go_wp2
       replace BK148:=zh (zf BK148.out);replace BK149:=zh (zf BK149.out);replace HB:=zh (zc HB.out);have p150 : 0≤(x6_1 : Int):=zy jC;have q150 : x6_1<(l0_0.length : Int):=zy jC;obtain ⟨ad150,A150_1,c150_1,e150,hx150_0,hx150_1,hl150_1,hi150_1⟩:=at_T60 HR0_0.out x6_1 p150 q150;have hw150_1:=hx150_1;have hw150_0:=hx150_0
       cases e150
       replace hx150_0:=(HB.out.cell (zl w _ hx150_0)).trans hx150_0;replace hx150_1:=(HB.out.cell (zl w _ hx150_1)).trans hx150_1;have HR150_1:=zh hi150_1;have HC150_1:=zh hl150_1;clear hi150_1 hl150_1;replace p150:=eq_true p150;replace q150:=eq_true q150;have p151 : 0≤(x6_1 : Int):=zy jC;have q151 : x6_1<(l0_0.length : Int):=zy jC;obtain ⟨ad151,A151_1,c151_1,e151,hx151_0,hx151_1,hl151_1,hi151_1⟩:=at_T60 HR0_0.out x6_1 p151 q151;have hw151_1:=hx151_1;have hw151_0:=hx151_0;obtain rfl : ad150=ad151:=(by injection e151);replace hx151_0:=(HB.out.cell (zl w _ hx151_0)).trans hx151_0;replace hx151_1:=(HB.out.cell (zl w _ hx151_1)).trans hx151_1;have HR151_1:=zh hi151_1;have HC151_1:=zh hl151_1;clear hi151_1 hl151_1;replace p151:=eq_true p151;replace q151:=eq_true q151;have ea_:=zU (hx150_1.symm.trans hx151_1);injection ea_ with ea_ en_ ec_;subst ea_;subst ec_;clear en_;have p152 : 0≤(0 : Int):=jE;have q152 : 0<(((rd_T60 l0_0 x6_1).f1).length : Int):=zy jC;obtain ⟨ad152,e152,hx152_0,hx152_1⟩:=at_T28 HR151_1.out 0 p152 q152;have hw152_1:=hx152_1;(try rw [show ((0 : Int)).toNat=0 from rfl] at hw152_1);(try rw [show 0*2=0 from rfl] at hw152_1);(try rw [Addr.add_zero'] at hw152_1);have hw152_0:=hx152_0;(try rw [show ((0 : Int)).toNat=0 from rfl] at hw152_0);(try rw [show 0*2=0 from rfl] at hw152_0);(try rw [Addr.add_zero'] at hw152_0)
       cases e152
       have qi152 : (0<((rd_T60 l0_0 x6_1).f1).length)=True:=eq_true jE;(try rw [show ((0 : Int)).toNat=0 from rfl] at hx152_0);(try rw [show 0*2=0 from rfl] at hx152_0);(try rw [Addr.add_zero'] at hx152_0);(try rw [show ((0 : Int)).toNat=0 from rfl] at hx152_1);(try rw [show 0*2=0 from rfl] at hx152_1);(try rw [Addr.add_zero'] at hx152_1);replace hx152_0:=(HB.out.cell (zl w _ hx152_0)).trans hx152_0;replace hx152_1:=(HB.out.cell (zl w _ hx152_1)).trans hx152_1;replace p152:=eq_true p152;replace q152:=eq_true q152;refine start_ (n:=21) (S:=fun w' => w'.cell? ⟨gb148,0,none⟩=some (.slice (some ad150) l0_0.length c0_0)∧w'.cell? ⟨gb148,1,none⟩=some (.int .i64 a0_1)∧w'.cell? ⟨gb149,0,none⟩=some (.string a1_0)∧w'.cell? ⟨gb149,1,none⟩=some (.int .i64 a1_1)∧w'.cell? (ad150.add ((x6_1).toNat*2))=some (.int .i64 ((rd_T60 l0_0 x6_1).f0))∧w'.cell? ⟨(ad150.add ((x6_1).toNat*2)).block,(ad150.add ((x6_1).toNat*2)).off+1,none⟩=some (.slice (some ad152) ((rd_T60 l0_0 x6_1).f1).length c150_1)∧w'.cell? (ad150.add ((x6_1).toNat*2))=some (.int .i64 ((rd_T60 l0_0 x6_1).f0))∧w'.cell? ⟨(ad150.add ((x6_1).toNat*2)).block,(ad150.add ((x6_1).toNat*2)).off+1,none⟩=some (.slice (some ad152) ((rd_T60 l0_0 x6_1).f1).length c150_1)∧w'.cell? ad152=some (.string ((rd_T28 ((rd_T60 l0_0 x6_1).f1) 0).f0))∧w'.cell? ⟨ad152.block,ad152.off+1,none⟩=some (.int .i64 ((rd_T28 ((rd_T60 l0_0 x6_1).f1) 0).f1))) (ds:=[]) (bm_ 0 21) jA rfl rfl ⟨(zz BK148.out 0).trans rfl,(zz BK148.out 1).trans rfl,(zz BK149.out 0).trans rfl,(zz BK149.out 1).trans rfl,((HB.out.cell (zl w _ hw150_0)).trans hw150_0),((HB.out.cell (zl w _ hw150_1)).trans hw150_1),((HB.out.cell (zl w _ hw151_0)).trans hw151_0),((HB.out.cell (zl w _ hw151_1)).trans hw151_1),((HB.out.cell (zl w _ hw152_0)).trans hw152_0),((HB.out.cell (zl w _ hw152_1)).trans hw152_1)⟩ (fun hHeld=>?_);refine with_tabW Fb.tab5 Fb.bits5 (fun HT_ HW_=>?_);generalize wr.drew=w17 at BK148 BK149 HB HR150_1 HR151_1 hx150_0 hx150_1 hx151_0 hx151_1 hx152_0 hx152_1 hHeld ⊢;refine pure_ (i:=0) (N:=some 14) (v:=?_) (a':=?_) (bm_ 1 21) rfl rfl (any_of HT_.out jA) (fun _ _ _ h=>h) (Or.inl ⟨by rfl,?_⟩) ?_ ?_;rotate_left;exact jb;rotate_left;exact jc
       refine pure_ (i:=2) (N:=some 16) (v:=?_) (a':=?_) #[true,false,true,false,false,false,false,false,false,false,false,false,false,false,false,false,false,false,false,false,false] rfl rfl (any_of HT_.out jA) (fun _ _ _ h=>h) (Or.inl ⟨by rfl,?_⟩) ?_ ?_;rotate_left;exact jb;rotate_left;exact jc
       refine take_ (i:=1) (N:=some 15) (v:=?_) (a':=?_) (bm_ 3 21) rfl rfl (yo HT_.out HW_.out jA) (fun _ _ _ h=>h) (Or.inl ⟨by rfl,?_⟩) hHeld ?_ ?_;rotate_left
       ·
        rintro w' ⟨s0,s1,s2,s3,s4,s5,s6,s7,s8,s9⟩
        go_simp
        with_reducible rfl
       rotate_left
       exact jc
       refine pure_ (i:=3) (N:=some 17) (v:=?_) (a':=?_) (bm_ 4 21) rfl rfl (any_of HT_.out jA) (fun _ _ _ h=>h) (Or.inl ⟨by rfl,?_⟩) ?_ ?_;rotate_left;exact jb;rotate_left;exact jc
       refine pure_ (i:=4) (N:=some 18) (v:=?_) (a':=?_) (bm_ 5 21) rfl rfl (any_of HT_.out jA) (fun _ _ _ h=>h) (Or.inl ⟨by rfl,?_⟩) ?_ ?_;rotate_left;exact jb;rotate_left;exact jc
       refine take_ (i:=5) (N:=some 19) (v:=?_) (a':=?_) (bm_ 6 21) rfl rfl (yo HT_.out HW_.out jA) (fun _ _ _ h=>h) (Or.inl ⟨by rfl,?_⟩) hHeld ?_ ?_;rotate_left
       ·
        rintro w' ⟨s0,s1,s2,s3,s4,s5,s6,s7,s8,s9⟩
        go_simp
        with_reducible rfl
       rotate_left
       exact jc
       refine pure_ (i:=6) (N:=some 20) (v:=?_) (a':=?_) (bm_ 7 21) rfl rfl (any_of HT_.out jA) (fun _ _ _ h=>h) (Or.inl ⟨by rfl,?_⟩) ?_ ?_;rotate_left;exact jb;rotate_left;exact jc
       refine pure_ (i:=7) (N:=some 21) (v:=?_) (a':=?_) (bm_ 8 21) rfl rfl (any_of HT_.out jA) (fun _ _ _ h=>h) (Or.inl ⟨by rfl,?_⟩) ?_ ?_;rotate_left;exact jb;rotate_left;exact jc
       refine pure_ (i:=8) (N:=some 22) (v:=?_) (a':=?_) (bm_ 9 21) rfl rfl (any_of HT_.out jA) (fun _ _ _ h=>h) (Or.inl ⟨by rfl,?_⟩) ?_ ?_;rotate_left;exact jb;rotate_left;exact jc
       refine pure_ (i:=10) (N:=some 24) (v:=?_) (a':=?_) #[true,true,true,true,true,true,true,true,true,false,true,false,false,false,false,false,false,false,false,false,false] rfl rfl (any_of HT_.out jA) (fun _ _ _ h=>h) (Or.inl ⟨by rfl,?_⟩) ?_ ?_;rotate_left;exact jb;rotate_left;exact jc
       refine pure_ (i:=12) (N:=some 26) (v:=?_) (a':=?_) #[true,true,true,true,true,true,true,true,true,false,true,false,true,false,false,false,false,false,false,false,false] rfl rfl (any_of HT_.out jA) (fun _ _ _ h=>h) (Or.inl ⟨by rfl,?_⟩) ?_ ?_;rotate_left;exact jb;rotate_left;exact jc
       refine take_ (i:=9) (N:=some 23) (v:=?_) (a':=?_) #[true,true,true,true,true,true,true,true,true,true,true,false,true,false,false,false,false,false,false,false,false] rfl rfl (yo HT_.out HW_.out jA) (fun _ _ _ h=>h) (Or.inl ⟨by rfl,?_⟩) hHeld ?_ ?_;rotate_left
       ·
        rintro w' ⟨s0,s1,s2,s3,s4,s5,s6,s7,s8,s9⟩
        go_simp
        with_reducible rfl
       rotate_left
       exact jc
       refine take_ (i:=11) (N:=some 25) (v:=?_) (a':=?_) (bm_ 13 21) rfl rfl (yo HT_.out HW_.out jA) (fun _ _ _ h=>h) (Or.inl ⟨by rfl,?_⟩) hHeld ?_ ?_;rotate_left
       ·
        rintro w' ⟨s0,s1,s2,s3,s4,s5,s6,s7,s8,s9⟩
        go_simp
        with_reducible rfl
       rotate_left
       exact jc
       refine pure_ (i:=13) (N:=some 27) (v:=?_) (a':=?_) (bm_ 14 21) rfl rfl (any_of HT_.out jA) (fun _ _ _ h=>h) (Or.inl ⟨by rfl,?_⟩) ?_ ?_;rotate_left;exact jb;rotate_left;exact jc
       refine pure_ (i:=14) (N:=some 28) (v:=?_) (a':=?_) (bm_ 15 21) rfl rfl (any_of HT_.out jA) (fun _ _ _ h=>h) (Or.inl ⟨by rfl,?_⟩) ?_ ?_;rotate_left;exact jb;rotate_left;exact jc
       refine take_ (i:=15) (N:=some 29) (v:=?_) (a':=?_) (bm_ 16 21) rfl rfl (yo HT_.out HW_.out jA) (fun _ _ _ h=>h) (Or.inl ⟨by rfl,?_⟩) hHeld ?_ ?_;rotate_left
       ·
        rintro w' ⟨s0,s1,s2,s3,s4,s5,s6,s7,s8,s9⟩
        go_simp
        with_reducible rfl
       rotate_left
       exact jc
       refine pure_ (i:=16) (N:=some 30) (v:=?_) (a':=?_) (bm_ 17 21) rfl rfl (any_of HT_.out jA) (fun _ _ _ h=>h) (Or.inl ⟨by rfl,?_⟩) ?_ ?_;rotate_left;exact jb;rotate_left;exact jc
       refine take_ (i:=17) (N:=some 31) (v:=?_) (a':=?_) (bm_ 18 21) rfl rfl (yo HT_.out HW_.out jA) (fun _ _ _ h=>h) (Or.inl ⟨by rfl,?_⟩) hHeld ?_ ?_;rotate_left
       ·
        rintro w' ⟨s0,s1,s2,s3,s4,s5,s6,s7,s8,s9⟩
        go_simp
        with_reducible rfl
       rotate_left
       exact jc
       refine one_ (i:=18) (N:=some 32) (bm_ 19 21) rfl rfl (one_of HT_.out jA) jB (fun K hK=>?_);refine goes_ Try.func50 jA rfl #[.agg #[.string a1_0,.int .i64 a1_1],.agg #[.string ((rd_T28 ((rd_T60 l0_0 x6_1).f1) 0).f0),.int .i64 ((rd_T28 ((rd_T60 l0_0 x6_1).f1) 0).f1)]] (by rfl) rfl rfl jF ?_
       with_reducible refine (F01.calls  a1_0 a1_1 ((rd_T28 ((rd_T60 l0_0 x6_1).f1) 0).f0) ((rd_T28 ((rd_T60 l0_0 x6_1).f1) 0).f1) false _ A9.out).mono ?_
       rintro e w18 ⟨rfl,hb⟩;refine ⟨_,rfl,?_⟩;replace BK148:=zh (cD BK148.out jAN hb);replace BK149:=zh (cD BK149.out jAd hb);replace HB:=zh (zC jAR hb);(try clear hb);(try clear hb2);(try clear hk);(try clear hi);refine hK.out _ _ ⟨(zz BK148.out 0).trans rfl,(zz BK148.out 1).trans rfl,(zz BK149.out 0).trans rfl,(zz BK149.out 1).trans rfl,((HB.out.cell (zl w _ hw150_0)).trans hw150_0),((HB.out.cell (zl w _ hw150_1)).trans hw150_1),((HB.out.cell (zl w _ hw151_0)).trans hw151_0),((HB.out.cell (zl w _ hw151_1)).trans hw151_1),((HB.out.cell (zl w _ hw152_0)).trans hw152_0),((HB.out.cell (zl w _ hw152_1)).trans hw152_1)⟩ (fun hHeld=>?_);clear hK K;refine norm_ (a':=?_) ?_ ?_;rotate_left
       ·
        show Act.put _ (some 32) _=_
        simp only [Act.put,zi,zj,zk,zG,zH]
        rfl
       refine pure_ (i:=19) (N:=some 33) (v:=?_) (a':=?_) (bm_ 20 21) rfl rfl (any_of HT_.out jA) (fun _ _ _ h=>h) (Or.inl ⟨by rfl,?_⟩) ?_ ?_;rotate_left;exact jb;rotate_left;exact jc
       refine pure_ (i:=20) (N:=some 34) (v:=?_) (a':=?_) (bm_ 21 21) rfl rfl (any_of HT_.out jA) (fun _ _ _ h=>h) (Or.inl ⟨by rfl,?_⟩) ?_ ?_;rotate_left;exact jb;rotate_left;exact jc
       refine done_ (done_of HT_.out jA) ?_
       try go_wp2
       go_roundg k1
       case measure=>have:=HK1.out;omega
       case rel=>exact ⟨(x6_1),(wrap64 (x6_1+1)),jD,jD,H',⟨jV⟩,⟨jAN⟩,⟨jAd⟩,⟨jAR⟩⟩
      rw [if_neg c8] at H;exact absurd H (by simp)
     rw [if_neg c7] at H;have c7b0 : decide (0<(((rd_T60 l0_0 x6_1).f1).length : Int))=false:=decide_eq_false c7;have c7b1 : decide (0<((rd_T60 l0_0 x6_1).f1).length)=false:=decide_eq_false jE;clear c7;have H':=zh H;clear H;have hnb19:=NB148_149.out;have hnc19:=NB149_148.out;obtain ⟨hcz20_0,hcz20_1,hfz20_0,hfz20_1⟩:=cB2 BK148.out
     try go_wp2
     replace BK148:=zh (zf BK148.out);replace BK149:=zh (zf BK149.out);replace HB:=zh (zc HB.out);have p150 : 0≤(x6_1 : Int):=zy jC;have q150 : x6_1<(l0_0.length : Int):=zy jC;obtain ⟨ad150,A150_1,c150_1,e150,hx150_0,hx150_1,hl150_1,hi150_1⟩:=at_T60 HR0_0.out x6_1 p150 q150;have hw150_1:=hx150_1;have hw150_0:=hx150_0
     cases e150
     replace hx150_0:=(HB.out.cell (zl w _ hx150_0)).trans hx150_0;replace hx150_1:=(HB.out.cell (zl w _ hx150_1)).trans hx150_1;have HR150_1:=zh hi150_1;have HC150_1:=zh hl150_1;clear hi150_1 hl150_1;replace p150:=eq_true p150;replace q150:=eq_true q150;refine start_ (n:=21) (S:=fun w' => w'.cell? ⟨gb148,0,none⟩=some (.slice (some ad150) l0_0.length c0_0)∧w'.cell? ⟨gb148,1,none⟩=some (.int .i64 a0_1)∧w'.cell? (ad150.add ((x6_1).toNat*2))=some (.int .i64 ((rd_T60 l0_0 x6_1).f0))∧w'.cell? ⟨(ad150.add ((x6_1).toNat*2)).block,(ad150.add ((x6_1).toNat*2)).off+1,none⟩=some (.slice A150_1 ((rd_T60 l0_0 x6_1).f1).length c150_1)) (ds:=[]) (bm_ 0 21) jA rfl rfl ⟨(zz BK148.out 0).trans rfl,(zz BK148.out 1).trans rfl,((HB.out.cell (zl w _ hw150_0)).trans hw150_0),((HB.out.cell (zl w _ hw150_1)).trans hw150_1)⟩ (fun hHeld=>?_);refine with_tabW Fb.tab5 Fb.bits5 (fun HT_ HW_=>?_);generalize wr.drew=w21 at BK148 BK149 HB HR150_1 hx150_0 hx150_1 hHeld ⊢;refine pure_ (i:=0) (N:=some 14) (v:=?_) (a':=?_) (bm_ 1 21) rfl rfl (any_of HT_.out jA) (fun _ _ _ h=>h) (Or.inl ⟨by rfl,?_⟩) ?_ ?_;rotate_left;exact jb;rotate_left;exact jc
     refine pure_ (i:=2) (N:=some 16) (v:=?_) (a':=?_) #[true,false,true,false,false,false,false,false,false,false,false,false,false,false,false,false,false,false,false,false,false] rfl rfl (any_of HT_.out jA) (fun _ _ _ h=>h) (Or.inl ⟨by rfl,?_⟩) ?_ ?_;rotate_left;exact jb;rotate_left;exact jc
     refine take_ (i:=1) (N:=some 15) (v:=?_) (a':=?_) (bm_ 3 21) rfl rfl (yo HT_.out HW_.out jA) (fun _ _ _ h=>h) (Or.inl ⟨by rfl,?_⟩) hHeld ?_ ?_;rotate_left
     ·
      rintro w' ⟨s0,s1,s2,s3⟩
      go_simp
      with_reducible rfl
     rotate_left
     exact jc
     refine pure_ (i:=3) (N:=some 17) (v:=?_) (a':=?_) (bm_ 4 21) rfl rfl (any_of HT_.out jA) (fun _ _ _ h=>h) (Or.inl ⟨by rfl,?_⟩) ?_ ?_;rotate_left;exact jb;rotate_left;exact jc
     refine pure_ (i:=4) (N:=some 18) (v:=?_) (a':=?_) (bm_ 5 21) rfl rfl (any_of HT_.out jA) (fun _ _ _ h=>h) (Or.inl ⟨by rfl,?_⟩) ?_ ?_;rotate_left;exact jb;rotate_left;exact jc
     refine take_ (i:=5) (N:=some 19) (v:=?_) (a':=?_) (bm_ 6 21) rfl rfl (yo HT_.out HW_.out jA) (fun _ _ _ h=>h) (Or.inl ⟨by rfl,?_⟩) hHeld ?_ ?_;rotate_left
     ·
      rintro w' ⟨s0,s1,s2,s3⟩
      go_simp
      with_reducible rfl
     rotate_left
     exact jc
     refine pure_ (i:=6) (N:=some 20) (v:=?_) (a':=?_) (bm_ 7 21) rfl rfl (any_of HT_.out jA) (fun _ _ _ h=>h) (Or.inl ⟨by rfl,?_⟩) ?_ ?_;rotate_left;exact jb;rotate_left;exact jc
     refine pure_ (i:=7) (N:=some 21) (v:=?_) (a':=?_) (bm_ 8 21) rfl rfl (any_of HT_.out jA) (fun _ _ _ h=>h) (Or.inl ⟨by rfl,?_⟩) ?_ ?_;rotate_left;exact jb;rotate_left;exact jc
     refine pure_ (i:=8) (N:=some 22) (v:=?_) (a':=?_) (bm_ 9 21) rfl rfl (any_of HT_.out jA) (fun _ _ _ h=>h) (Or.inl ⟨by rfl,?_⟩) ?_ ?_;rotate_left;exact jb;rotate_left;exact jc
     refine pure_ (i:=9) (N:=some 23) (v:=undef) (a':=?_) (bm_ 10 21) rfl rfl (any_of HT_.out jA) (fun _ _ _ h=>h) (Or.inr ⟨by rfl,rfl⟩) ?_ ?_;rotate_left
     exact jc
     refine pure_ (i:=10) (N:=some 24) (v:=undef) (a':=?_) (bm_ 11 21) rfl rfl (any_of HT_.out jA) (fun _ _ _ h=>h) (Or.inr ⟨by rfl,rfl⟩) ?_ ?_;rotate_left
     exact jc
     refine pure_ (i:=11) (N:=some 25) (v:=undef) (a':=?_) (bm_ 12 21) rfl rfl (any_of HT_.out jA) (fun _ _ _ h=>h) (Or.inr ⟨by rfl,rfl⟩) ?_ ?_;rotate_left
     exact jc
     refine pure_ (i:=12) (N:=some 26) (v:=undef) (a':=?_) (bm_ 13 21) rfl rfl (any_of HT_.out jA) (fun _ _ _ h=>h) (Or.inr ⟨by rfl,rfl⟩) ?_ ?_;rotate_left
     exact jc
     refine pure_ (i:=13) (N:=some 27) (v:=undef) (a':=?_) (bm_ 14 21) rfl rfl (any_of HT_.out jA) (fun _ _ _ h=>h) (Or.inr ⟨by rfl,rfl⟩) ?_ ?_;rotate_left
     exact jc
     refine pure_ (i:=14) (N:=some 28) (v:=undef) (a':=?_) (bm_ 15 21) rfl rfl (any_of HT_.out jA) (fun _ _ _ h=>h) (Or.inr ⟨by rfl,rfl⟩) ?_ ?_;rotate_left
     exact jc
     refine pure_ (i:=15) (N:=some 29) (v:=undef) (a':=?_) (bm_ 16 21) rfl rfl (any_of HT_.out jA) (fun _ _ _ h=>h) (Or.inr ⟨by rfl,rfl⟩) ?_ ?_;rotate_left
     exact jc
     refine pure_ (i:=16) (N:=some 30) (v:=undef) (a':=?_) (bm_ 17 21) rfl rfl (any_of HT_.out jA) (fun _ _ _ h=>h) (Or.inr ⟨by rfl,rfl⟩) ?_ ?_;rotate_left
     exact jc
     refine pure_ (i:=17) (N:=some 31) (v:=undef) (a':=?_) (bm_ 18 21) rfl rfl (any_of HT_.out jA) (fun _ _ _ h=>h) (Or.inr ⟨by rfl,rfl⟩) ?_ ?_;rotate_left
     exact jc
     refine pure_ (i:=18) (N:=some 32) (v:=undef) (a':=?_) (bm_ 19 21) rfl rfl (any_of HT_.out jA) (fun _ _ _ h=>h) (Or.inr ⟨by rfl,rfl⟩) ?_ ?_;rotate_left
     exact jc
     refine pure_ (i:=19) (N:=some 33) (v:=undef) (a':=?_) (bm_ 20 21) rfl rfl (any_of HT_.out jA) (fun _ _ _ h=>h) (Or.inr ⟨by rfl,rfl⟩) ?_ ?_;rotate_left
     exact jc
     refine pure_ (i:=20) (N:=some 34) (v:=?_) (a':=?_) (bm_ 21 21) rfl rfl (any_of HT_.out jA) (fun _ _ _ h=>h) (Or.inl ⟨by rfl,?_⟩) ?_ ?_;rotate_left;exact jb;rotate_left;exact jc
     refine done_ (done_of HT_.out jA) ?_
     try go_wp2
     go_roundg k1
     case measure=>have:=HK1.out;omega
     case rel=>exact ⟨(x5_1),(wrap64 (x6_1+1)),jD,jD,H',⟨jV⟩,⟨jAN⟩,⟨jAd⟩,⟨jAR⟩⟩
    rw [if_neg c6] at H;exact absurd H (by simp)
   rw [if_neg c5] at H;have c5b0 : decide (x6_1<(l0_0.length : Int))=false:=decide_eq_false c5;clear c5;obtain rfl:=zU H;have hnb22:=NB148_149.out;have hnc22:=NB149_148.out;obtain ⟨hcz23_0,hcz23_1,hfz23_0,hfz23_1⟩:=cB2 BK148.out
   go_wp2
   go_ret
   exact ⟨jG,jAR⟩

end Go.Proofs.Ytgifonogfgpjdaa.Q
end

/- Texts of this claim, merged by a program of this session. -/
import Derived.Test.YtgifonogfgpjdaaKLawFnRangep25
section
namespace Go.Proofs.Ytgifonogfgpjdaa.Q
open Go.RowKit Go.Proofs.YtgifonogfgpjdaaW.PrintWords Go.Proofs.YtgifonogfgpjdaaW.PrintLast Go.Proofs.YtgifonogfgpjdaaW.PrintMore
attribute [local go_sem] max2_int min2_int max_two min_two max_three min_three max_four min_four max2_str min2_str str_geq str_gtr str_leq   -- for this text's walks alone
set_option linter.unusedVariables false
set_option linter.unusedSimpArgs false

mutual
def F3.j0 : Nat→Bool→List (S60)→Int→Option (Bool)
 | 0,_,_,_=>none
 | k+1,x18,x359000,x359001=>if x18=true then (some false) else (F3.l0 k 0 x359000 x359001 (⟨#[]⟩ : ByteArray) (-1))
def F3.l0 : Nat→Int→List (S60)→Int→ByteArray→Int→Option (Bool)
 | 0,_,_,_,_,_=>none
 | k+1,x4,x359000,x359001,x362000,x362001=>if x4<(x359000.length : Int) then (if 0≤x4 then ((Fr.f ((rd_T60 x359000 x4).f0) 1 (wrap64 (x359001 - 1))).bind fun t364=>(if t364=true then (if (((rd_T60 x359000 x4).f1).length : Int) > 4 then (F3.j2 k x4 true x359000 x359001 x362000 x362001 ((rd_T60 x359000 x4).f0) ((rd_T60 x359000 x4).f1)) else (if (((rd_T60 x359000 x4).f1).length : Int)=0 then (F3.j2 k x4 (decide ((x359000.length : Int) > 1)) x359000 x359001 x362000 x362001 ((rd_T60 x359000 x4).f0) ((rd_T60 x359000 x4).f1)) else (F3.j2 k x4 false x359000 x359001 x362000 x362001 ((rd_T60 x359000 x4).f0) ((rd_T60 x359000 x4).f1)))) else (F3.j2 k x4 true x359000 x359001 x362000 x362001 ((rd_T60 x359000 x4).f0) ((rd_T60 x359000 x4).f1)))) else (none)) else (some true)
def F3.j2 : Nat→Int→Bool→List (S60)→Int→ByteArray→Int→Int→List (S28)→Option (Bool)
 | 0,_,_,_,_,_,_,_,_=>none
 | k+1,x4,x56,x359000,x359001,x362000,x362001,x364000,x364001=>if x56=true then (some false) else (F3.l1 k x4 0 x359000 x359001 x362000 x362001 x364000 x364001)
def F3.l1 : Nat→Int→Int→List (S60)→Int→ByteArray→Int→Int→List (S28)→Option (Bool)
 | 0,_,_,_,_,_,_,_,_=>none
 | k+1,x4,x6,x359000,x359001,x362000,x362001,x364000,x364001=>if x6<x4 then (if 0≤x6 then (if x6<(x359000.length : Int) then (if ((rd_T60 x359000 x6).f0)=x364000 then (some false) else (F3.l1 k x4 (wrap64 (x6+1)) x359000 x359001 x362000 x362001 x364000 x364001)) else (none)) else (none)) else (F3.l2 k x4 0 x359000 x359001 x362000 x362001 x364000 x364001)
def F3.l2 : Nat→Int→Int→List (S60)→Int→ByteArray→Int→Int→List (S28)→Option (Bool)
 | 0,_,_,_,_,_,_,_,_=>none
 | k+1,x4,x7,x359000,x359001,x362000,x362001,x364000,x364001=>if x7<(x364001.length : Int) then (if 0≤x7 then ((F08.f ((rd_T28 x364001 x7).f0) ((rd_T28 x364001 x7).f1)).bind fun t367=>(if t367=true then ((F01.f x362000 x362001 ((rd_T28 x364001 x7).f0) ((rd_T28 x364001 x7).f1)).bind fun t369=>(if t369=true then (F3.l2 k x4 (wrap64 (x7+1)) x359000 x359001 ((rd_T28 x364001 x7).f0) ((rd_T28 x364001 x7).f1) x364000 x364001) else (some false))) else (some false))) else (none)) else (F3.l0 k (wrap64 (x4+1)) x359000 x359001 x362000 x362001)
end
def F3.f (k : Nat) (l0_0 : List (S60)) (a0_1 : Int) : Option (Bool):=(Fr.f (l0_0.length : Int) 1 60).bind fun t359=>(if t359=true then ((Fr.f a0_1 2 100000).bind fun t360=>(F3.j0 k (!t360) l0_0 a0_1)) else (F3.j0 k true l0_0 a0_1))
theorem F3.mono_l : ∀ k,(∀ y0 y1 y2,LeO (F3.j0 k y0 y1 y2) (F3.j0 (k+1) y0 y1 y2))∧(∀ y0 y1 y2 y3 y4,LeO (F3.l0 k y0 y1 y2 y3 y4) (F3.l0 (k+1) y0 y1 y2 y3 y4))∧(∀ y0 y1 y2 y3 y4 y5 y6 y7,LeO (F3.j2 k y0 y1 y2 y3 y4 y5 y6 y7) (F3.j2 (k+1) y0 y1 y2 y3 y4 y5 y6 y7))∧(∀ y0 y1 y2 y3 y4 y5 y6 y7,LeO (F3.l1 k y0 y1 y2 y3 y4 y5 y6 y7) (F3.l1 (k+1) y0 y1 y2 y3 y4 y5 y6 y7))∧(∀ y0 y1 y2 y3 y4 y5 y6 y7,LeO (F3.l2 k y0 y1 y2 y3 y4 y5 y6 y7) (F3.l2 (k+1) y0 y1 y2 y3 y4 y5 y6 y7))
 | 0=>⟨fun _ _ _ r h=>by simp [F3.j0] at h,fun _ _ _ _ _ r h=>by simp [F3.l0] at h,fun _ _ _ _ _ _ _ _ r h=>by simp [F3.j2] at h,fun _ _ _ _ _ _ _ _ r h=>by simp [F3.l1] at h,fun _ _ _ _ _ _ _ _ r h=>by simp [F3.l2] at h⟩
 | k+1=>by
  obtain ⟨ih0,ih1,ih2,ih3,ih4⟩:=F3.mono_l k;refine ⟨?_,?_,?_,?_,?_⟩
  ·
   intro y0 y1 y2
   unfold F3.j0
   repeat' first|(with_reducible first|exact ih0 _ _ _|exact ih1 _ _ _ _ _|exact ih2 _ _ _ _ _ _ _ _|exact ih3 _ _ _ _ _ _ _ _|exact ih4 _ _ _ _ _ _ _ _|exact zQ _|exact zN _|refine zP ?_ ?_|refine zO ?_ (fun _=>?_))|refine zP ?_ ?_|refine zO ?_ (fun _=>?_)
  ·
   intro y0 y1 y2 y3 y4
   unfold F3.l0
   repeat' first|(with_reducible first|exact ih0 _ _ _|exact ih1 _ _ _ _ _|exact ih2 _ _ _ _ _ _ _ _|exact ih3 _ _ _ _ _ _ _ _|exact ih4 _ _ _ _ _ _ _ _|exact zQ _|exact zN _|refine zP ?_ ?_|refine zO ?_ (fun _=>?_))|refine zP ?_ ?_|refine zO ?_ (fun _=>?_)
  ·
   intro y0 y1 y2 y3 y4 y5 y6 y7
   unfold F3.j2
   repeat' first|(with_reducible first|exact ih0 _ _ _|exact ih1 _ _ _ _ _|exact ih2 _ _ _ _ _ _ _ _|exact ih3 _ _ _ _ _ _ _ _|exact ih4 _ _ _ _ _ _ _ _|exact zQ _|exact zN _|refine zP ?_ ?_|refine zO ?_ (fun _=>?_))|refine zP ?_ ?_|refine zO ?_ (fun _=>?_)
  ·
   intro y0 y1 y2 y3 y4 y5 y6 y7
   unfold F3.l1
   repeat' first|(with_reducible first|exact ih0 _ _ _|exact ih1 _ _ _ _ _|exact ih2 _ _ _ _ _ _ _ _|exact ih3 _ _ _ _ _ _ _ _|exact ih4 _ _ _ _ _ _ _ _|exact zQ _|exact zN _|refine zP ?_ ?_|refine zO ?_ (fun _=>?_))|refine zP ?_ ?_|refine zO ?_ (fun _=>?_)
  intro y0 y1 y2 y3 y4 y5 y6 y7;unfold F3.l2
  repeat' first|(with_reducible first|exact ih0 _ _ _|exact ih1 _ _ _ _ _|exact ih2 _ _ _ _ _ _ _ _|exact ih3 _ _ _ _ _ _ _ _|exact ih4 _ _ _ _ _ _ _ _|exact zQ _|exact zN _|refine zP ?_ ?_|refine zO ?_ (fun _=>?_))|refine zP ?_ ?_|refine zO ?_ (fun _=>?_)
theorem F3.mono : ∀ a0 a1 k,LeO (F3.f k a0 a1) (F3.f (k+1) a0 a1):=by
 intro a0 a1 k;obtain ⟨ih0,ih1,ih2,ih3,ih4⟩:=F3.mono_l k;unfold F3.f
 repeat' first|(with_reducible first|exact ih0 _ _ _|exact ih1 _ _ _ _ _|exact ih2 _ _ _ _ _ _ _ _|exact ih3 _ _ _ _ _ _ _ _|exact ih4 _ _ _ _ _ _ _ _|exact zQ _|exact zN _|refine zP ?_ ?_|refine zO ?_ (fun _=>?_))|refine zP ?_ ?_|refine zO ?_ (fun _=>?_)
def F3.T13 : Bool×List (List Nat×List Nat):=(true,[([],[]),([0],[0]),([],[]),([1,2],[1,2]),([3],[3]),([4],[4]),([],[]),([6],[6]),([5,7],[5,7])])
def F3.B13 : List Nat:=[0,1,0,7,15,31,0,64,255]
theorem F3.tab13 : rtab .any (opsOf Try.f29 13)=F3.T13:=by kernel_rfl
theorem F3.bits13 : waitsOk F3.T13.2 F3.B13=true:=by kernel_rfl
def F3.T18 : Bool×List (List Nat×List Nat):=(true,[([],[]),([0],[0]),([],[]),([1,2],[1,2]),([3],[3]),([4],[4]),([5],[5]),([6,5],[6]),([7],[7]),([7],[7]),([9,7],[7,9]),([7],[7]),([10,11,7],[7,10,11]),([12,7],[7,12]),([8,13,7,7],[7,8,13]),([14,7],[7,14]),([7,15],[7,15])])
def F3.B18 : List Nat:=[0,1,0,7,15,31,63,127,255,255,767,255,3839,7935,16383,32767,65535]
theorem F3.tab18 : rtab .any (opsOf Try.f29 18)=F3.T18:=by kernel_rfl
theorem F3.bits18 : waitsOk F3.T18.2 F3.B18=true:=by kernel_rfl
set_option maxHeartbeats 8000000 in
set_option maxRecDepth 100000 in
theorem F3.calls (k : Nat) (A0_0 : Option Addr) (c0_0 : Nat) (l0_0 : List (S60)) (a0_1 : Int) (r : Bool) (w : World) (hr0_0 : Kd.C k60 w A0_0 l0_0.length l0_0) (hc0_0 : l0_0.length≤c0_0) (h : F3.f k l0_0 a0_1=some r) :
  Calls Try.prog 29 #[.agg #[.slice A0_0 l0_0.length c0_0,.int .i64 a0_1]] w fun e w' => e = .returned (.bool r)∧Below w.heap.size w w':=by
 have hu25:=Try.underlying25;have hu28:=Try.underlying28;have hu60:=Try.underlying60;have HR0_0:=zh hr0_0;have HC0_0:=zh hc0_0;clear hr0_0 hc0_0;have HB:=zh (Below.refl w.heap.size w);have H : ((Fr.f (l0_0.length : Int) 1 60).bind fun t359=>(if t359=true then ((Fr.f a0_1 2 100000).bind fun t360=>(F3.j0 k (!t360) l0_0 a0_1)) else (F3.j0 k true l0_0 a0_1)))=some r:=h;clear h;have HC2:=zh H;clear H
 go_enter Try.func29,Try.ntmps29
 go_upto_region 1 with (first|((with_reducible refine zK (N:=1) rfl ?_);(try (refine yy (by rfl) ?_;dsimp only));refine zI ?hg (N:=1) ?hd (cs:=#[.slice A0_0 l0_0.length c0_0,.int .i64 a0_1]) (t:=25) ?hr ?_;(case hd=>rfl);(case hg=>rfl);(case hr=>go_simp <;> rfl);intro gb358 hg w3 hbox hb;have BK358:=zh (hbox);have hH_:=cH jH hb hg;have GW358:=zh hH_.1;have GE358:=GW358;replace HB:=zh hH_.2;clear hb hbox hg hH_))
 (try simp only [Act.put,zi,zj,zk])
 go_cut [18] (fun v18 wc => ∃ (kq : Nat) (x18_1 : Bool),v18 = .bool x18_1∧Aside0 (F3.j0 kq x18_1 l0_0 a0_1=some r)∧Aside0 (kq≤k)∧Aside0 (wc.heap[gb358]? = some (.cells #[(.slice A0_0 l0_0.length c0_0),.int .i64 a0_1] 25 (0,0)))∧Aside0 (Below w.heap.size w wc))
 case first =>
  have H:=HC2.out;clear HC2;replace H:=zT.mp H;obtain ⟨t359,A40,H⟩:=H;have A4:=zh A40;clear A40
  by_cases c5 : t359=true
  ·
   subst c5
   rw [if_pos rfl] at H;replace H:=zT.mp H;obtain ⟨t360,A60,H⟩:=H;have A6:=zh A60;clear A60;have H':=zh H;clear H;obtain ⟨hcz7_0,hcz7_1,hfz7_0,hfz7_1⟩:=cB2 BK358.out
   go_wp2_with (first|((with_reducible refine zJ (f:=49) rfl ?_);refine yj (some 11) rfl rfl Try.func49 jA rfl #[.int .i64 (l0_0.length : Int),.int .i64 1,.int .i64 60] rfl jF ?_;(with_reducible refine (Fr.calls  (l0_0.length : Int) 1 60 true _ A4.out).mono ?_);rintro e w' ⟨rfl,⟨nd,rfl⟩⟩;refine ⟨_,rfl,?_⟩)|(go_at_call 49;(with_reducible refine (Fr.calls  a0_1 2 100000 t360 _ A6.out).mono ?_);rintro e w' ⟨rfl,⟨nd,rfl⟩⟩))
   go_meet
   case rel=>exact ⟨_,(!t360),jD,H',⟨jAX⟩,⟨ji⟩,⟨jA9⟩⟩
  replace c5:=yb.mpr c5;subst c5;rw [if_neg (show ¬ (false=true) by decide)] at H;have H':=zh H;clear H;obtain ⟨hcz8_0,hcz8_1,hfz8_0,hfz8_1⟩:=cB2 BK358.out
  go_wp2_with (first|((with_reducible refine zJ (f:=49) rfl ?_);refine yj (some 11) rfl rfl Try.func49 jA rfl #[.int .i64 (l0_0.length : Int),.int .i64 1,.int .i64 60] rfl jF ?_;(with_reducible refine (Fr.calls  (l0_0.length : Int) 1 60 false _ A4.out).mono ?_);rintro e w' ⟨rfl,⟨nd,rfl⟩⟩;refine ⟨_,rfl,?_⟩))
  go_meet
  case rel=>exact ⟨_,(true),jD,H',⟨jAX⟩,⟨ji⟩,⟨jA9⟩⟩
 case rest =>
  clear HC2
  try clear c2
  try clear p2
  try clear c4 c5
  try clear hcz7_0 hcz7_1
  try clear hcz8_0 hcz8_1
  try clear hfz7_0 hfz7_1
  try clear hfz8_0 hfz8_1
  obtain ⟨kq,x18_1,rfl,HA,HJ1,BK358,HB⟩:=hcut
  cases kq with
  | zero=>exact absurd HA.out (by simp [F3.j0])
  | succ kj1 =>
   have H:=HA.out;clear HA;simp only [F3.j0] at H
   by_cases c9 : x18_1=true
   ·
    subst c9
    rw [if_pos rfl] at H;obtain rfl:=zU H
    go_wp2
    go_ret
    exact ⟨jG,jA9⟩
   replace c9:=yb.mpr c9;subst c9;rw [if_neg (show ¬ (false=true) by decide)] at H;have H':=zh H;clear H
   go_wp2_with (first|((with_reducible refine zK (N:=3) rfl ?_);(try (refine yy (by rfl) ?_;dsimp only));refine zI ?hg (N:=3) ?hd (cs:=#[.string (⟨#[]⟩ : ByteArray),.int .i64 0]) (t:=28) ?hr ?_;(case hd=>rfl);(case hg=>rfl);(case hr=>go_simp <;> rfl);intro gb361 hg w10 hbox hb;have BK361:=zh (hbox);have hH_:=cH jA9 hb hg;have GW361:=zh hH_.1;have GE361:=GW361;replace HB:=zh hH_.2;have NB358_361:=zh ((by rw [hg];exact yc (yi (g:=gb358) (o:=.cells #[.slice A0_0 l0_0.length c0_0,.int .i64 a0_1] 25 (0,0)) ji) : gb358≠gb361));have NB361_358:=zh NB358_361.out.symm;replace BK358:=zh (cD BK358.out ji hb);clear hb hbox hg hH_;have hnb11:=NB361_358.out;have hnc11:=NB358_361.out;obtain ⟨hcz12_0,hcz12_1,hfz12_0,hfz12_1⟩:=cB2 BK361.out))
   go_loopg [4] kj1 (fun kq v4 w' => ∃ (x4_2 : Int) (x362000_2 : ByteArray) (x362001_2 : Int),v4 = .int .i64 x4_2∧Aside0 (F3.l0 kq x4_2 l0_0 a0_1 x362000_2 x362001_2=some r)∧Aside0 (kq≤kj1)∧Aside0 (w'.heap[gb358]? = some (.cells #[(.slice A0_0 l0_0.length c0_0),.int .i64 a0_1] 25 (0,0)))∧Aside0 (w'.heap[gb361]? = some (.cells #[.string x362000_2,.int .i64 x362001_2] 28 (0,0)))∧Aside0 (Below w.heap.size w w'))
   case atStart=>exact ⟨(0),((⟨#[]⟩ : ByteArray)),((-1)),jD,H',⟨ye _⟩,⟨jCE⟩,⟨by (with_reducible repeat first|apply ze|apply zf|apply zg);refine zL (cs:=#[.string (⟨#[]⟩ : ByteArray),.int .i64 0]) ?_ 1 _ rfl;(with_reducible repeat first|apply ze|apply zf|apply zg);refine zL (cs:=#[.string (⟨#[]⟩ : ByteArray),.int .i64 0]) ?_ 0 _ rfl;(with_reducible repeat first|apply ze|apply zf|apply zg);exact BK361.out⟩,⟨jBn⟩⟩
   case round =>
    clear H'
    try clear c1 c2
    try clear p2
    try clear c4 c5 c9 c11
    try clear hcz12_0 hcz12_1
    try clear hcz7_0 hcz7_1
    try clear hcz8_0 hcz8_1
    try clear hfz12_0 hfz12_1
    try clear hfz7_0 hfz7_1
    try clear hfz8_0 hfz8_1
    try clear p2
    obtain ⟨x4_2,x362000_2,x362001_2,rfl,HA,HK2,BK358,BK361,HB⟩:=hrel
    cases gk with
    | zero=>exact absurd HA.out (by simp [F3.l0])
    | succ k2 =>
     have H:=HA.out;clear HA;simp only [F3.l0] at H
     by_cases c13 : x4_2<(l0_0.length : Int)
     ·
      rw [if_pos c13] at H
      have c13b0 : decide (x4_2<(l0_0.length : Int))=true:=decide_eq_true c13;clear c13
      by_cases c14 : 0≤x4_2
      ·
       rw [if_pos c14] at H
       have c14b0 : decide (0≤x4_2)=true:=decide_eq_true c14;clear c14;have HC15:=zh H;clear H;have hnb16:=NB358_361.out;have hnc16:=NB361_358.out;obtain ⟨hcz17_0,hcz17_1,hfz17_0,hfz17_1⟩:=cB2 BK358.out;have p362 : 0≤(x4_2 : Int):=zy jC;have q362 : x4_2<(l0_0.length : Int):=zy jC;obtain ⟨ad362,A362_1,c362_1,e362,hx362_0,hx362_1,hl362_1,hi362_1⟩:=at_T60 HR0_0.out x4_2 p362 q362
       cases e362
       replace hx362_0:=(HB.out.cell (zl w _ hx362_0)).trans hx362_0;replace hx362_1:=(HB.out.cell (zl w _ hx362_1)).trans hx362_1;have HR362_1:=zh hi362_1;have HC362_1:=zh hl362_1;clear hi362_1 hl362_1;replace p362:=eq_true p362;replace q362:=eq_true q362
       go_upto_region 8 with (first|((with_reducible refine zK (N:=5) rfl ?_);(try (refine yy (by rfl) ?_;dsimp only));refine zI ?hg (N:=5) ?hd (cs:=#[.int .i64 0,.slice none 0 0]) (t:=60) ?hr ?_;(case hd=>rfl);(case hg=>rfl);(case hr=>go_simp <;> rfl);intro gb363 hg w18 hbox hb;have BK363:=zh (hbox);have hH_:=cH jBn hb hg;have GW363:=zh hH_.1;have GE363:=GW363;replace HB:=zh hH_.2;have NB358_363:=zh ((by rw [hg];exact yc (yi (g:=gb358) (o:=.cells #[.slice (some ad362) l0_0.length c0_0,.int .i64 a0_1] 25 (0,0)) ji) : gb358≠gb363));have NB363_358:=zh NB358_363.out.symm;replace BK358:=zh (cD BK358.out ji hb);have NB361_363:=zh ((by rw [hg];exact yc (yi (g:=gb361) (o:=.cells #[.string x362000_2,.int .i64 x362001_2] 28 (0,0)) jt) : gb361≠gb363));have NB363_361:=zh NB361_363.out.symm;replace BK361:=zh (cD BK361.out jt hb);clear hb hbox hg hH_;have hnb19:=NB363_358.out;have hnc19:=NB358_363.out;have hnb20:=NB363_361.out;have hnc20:=NB361_363.out;obtain ⟨hcz21_0,hcz21_1,hfz21_0,hfz21_1⟩:=cB2 BK363.out))
       (try simp only [Act.put,zi,zj,zk])
       go_cut [56] (fun v56 wc => ∃ (kq : Nat) (x56_14 : Bool),v56 = .bool x56_14∧Aside0 (F3.j2 kq x4_2 x56_14 l0_0 a0_1 x362000_2 x362001_2 ((rd_T60 l0_0 x4_2).f0) ((rd_T60 l0_0 x4_2).f1)=some r)∧Aside0 (kq≤k2)∧Aside0 (wc.heap[gb358]? = some (.cells #[(.slice (some ad362) l0_0.length c0_0),.int .i64 a0_1] 25 (0,0)))∧Aside0 (wc.heap[gb361]? = some (.cells #[.string x362000_2,.int .i64 x362001_2] 28 (0,0)))∧Aside0 (wc.heap[gb363]? = some (.cells #[.int .i64 ((rd_T60 l0_0 x4_2).f0),(.slice A362_1 ((rd_T60 l0_0 x4_2).f1).length c362_1)] 60 (0,0)))∧Aside0 (Below w.heap.size w wc))
       case first =>
        have H:=HC15.out;clear HC15;replace H:=zT.mp H;obtain ⟨t364,A220,H⟩:=H;have A22:=zh A220;clear A220
        by_cases c23 : t364=true
        ·
         subst c23
         rw [if_pos rfl] at H
         by_cases c24 : (((rd_T60 l0_0 x4_2).f1).length : Int) > 4
         ·
          rw [if_pos c24] at H
          have c24b0 : decide (4<(((rd_T60 l0_0 x4_2).f1).length : Int))=true:=decide_eq_true c24;have c24b1 : decide (4<((rd_T60 l0_0 x4_2).f1).length)=true:=decide_eq_true jE;clear c24;(first|rw [c24b0]|(simp only [zG,zH];rw [c24b0])|skip);have H':=zh H;clear H;have hnb25:=NB363_358.out;have hnc25:=NB358_363.out;have hnb26:=NB363_361.out;have hnc26:=NB361_363.out;obtain ⟨hcz27_0,hcz27_1,hfz27_0,hfz27_1⟩:=cB2 BK363.out;have hnb28:=NB358_361.out;have hnc28:=NB361_358.out;obtain ⟨hcz29_0,hcz29_1,hfz29_0,hfz29_1⟩:=cB2 BK358.out
          go_wp2_with (first|((with_reducible refine zJ (f:=49) rfl ?_);refine yj (some 37) rfl rfl Try.func49 jA rfl #[.int .i64 ((rd_T60 l0_0 x4_2).f0),.int .i64 1,.int .i64 (wrap64 (a0_1 - 1))] rfl jF ?_;(with_reducible refine (Fr.calls  ((rd_T60 l0_0 x4_2).f0) 1 (wrap64 (a0_1 - 1)) true _ A22.out).mono ?_);rintro e w' ⟨rfl,⟨nd,rfl⟩⟩;refine ⟨_,rfl,?_⟩))
          go_meet
          case rel=>exact ⟨_,(true),jD,H',⟨jBA⟩,⟨jBB⟩,⟨jBC⟩,⟨jBD⟩,⟨jY⟩⟩
         rw [if_neg c24] at H;have c24b0 : decide (4<(((rd_T60 l0_0 x4_2).f1).length : Int))=false:=decide_eq_false c24;have c24b1 : decide (4<((rd_T60 l0_0 x4_2).f1).length)=false:=decide_eq_false jE;clear c24;(first|rw [c24b0]|(simp only [zG,zH];rw [c24b0])|skip)
         by_cases c30 : (((rd_T60 l0_0 x4_2).f1).length : Int)=0
         ·
          rw [if_pos c30] at H
          have c30b0 : ((((rd_T60 l0_0 x4_2).f1).length : Int) == 0)=true:=ya.mpr c30;have c30b1 : ((((rd_T60 l0_0 x4_2).f1).length : Int) != 0)=false:=zX.mpr c30;clear c30;have H':=zh H;clear H;have hnb31:=NB363_358.out;have hnc31:=NB358_363.out;have hnb32:=NB363_361.out;have hnc32:=NB361_363.out;obtain ⟨hcz33_0,hcz33_1,hfz33_0,hfz33_1⟩:=cB2 BK363.out;have hnb34:=NB358_361.out;have hnc34:=NB361_358.out;obtain ⟨hcz35_0,hcz35_1,hfz35_0,hfz35_1⟩:=cB2 BK358.out
          go_wp2_with (first|((with_reducible refine zJ (f:=49) rfl ?_);refine yj (some 37) rfl rfl Try.func49 jA rfl #[.int .i64 ((rd_T60 l0_0 x4_2).f0),.int .i64 1,.int .i64 (wrap64 (a0_1 - 1))] rfl jF ?_;(with_reducible refine (Fr.calls  ((rd_T60 l0_0 x4_2).f0) 1 (wrap64 (a0_1 - 1)) true _ A22.out).mono ?_);rintro e w' ⟨rfl,⟨nd,rfl⟩⟩;refine ⟨_,rfl,?_⟩))
          go_meet
          case rel=>exact ⟨_,(decide ((l0_0.length : Int) > 1)),jD,H',⟨jBA⟩,⟨jBB⟩,⟨jBC⟩,⟨jBD⟩,⟨jY⟩⟩
         rw [if_neg c30] at H;have c30b0 : ((((rd_T60 l0_0 x4_2).f1).length : Int) == 0)=false:=zY.mpr c30;have c30b1 : ((((rd_T60 l0_0 x4_2).f1).length : Int) != 0)=true:=zZ.mpr c30;have c30b2 : ¬ (((rd_T60 l0_0 x4_2).f1)=[]):=fun h_=>c30 (by rw [h_];rfl);have H':=zh H;clear H;have hnb36:=NB363_358.out;have hnc36:=NB358_363.out;have hnb37:=NB363_361.out;have hnc37:=NB361_363.out;obtain ⟨hcz38_0,hcz38_1,hfz38_0,hfz38_1⟩:=cB2 BK363.out;have hnb39:=NB358_361.out;have hnc39:=NB361_358.out;obtain ⟨hcz40_0,hcz40_1,hfz40_0,hfz40_1⟩:=cB2 BK358.out
         go_wp2_with (first|((with_reducible refine zJ (f:=49) rfl ?_);refine yj (some 37) rfl rfl Try.func49 jA rfl #[.int .i64 ((rd_T60 l0_0 x4_2).f0),.int .i64 1,.int .i64 (wrap64 (a0_1 - 1))] rfl jF ?_;(with_reducible refine (Fr.calls  ((rd_T60 l0_0 x4_2).f0) 1 (wrap64 (a0_1 - 1)) true _ A22.out).mono ?_);rintro e w' ⟨rfl,⟨nd,rfl⟩⟩;refine ⟨_,rfl,?_⟩))
         go_meet
         case rel=>exact ⟨_,(false),jD,H',⟨jBA⟩,⟨jBB⟩,⟨jBC⟩,⟨jBD⟩,⟨jY⟩⟩
        replace c23:=yb.mpr c23;subst c23;rw [if_neg (show ¬ (false=true) by decide)] at H;have H':=zh H;clear H;have hnb41:=NB363_358.out;have hnc41:=NB358_363.out;have hnb42:=NB363_361.out;have hnc42:=NB361_363.out;obtain ⟨hcz43_0,hcz43_1,hfz43_0,hfz43_1⟩:=cB2 BK363.out;have hnb44:=NB358_361.out;have hnc44:=NB361_358.out;obtain ⟨hcz45_0,hcz45_1,hfz45_0,hfz45_1⟩:=cB2 BK358.out
        go_wp2_with (first|((with_reducible refine zJ (f:=49) rfl ?_);refine yj (some 37) rfl rfl Try.func49 jA rfl #[.int .i64 ((rd_T60 l0_0 x4_2).f0),.int .i64 1,.int .i64 (wrap64 (a0_1 - 1))] rfl jF ?_;(with_reducible refine (Fr.calls  ((rd_T60 l0_0 x4_2).f0) 1 (wrap64 (a0_1 - 1)) false _ A22.out).mono ?_);rintro e w' ⟨rfl,⟨nd,rfl⟩⟩;refine ⟨_,rfl,?_⟩))
        go_meet
        case rel=>exact ⟨_,(true),jD,H',⟨jBA⟩,⟨jBB⟩,⟨jBC⟩,⟨jBD⟩,⟨jY⟩⟩
       case rest =>
        clear HC15
        try clear c1 c2
        try clear p2
        try clear c3
        try clear p3
        try clear q3
        try clear hx3
        try clear c4 c5
        try clear p6
        try clear c9 c11 c13 c13b0 c14 c14b0 c16 c19 c20 c23 c24 c24b0 c24b1 c25 c26 c28 c29 c30 c30b0 c30b1 c30b2 c31 c32 c34 c36
        try clear p36
        try clear q36
        try clear hx36
        try clear c37 c39 c41 c42 c44
        try clear hcz12_0 hcz12_1
        try clear hcz17_0 hcz17_1
        try clear hcz21_0 hcz21_1
        try clear hcz27_0 hcz27_1
        try clear hcz29_0 hcz29_1
        try clear hcz33_0 hcz33_1
        try clear hcz35_0 hcz35_1
        try clear hcz38_0 hcz38_1
        try clear hcz40_0 hcz40_1
        try clear hcz43_0 hcz43_1
        try clear hcz45_0 hcz45_1
        try clear hcz7_0 hcz7_1
        try clear hcz8_0 hcz8_1
        try clear hfz12_0 hfz12_1
        try clear hfz17_0 hfz17_1
        try clear hfz21_0 hfz21_1
        try clear hfz27_0 hfz27_1
        try clear hfz29_0 hfz29_1
        try clear hfz33_0 hfz33_1
        try clear hfz35_0 hfz35_1
        try clear hfz38_0 hfz38_1
        try clear hfz40_0 hfz40_1
        try clear hfz43_0 hfz43_1
        try clear hfz45_0 hfz45_1
        try clear hfz7_0 hfz7_1
        try clear hfz8_0 hfz8_1
        try clear hx362_0
        try clear hx362_1
        try clear p2
        try clear p362
        try clear q362
        obtain ⟨kq,x56_14,rfl,HA,HJ14,BK358,BK361,BK363,HB⟩:=hcut
        cases kq with
        | zero=>exact absurd HA.out (by simp [F3.j2])
        | succ kj14 =>
         have H:=HA.out;clear HA;simp only [F3.j2] at H
         by_cases c46 : x56_14=true
         ·
          subst c46
          rw [if_pos rfl] at H;obtain rfl:=zU H
          go_wp2
          go_ret
          exact ⟨jG,jY⟩
         replace c46:=yb.mpr c46;subst c46;rw [if_neg (show ¬ (false=true) by decide)] at H;have H':=zh H;clear H
         go_wp2
         go_loopg [6] kj14 (fun kq v6 w' => ∃ (x6_4 : Int),v6 = .int .i64 x6_4∧Aside0 (F3.l1 kq x4_2 x6_4 l0_0 a0_1 x362000_2 x362001_2 ((rd_T60 l0_0 x4_2).f0) ((rd_T60 l0_0 x4_2).f1)=some r)∧Aside0 (kq≤kj14)∧Aside0 (w'.heap[gb358]? = some (.cells #[(.slice (some ad362) l0_0.length c0_0),.int .i64 a0_1] 25 (0,0)))∧Aside0 (w'.heap[gb361]? = some (.cells #[.string x362000_2,.int .i64 x362001_2] 28 (0,0)))∧Aside0 (w'.heap[gb363]? = some (.cells #[.int .i64 ((rd_T60 l0_0 x4_2).f0),(.slice A362_1 ((rd_T60 l0_0 x4_2).f1).length c362_1)] 60 (0,0)))∧Aside0 (Below w.heap.size w w'))
         case atStart=>exact ⟨(0),jD,H',⟨ye _⟩,⟨ji⟩,⟨jt⟩,⟨jAP⟩,⟨jY⟩⟩
         case round =>
          clear H'
          try clear c1 c2
          try clear p2
          try clear c3
          try clear p3
          try clear q3
          try clear hx3
          try clear c4 c5
          try clear p6
          try clear c9 c11 c13 c13b0 c14 c14b0 c16 c19 c20 c23 c24 c24b0 c24b1 c25 c26 c28 c29 c30 c30b0 c30b1 c30b2 c31 c32 c34 c36
          try clear p36
          try clear q36
          try clear hx36
          try clear c37 c39 c41 c42 c44 c46
          try clear hcz12_0 hcz12_1
          try clear hcz17_0 hcz17_1
          try clear hcz21_0 hcz21_1
          try clear hcz27_0 hcz27_1
          try clear hcz29_0 hcz29_1
          try clear hcz33_0 hcz33_1
          try clear hcz35_0 hcz35_1
          try clear hcz38_0 hcz38_1
          try clear hcz40_0 hcz40_1
          try clear hcz43_0 hcz43_1
          try clear hcz45_0 hcz45_1
          try clear hcz7_0 hcz7_1
          try clear hcz8_0 hcz8_1
          try clear hfz12_0 hfz12_1
          try clear hfz17_0 hfz17_1
          try clear hfz21_0 hfz21_1
          try clear hfz27_0 hfz27_1
          try clear hfz29_0 hfz29_1
          try clear hfz33_0 hfz33_1
          try clear hfz35_0 hfz35_1
          try clear hfz38_0 hfz38_1
          try clear hfz40_0 hfz40_1
          try clear hfz43_0 hfz43_1
          try clear hfz45_0 hfz45_1
          try clear hfz7_0 hfz7_1
          try clear hfz8_0 hfz8_1
          try clear hx362_0
          try clear hx362_1
          try clear p2
          try clear p3
          try clear p36
          try clear p362
          try clear p6
          try clear q3
          try clear q36
          try clear q362
          obtain ⟨x6_4,rfl,HA,HK4,BK358,BK361,BK363,HB⟩:=hrel
          cases gk with
          | zero=>exact absurd HA.out (by simp [F3.l1])
          | succ k4 =>
           have H:=HA.out;clear HA;simp only [F3.l1] at H
           by_cases c47 : x6_4<x4_2
           ·
            rw [if_pos c47] at H
            have c47b0 : decide (x6_4<x4_2)=true:=decide_eq_true c47;clear c47
            by_cases c48 : 0≤x6_4
            ·
             rw [if_pos c48] at H
             have c48b0 : decide (0≤x6_4)=true:=decide_eq_true c48;clear c48
             by_cases c49 : x6_4<(l0_0.length : Int)
             ·
              rw [if_pos c49] at H
              have c49b0 : decide (x6_4<(l0_0.length : Int))=true:=decide_eq_true c49;clear c49
              by_cases c50 : ((rd_T60 l0_0 x6_4).f0)=((rd_T60 l0_0 x4_2).f0)
              ·
               rw [if_pos c50] at H
               have c50b0 : (((rd_T60 l0_0 x6_4).f0) == ((rd_T60 l0_0 x4_2).f0))=true:=ya.mpr c50;have c50b1 : (((rd_T60 l0_0 x6_4).f0) != ((rd_T60 l0_0 x4_2).f0))=false:=zX.mpr c50;clear c50;obtain rfl:=zU H
               try go_wp2
               replace BK358:=zh (zf BK358.out);replace BK361:=zh (zf BK361.out);replace BK363:=zh (zf BK363.out);replace HB:=zh (zc HB.out);have p365 : 0≤(x6_4 : Int):=zy jC;have q365 : x6_4<(l0_0.length : Int):=zy jC;obtain ⟨ad365,A365_1,c365_1,e365,hx365_0,hx365_1,hl365_1,hi365_1⟩:=at_T60 HR0_0.out x6_4 p365 q365;have hw365_1:=hx365_1;have hw365_0:=hx365_0;obtain rfl : ad362=ad365:=(by injection e365);replace hx365_0:=(HB.out.cell (zl w _ hx365_0)).trans hx365_0;replace hx365_1:=(HB.out.cell (zl w _ hx365_1)).trans hx365_1;have HR365_1:=zh hi365_1;have HC365_1:=zh hl365_1;clear hi365_1 hl365_1;replace p365:=eq_true p365;replace q365:=eq_true q365;refine start_ (n:=9) (S:=fun w' => w'.cell? ⟨gb358,0,none⟩=some (.slice (some ad362) l0_0.length c0_0)∧w'.cell? ⟨gb358,1,none⟩=some (.int .i64 a0_1)∧w'.cell? ⟨gb363,0,none⟩=some (.int .i64 ((rd_T60 l0_0 x4_2).f0))∧w'.cell? ⟨gb363,1,none⟩=some (.slice A362_1 ((rd_T60 l0_0 x4_2).f1).length c362_1)∧w'.cell? (ad362.add ((x6_4).toNat*2))=some (.int .i64 ((rd_T60 l0_0 x6_4).f0))∧w'.cell? ⟨(ad362.add ((x6_4).toNat*2)).block,(ad362.add ((x6_4).toNat*2)).off+1,none⟩=some (.slice A365_1 ((rd_T60 l0_0 x6_4).f1).length c365_1)) (ds:=[]) (bm_ 0 9) jA rfl rfl ⟨(zz BK358.out 0).trans rfl,(zz BK358.out 1).trans rfl,(zz BK363.out 0).trans rfl,(zz BK363.out 1).trans rfl,((HB.out.cell (zl w _ hw365_0)).trans hw365_0),((HB.out.cell (zl w _ hw365_1)).trans hw365_1)⟩ (fun hHeld=>?_);refine with_tabW F3.tab13 F3.bits13 (fun HT_ HW_=>?_);generalize wr.drew=w51 at BK358 BK361 BK363 HB HR365_1 hx365_0 hx365_1 hHeld ⊢;refine pure_ (i:=0) (N:=some 62) (v:=?_) (a':=?_) (bm_ 1 9) rfl rfl (any_of HT_.out jA) (fun _ _ _ h=>h) (Or.inl ⟨by rfl,?_⟩) ?_ ?_;rotate_left;exact jb;rotate_left;exact jc
               refine pure_ (i:=2) (N:=some 64) (v:=?_) (a':=?_) #[true,false,true,false,false,false,false,false,false] rfl rfl (any_of HT_.out jA) (fun _ _ _ h=>h) (Or.inl ⟨by rfl,?_⟩) ?_ ?_;rotate_left;exact jb;rotate_left;exact jc
               refine pure_ (i:=6) (N:=some 68) (v:=?_) (a':=?_) #[true,false,true,false,false,false,true,false,false] rfl rfl (any_of HT_.out jA) (fun _ _ _ h=>h) (Or.inl ⟨by rfl,?_⟩) ?_ ?_;rotate_left;exact jb;rotate_left;exact jc
               refine take_ (i:=1) (N:=some 63) (v:=?_) (a':=?_) #[true,true,true,false,false,false,true,false,false] rfl rfl (yo HT_.out HW_.out jA) (fun _ _ _ h=>h) (Or.inl ⟨by rfl,?_⟩) hHeld ?_ ?_;rotate_left
               ·
                rintro w' ⟨s0,s1,s2,s3,s4,s5⟩
                go_simp
                with_reducible rfl
               rotate_left
               exact jc
               refine pure_ (i:=3) (N:=some 65) (v:=?_) (a':=?_) #[true,true,true,true,false,false,true,false,false] rfl rfl (any_of HT_.out jA) (fun _ _ _ h=>h) (Or.inl ⟨by rfl,?_⟩) ?_ ?_;rotate_left;exact jb;rotate_left;exact jc
               refine pure_ (i:=4) (N:=some 66) (v:=?_) (a':=?_) #[true,true,true,true,true,false,true,false,false] rfl rfl (any_of HT_.out jA) (fun _ _ _ h=>h) (Or.inl ⟨by rfl,?_⟩) ?_ ?_;rotate_left;exact jb;rotate_left;exact jc
               refine take_ (i:=5) (N:=some 67) (v:=?_) (a':=?_) (bm_ 7 9) rfl rfl (yo HT_.out HW_.out jA) (fun _ _ _ h=>h) (Or.inl ⟨by rfl,?_⟩) hHeld ?_ ?_;rotate_left
               ·
                rintro w' ⟨s0,s1,s2,s3,s4,s5⟩
                go_simp
                with_reducible rfl
               rotate_left
               exact jc
               refine take_ (i:=7) (N:=some 69) (v:=?_) (a':=?_) (bm_ 8 9) rfl rfl (yo HT_.out HW_.out jA) (fun _ _ _ h=>h) (Or.inl ⟨by rfl,?_⟩) hHeld ?_ ?_;rotate_left
               ·
                rintro w' ⟨s0,s1,s2,s3,s4,s5⟩
                go_simp
                with_reducible rfl
               rotate_left
               exact jc
               refine pure_ (i:=8) (N:=some 70) (v:=?_) (a':=?_) (bm_ 9 9) rfl rfl (any_of HT_.out jA) (fun _ _ _ h=>h) (Or.inl ⟨by rfl,?_⟩) ?_ ?_;rotate_left;exact jb;rotate_left;exact jc
               refine done_ (done_of HT_.out jA) ?_
               try go_wp2
               go_ret
               exact ⟨jG,jY⟩
              rw [if_neg c50] at H;have c50b0 : (((rd_T60 l0_0 x6_4).f0) == ((rd_T60 l0_0 x4_2).f0))=false:=zY.mpr c50;have c50b1 : (((rd_T60 l0_0 x6_4).f0) != ((rd_T60 l0_0 x4_2).f0))=true:=zZ.mpr c50;have H':=zh H;clear H
              try go_wp2
              replace BK358:=zh (zf BK358.out);replace BK361:=zh (zf BK361.out);replace BK363:=zh (zf BK363.out);replace HB:=zh (zc HB.out);have p365 : 0≤(x6_4 : Int):=zy jC;have q365 : x6_4<(l0_0.length : Int):=zy jC;obtain ⟨ad365,A365_1,c365_1,e365,hx365_0,hx365_1,hl365_1,hi365_1⟩:=at_T60 HR0_0.out x6_4 p365 q365;have hw365_1:=hx365_1;have hw365_0:=hx365_0;obtain rfl : ad362=ad365:=(by injection e365);replace hx365_0:=(HB.out.cell (zl w _ hx365_0)).trans hx365_0;replace hx365_1:=(HB.out.cell (zl w _ hx365_1)).trans hx365_1;have HR365_1:=zh hi365_1;have HC365_1:=zh hl365_1;clear hi365_1 hl365_1;replace p365:=eq_true p365;replace q365:=eq_true q365;refine start_ (n:=9) (S:=fun w' => w'.cell? ⟨gb358,0,none⟩=some (.slice (some ad362) l0_0.length c0_0)∧w'.cell? ⟨gb358,1,none⟩=some (.int .i64 a0_1)∧w'.cell? ⟨gb363,0,none⟩=some (.int .i64 ((rd_T60 l0_0 x4_2).f0))∧w'.cell? ⟨gb363,1,none⟩=some (.slice A362_1 ((rd_T60 l0_0 x4_2).f1).length c362_1)∧w'.cell? (ad362.add ((x6_4).toNat*2))=some (.int .i64 ((rd_T60 l0_0 x6_4).f0))∧w'.cell? ⟨(ad362.add ((x6_4).toNat*2)).block,(ad362.add ((x6_4).toNat*2)).off+1,none⟩=some (.slice A365_1 ((rd_T60 l0_0 x6_4).f1).length c365_1)) (ds:=[]) (bm_ 0 9) jA rfl rfl ⟨(zz BK358.out 0).trans rfl,(zz BK358.out 1).trans rfl,(zz BK363.out 0).trans rfl,(zz BK363.out 1).trans rfl,((HB.out.cell (zl w _ hw365_0)).trans hw365_0),((HB.out.cell (zl w _ hw365_1)).trans hw365_1)⟩ (fun hHeld=>?_);refine with_tabW F3.tab13 F3.bits13 (fun HT_ HW_=>?_);generalize wr.drew=w52 at BK358 BK361 BK363 HB HR365_1 hx365_0 hx365_1 hHeld ⊢;refine pure_ (i:=0) (N:=some 62) (v:=?_) (a':=?_) (bm_ 1 9) rfl rfl (any_of HT_.out jA) (fun _ _ _ h=>h) (Or.inl ⟨by rfl,?_⟩) ?_ ?_;rotate_left;exact jb;rotate_left;exact jc
              refine pure_ (i:=2) (N:=some 64) (v:=?_) (a':=?_) #[true,false,true,false,false,false,false,false,false] rfl rfl (any_of HT_.out jA) (fun _ _ _ h=>h) (Or.inl ⟨by rfl,?_⟩) ?_ ?_;rotate_left;exact jb;rotate_left;exact jc
              refine pure_ (i:=6) (N:=some 68) (v:=?_) (a':=?_) #[true,false,true,false,false,false,true,false,false] rfl rfl (any_of HT_.out jA) (fun _ _ _ h=>h) (Or.inl ⟨by rfl,?_⟩) ?_ ?_;rotate_left;exact jb;rotate_left;exact jc
              refine take_ (i:=1) (N:=some 63) (v:=?_) (a':=?_) #[true,true,true,false,false,false,true,false,false] rfl rfl (yo HT_.out HW_.out jA) (fun _ _ _ h=>h) (Or.inl ⟨by rfl,?_⟩) hHeld ?_ ?_;rotate_left
              ·
               rintro w' ⟨s0,s1,s2,s3,s4,s5⟩
               go_simp
               with_reducible rfl
              rotate_left
              exact jc
              refine pure_ (i:=3) (N:=some 65) (v:=?_) (a':=?_) #[true,true,true,true,false,false,true,false,false] rfl rfl (any_of HT_.out jA) (fun _ _ _ h=>h) (Or.inl ⟨by rfl,?_⟩) ?_ ?_;rotate_left;exact jb;rotate_left;exact jc
              refine pure_ (i:=4) (N:=some 66) (v:=?_) (a':=?_) #[true,true,true,true,true,false,true,false,false] rfl rfl (any_of HT_.out jA) (fun _ _ _ h=>h) (Or.inl ⟨by rfl,?_⟩) ?_ ?_;rotate_left;exact jb;rotate_left;exact jc
              refine take_ (i:=5) (N:=some 67) (v:=?_) (a':=?_) (bm_ 7 9) rfl rfl (yo HT_.out HW_.out jA) (fun _ _ _ h=>h) (Or.inl ⟨by rfl,?_⟩) hHeld ?_ ?_;rotate_left
              ·
               rintro w' ⟨s0,s1,s2,s3,s4,s5⟩
               go_simp
               with_reducible rfl
              rotate_left
              exact jc
              refine take_ (i:=7) (N:=some 69) (v:=?_) (a':=?_) (bm_ 8 9) rfl rfl (yo HT_.out HW_.out jA) (fun _ _ _ h=>h) (Or.inl ⟨by rfl,?_⟩) hHeld ?_ ?_;rotate_left
              ·
               rintro w' ⟨s0,s1,s2,s3,s4,s5⟩
               go_simp
               with_reducible rfl
              rotate_left
              exact jc
              refine pure_ (i:=8) (N:=some 70) (v:=?_) (a':=?_) (bm_ 9 9) rfl rfl (any_of HT_.out jA) (fun _ _ _ h=>h) (Or.inl ⟨by rfl,?_⟩) ?_ ?_;rotate_left;exact jb;rotate_left;exact jc
              refine done_ (done_of HT_.out jA) ?_
              try go_wp2
              go_roundg k4
              case measure=>have:=HJ1.out;have:=HK2.out;have:=HJ14.out;have:=HK4.out;omega
              case rel=>exact ⟨(wrap64 (x6_4+1)),jD,H',⟨by have:=HJ1.out;have:=HK2.out;have:=HJ14.out;have:=HK4.out;omega⟩,⟨ji⟩,⟨jt⟩,⟨jAP⟩,⟨jY⟩⟩
             rw [if_neg c49] at H;exact absurd H (by simp)
            rw [if_neg c48] at H;exact absurd H (by simp)
           rw [if_neg c47] at H;have c47b0 : decide (x6_4<x4_2)=false:=decide_eq_false c47;clear c47;have H':=zh H;clear H
           go_wp2
           go_loopg [7] k4 (fun kq v7 w' => ∃ (x7_5 : Int) (x362000_5 : ByteArray) (x362001_5 : Int),v7 = .int .i64 x7_5∧Aside0 (F3.l2 kq x4_2 x7_5 l0_0 a0_1 x362000_5 x362001_5 ((rd_T60 l0_0 x4_2).f0) ((rd_T60 l0_0 x4_2).f1)=some r)∧Aside0 (kq≤k4)∧Aside0 (w'.heap[gb358]? = some (.cells #[(.slice (some ad362) l0_0.length c0_0),.int .i64 a0_1] 25 (0,0)))∧Aside0 (w'.heap[gb361]? = some (.cells #[.string x362000_5,.int .i64 x362001_5] 28 (0,0)))∧Aside0 (w'.heap[gb363]? = some (.cells #[.int .i64 ((rd_T60 l0_0 x4_2).f0),(.slice A362_1 ((rd_T60 l0_0 x4_2).f1).length c362_1)] 60 (0,0)))∧Aside0 (Below w.heap.size w w'))
           case atStart=>exact ⟨(0),(x362000_2),(x362001_2),jD,H',⟨ye _⟩,⟨ji⟩,⟨jt⟩,⟨jAP⟩,⟨jY⟩⟩
           case round =>
            clear H'
            try clear c1 c2
            try clear p2
            try clear c3
            try clear p3
            try clear q3
            try clear hx3
            try clear c4 c5
            try clear p6
            try clear c9 c11 c13 c13b0 c14 c14b0 c16 c19 c20 c23 c24 c24b0 c24b1 c25 c26 c28 c29 c30 c30b0 c30b1 c30b2 c31 c32 c34 c36
            try clear p36
            try clear q36
            try clear hx36
            try clear c37 c39 c41 c42 c44 c46 c47 c47b0 c48 c48b0 c49 c49b0 c50 c50b0 c50b1
            try clear hcz12_0 hcz12_1
            try clear hcz17_0 hcz17_1
            try clear hcz21_0 hcz21_1
            try clear hcz27_0 hcz27_1
            try clear hcz29_0 hcz29_1
            try clear hcz33_0 hcz33_1
            try clear hcz35_0 hcz35_1
            try clear hcz38_0 hcz38_1
            try clear hcz40_0 hcz40_1
            try clear hcz43_0 hcz43_1
            try clear hcz45_0 hcz45_1
            try clear hcz7_0 hcz7_1
            try clear hcz8_0 hcz8_1
            try clear hfz12_0 hfz12_1
            try clear hfz17_0 hfz17_1
            try clear hfz21_0 hfz21_1
            try clear hfz27_0 hfz27_1
            try clear hfz29_0 hfz29_1
            try clear hfz33_0 hfz33_1
            try clear hfz35_0 hfz35_1
            try clear hfz38_0 hfz38_1
            try clear hfz40_0 hfz40_1
            try clear hfz43_0 hfz43_1
            try clear hfz45_0 hfz45_1
            try clear hfz7_0 hfz7_1
            try clear hfz8_0 hfz8_1
            try clear hx362_0
            try clear hx362_1
            try clear hx365_0
            try clear hx365_1
            try clear p2
            try clear p3
            try clear p36
            try clear p362
            try clear p365
            try clear p6
            try clear q3
            try clear q36
            try clear q362
            try clear q365
            obtain ⟨x7_5,x362000_5,x362001_5,rfl,HA,HK5,BK358,BK361,BK363,HB⟩:=hrel
            cases gk with
            | zero=>exact absurd HA.out (by simp [F3.l2])
            | succ k5 =>
             have H:=HA.out;clear HA;simp only [F3.l2] at H
             by_cases c53 : x7_5<(((rd_T60 l0_0 x4_2).f1).length : Int)
             ·
              rw [if_pos c53] at H
              have c53b0 : decide (x7_5<(((rd_T60 l0_0 x4_2).f1).length : Int))=true:=decide_eq_true c53;clear c53
              by_cases c54 : 0≤x7_5
              ·
               rw [if_pos c54] at H
               have c54b0 : decide (0≤x7_5)=true:=decide_eq_true c54;clear c54;replace H:=zT.mp H;obtain ⟨t367,A550,H⟩:=H;have A55:=zh A550;clear A550
               by_cases c56 : t367=true
               ·
                subst c56
                rw [if_pos rfl] at H;replace H:=zT.mp H;obtain ⟨t369,A570,H⟩:=H;have A57:=zh A570;clear A570
                by_cases c58 : t369=true
                ·
                 subst c58
                 rw [if_pos rfl] at H;have H':=zh H;clear H;have hnb59:=NB363_358.out;have hnc59:=NB358_363.out;have hnb60:=NB363_361.out;have hnc60:=NB361_363.out;obtain ⟨hcz61_0,hcz61_1,hfz61_0,hfz61_1⟩:=cB2 BK363.out
                 try go_wp2
                 replace BK358:=zh (zf BK358.out);replace BK361:=zh (zf BK361.out);replace BK363:=zh (zf BK363.out);replace HB:=zh (zc HB.out);have p366 : 0≤(x7_5 : Int):=zy jC;have q366 : x7_5<(((rd_T60 l0_0 x4_2).f1).length : Int):=zy jC;obtain ⟨ad366,e366,hx366_0,hx366_1⟩:=at_T28 HR362_1.out x7_5 p366 q366;have hw366_1:=hx366_1;have hw366_0:=hx366_0
                 cases e366
                 replace hx366_0:=(HB.out.cell (zl w _ hx366_0)).trans hx366_0;replace hx366_1:=(HB.out.cell (zl w _ hx366_1)).trans hx366_1;replace p366:=eq_true p366;replace q366:=eq_true q366;have p368 : 0≤(x7_5 : Int):=zy jC;have q368 : x7_5<(((rd_T60 l0_0 x4_2).f1).length : Int):=zy jC;obtain ⟨ad368,e368,hx368_0,hx368_1⟩:=at_T28 HR362_1.out x7_5 p368 q368;have hw368_1:=hx368_1;have hw368_0:=hx368_0;obtain rfl : ad366=ad368:=(by injection e368);replace hx368_0:=(HB.out.cell (zl w _ hx368_0)).trans hx368_0;replace hx368_1:=(HB.out.cell (zl w _ hx368_1)).trans hx368_1;replace p368:=eq_true p368;replace q368:=eq_true q368;refine start_ (n:=17) (S:=fun w' => w'.cell? ⟨gb363,0,none⟩=some (.int .i64 ((rd_T60 l0_0 x4_2).f0))∧w'.cell? ⟨gb363,1,none⟩=some (.slice (some ad366) ((rd_T60 l0_0 x4_2).f1).length c362_1)∧w'.cell? ⟨gb361,0,none⟩=some (.string x362000_5)∧w'.cell? ⟨gb361,1,none⟩=some (.int .i64 x362001_5)∧w'.cell? (ad366.add ((x7_5).toNat*2))=some (.string ((rd_T28 ((rd_T60 l0_0 x4_2).f1) x7_5).f0))∧w'.cell? ⟨(ad366.add ((x7_5).toNat*2)).block,(ad366.add ((x7_5).toNat*2)).off+1,none⟩=some (.int .i64 ((rd_T28 ((rd_T60 l0_0 x4_2).f1) x7_5).f1))∧w'.cell? (ad366.add ((x7_5).toNat*2))=some (.string ((rd_T28 ((rd_T60 l0_0 x4_2).f1) x7_5).f0))∧w'.cell? ⟨(ad366.add ((x7_5).toNat*2)).block,(ad366.add ((x7_5).toNat*2)).off+1,none⟩=some (.int .i64 ((rd_T28 ((rd_T60 l0_0 x4_2).f1) x7_5).f1))) (ds:=[]) (bm_ 0 17) jA rfl rfl ⟨(zz BK363.out 0).trans rfl,(zz BK363.out 1).trans rfl,(zz BK361.out 0).trans rfl,(zz BK361.out 1).trans rfl,((HB.out.cell (zl w _ hw366_0)).trans hw366_0),((HB.out.cell (zl w _ hw366_1)).trans hw366_1),((HB.out.cell (zl w _ hw368_0)).trans hw368_0),((HB.out.cell (zl w _ hw368_1)).trans hw368_1)⟩ (fun hHeld=>?_);refine with_tabW F3.tab18 F3.bits18 (fun HT_ HW_=>?_);generalize wr.drew=w62 at BK358 BK361 BK363 HB hx366_0 hx366_1 hx368_0 hx368_1 hHeld ⊢;refine pure_ (i:=0) (N:=some 78) (v:=?_) (a':=?_) (bm_ 1 17) rfl rfl (any_of HT_.out jA) (fun _ _ _ h=>h) (Or.inl ⟨by rfl,?_⟩) ?_ ?_;rotate_left;exact jb;rotate_left;exact jc
                 refine pure_ (i:=2) (N:=some 80) (v:=?_) (a':=?_) #[true,false,true,false,false,false,false,false,false,false,false,false,false,false,false,false,false] rfl rfl (any_of HT_.out jA) (fun _ _ _ h=>h) (Or.inl ⟨by rfl,?_⟩) ?_ ?_;rotate_left;exact jb;rotate_left;exact jc
                 refine take_ (i:=1) (N:=some 79) (v:=?_) (a':=?_) (bm_ 3 17) rfl rfl (yo HT_.out HW_.out jA) (fun _ _ _ h=>h) (Or.inl ⟨by rfl,?_⟩) hHeld ?_ ?_;rotate_left
                 ·
                  rintro w' ⟨s0,s1,s2,s3,s4,s5,s6,s7⟩
                  go_simp
                  with_reducible rfl
                 rotate_left
                 exact jc
                 refine pure_ (i:=3) (N:=some 81) (v:=?_) (a':=?_) (bm_ 4 17) rfl rfl (any_of HT_.out jA) (fun _ _ _ h=>h) (Or.inl ⟨by rfl,?_⟩) ?_ ?_;rotate_left;exact jb;rotate_left;exact jc
                 refine take_ (i:=4) (N:=some 82) (v:=?_) (a':=?_) (bm_ 5 17) rfl rfl (yo HT_.out HW_.out jA) (fun _ _ _ h=>h) (Or.inl ⟨by rfl,?_⟩) hHeld ?_ ?_;rotate_left
                 ·
                  rintro w' ⟨s0,s1,s2,s3,s4,s5,s6,s7⟩
                  go_simp
                  with_reducible rfl
                 rotate_left
                 exact jc
                 refine one_ (i:=5) (N:=some 83) (bm_ 6 17) rfl rfl (one_of HT_.out jA) jB (fun K hK=>?_);refine goes_ Try.func35 jA rfl #[.agg #[.string ((rd_T28 ((rd_T60 l0_0 x4_2).f1) x7_5).f0),.int .i64 ((rd_T28 ((rd_T60 l0_0 x4_2).f1) x7_5).f1)]] (by rfl) rfl rfl jF ?_
                 with_reducible refine (F08.calls  ((rd_T28 ((rd_T60 l0_0 x4_2).f1) x7_5).f0) ((rd_T28 ((rd_T60 l0_0 x4_2).f1) x7_5).f1) true _ A55.out).mono ?_
                 rintro e w63 ⟨rfl,hb⟩;refine ⟨_,rfl,?_⟩;replace BK358:=zh (cD BK358.out ji hb);replace BK361:=zh (cD BK361.out jt hb);replace BK363:=zh (cD BK363.out jAP hb);replace HB:=zh (zC jY hb);(try clear hb);(try clear hb2);(try clear hk);(try clear hi);refine hK.out _ _ ⟨(zz BK363.out 0).trans rfl,(zz BK363.out 1).trans rfl,(zz BK361.out 0).trans rfl,(zz BK361.out 1).trans rfl,((HB.out.cell (zl w _ hw366_0)).trans hw366_0),((HB.out.cell (zl w _ hw366_1)).trans hw366_1),((HB.out.cell (zl w _ hw368_0)).trans hw368_0),((HB.out.cell (zl w _ hw368_1)).trans hw368_1)⟩ (fun hHeld=>?_);clear hK K;refine norm_ (a':=?_) ?_ ?_;rotate_left
                 ·
                  show Act.put _ (some 83) _=_
                  simp only [Act.put,zi,zj,zk,zG,zH]
                  rfl
                 refine pure_ (i:=6) (N:=some 84) (v:=?_) (a':=?_) (bm_ 7 17) rfl rfl (any_of HT_.out jA) (fun _ _ _ h=>h) (Or.inl ⟨by rfl,?_⟩) ?_ ?_;rotate_left;exact jb;rotate_left;exact jc
                 refine pure_ (i:=7) (N:=some 85) (v:=?_) (a':=?_) (bm_ 8 17) rfl rfl (any_of HT_.out jA) (fun _ _ _ h=>h) (Or.inl ⟨by rfl,?_⟩) ?_ ?_;rotate_left;exact jb;rotate_left;exact jc
                 refine pure_ (i:=9) (N:=some 87) (v:=?_) (a':=?_) #[true,true,true,true,true,true,true,true,false,true,false,false,false,false,false,false,false] rfl rfl (any_of HT_.out jA) (fun _ _ _ h=>h) (Or.inl ⟨by rfl,?_⟩) ?_ ?_;rotate_left;exact jb;rotate_left;exact jc
                 refine pure_ (i:=11) (N:=some 89) (v:=?_) (a':=?_) #[true,true,true,true,true,true,true,true,false,true,false,true,false,false,false,false,false] rfl rfl (any_of HT_.out jA) (fun _ _ _ h=>h) (Or.inl ⟨by rfl,?_⟩) ?_ ?_;rotate_left;exact jb;rotate_left;exact jc
                 refine take_ (i:=8) (N:=some 86) (v:=?_) (a':=?_) #[true,true,true,true,true,true,true,true,true,true,false,true,false,false,false,false,false] rfl rfl (yo HT_.out HW_.out jA) (fun _ _ _ h=>h) (Or.inl ⟨by rfl,?_⟩) hHeld ?_ ?_;rotate_left
                 ·
                  rintro w' ⟨s0,s1,s2,s3,s4,s5,s6,s7⟩
                  go_simp
                  with_reducible rfl
                 rotate_left
                 exact jc
                 refine take_ (i:=10) (N:=some 88) (v:=?_) (a':=?_) (bm_ 12 17) rfl rfl (yo HT_.out HW_.out jA) (fun _ _ _ h=>h) (Or.inl ⟨by rfl,?_⟩) hHeld ?_ ?_;rotate_left
                 ·
                  rintro w' ⟨s0,s1,s2,s3,s4,s5,s6,s7⟩
                  go_simp
                  with_reducible rfl
                 rotate_left
                 exact jc
                 refine pure_ (i:=12) (N:=some 90) (v:=?_) (a':=?_) (bm_ 13 17) rfl rfl (any_of HT_.out jA) (fun _ _ _ h=>h) (Or.inl ⟨by rfl,?_⟩) ?_ ?_;rotate_left;exact jb;rotate_left;exact jc
                 refine take_ (i:=13) (N:=some 91) (v:=?_) (a':=?_) (bm_ 14 17) rfl rfl (yo HT_.out HW_.out jA) (fun _ _ _ h=>h) (Or.inl ⟨by rfl,?_⟩) hHeld ?_ ?_;rotate_left
                 ·
                  rintro w' ⟨s0,s1,s2,s3,s4,s5,s6,s7⟩
                  go_simp
                  with_reducible rfl
                 rotate_left
                 exact jc
                 refine one_ (i:=14) (N:=some 92) (bm_ 15 17) rfl rfl (one_of HT_.out jA) jB (fun K hK=>?_);refine goes_ Try.func50 jA rfl #[.agg #[.string x362000_5,.int .i64 x362001_5],.agg #[.string ((rd_T28 ((rd_T60 l0_0 x4_2).f1) x7_5).f0),.int .i64 ((rd_T28 ((rd_T60 l0_0 x4_2).f1) x7_5).f1)]] (by rfl) rfl rfl jF ?_
                 with_reducible refine (F01.calls  x362000_5 x362001_5 ((rd_T28 ((rd_T60 l0_0 x4_2).f1) x7_5).f0) ((rd_T28 ((rd_T60 l0_0 x4_2).f1) x7_5).f1) true _ A57.out).mono ?_
                 rintro e w64 ⟨rfl,hb⟩;refine ⟨_,rfl,?_⟩;replace BK358:=zh (cD BK358.out ji hb);replace BK361:=zh (cD BK361.out jt hb);replace BK363:=zh (cD BK363.out jAP hb);replace HB:=zh (zC jY hb);(try clear hb);(try clear hb2);(try clear hk);(try clear hi);refine hK.out _ _ ⟨(zz BK363.out 0).trans rfl,(zz BK363.out 1).trans rfl,(zz BK361.out 0).trans rfl,(zz BK361.out 1).trans rfl,((HB.out.cell (zl w _ hw366_0)).trans hw366_0),((HB.out.cell (zl w _ hw366_1)).trans hw366_1),((HB.out.cell (zl w _ hw368_0)).trans hw368_0),((HB.out.cell (zl w _ hw368_1)).trans hw368_1)⟩ (fun hHeld=>?_);clear hK K;refine norm_ (a':=?_) ?_ ?_;rotate_left
                 ·
                  show Act.put _ (some 92) _=_
                  simp only [Act.put,zi,zj,zk,zG,zH]
                  rfl
                 refine pure_ (i:=15) (N:=some 93) (v:=?_) (a':=?_) (bm_ 16 17) rfl rfl (any_of HT_.out jA) (fun _ _ _ h=>h) (Or.inl ⟨by rfl,?_⟩) ?_ ?_;rotate_left;exact jb;rotate_left;exact jc
                 refine pure_ (i:=16) (N:=some 94) (v:=?_) (a':=?_) (bm_ 17 17) rfl rfl (any_of HT_.out jA) (fun _ _ _ h=>h) (Or.inl ⟨by rfl,?_⟩) ?_ ?_;rotate_left;exact jb;rotate_left;exact jc
                 refine done_ (done_of HT_.out jA) ?_;obtain ⟨hcz65_0,hcz65_1,hfz65_0,hfz65_1⟩:=cB2 BK363.out;have p370 : 0≤(x7_5 : Int):=zy jC;have q370 : x7_5<(((rd_T60 l0_0 x4_2).f1).length : Int):=zy jC;obtain ⟨ad370,e370,hx370_0,hx370_1⟩:=at_T28 HR362_1.out x7_5 p370 q370;obtain rfl : ad366=ad370:=(by injection e370);replace hx370_0:=(HB.out.cell (zl w _ hx370_0)).trans hx370_0;replace hx370_1:=(HB.out.cell (zl w _ hx370_1)).trans hx370_1;replace p370:=eq_true p370;replace q370:=eq_true q370;have hnb66:=NB361_358.out;have hnc66:=NB358_361.out;obtain ⟨hcz67_0,hcz67_1,hfz67_0,hfz67_1⟩:=cB2 BK361.out
                 try go_wp2
                 go_roundg k5
                 case measure=>have:=HJ1.out;have:=HK2.out;have:=HJ14.out;have:=HK4.out;have:=HK5.out;omega
                 case rel=>exact ⟨(wrap64 (x7_5+1)),((rd_T28 ((rd_T60 l0_0 x4_2).f1) x7_5).f0),((rd_T28 ((rd_T60 l0_0 x4_2).f1) x7_5).f1),jD,H',⟨jCF⟩,⟨jCE⟩,⟨by (with_reducible repeat first|apply ze|apply zf|apply zg);refine zL (cs:=#[.string ((rd_T28 ((rd_T60 l0_0 x4_2).f1) x7_5).f0),.int .i64 x362001_5]) ?_ 1 _ rfl;(with_reducible repeat first|apply ze|apply zf|apply zg);refine zL (cs:=#[.string x362000_5,.int .i64 x362001_5]) ?_ 0 _ rfl;(with_reducible repeat first|apply ze|apply zf|apply zg);exact BK361.out⟩,⟨by (with_reducible repeat first|apply ze|apply zf|apply zg);refine cS2 ?_ NB363_361.out;(with_reducible repeat first|apply ze|apply zf|apply zg);exact BK363.out⟩,⟨jY⟩⟩
                replace c58:=yb.mpr c58;subst c58;rw [if_neg (show ¬ (false=true) by decide)] at H;obtain rfl:=zU H;have hnb68:=NB363_358.out;have hnc68:=NB358_363.out;have hnb69:=NB363_361.out;have hnc69:=NB361_363.out;obtain ⟨hcz70_0,hcz70_1,hfz70_0,hfz70_1⟩:=cB2 BK363.out
                try go_wp2
                replace BK358:=zh (zf BK358.out);replace BK361:=zh (zf BK361.out);replace BK363:=zh (zf BK363.out);replace HB:=zh (zc HB.out);have p366 : 0≤(x7_5 : Int):=zy jC;have q366 : x7_5<(((rd_T60 l0_0 x4_2).f1).length : Int):=zy jC;obtain ⟨ad366,e366,hx366_0,hx366_1⟩:=at_T28 HR362_1.out x7_5 p366 q366;have hw366_1:=hx366_1;have hw366_0:=hx366_0
                cases e366
                replace hx366_0:=(HB.out.cell (zl w _ hx366_0)).trans hx366_0;replace hx366_1:=(HB.out.cell (zl w _ hx366_1)).trans hx366_1;replace p366:=eq_true p366;replace q366:=eq_true q366;have p368 : 0≤(x7_5 : Int):=zy jC;have q368 : x7_5<(((rd_T60 l0_0 x4_2).f1).length : Int):=zy jC;obtain ⟨ad368,e368,hx368_0,hx368_1⟩:=at_T28 HR362_1.out x7_5 p368 q368;have hw368_1:=hx368_1;have hw368_0:=hx368_0;obtain rfl : ad366=ad368:=(by injection e368);replace hx368_0:=(HB.out.cell (zl w _ hx368_0)).trans hx368_0;replace hx368_1:=(HB.out.cell (zl w _ hx368_1)).trans hx368_1;replace p368:=eq_true p368;replace q368:=eq_true q368;refine start_ (n:=17) (S:=fun w' => w'.cell? ⟨gb363,0,none⟩=some (.int .i64 ((rd_T60 l0_0 x4_2).f0))∧w'.cell? ⟨gb363,1,none⟩=some (.slice (some ad366) ((rd_T60 l0_0 x4_2).f1).length c362_1)∧w'.cell? ⟨gb361,0,none⟩=some (.string x362000_5)∧w'.cell? ⟨gb361,1,none⟩=some (.int .i64 x362001_5)∧w'.cell? (ad366.add ((x7_5).toNat*2))=some (.string ((rd_T28 ((rd_T60 l0_0 x4_2).f1) x7_5).f0))∧w'.cell? ⟨(ad366.add ((x7_5).toNat*2)).block,(ad366.add ((x7_5).toNat*2)).off+1,none⟩=some (.int .i64 ((rd_T28 ((rd_T60 l0_0 x4_2).f1) x7_5).f1))∧w'.cell? (ad366.add ((x7_5).toNat*2))=some (.string ((rd_T28 ((rd_T60 l0_0 x4_2).f1) x7_5).f0))∧w'.cell? ⟨(ad366.add ((x7_5).toNat*2)).block,(ad366.add ((x7_5).toNat*2)).off+1,none⟩=some (.int .i64 ((rd_T28 ((rd_T60 l0_0 x4_2).f1) x7_5).f1))) (ds:=[]) (bm_ 0 17) jA rfl rfl ⟨(zz BK363.out 0).trans rfl,(zz BK363.out 1).trans rfl,(zz BK361.out 0).trans rfl,(zz BK361.out 1).trans rfl,((HB.out.cell (zl w _ hw366_0)).trans hw366_0),((HB.out.cell (zl w _ hw366_1)).trans hw366_1),((HB.out.cell (zl w _ hw368_0)).trans hw368_0),((HB.out.cell (zl w _ hw368_1)).trans hw368_1)⟩ (fun hHeld=>?_);refine with_tabW F3.tab18 F3.bits18 (fun HT_ HW_=>?_);generalize wr.drew=w71 at BK358 BK361 BK363 HB hx366_0 hx366_1 hx368_0 hx368_1 hHeld ⊢;refine pure_ (i:=0) (N:=some 78) (v:=?_) (a':=?_) (bm_ 1 17) rfl rfl (any_of HT_.out jA) (fun _ _ _ h=>h) (Or.inl ⟨by rfl,?_⟩) ?_ ?_;rotate_left;exact jb;rotate_left;exact jc
                refine pure_ (i:=2) (N:=some 80) (v:=?_) (a':=?_) #[true,false,true,false,false,false,false,false,false,false,false,false,false,false,false,false,false] rfl rfl (any_of HT_.out jA) (fun _ _ _ h=>h) (Or.inl ⟨by rfl,?_⟩) ?_ ?_;rotate_left;exact jb;rotate_left;exact jc
                refine take_ (i:=1) (N:=some 79) (v:=?_) (a':=?_) (bm_ 3 17) rfl rfl (yo HT_.out HW_.out jA) (fun _ _ _ h=>h) (Or.inl ⟨by rfl,?_⟩) hHeld ?_ ?_;rotate_left
                ·
                 rintro w' ⟨s0,s1,s2,s3,s4,s5,s6,s7⟩
                 go_simp
                 with_reducible rfl
                rotate_left
                exact jc
                refine pure_ (i:=3) (N:=some 81) (v:=?_) (a':=?_) (bm_ 4 17) rfl rfl (any_of HT_.out jA) (fun _ _ _ h=>h) (Or.inl ⟨by rfl,?_⟩) ?_ ?_;rotate_left;exact jb;rotate_left;exact jc
                refine take_ (i:=4) (N:=some 82) (v:=?_) (a':=?_) (bm_ 5 17) rfl rfl (yo HT_.out HW_.out jA) (fun _ _ _ h=>h) (Or.inl ⟨by rfl,?_⟩) hHeld ?_ ?_;rotate_left
                ·
                 rintro w' ⟨s0,s1,s2,s3,s4,s5,s6,s7⟩
                 go_simp
                 with_reducible rfl
                rotate_left
                exact jc
                refine one_ (i:=5) (N:=some 83) (bm_ 6 17) rfl rfl (one_of HT_.out jA) jB (fun K hK=>?_);refine goes_ Try.func35 jA rfl #[.agg #[.string ((rd_T28 ((rd_T60 l0_0 x4_2).f1) x7_5).f0),.int .i64 ((rd_T28 ((rd_T60 l0_0 x4_2).f1) x7_5).f1)]] (by rfl) rfl rfl jF ?_
                with_reducible refine (F08.calls  ((rd_T28 ((rd_T60 l0_0 x4_2).f1) x7_5).f0) ((rd_T28 ((rd_T60 l0_0 x4_2).f1) x7_5).f1) true _ A55.out).mono ?_
                rintro e w72 ⟨rfl,hb⟩;refine ⟨_,rfl,?_⟩;replace BK358:=zh (cD BK358.out ji hb);replace BK361:=zh (cD BK361.out jt hb);replace BK363:=zh (cD BK363.out jAP hb);replace HB:=zh (zC jY hb);(try clear hb);(try clear hb2);(try clear hk);(try clear hi);refine hK.out _ _ ⟨(zz BK363.out 0).trans rfl,(zz BK363.out 1).trans rfl,(zz BK361.out 0).trans rfl,(zz BK361.out 1).trans rfl,((HB.out.cell (zl w _ hw366_0)).trans hw366_0),((HB.out.cell (zl w _ hw366_1)).trans hw366_1),((HB.out.cell (zl w _ hw368_0)).trans hw368_0),((HB.out.cell (zl w _ hw368_1)).trans hw368_1)⟩ (fun hHeld=>?_);clear hK K;refine norm_ (a':=?_) ?_ ?_;rotate_left
                ·
                 show Act.put _ (some 83) _=_
                 simp only [Act.put,zi,zj,zk,zG,zH]
                 rfl
                refine pure_ (i:=6) (N:=some 84) (v:=?_) (a':=?_) (bm_ 7 17) rfl rfl (any_of HT_.out jA) (fun _ _ _ h=>h) (Or.inl ⟨by rfl,?_⟩) ?_ ?_;rotate_left;exact jb;rotate_left;exact jc
                refine pure_ (i:=7) (N:=some 85) (v:=?_) (a':=?_) (bm_ 8 17) rfl rfl (any_of HT_.out jA) (fun _ _ _ h=>h) (Or.inl ⟨by rfl,?_⟩) ?_ ?_;rotate_left;exact jb;rotate_left;exact jc
                refine pure_ (i:=9) (N:=some 87) (v:=?_) (a':=?_) #[true,true,true,true,true,true,true,true,false,true,false,false,false,false,false,false,false] rfl rfl (any_of HT_.out jA) (fun _ _ _ h=>h) (Or.inl ⟨by rfl,?_⟩) ?_ ?_;rotate_left;exact jb;rotate_left;exact jc
                refine pure_ (i:=11) (N:=some 89) (v:=?_) (a':=?_) #[true,true,true,true,true,true,true,true,false,true,false,true,false,false,false,false,false] rfl rfl (any_of HT_.out jA) (fun _ _ _ h=>h) (Or.inl ⟨by rfl,?_⟩) ?_ ?_;rotate_left;exact jb;rotate_left;exact jc
                refine take_ (i:=8) (N:=some 86) (v:=?_) (a':=?_) #[true,true,true,true,true,true,true,true,true,true,false,true,false,false,false,false,false] rfl rfl (yo HT_.out HW_.out jA) (fun _ _ _ h=>h) (Or.inl ⟨by rfl,?_⟩) hHeld ?_ ?_;rotate_left
                ·
                 rintro w' ⟨s0,s1,s2,s3,s4,s5,s6,s7⟩
                 go_simp
                 with_reducible rfl
                rotate_left
                exact jc
                refine take_ (i:=10) (N:=some 88) (v:=?_) (a':=?_) (bm_ 12 17) rfl rfl (yo HT_.out HW_.out jA) (fun _ _ _ h=>h) (Or.inl ⟨by rfl,?_⟩) hHeld ?_ ?_;rotate_left
                ·
                 rintro w' ⟨s0,s1,s2,s3,s4,s5,s6,s7⟩
                 go_simp
                 with_reducible rfl
                rotate_left
                exact jc
                refine pure_ (i:=12) (N:=some 90) (v:=?_) (a':=?_) (bm_ 13 17) rfl rfl (any_of HT_.out jA) (fun _ _ _ h=>h) (Or.inl ⟨by rfl,?_⟩) ?_ ?_;rotate_left;exact jb;rotate_left;exact jc
                refine take_ (i:=13) (N:=some 91) (v:=?_) (a':=?_) (bm_ 14 17) rfl rfl (yo HT_.out HW_.out jA) (fun _ _ _ h=>h) (Or.inl ⟨by rfl,?_⟩) hHeld ?_ ?_;rotate_left
                ·
                 rintro w' ⟨s0,s1,s2,s3,s4,s5,s6,s7⟩
                 go_simp
                 with_reducible rfl
                rotate_left
                exact jc
                refine one_ (i:=14) (N:=some 92) (bm_ 15 17) rfl rfl (one_of HT_.out jA) jB (fun K hK=>?_);refine goes_ Try.func50 jA rfl #[.agg #[.string x362000_5,.int .i64 x362001_5],.agg #[.string ((rd_T28 ((rd_T60 l0_0 x4_2).f1) x7_5).f0),.int .i64 ((rd_T28 ((rd_T60 l0_0 x4_2).f1) x7_5).f1)]] (by rfl) rfl rfl jF ?_
                with_reducible refine (F01.calls  x362000_5 x362001_5 ((rd_T28 ((rd_T60 l0_0 x4_2).f1) x7_5).f0) ((rd_T28 ((rd_T60 l0_0 x4_2).f1) x7_5).f1) false _ A57.out).mono ?_
                rintro e w73 ⟨rfl,hb⟩;refine ⟨_,rfl,?_⟩;replace BK358:=zh (cD BK358.out ji hb);replace BK361:=zh (cD BK361.out jt hb);replace BK363:=zh (cD BK363.out jAP hb);replace HB:=zh (zC jY hb);(try clear hb);(try clear hb2);(try clear hk);(try clear hi);refine hK.out _ _ ⟨(zz BK363.out 0).trans rfl,(zz BK363.out 1).trans rfl,(zz BK361.out 0).trans rfl,(zz BK361.out 1).trans rfl,((HB.out.cell (zl w _ hw366_0)).trans hw366_0),((HB.out.cell (zl w _ hw366_1)).trans hw366_1),((HB.out.cell (zl w _ hw368_0)).trans hw368_0),((HB.out.cell (zl w _ hw368_1)).trans hw368_1)⟩ (fun hHeld=>?_);clear hK K;refine norm_ (a':=?_) ?_ ?_;rotate_left
                ·
                 show Act.put _ (some 92) _=_
                 simp only [Act.put,zi,zj,zk,zG,zH]
                 rfl
                refine pure_ (i:=15) (N:=some 93) (v:=?_) (a':=?_) (bm_ 16 17) rfl rfl (any_of HT_.out jA) (fun _ _ _ h=>h) (Or.inl ⟨by rfl,?_⟩) ?_ ?_;rotate_left;exact jb;rotate_left;exact jc
                refine pure_ (i:=16) (N:=some 94) (v:=?_) (a':=?_) (bm_ 17 17) rfl rfl (any_of HT_.out jA) (fun _ _ _ h=>h) (Or.inl ⟨by rfl,?_⟩) ?_ ?_;rotate_left;exact jb;rotate_left;exact jc
                refine done_ (done_of HT_.out jA) ?_
                try go_wp2
                go_ret
                exact ⟨jG,jY⟩
               replace c56:=yb.mpr c56;subst c56;rw [if_neg (show ¬ (false=true) by decide)] at H;obtain rfl:=zU H;have hnb74:=NB363_358.out;have hnc74:=NB358_363.out;have hnb75:=NB363_361.out;have hnc75:=NB361_363.out;obtain ⟨hcz76_0,hcz76_1,hfz76_0,hfz76_1⟩:=cB2 BK363.out
               try go_wp2
               replace BK358:=zh (zf BK358.out);replace BK361:=zh (zf BK361.out);replace BK363:=zh (zf BK363.out);replace HB:=zh (zc HB.out);have p366 : 0≤(x7_5 : Int):=zy jC;have q366 : x7_5<(((rd_T60 l0_0 x4_2).f1).length : Int):=zy jC;obtain ⟨ad366,e366,hx366_0,hx366_1⟩:=at_T28 HR362_1.out x7_5 p366 q366;have hw366_1:=hx366_1;have hw366_0:=hx366_0
               cases e366
               replace hx366_0:=(HB.out.cell (zl w _ hx366_0)).trans hx366_0;replace hx366_1:=(HB.out.cell (zl w _ hx366_1)).trans hx366_1;replace p366:=eq_true p366;replace q366:=eq_true q366;refine start_ (n:=17) (S:=fun w' => w'.cell? ⟨gb363,0,none⟩=some (.int .i64 ((rd_T60 l0_0 x4_2).f0))∧w'.cell? ⟨gb363,1,none⟩=some (.slice (some ad366) ((rd_T60 l0_0 x4_2).f1).length c362_1)∧w'.cell? (ad366.add ((x7_5).toNat*2))=some (.string ((rd_T28 ((rd_T60 l0_0 x4_2).f1) x7_5).f0))∧w'.cell? ⟨(ad366.add ((x7_5).toNat*2)).block,(ad366.add ((x7_5).toNat*2)).off+1,none⟩=some (.int .i64 ((rd_T28 ((rd_T60 l0_0 x4_2).f1) x7_5).f1))) (ds:=[]) (bm_ 0 17) jA rfl rfl ⟨(zz BK363.out 0).trans rfl,(zz BK363.out 1).trans rfl,((HB.out.cell (zl w _ hw366_0)).trans hw366_0),((HB.out.cell (zl w _ hw366_1)).trans hw366_1)⟩ (fun hHeld=>?_);refine with_tabW F3.tab18 F3.bits18 (fun HT_ HW_=>?_);generalize wr.drew=w77 at BK358 BK361 BK363 HB hx366_0 hx366_1 hHeld ⊢;refine pure_ (i:=0) (N:=some 78) (v:=?_) (a':=?_) (bm_ 1 17) rfl rfl (any_of HT_.out jA) (fun _ _ _ h=>h) (Or.inl ⟨by rfl,?_⟩) ?_ ?_;rotate_left;exact jb;rotate_left;exact jc
               refine pure_ (i:=2) (N:=some 80) (v:=?_) (a':=?_) #[true,false,true,false,false,false,false,false,false,false,false,false,false,false,false,false,false] rfl rfl (any_of HT_.out jA) (fun _ _ _ h=>h) (Or.inl ⟨by rfl,?_⟩) ?_ ?_;rotate_left;exact jb;rotate_left;exact jc
               refine take_ (i:=1) (N:=some 79) (v:=?_) (a':=?_) (bm_ 3 17) rfl rfl (yo HT_.out HW_.out jA) (fun _ _ _ h=>h) (Or.inl ⟨by rfl,?_⟩) hHeld ?_ ?_;rotate_left
               ·
                rintro w' ⟨s0,s1,s2,s3⟩
                go_simp
                with_reducible rfl
               rotate_left
               exact jc
               refine pure_ (i:=3) (N:=some 81) (v:=?_) (a':=?_) (bm_ 4 17) rfl rfl (any_of HT_.out jA) (fun _ _ _ h=>h) (Or.inl ⟨by rfl,?_⟩) ?_ ?_;rotate_left;exact jb;rotate_left;exact jc
               refine take_ (i:=4) (N:=some 82) (v:=?_) (a':=?_) (bm_ 5 17) rfl rfl (yo HT_.out HW_.out jA) (fun _ _ _ h=>h) (Or.inl ⟨by rfl,?_⟩) hHeld ?_ ?_;rotate_left
               ·
                rintro w' ⟨s0,s1,s2,s3⟩
                go_simp
                with_reducible rfl
               rotate_left
               exact jc
               refine one_ (i:=5) (N:=some 83) (bm_ 6 17) rfl rfl (one_of HT_.out jA) jB (fun K hK=>?_);refine goes_ Try.func35 jA rfl #[.agg #[.string ((rd_T28 ((rd_T60 l0_0 x4_2).f1) x7_5).f0),.int .i64 ((rd_T28 ((rd_T60 l0_0 x4_2).f1) x7_5).f1)]] (by rfl) rfl rfl jF ?_
               with_reducible refine (F08.calls  ((rd_T28 ((rd_T60 l0_0 x4_2).f1) x7_5).f0) ((rd_T28 ((rd_T60 l0_0 x4_2).f1) x7_5).f1) false _ A55.out).mono ?_
               rintro e w78 ⟨rfl,hb⟩;refine ⟨_,rfl,?_⟩;replace BK358:=zh (cD BK358.out ji hb);replace BK361:=zh (cD BK361.out jt hb);replace BK363:=zh (cD BK363.out jAP hb);replace HB:=zh (zC jY hb);(try clear hb);(try clear hb2);(try clear hk);(try clear hi);refine hK.out _ _ ⟨(zz BK363.out 0).trans rfl,(zz BK363.out 1).trans rfl,((HB.out.cell (zl w _ hw366_0)).trans hw366_0),((HB.out.cell (zl w _ hw366_1)).trans hw366_1)⟩ (fun hHeld=>?_);clear hK K;refine norm_ (a':=?_) ?_ ?_;rotate_left
               ·
                show Act.put _ (some 83) _=_
                simp only [Act.put,zi,zj,zk,zG,zH]
                rfl
               refine pure_ (i:=6) (N:=some 84) (v:=?_) (a':=?_) (bm_ 7 17) rfl rfl (any_of HT_.out jA) (fun _ _ _ h=>h) (Or.inl ⟨by rfl,?_⟩) ?_ ?_;rotate_left;exact jb;rotate_left;exact jc
               refine pure_ (i:=7) (N:=some 85) (v:=?_) (a':=?_) (bm_ 8 17) rfl rfl (any_of HT_.out jA) (fun _ _ _ h=>h) (Or.inl ⟨by rfl,?_⟩) ?_ ?_;rotate_left;exact jb;rotate_left;exact jc
               refine pure_ (i:=8) (N:=some 86) (v:=undef) (a':=?_) (bm_ 9 17) rfl rfl (any_of HT_.out jA) (fun _ _ _ h=>h) (Or.inr ⟨by rfl,rfl⟩) ?_ ?_;rotate_left
               exact jc
               refine pure_ (i:=9) (N:=some 87) (v:=undef) (a':=?_) (bm_ 10 17) rfl rfl (any_of HT_.out jA) (fun _ _ _ h=>h) (Or.inr ⟨by rfl,rfl⟩) ?_ ?_;rotate_left
               exact jc
               refine pure_ (i:=10) (N:=some 88) (v:=undef) (a':=?_) (bm_ 11 17) rfl rfl (any_of HT_.out jA) (fun _ _ _ h=>h) (Or.inr ⟨by rfl,rfl⟩) ?_ ?_;rotate_left
               exact jc
               refine pure_ (i:=11) (N:=some 89) (v:=undef) (a':=?_) (bm_ 12 17) rfl rfl (any_of HT_.out jA) (fun _ _ _ h=>h) (Or.inr ⟨by rfl,rfl⟩) ?_ ?_;rotate_left
               exact jc
               refine pure_ (i:=12) (N:=some 90) (v:=undef) (a':=?_) (bm_ 13 17) rfl rfl (any_of HT_.out jA) (fun _ _ _ h=>h) (Or.inr ⟨by rfl,rfl⟩) ?_ ?_;rotate_left
               exact jc
               refine pure_ (i:=13) (N:=some 91) (v:=undef) (a':=?_) (bm_ 14 17) rfl rfl (any_of HT_.out jA) (fun _ _ _ h=>h) (Or.inr ⟨by rfl,rfl⟩) ?_ ?_;rotate_left
               exact jc
               refine pure_ (i:=14) (N:=some 92) (v:=undef) (a':=?_) (bm_ 15 17) rfl rfl (any_of HT_.out jA) (fun _ _ _ h=>h) (Or.inr ⟨by rfl,rfl⟩) ?_ ?_;rotate_left
               exact jc
               refine pure_ (i:=15) (N:=some 93) (v:=undef) (a':=?_) (bm_ 16 17) rfl rfl (any_of HT_.out jA) (fun _ _ _ h=>h) (Or.inr ⟨by rfl,rfl⟩) ?_ ?_;rotate_left
               exact jc
               refine pure_ (i:=16) (N:=some 94) (v:=?_) (a':=?_) (bm_ 17 17) rfl rfl (any_of HT_.out jA) (fun _ _ _ h=>h) (Or.inl ⟨by rfl,?_⟩) ?_ ?_;rotate_left;exact jb;rotate_left;exact jc
               refine done_ (done_of HT_.out jA) ?_
               try go_wp2
               go_ret
               exact ⟨jG,jY⟩
              rw [if_neg c54] at H;exact absurd H (by simp)
             rw [if_neg c53] at H;have c53b0 : decide (x7_5<(((rd_T60 l0_0 x4_2).f1).length : Int))=false:=decide_eq_false c53;clear c53;have H':=zh H;clear H;have hnb79:=NB363_358.out;have hnc79:=NB358_363.out;have hnb80:=NB363_361.out;have hnc80:=NB361_363.out;obtain ⟨hcz81_0,hcz81_1,hfz81_0,hfz81_1⟩:=cB2 BK363.out
             go_wp2
             go_roundg k5
             case measure=>have:=HJ1.out;have:=HK2.out;have:=HJ14.out;have:=HK4.out;have:=HK5.out;omega
             case rel=>exact ⟨(wrap64 (x4_2+1)),(x362000_5),(x362001_5),jD,H',⟨jCF⟩,⟨ji⟩,⟨jt⟩,⟨jY⟩⟩
      rw [if_neg c14] at H;exact absurd H (by simp)
     rw [if_neg c13] at H;have c13b0 : decide (x4_2<(l0_0.length : Int))=false:=decide_eq_false c13;clear c13;obtain rfl:=zU H;have hnb82:=NB358_361.out;have hnc82:=NB361_358.out;obtain ⟨hcz83_0,hcz83_1,hfz83_0,hfz83_1⟩:=cB2 BK358.out
     go_wp2
     go_ret
     exact ⟨jG,jBn⟩

end Go.Proofs.Ytgifonogfgpjdaa.Q
end
section
namespace Go.Proofs.Ytgifonogfgpjdaa.Q
open Go.RowKit Go.Proofs.YtgifonogfgpjdaaW.PrintWords Go.Proofs.YtgifonogfgpjdaaW.PrintLast Go.Proofs.YtgifonogfgpjdaaW.PrintMore
attribute [local go_sem] max2_int min2_int max_two min_two max_three min_three max_four min_four max2_str min2_str str_geq str_gtr str_leq
set_option linter.unusedVariables false
set_option linter.unusedSimpArgs false

def F0a.f (a0_0 : ByteArray) (a0_1 : ByteArray) (a0_2 : Bool) (a1 : ByteArray) : Option (Bool):=if ((Op.bytesLess a1.toList a0_0.toList)=true) then (some false) else (if a0_2=true then (some true) else (some (Op.bytesLess a1.toList a0_1.toList)))
set_option maxHeartbeats 8000000 in
set_option maxRecDepth 100000 in
theorem F0a.calls (a0_0 : ByteArray) (a0_1 : ByteArray) (a0_2 : Bool) (a1 : ByteArray) (r : Bool) (w : World) (h : F0a.f a0_0 a0_1 a0_2 a1=some r) :
  Calls Try.prog 51 #[.agg #[.string a0_0,.string a0_1,.bool a0_2],.string a1] w fun e w' => e = .returned (.bool r)∧Below w.heap.size w w':=by
 have hu32:=Try.underlying32;have HB:=zh (Below.refl w.heap.size w);have H : (if ((Op.bytesLess a1.toList a0_0.toList)=true) then (some false) else (if a0_2=true then (some true) else (some (Op.bytesLess a1.toList a0_1.toList))))=some r:=h;clear h
 by_cases c3 : ((Op.bytesLess a1.toList a0_0.toList)=true)
 ·
  rw [if_pos c3] at H
  have c3b0 : (Op.bytesLess a1.toList a0_0.toList)=true:=c3;clear c3;obtain rfl:=zU H
  go_enter Try.func51,Try.ntmps51
  go_wp2_with (first|((with_reducible refine zK (N:=2) rfl ?_);refine zI ?hg (N:=2) ?hd (cs:=#[.string a0_0,.string a0_1,.bool a0_2]) (t:=32) ?hr ?_;(case hd=>rfl);(case hg=>rfl);(case hr=>go_simp <;> rfl);intro gb371 hg w4 hbox hb;have BK371:=zh (hbox);have hH_:=cH jH hb hg;have GW371:=zh hH_.1;have GE371:=GW371;replace HB:=zh hH_.2;clear hb hbox hg hH_;obtain ⟨hcz5_0,hcz5_1,hcz5_2,hfz5_0,hfz5_1,hfz5_2⟩:=cB3 BK371.out))
  go_ret
  exact ⟨jG,jBo⟩
 rw [if_neg c3] at H;have c3b0 : (Op.bytesLess a1.toList a0_0.toList)=false:=by simpa using c3
 clear c3
 by_cases c6 : a0_2=true
 ·
  subst c6
  rw [if_pos rfl] at H;obtain rfl:=zU H
  go_enter Try.func51,Try.ntmps51
  go_wp2_with (first|((with_reducible refine zK (N:=2) rfl ?_);refine zI ?hg (N:=2) ?hd (cs:=#[.string a0_0,.string a0_1,.bool true]) (t:=32) ?hr ?_;(case hd=>rfl);(case hg=>rfl);(case hr=>go_simp <;> rfl);intro gb371 hg w7 hbox hb;have BK371:=zh (hbox);have hH_:=cH jH hb hg;have GW371:=zh hH_.1;have GE371:=GW371;replace HB:=zh hH_.2;clear hb hbox hg hH_;obtain ⟨hcz8_0,hcz8_1,hcz8_2,hfz8_0,hfz8_1,hfz8_2⟩:=cB3 BK371.out))
  go_ret
  exact ⟨jG,jBo⟩
 replace c6:=yb.mpr c6;subst c6;rw [if_neg (show ¬ (false=true) by decide)] at H;obtain rfl:=zU H
 go_enter Try.func51,Try.ntmps51
 go_wp2_with (first|((with_reducible refine zK (N:=2) rfl ?_);refine zI ?hg (N:=2) ?hd (cs:=#[.string a0_0,.string a0_1,.bool false]) (t:=32) ?hr ?_;(case hd=>rfl);(case hg=>rfl);(case hr=>go_simp <;> rfl);intro gb371 hg w9 hbox hb;have BK371:=zh (hbox);have hH_:=cH jH hb hg;have GW371:=zh hH_.1;have GE371:=GW371;replace HB:=zh hH_.2;clear hb hbox hg hH_;obtain ⟨hcz10_0,hcz10_1,hcz10_2,hfz10_0,hfz10_1,hfz10_2⟩:=cB3 BK371.out))
 go_ret
 exact ⟨jG,jBo⟩

end Go.Proofs.Ytgifonogfgpjdaa.Q
end
section
namespace Go.Proofs.Ytgifonogfgpjdaa.Q
open Go.RowKit Go.Proofs.YtgifonogfgpjdaaW.PrintWords Go.Proofs.YtgifonogfgpjdaaW.PrintLast Go.Proofs.YtgifonogfgpjdaaW.PrintMore
attribute [local go_sem] max2_int min2_int max_two min_two max_three min_three max_four min_four max2_str min2_str str_geq str_gtr str_leq   -- for this text's walks alone
set_option linter.unusedVariables false
set_option linter.unusedSimpArgs false

mutual
def F5.l0 : Nat→List (S28)→List Int→Int→Int→List (S60)→Int→ByteArray→ByteArray→Bool→Option ((List (S28))×List Int)
 | 0,_,_,_,_,_,_,_,_,_=>none
 | k+1,x6,x7,x8,x9,x373000,x373001,x374000,x374001,x374002=>if x9<(x373000.length : Int) then (if 0≤x9 then (if x9 > x8 then (if x374002=true then (F5.j1 k x6 x7 x8 x9 ((rd_T60 x373000 x9).f1) false x373000 x373001 x374000 x374001 x374002) else (if (((rd_T60 x373000 x9).f1).length : Int) > 0 then (if 0<(((rd_T60 x373000 x9).f1).length : Int) then (F5.j1 k x6 x7 x8 x9 ((rd_T60 x373000 x9).f1) (!(Op.bytesLess (((rd_T28 ((rd_T60 x373000 x9).f1) 0).f0).toList) x374001.toList)) x373000 x373001 x374000 x374001 x374002) else (none)) else (F5.j1 k x6 x7 x8 x9 ((rd_T60 x373000 x9).f1) false x373000 x373001 x374000 x374001 x374002))) else (F5.j1 k x6 x7 x8 x9 ((rd_T60 x373000 x9).f1) false x373000 x373001 x374000 x374001 x374002)) else (none)) else (some (x6,x7))
def F5.j1 : Nat→List (S28)→List Int→Int→Int→List (S28)→Bool→List (S60)→Int→ByteArray→ByteArray→Bool→Option ((List (S28))×List Int)
 | 0,_,_,_,_,_,_,_,_,_,_,_=>none
 | k+1,x6,x7,x8,x9,x10,x54,x373000,x373001,x374000,x374001,x374002=>if x54=true then (some (x6,x7)) else (if 0≤x9 then (if x9<(x373000.length : Int) then (if x7.length<17592186044416 then (F5.l1 k x6 (x7 ++ [(rd_T60 x373000 x9).f0]) x8 x9 x10 0 x373000 x373001 x374000 x374001 x374002) else (none)) else (none)) else (none))
def F5.l1 : Nat→List (S28)→List Int→Int→Int→List (S28)→Int→List (S60)→Int→ByteArray→ByteArray→Bool→Option ((List (S28))×List Int)
 | 0,_,_,_,_,_,_,_,_,_,_,_=>none
 | k+1,x6,x7,x8,x9,x10,x11,x373000,x373001,x374000,x374001,x374002=>if x11<(x10.length : Int) then (if 0≤x11 then ((F0a.f x374000 x374001 x374002 ((rd_T28 x10 x11).f0)).bind fun t388=>(if t388=true then (if x6.length<5864062014805 then (F5.l1 k (x6 ++ [(⟨(rd_T28 x10 x11).f0,(rd_T28 x10 x11).f1⟩ : S28)]) x7 x8 x9 x10 (wrap64 (x11+1)) x373000 x373001 x374000 x374001 x374002) else (none)) else (F5.l1 k x6 x7 x8 x9 x10 (wrap64 (x11+1)) x373000 x373001 x374000 x374001 x374002))) else (none)) else (F5.l0 k x6 x7 x8 (wrap64 (x9+1)) x373000 x373001 x374000 x374001 x374002)
end
def F5.f (k : Nat) (l0_0 : List (S60)) (a0_1 : Int) (a1_0 : ByteArray) (a1_1 : ByteArray) (a1_2 : Bool) : Option ((List (S28))×List Int):=(Fb.f k l0_0 a0_1 a1_0 (-1)).bind fun t380=>(F5.l0 k (([] : List (S28))) (([] : List Int)) t380 t380 l0_0 a0_1 a1_0 a1_1 a1_2)
theorem F5.mono_l : ∀ k,(∀ y0 y1 y2 y3 y4 y5 y6 y7 y8,LeO (F5.l0 k y0 y1 y2 y3 y4 y5 y6 y7 y8) (F5.l0 (k+1) y0 y1 y2 y3 y4 y5 y6 y7 y8))∧(∀ y0 y1 y2 y3 y4 y5 y6 y7 y8 y9 y10,LeO (F5.j1 k y0 y1 y2 y3 y4 y5 y6 y7 y8 y9 y10) (F5.j1 (k+1) y0 y1 y2 y3 y4 y5 y6 y7 y8 y9 y10))∧(∀ y0 y1 y2 y3 y4 y5 y6 y7 y8 y9 y10,LeO (F5.l1 k y0 y1 y2 y3 y4 y5 y6 y7 y8 y9 y10) (F5.l1 (k+1) y0 y1 y2 y3 y4 y5 y6 y7 y8 y9 y10))
 | 0=>⟨fun _ _ _ _ _ _ _ _ _ r h=>by simp [F5.l0] at h,fun _ _ _ _ _ _ _ _ _ _ _ r h=>by simp [F5.j1] at h,fun _ _ _ _ _ _ _ _ _ _ _ r h=>by simp [F5.l1] at h⟩
 | k+1=>by
  obtain ⟨ih0,ih1,ih2⟩:=F5.mono_l k;refine ⟨?_,?_,?_⟩
  ·
   intro y0 y1 y2 y3 y4 y5 y6 y7 y8
   unfold F5.l0
   repeat' first|(with_reducible first|exact ih0 _ _ _ _ _ _ _ _ _|exact ih1 _ _ _ _ _ _ _ _ _ _ _|exact ih2 _ _ _ _ _ _ _ _ _ _ _|exact Fb.mono _ _ _ _ _|exact zQ _|exact zN _|refine zP ?_ ?_|refine zO ?_ (fun _=>?_))|refine zP ?_ ?_|refine zO ?_ (fun _=>?_)
  ·
   intro y0 y1 y2 y3 y4 y5 y6 y7 y8 y9 y10
   unfold F5.j1
   repeat' first|(with_reducible first|exact ih0 _ _ _ _ _ _ _ _ _|exact ih1 _ _ _ _ _ _ _ _ _ _ _|exact ih2 _ _ _ _ _ _ _ _ _ _ _|exact Fb.mono _ _ _ _ _|exact zQ _|exact zN _|refine zP ?_ ?_|refine zO ?_ (fun _=>?_))|refine zP ?_ ?_|refine zO ?_ (fun _=>?_)
  intro y0 y1 y2 y3 y4 y5 y6 y7 y8 y9 y10;unfold F5.l1
  repeat' first|(with_reducible first|exact ih0 _ _ _ _ _ _ _ _ _|exact ih1 _ _ _ _ _ _ _ _ _ _ _|exact ih2 _ _ _ _ _ _ _ _ _ _ _|exact Fb.mono _ _ _ _ _|exact zQ _|exact zN _|refine zP ?_ ?_|refine zO ?_ (fun _=>?_))|refine zP ?_ ?_|refine zO ?_ (fun _=>?_)
theorem F5.mono : ∀ a0 a1 a2 a3 a4 k,LeO (F5.f k a0 a1 a2 a3 a4) (F5.f (k+1) a0 a1 a2 a3 a4):=by
 intro a0 a1 a2 a3 a4 k;obtain ⟨ih0,ih1,ih2⟩:=F5.mono_l k;unfold F5.f
 repeat' first|(with_reducible first|exact ih0 _ _ _ _ _ _ _ _ _|exact ih1 _ _ _ _ _ _ _ _ _ _ _|exact ih2 _ _ _ _ _ _ _ _ _ _ _|exact Fb.mono _ _ _ _ _|exact zQ _|exact zN _|refine zP ?_ ?_|refine zO ?_ (fun _=>?_))|refine zP ?_ ?_|refine zO ?_ (fun _=>?_)
def F5.T8 : Bool×List (List Nat×List Nat):=(true,[([],[]),([],[]),([0,1],[0,1]),([2],[2]),([3],[3]),([4,3],[3,4]),([5,3],[3,5]),([3,6],[3,6]),([7,3],[7]),([8],[8]),([9,8],[8,9]),([10,8],[8,10]),([8,11],[8,11]),([12,8],[12]),([13],[13]),([14,13],[13,14]),([15,13],[13,15]),([16,13],[13,16]),([13],[13]),([18,13],[13,18]),([17,19,13],[13,17,19]),([13,20],[13,20])])
def F5.B8 : List Nat:=[0,0,3,7,15,31,63,127,255,511,1023,2047,4095,8191,16383,32767,65535,131071,16383,278527,1048575,2097151]
theorem F5.tab8 : rtab .any (opsOf Try.f30 8)=F5.T8:=by kernel_rfl
theorem F5.bits8 : waitsOk F5.T8.2 F5.B8=true:=by kernel_rfl
set_option maxHeartbeats 8000000 in
set_option maxRecDepth 100000 in
theorem F5.calls (k : Nat) (A0_0 : Option Addr) (c0_0 : Nat) (l0_0 : List (S60)) (a0_1 : Int) (a1_0 : ByteArray) (a1_1 : ByteArray) (a1_2 : Bool) (r1 : List (S28)) (r2 : List Int) (w : World) (hr0_0 : Kd.C k60 w A0_0 l0_0.length l0_0) (hc0_0 : l0_0.length≤c0_0) (h : F5.f k l0_0 a0_1 a1_0 a1_1 a1_2=some (r1,r2)) :
  Calls Try.prog 30 #[.agg #[.slice A0_0 l0_0.length c0_0,.int .i64 a0_1],.agg #[.string a1_0,.string a1_1,.bool a1_2]] w fun e w' => ∃ v0_ v1_ : Value,e = .returned (.tuple #[v0_,v1_])∧Kd.R k28 28 w' w.heap.size (fun _=>True) v0_ r1∧Kd.R (Kd.int .i64) 3 w' w.heap.size (fun _=>True) v1_ r2∧Below w.heap.size w w':=by
 have hu25:=Try.underlying25;have hu32:=Try.underlying32;have hu28:=Try.underlying28;have HR0_0:=zh hr0_0;have HC0_0:=zh hc0_0;clear hr0_0 hc0_0;have HB:=zh (Below.refl w.heap.size w);have H : ((Fb.f k l0_0 a0_1 a1_0 (-1)).bind fun t380=>(F5.l0 k (([] : List (S28))) (([] : List Int)) t380 t380 l0_0 a0_1 a1_0 a1_1 a1_2))=some (r1,r2):=h;clear h;obtain ⟨y374,hy374⟩ : ∃ y_ : List (S28),y_=(([] : List (S28))):=⟨_,rfl⟩;replace H : ((Fb.f k l0_0 a0_1 a1_0 (-1)).bind fun t380=>(F5.l0 k y374 (([] : List Int)) t380 t380 l0_0 a0_1 a1_0 a1_1 a1_2))=some (r1,r2):=by first|(rw [hy374];with_reducible exact H)|(have H2_:=(Option.bind_some _ _).symm.trans H;rw [hy374];with_reducible exact H2_)|(have H2_:=(Option.bind_some _ _).symm.trans H;with_reducible exact H2_)|with_reducible exact H|(rw [hy374];exact H)|exact H
 have Ny374:=zh hy374;clear hy374;obtain ⟨y377,hy377⟩ : ∃ y_ : List Int,y_=(([] : List Int)):=⟨_,rfl⟩;replace H : ((Fb.f k l0_0 a0_1 a1_0 (-1)).bind fun t380=>(F5.l0 k y374 y377 t380 t380 l0_0 a0_1 a1_0 a1_1 a1_2))=some (r1,r2):=by first|(rw [hy377];with_reducible exact H)|(have H2_:=(Option.bind_some _ _).symm.trans H;rw [hy377];with_reducible exact H2_)|(have H2_:=(Option.bind_some _ _).symm.trans H;with_reducible exact H2_)|with_reducible exact H|(rw [hy377];exact H)|exact H
 have Ny377:=zh hy377;clear hy377;replace H:=zT.mp H;obtain ⟨t380,A30,H⟩:=H;have A3:=zh A30;clear A30;have H':=zh H;clear H
 go_enter Try.func30,Try.ntmps30
 go_wp2_with (first|((with_reducible refine zK (N:=2) rfl ?_);(try (refine yy (by rfl) ?_;dsimp only));refine zI ?hg (N:=2) ?hd (cs:=#[.slice A0_0 l0_0.length c0_0,.int .i64 a0_1]) (t:=25) ?hr ?_;(case hd=>rfl);(case hg=>rfl);(case hr=>go_simp <;> rfl);intro gb372 hg w4 hbox hb;have BK372:=zh (hbox);have hH_:=cH jH hb hg;have GW372:=zh hH_.1;have GE372:=GW372;replace HB:=zh hH_.2;clear hb hbox hg hH_)|((with_reducible refine zK (N:=3) rfl ?_);(try (refine yy (by rfl) ?_;dsimp only));refine zI ?hg (N:=3) ?hd (cs:=#[.string a1_0,.string a1_1,.bool a1_2]) (t:=32) ?hr ?_;(case hd=>rfl);(case hg=>rfl);(case hr=>go_simp <;> rfl);intro gb373 hg w5 hbox hb;have BK373:=zh (hbox);have hH_:=cH (by repeat (with_reducible first|exact HB.out|apply za|apply zb|apply zc|refine zd ?_ GE372.out)) hb hg;have GW373:=zh hH_.1;have GE373:=GW373;replace HB:=zh hH_.2;have NB372_373:=zh ((by rw [hg];exact yc (yi (g:=gb372) (o:=.cells #[.slice A0_0 l0_0.length c0_0,.int .i64 a0_1] 25 (0,0)) jZ) : gb372≠gb373));have NB373_372:=zh NB372_373.out.symm;replace BK372:=zh (cD BK372.out jZ hb);clear hb hbox hg hH_)|((with_reducible refine zK (N:=12) rfl ?_);(try (refine yy (by rfl) ?_;dsimp only));refine Kd.R_lit k28 _ 28 ?hg (N:=12) ?hd (xs:=([] : List (S28))) (inner:=[]) (ok:=fun _=>True) (okp:=fun _=>True) ?hr ?hp (fun _ hk=>hk) trivial (Below.refl _ _) (ye _) (by simp) ?_;(case hd=>rfl);(case hg=>rfl);(case hr=>go_simp <;> rfl);(case hp=>exact (Reps.none _ _));intro v375 w6 ho7 hb hg_ hnew_;clear hg_ hnew_;(first|rw [← Ny374.out] at ho7|(simp only [Int.reduceToNat] at ho7;rw [← Ny374.out] at ho7));have HO376:=zh (yx ho7 (zB jT));replace BK372:=zh (cD BK372.out jZ hb);replace BK373:=zh (cD BK373.out je hb);replace HB:=zh (zC jT hb);clear hb ho7)|((with_reducible refine zK (N:=13) rfl ?_);(try (refine yy (by rfl) ?_;dsimp only));refine Kd.R_lit (Kd.int .i64) _ 3 ?hg (N:=13) ?hd (xs:=([] : List Int)) (inner:=[]) (ok:=fun _=>True) (okp:=fun _=>True) ?hr ?hp (fun _ hk=>hk) trivial (Below.refl _ _) (ye _) (by simp) ?_;(case hd=>rfl);(case hg=>rfl);(case hr=>go_simp <;> rfl);(case hp=>exact (Reps.none _ _));intro v378 w8 ho9 hb hg_ hnew_;clear hg_ hnew_;(first|rw [← Ny377.out] at ho9|(simp only [Int.reduceToNat] at ho9;rw [← Ny377.out] at ho9));replace HO376:=zh (yg jBp hb);have HO379:=zh (yx ho9 (zB jT));replace BK372:=zh (cD BK372.out jZ hb);replace BK373:=zh (cD BK373.out je hb);replace HB:=zh (zC jT hb);clear hb ho9;have hnb10:=NB372_373.out;have hnc10:=NB373_372.out;obtain ⟨hcz11_0,hcz11_1,hfz11_0,hfz11_1⟩:=cB2 BK372.out;obtain ⟨hcz12_0,hcz12_1,hcz12_2,hfz12_0,hfz12_1,hfz12_2⟩:=cB3 BK373.out)|((with_reducible refine zJ (f:=39) rfl ?_);refine yj (some 18) rfl rfl Try.func39 jA rfl #[.agg #[.slice A0_0 l0_0.length c0_0,.int .i64 a0_1],.agg #[.string a1_0,.int .i64 (-1)]] rfl jF ?_;(with_reducible refine (Fb.calls k  _ _ l0_0 a0_1 a1_0 (-1) t380 _ ?side1 ?side2 A3.out).mono ?_);(case side1=>repeat (first|exact (Kd.C_below HR0_0.out HB.out)|(with_reducible refine Kd.C_alloc ?_ _)|(with_reducible refine Kd.C_drewN ?_ _)|(with_reducible refine Kd.C_drew ?_)));(case side2=>exact HC0_0.out);rintro e w13 ⟨rfl,hb⟩;refine ⟨_,rfl,?_⟩;replace HO376:=zh (yg jBp hb);replace HO379:=zh (yg jCG hb);replace BK372:=zh (cD BK372.out jZ hb);replace BK373:=zh (cD BK373.out je hb);replace HB:=zh (zC jT hb);(try clear hb);(try clear hb2);(try clear hk);(try clear hi)))
 go_loopg [6,7,9] k (fun kq v6 v7 v9 w' => ∃ (x6_1 : List (S28)) (x7_1 : List Int) (x9_1 : Int),v9 = .int .i64 x9_1∧Aside0 (F5.l0 kq x6_1 x7_1 t380 x9_1 l0_0 a0_1 a1_0 a1_1 a1_2=some (r1,r2))∧Aside0 (kq≤k)∧Aside0 (Kd.R k28 28 w' w.heap.size (fun _=>True) v6 x6_1)∧Aside0 (Kd.R (Kd.int .i64) 3 w' w.heap.size (fun _=>True) v7 x7_1)∧Aside0 (w'.heap[gb372]? = some (.cells #[(.slice A0_0 l0_0.length c0_0),.int .i64 a0_1] 25 (0,0)))∧Aside0 (w'.heap[gb373]? = some (.cells #[.string a1_0,.string a1_1,.bool a1_2] 32 (0,0)))∧Aside0 (Below w.heap.size w w'))
 case atStart=>exact ⟨(y374),(y377),(t380),jD,H',⟨ye _⟩,⟨jBp⟩,⟨jCG⟩,⟨jZ⟩,⟨je⟩,⟨jT⟩⟩
 case round =>
  clear H'
  try clear c1
  try clear p2
  try clear c3 c10
  try clear hcz11_0 hcz11_1
  try clear hcz12_0 hcz12_1 hcz12_2
  try clear hfz11_0 hfz11_1
  try clear hfz12_0 hfz12_1 hfz12_2
  obtain ⟨x6_1,x7_1,x9_1,rfl,HA,HK1,HO_6,HO_7,BK372,BK373,HB⟩:=hrel
  cases gk with
  | zero=>exact absurd HA.out (by simp [F5.l0])
  | succ k1 =>
   have H:=HA.out;clear HA;simp only [F5.l0] at H
   by_cases c14 : x9_1<(l0_0.length : Int)
   ·
    rw [if_pos c14] at H
    have c14b0 : decide (x9_1<(l0_0.length : Int))=true:=decide_eq_true c14;clear c14
    by_cases c15 : 0≤x9_1
    ·
     rw [if_pos c15] at H
     have c15b0 : decide (0≤x9_1)=true:=decide_eq_true c15;clear c15;have HC16:=zh H;clear H;have hnb17:=NB372_373.out;have hnc17:=NB373_372.out;obtain ⟨hcz18_0,hcz18_1,hfz18_0,hfz18_1⟩:=cB2 BK372.out;have p381 : 0≤(x9_1 : Int):=zy jC;have q381 : x9_1<(l0_0.length : Int):=zy jC;obtain ⟨ad381,A381_1,c381_1,e381,hx381_0,hx381_1,hl381_1,hi381_1⟩:=at_T60 HR0_0.out x9_1 p381 q381
     cases e381
     replace hx381_0:=(HB.out.cell (zl w _ hx381_0)).trans hx381_0;replace hx381_1:=(HB.out.cell (zl w _ hx381_1)).trans hx381_1;have HR381_1:=zh hi381_1;have HC381_1:=zh hl381_1;clear hi381_1 hl381_1;replace p381:=eq_true p381;replace q381:=eq_true q381
     go_upto_region 8 with (fail)
     go_cut [54] (fun v54 wc => ∃ (kq : Nat) (x54_15 : Bool),v54 = .bool x54_15∧Aside0 (F5.j1 kq x6_1 x7_1 t380 x9_1 ((rd_T60 l0_0 x9_1).f1) x54_15 l0_0 a0_1 a1_0 a1_1 a1_2=some (r1,r2))∧Aside0 (kq≤k1)∧Aside0 (Kd.R k28 28 wc w.heap.size (fun _=>True) u6 x6_1)∧Aside0 (Kd.R (Kd.int .i64) 3 wc w.heap.size (fun _=>True) u7 x7_1)∧Aside0 (wc.heap[gb372]? = some (.cells #[(.slice (some ad381) l0_0.length c0_0),.int .i64 a0_1] 25 (0,0)))∧Aside0 (wc.heap[gb373]? = some (.cells #[.string a1_0,.string a1_1,.bool a1_2] 32 (0,0)))∧Aside0 (Below w.heap.size w wc))
     case first =>
      have H:=HC16.out;clear HC16
      by_cases c19 : x9_1 > t380
      ·
       rw [if_pos c19] at H
       have c19b0 : decide (t380<x9_1)=true:=decide_eq_true c19;clear c19;(first|rw [c19b0]|(simp only [zG,zH];rw [c19b0])|skip)
       by_cases c20 : a1_2=true
       ·
        subst c20
        rw [if_pos rfl] at H;have H':=zh H;clear H
        try go_wp2
        replace HO_6:=zh (zo HO_6.out);replace HO_7:=zh (zo HO_7.out);replace BK372:=zh (zf BK372.out);replace BK373:=zh (zf BK373.out);replace HB:=zh (zc HB.out);refine start_ (n:=22) (S:=fun w' => w'.cell? ⟨gb373,0,none⟩=some (.string a1_0)∧w'.cell? ⟨gb373,1,none⟩=some (.string a1_1)∧w'.cell? ⟨gb373,2,none⟩=some (.bool true)) (ds:=[]) (bm_ 0 22) jA rfl rfl ⟨(zz BK373.out 0).trans rfl,(zz BK373.out 1).trans rfl,(zz BK373.out 2).trans rfl⟩ (fun hHeld=>?_);refine with_tabW F5.tab8 F5.bits8 (fun HT_ HW_=>?_);generalize wr.drew=w21 at HO_6 HO_7 BK372 BK373 HB hHeld ⊢;refine pure_ (i:=0) (N:=some 33) (v:=?_) (a':=?_) (bm_ 1 22) rfl rfl (any_of HT_.out jA) (fun _ _ _ h=>h) (Or.inl ⟨by rfl,?_⟩) ?_ ?_;rotate_left;exact jb;rotate_left;exact jc
        refine pure_ (i:=1) (N:=some 34) (v:=?_) (a':=?_) (bm_ 2 22) rfl rfl (any_of HT_.out jA) (fun _ _ _ h=>h) (Or.inl ⟨by rfl,?_⟩) ?_ ?_;rotate_left;exact jb;rotate_left;exact jc
        refine pure_ (i:=2) (N:=some 35) (v:=?_) (a':=?_) (bm_ 3 22) rfl rfl (any_of HT_.out jA) (fun _ _ _ h=>h) (Or.inl ⟨by rfl,?_⟩) ?_ ?_;rotate_left;exact jb;rotate_left;exact jc
        refine pure_ (i:=3) (N:=some 36) (v:=?_) (a':=?_) (bm_ 4 22) rfl rfl (any_of HT_.out jA) (fun _ _ _ h=>h) (Or.inl ⟨by rfl,?_⟩) ?_ ?_;rotate_left;exact jb;rotate_left;exact jc
        refine pure_ (i:=4) (N:=some 37) (v:=?_) (a':=?_) (bm_ 5 22) rfl rfl (any_of HT_.out jA) (fun _ _ _ h=>h) (Or.inl ⟨by rfl,?_⟩) ?_ ?_;rotate_left;exact jb;rotate_left;exact jc
        refine take_ (i:=5) (N:=some 38) (v:=?_) (a':=?_) (bm_ 6 22) rfl rfl (yo HT_.out HW_.out jA) (fun _ _ _ h=>h) (Or.inl ⟨by rfl,?_⟩) hHeld ?_ ?_;rotate_left
        ·
         rintro w' ⟨s0,s1,s2⟩
         go_simp
         with_reducible rfl
        rotate_left
        exact jc
        refine pure_ (i:=6) (N:=some 39) (v:=?_) (a':=?_) (bm_ 7 22) rfl rfl (any_of HT_.out jA) (fun _ _ _ h=>h) (Or.inl ⟨by rfl,?_⟩) ?_ ?_;rotate_left;exact jb;rotate_left;exact jc
        refine pure_ (i:=7) (N:=some 40) (v:=?_) (a':=?_) (bm_ 8 22) rfl rfl (any_of HT_.out jA) (fun _ _ _ h=>h) (Or.inl ⟨by rfl,?_⟩) ?_ ?_;rotate_left;exact jb;rotate_left;exact jc
        refine pure_ (i:=8) (N:=some 41) (v:=?_) (a':=?_) (bm_ 9 22) rfl rfl (any_of HT_.out jA) (fun _ _ _ h=>h) (Or.inl ⟨by rfl,?_⟩) ?_ ?_;rotate_left;exact jb;rotate_left;exact jc
        refine pure_ (i:=9) (N:=some 42) (v:=undef) (a':=?_) (bm_ 10 22) rfl rfl (any_of HT_.out jA) (fun _ _ _ h=>h) (Or.inr ⟨by rfl,rfl⟩) ?_ ?_;rotate_left
        exact jc
        refine pure_ (i:=10) (N:=some 43) (v:=undef) (a':=?_) (bm_ 11 22) rfl rfl (any_of HT_.out jA) (fun _ _ _ h=>h) (Or.inr ⟨by rfl,rfl⟩) ?_ ?_;rotate_left
        exact jc
        refine pure_ (i:=11) (N:=some 44) (v:=undef) (a':=?_) (bm_ 12 22) rfl rfl (any_of HT_.out jA) (fun _ _ _ h=>h) (Or.inr ⟨by rfl,rfl⟩) ?_ ?_;rotate_left
        exact jc
        refine pure_ (i:=12) (N:=some 45) (v:=?_) (a':=?_) (bm_ 13 22) rfl rfl (any_of HT_.out jA) (fun _ _ _ h=>h) (Or.inl ⟨by rfl,?_⟩) ?_ ?_;rotate_left;exact jb;rotate_left;exact jc
        refine pure_ (i:=13) (N:=some 46) (v:=?_) (a':=?_) (bm_ 14 22) rfl rfl (any_of HT_.out jA) (fun _ _ _ h=>h) (Or.inl ⟨by rfl,?_⟩) ?_ ?_;rotate_left;exact jb;rotate_left;exact jc
        refine pure_ (i:=14) (N:=some 47) (v:=undef) (a':=?_) (bm_ 15 22) rfl rfl (any_of HT_.out jA) (fun _ _ _ h=>h) (Or.inr ⟨by rfl,rfl⟩) ?_ ?_;rotate_left
        exact jc
        refine pure_ (i:=15) (N:=some 48) (v:=undef) (a':=?_) (bm_ 16 22) rfl rfl (any_of HT_.out jA) (fun _ _ _ h=>h) (Or.inr ⟨by rfl,rfl⟩) ?_ ?_;rotate_left
        exact jc
        refine pure_ (i:=16) (N:=some 49) (v:=undef) (a':=?_) (bm_ 17 22) rfl rfl (any_of HT_.out jA) (fun _ _ _ h=>h) (Or.inr ⟨by rfl,rfl⟩) ?_ ?_;rotate_left
        exact jc
        refine pure_ (i:=17) (N:=some 50) (v:=undef) (a':=?_) (bm_ 18 22) rfl rfl (any_of HT_.out jA) (fun _ _ _ h=>h) (Or.inr ⟨by rfl,rfl⟩) ?_ ?_;rotate_left
        exact jc
        refine pure_ (i:=18) (N:=some 51) (v:=undef) (a':=?_) (bm_ 19 22) rfl rfl (any_of HT_.out jA) (fun _ _ _ h=>h) (Or.inr ⟨by rfl,rfl⟩) ?_ ?_;rotate_left
        exact jc
        refine pure_ (i:=19) (N:=some 52) (v:=undef) (a':=?_) (bm_ 20 22) rfl rfl (any_of HT_.out jA) (fun _ _ _ h=>h) (Or.inr ⟨by rfl,rfl⟩) ?_ ?_;rotate_left
        exact jc
        refine pure_ (i:=20) (N:=some 53) (v:=undef) (a':=?_) (bm_ 21 22) rfl rfl (any_of HT_.out jA) (fun _ _ _ h=>h) (Or.inr ⟨by rfl,rfl⟩) ?_ ?_;rotate_left
        exact jc
        refine pure_ (i:=21) (N:=some 54) (v:=?_) (a':=?_) (bm_ 22 22) rfl rfl (any_of HT_.out jA) (fun _ _ _ h=>h) (Or.inl ⟨by rfl,?_⟩) ?_ ?_;rotate_left;exact jb;rotate_left;exact jc
        refine done_ (done_of HT_.out jA) ?_
        try go_wp2
        go_meet
        case rel=>exact ⟨_,(false),jD,H',⟨jBE⟩,⟨jP⟩,⟨jJ⟩,⟨jZ⟩,⟨je⟩,⟨jT⟩⟩
       replace c20:=yb.mpr c20;subst c20;rw [if_neg (show ¬ (false=true) by decide)] at H
       by_cases c22 : (((rd_T60 l0_0 x9_1).f1).length : Int) > 0
       ·
        rw [if_pos c22] at H
        have c22b0 : decide (0<(((rd_T60 l0_0 x9_1).f1).length : Int))=true:=decide_eq_true c22;have c22b1 : decide (0<((rd_T60 l0_0 x9_1).f1).length)=true:=decide_eq_true jE;clear c22
        by_cases c23 : 0<(((rd_T60 l0_0 x9_1).f1).length : Int)
        ·
         rw [if_pos c23] at H
         have c23b0 : decide (0<(((rd_T60 l0_0 x9_1).f1).length : Int))=true:=decide_eq_true c23;have c23b1 : decide (0<((rd_T60 l0_0 x9_1).f1).length)=true:=decide_eq_true jE;clear c23;have H':=zh H;clear H
         try go_wp2
         replace HO_6:=zh (zo HO_6.out);replace HO_7:=zh (zo HO_7.out);replace BK372:=zh (zf BK372.out);replace BK373:=zh (zf BK373.out);replace HB:=zh (zc HB.out);have p382 : 0≤(0 : Int):=jE;have q382 : 0<(((rd_T60 l0_0 x9_1).f1).length : Int):=zy jC;obtain ⟨ad382,e382,hx382_0,hx382_1⟩:=at_T28 HR381_1.out 0 p382 q382;have hw382_1:=hx382_1;(try rw [show ((0 : Int)).toNat=0 from rfl] at hw382_1);(try rw [show 0*2=0 from rfl] at hw382_1);(try rw [Addr.add_zero'] at hw382_1);have hw382_0:=hx382_0;(try rw [show ((0 : Int)).toNat=0 from rfl] at hw382_0);(try rw [show 0*2=0 from rfl] at hw382_0);(try rw [Addr.add_zero'] at hw382_0)
         cases e382
         have qi382 : (0<((rd_T60 l0_0 x9_1).f1).length)=True:=eq_true jE;(try rw [show ((0 : Int)).toNat=0 from rfl] at hx382_0);(try rw [show 0*2=0 from rfl] at hx382_0);(try rw [Addr.add_zero'] at hx382_0);(try rw [show ((0 : Int)).toNat=0 from rfl] at hx382_1);(try rw [show 0*2=0 from rfl] at hx382_1);(try rw [Addr.add_zero'] at hx382_1);replace hx382_0:=(HB.out.cell (zl w _ hx382_0)).trans hx382_0;replace hx382_1:=(HB.out.cell (zl w _ hx382_1)).trans hx382_1;replace p382:=eq_true p382;replace q382:=eq_true q382;refine start_ (n:=22) (S:=fun w' => w'.cell? ⟨gb373,0,none⟩=some (.string a1_0)∧w'.cell? ⟨gb373,1,none⟩=some (.string a1_1)∧w'.cell? ⟨gb373,2,none⟩=some (.bool false)∧w'.cell? ad382=some (.string ((rd_T28 ((rd_T60 l0_0 x9_1).f1) 0).f0))∧w'.cell? ⟨ad382.block,ad382.off+1,none⟩=some (.int .i64 ((rd_T28 ((rd_T60 l0_0 x9_1).f1) 0).f1))) (ds:=[]) (bm_ 0 22) jA rfl rfl ⟨(zz BK373.out 0).trans rfl,(zz BK373.out 1).trans rfl,(zz BK373.out 2).trans rfl,((HB.out.cell (zl w _ hw382_0)).trans hw382_0),((HB.out.cell (zl w _ hw382_1)).trans hw382_1)⟩ (fun hHeld=>?_);refine with_tabW F5.tab8 F5.bits8 (fun HT_ HW_=>?_);generalize wr.drew=w24 at HO_6 HO_7 BK372 BK373 HB hx382_0 hx382_1 hHeld ⊢;refine pure_ (i:=0) (N:=some 33) (v:=?_) (a':=?_) (bm_ 1 22) rfl rfl (any_of HT_.out jA) (fun _ _ _ h=>h) (Or.inl ⟨by rfl,?_⟩) ?_ ?_;rotate_left;exact jb;rotate_left;exact jc
         refine pure_ (i:=1) (N:=some 34) (v:=?_) (a':=?_) (bm_ 2 22) rfl rfl (any_of HT_.out jA) (fun _ _ _ h=>h) (Or.inl ⟨by rfl,?_⟩) ?_ ?_;rotate_left;exact jb;rotate_left;exact jc
         refine pure_ (i:=2) (N:=some 35) (v:=?_) (a':=?_) (bm_ 3 22) rfl rfl (any_of HT_.out jA) (fun _ _ _ h=>h) (Or.inl ⟨by rfl,?_⟩) ?_ ?_;rotate_left;exact jb;rotate_left;exact jc
         refine pure_ (i:=3) (N:=some 36) (v:=?_) (a':=?_) (bm_ 4 22) rfl rfl (any_of HT_.out jA) (fun _ _ _ h=>h) (Or.inl ⟨by rfl,?_⟩) ?_ ?_;rotate_left;exact jb;rotate_left;exact jc
         refine pure_ (i:=4) (N:=some 37) (v:=?_) (a':=?_) (bm_ 5 22) rfl rfl (any_of HT_.out jA) (fun _ _ _ h=>h) (Or.inl ⟨by rfl,?_⟩) ?_ ?_;rotate_left;exact jb;rotate_left;exact jc
         refine take_ (i:=5) (N:=some 38) (v:=?_) (a':=?_) (bm_ 6 22) rfl rfl (yo HT_.out HW_.out jA) (fun _ _ _ h=>h) (Or.inl ⟨by rfl,?_⟩) hHeld ?_ ?_;rotate_left
         ·
          rintro w' ⟨s0,s1,s2,s3,s4⟩
          go_simp
          with_reducible rfl
         rotate_left
         exact jc
         refine pure_ (i:=6) (N:=some 39) (v:=?_) (a':=?_) (bm_ 7 22) rfl rfl (any_of HT_.out jA) (fun _ _ _ h=>h) (Or.inl ⟨by rfl,?_⟩) ?_ ?_;rotate_left;exact jb;rotate_left;exact jc
         refine pure_ (i:=7) (N:=some 40) (v:=?_) (a':=?_) (bm_ 8 22) rfl rfl (any_of HT_.out jA) (fun _ _ _ h=>h) (Or.inl ⟨by rfl,?_⟩) ?_ ?_;rotate_left;exact jb;rotate_left;exact jc
         refine pure_ (i:=8) (N:=some 41) (v:=?_) (a':=?_) (bm_ 9 22) rfl rfl (any_of HT_.out jA) (fun _ _ _ h=>h) (Or.inl ⟨by rfl,?_⟩) ?_ ?_;rotate_left;exact jb;rotate_left;exact jc
         refine pure_ (i:=9) (N:=some 42) (v:=?_) (a':=?_) (bm_ 10 22) rfl rfl (any_of HT_.out jA) (fun _ _ _ h=>h) (Or.inl ⟨by rfl,?_⟩) ?_ ?_;rotate_left;exact jb;rotate_left;exact jc
         refine pure_ (i:=10) (N:=some 43) (v:=?_) (a':=?_) (bm_ 11 22) rfl rfl (any_of HT_.out jA) (fun _ _ _ h=>h) (Or.inl ⟨by rfl,?_⟩) ?_ ?_;rotate_left;exact jb;rotate_left;exact jc
         refine pure_ (i:=11) (N:=some 44) (v:=?_) (a':=?_) (bm_ 12 22) rfl rfl (any_of HT_.out jA) (fun _ _ _ h=>h) (Or.inl ⟨by rfl,?_⟩) ?_ ?_;rotate_left;exact jb;rotate_left;exact jc
         refine pure_ (i:=12) (N:=some 45) (v:=?_) (a':=?_) (bm_ 13 22) rfl rfl (any_of HT_.out jA) (fun _ _ _ h=>h) (Or.inl ⟨by rfl,?_⟩) ?_ ?_;rotate_left;exact jb;rotate_left;exact jc
         refine pure_ (i:=13) (N:=some 46) (v:=?_) (a':=?_) (bm_ 14 22) rfl rfl (any_of HT_.out jA) (fun _ _ _ h=>h) (Or.inl ⟨by rfl,?_⟩) ?_ ?_;rotate_left;exact jb;rotate_left;exact jc
         refine pure_ (i:=14) (N:=some 47) (v:=?_) (a':=?_) (bm_ 15 22) rfl rfl (any_of HT_.out jA) (fun _ _ _ h=>h) (Or.inl ⟨by rfl,?_⟩) ?_ ?_;rotate_left;exact jb;rotate_left;exact jc
         refine pure_ (i:=15) (N:=some 48) (v:=?_) (a':=?_) (bm_ 16 22) rfl rfl (any_of HT_.out jA) (fun _ _ _ h=>h) (Or.inl ⟨by rfl,?_⟩) ?_ ?_;rotate_left;exact jb;rotate_left;exact jc
         refine pure_ (i:=16) (N:=some 49) (v:=?_) (a':=?_) (bm_ 17 22) rfl rfl (any_of HT_.out jA) (fun _ _ _ h=>h) (Or.inl ⟨by rfl,?_⟩) ?_ ?_;rotate_left;exact jb;rotate_left;exact jc
         refine pure_ (i:=18) (N:=some 51) (v:=?_) (a':=?_) #[true,true,true,true,true,true,true,true,true,true,true,true,true,true,true,true,true,false,true,false,false,false] rfl rfl (any_of HT_.out jA) (fun _ _ _ h=>h) (Or.inl ⟨by rfl,?_⟩) ?_ ?_;rotate_left;exact jb;rotate_left;exact jc
         refine take_ (i:=17) (N:=some 50) (v:=?_) (a':=?_) (bm_ 19 22) rfl rfl (yo HT_.out HW_.out jA) (fun _ _ _ h=>h) (Or.inl ⟨by rfl,?_⟩) hHeld ?_ ?_;rotate_left
         ·
          rintro w' ⟨s0,s1,s2,s3,s4⟩
          go_simp
          with_reducible rfl
         rotate_left
         exact jc
         refine take_ (i:=19) (N:=some 52) (v:=?_) (a':=?_) (bm_ 20 22) rfl rfl (yo HT_.out HW_.out jA) (fun _ _ _ h=>h) (Or.inl ⟨by rfl,?_⟩) hHeld ?_ ?_;rotate_left
         ·
          rintro w' ⟨s0,s1,s2,s3,s4⟩
          go_simp
          with_reducible rfl
         rotate_left
         exact jc
         refine pure_ (i:=20) (N:=some 53) (v:=?_) (a':=?_) (bm_ 21 22) rfl rfl (any_of HT_.out jA) (fun _ _ _ h=>h) (Or.inl ⟨by rfl,?_⟩) ?_ ?_;rotate_left;exact jb;rotate_left;exact jc
         refine pure_ (i:=21) (N:=some 54) (v:=?_) (a':=?_) (bm_ 22 22) rfl rfl (any_of HT_.out jA) (fun _ _ _ h=>h) (Or.inl ⟨by rfl,?_⟩) ?_ ?_;rotate_left;exact jb;rotate_left;exact jc
         refine done_ (done_of HT_.out jA) ?_
         try go_wp2
         go_meet
         case rel=>exact ⟨_,(!(Op.bytesLess (((rd_T28 ((rd_T60 l0_0 x9_1).f1) 0).f0).toList) a1_1.toList)),jD,H',⟨jBE⟩,⟨jP⟩,⟨jJ⟩,⟨jZ⟩,⟨je⟩,⟨jT⟩⟩
        rw [if_neg c23] at H;exact absurd H (by simp)
       rw [if_neg c22] at H;have c22b0 : decide (0<(((rd_T60 l0_0 x9_1).f1).length : Int))=false:=decide_eq_false c22;have c22b1 : decide (0<((rd_T60 l0_0 x9_1).f1).length)=false:=decide_eq_false jE;clear c22;have H':=zh H;clear H
       try go_wp2
       replace HO_6:=zh (zo HO_6.out);replace HO_7:=zh (zo HO_7.out);replace BK372:=zh (zf BK372.out);replace BK373:=zh (zf BK373.out);replace HB:=zh (zc HB.out);refine start_ (n:=22) (S:=fun w' => w'.cell? ⟨gb373,0,none⟩=some (.string a1_0)∧w'.cell? ⟨gb373,1,none⟩=some (.string a1_1)∧w'.cell? ⟨gb373,2,none⟩=some (.bool false)) (ds:=[]) (bm_ 0 22) jA rfl rfl ⟨(zz BK373.out 0).trans rfl,(zz BK373.out 1).trans rfl,(zz BK373.out 2).trans rfl⟩ (fun hHeld=>?_);refine with_tabW F5.tab8 F5.bits8 (fun HT_ HW_=>?_);generalize wr.drew=w25 at HO_6 HO_7 BK372 BK373 HB hHeld ⊢;refine pure_ (i:=0) (N:=some 33) (v:=?_) (a':=?_) (bm_ 1 22) rfl rfl (any_of HT_.out jA) (fun _ _ _ h=>h) (Or.inl ⟨by rfl,?_⟩) ?_ ?_;rotate_left;exact jb;rotate_left;exact jc
       refine pure_ (i:=1) (N:=some 34) (v:=?_) (a':=?_) (bm_ 2 22) rfl rfl (any_of HT_.out jA) (fun _ _ _ h=>h) (Or.inl ⟨by rfl,?_⟩) ?_ ?_;rotate_left;exact jb;rotate_left;exact jc
       refine pure_ (i:=2) (N:=some 35) (v:=?_) (a':=?_) (bm_ 3 22) rfl rfl (any_of HT_.out jA) (fun _ _ _ h=>h) (Or.inl ⟨by rfl,?_⟩) ?_ ?_;rotate_left;exact jb;rotate_left;exact jc
       refine pure_ (i:=3) (N:=some 36) (v:=?_) (a':=?_) (bm_ 4 22) rfl rfl (any_of HT_.out jA) (fun _ _ _ h=>h) (Or.inl ⟨by rfl,?_⟩) ?_ ?_;rotate_left;exact jb;rotate_left;exact jc
       refine pure_ (i:=4) (N:=some 37) (v:=?_) (a':=?_) (bm_ 5 22) rfl rfl (any_of HT_.out jA) (fun _ _ _ h=>h) (Or.inl ⟨by rfl,?_⟩) ?_ ?_;rotate_left;exact jb;rotate_left;exact jc
       refine take_ (i:=5) (N:=some 38) (v:=?_) (a':=?_) (bm_ 6 22) rfl rfl (yo HT_.out HW_.out jA) (fun _ _ _ h=>h) (Or.inl ⟨by rfl,?_⟩) hHeld ?_ ?_;rotate_left
       ·
        rintro w' ⟨s0,s1,s2⟩
        go_simp
        with_reducible rfl
       rotate_left
       exact jc
       refine pure_ (i:=6) (N:=some 39) (v:=?_) (a':=?_) (bm_ 7 22) rfl rfl (any_of HT_.out jA) (fun _ _ _ h=>h) (Or.inl ⟨by rfl,?_⟩) ?_ ?_;rotate_left;exact jb;rotate_left;exact jc
       refine pure_ (i:=7) (N:=some 40) (v:=?_) (a':=?_) (bm_ 8 22) rfl rfl (any_of HT_.out jA) (fun _ _ _ h=>h) (Or.inl ⟨by rfl,?_⟩) ?_ ?_;rotate_left;exact jb;rotate_left;exact jc
       refine pure_ (i:=8) (N:=some 41) (v:=?_) (a':=?_) (bm_ 9 22) rfl rfl (any_of HT_.out jA) (fun _ _ _ h=>h) (Or.inl ⟨by rfl,?_⟩) ?_ ?_;rotate_left;exact jb;rotate_left;exact jc
       refine pure_ (i:=9) (N:=some 42) (v:=?_) (a':=?_) (bm_ 10 22) rfl rfl (any_of HT_.out jA) (fun _ _ _ h=>h) (Or.inl ⟨by rfl,?_⟩) ?_ ?_;rotate_left;exact jb;rotate_left;exact jc
       refine pure_ (i:=10) (N:=some 43) (v:=?_) (a':=?_) (bm_ 11 22) rfl rfl (any_of HT_.out jA) (fun _ _ _ h=>h) (Or.inl ⟨by rfl,?_⟩) ?_ ?_;rotate_left;exact jb;rotate_left;exact jc
       refine pure_ (i:=11) (N:=some 44) (v:=?_) (a':=?_) (bm_ 12 22) rfl rfl (any_of HT_.out jA) (fun _ _ _ h=>h) (Or.inl ⟨by rfl,?_⟩) ?_ ?_;rotate_left;exact jb;rotate_left;exact jc
       refine pure_ (i:=12) (N:=some 45) (v:=?_) (a':=?_) (bm_ 13 22) rfl rfl (any_of HT_.out jA) (fun _ _ _ h=>h) (Or.inl ⟨by rfl,?_⟩) ?_ ?_;rotate_left;exact jb;rotate_left;exact jc
       refine pure_ (i:=13) (N:=some 46) (v:=?_) (a':=?_) (bm_ 14 22) rfl rfl (any_of HT_.out jA) (fun _ _ _ h=>h) (Or.inl ⟨by rfl,?_⟩) ?_ ?_;rotate_left;exact jb;rotate_left;exact jc
       refine pure_ (i:=14) (N:=some 47) (v:=undef) (a':=?_) (bm_ 15 22) rfl rfl (any_of HT_.out jA) (fun _ _ _ h=>h) (Or.inr ⟨by rfl,rfl⟩) ?_ ?_;rotate_left
       exact jc
       refine pure_ (i:=15) (N:=some 48) (v:=undef) (a':=?_) (bm_ 16 22) rfl rfl (any_of HT_.out jA) (fun _ _ _ h=>h) (Or.inr ⟨by rfl,rfl⟩) ?_ ?_;rotate_left
       exact jc
       refine pure_ (i:=16) (N:=some 49) (v:=undef) (a':=?_) (bm_ 17 22) rfl rfl (any_of HT_.out jA) (fun _ _ _ h=>h) (Or.inr ⟨by rfl,rfl⟩) ?_ ?_;rotate_left
       exact jc
       refine pure_ (i:=17) (N:=some 50) (v:=undef) (a':=?_) (bm_ 18 22) rfl rfl (any_of HT_.out jA) (fun _ _ _ h=>h) (Or.inr ⟨by rfl,rfl⟩) ?_ ?_;rotate_left
       exact jc
       refine pure_ (i:=18) (N:=some 51) (v:=undef) (a':=?_) (bm_ 19 22) rfl rfl (any_of HT_.out jA) (fun _ _ _ h=>h) (Or.inr ⟨by rfl,rfl⟩) ?_ ?_;rotate_left
       exact jc
       refine pure_ (i:=19) (N:=some 52) (v:=undef) (a':=?_) (bm_ 20 22) rfl rfl (any_of HT_.out jA) (fun _ _ _ h=>h) (Or.inr ⟨by rfl,rfl⟩) ?_ ?_;rotate_left
       exact jc
       refine pure_ (i:=20) (N:=some 53) (v:=undef) (a':=?_) (bm_ 21 22) rfl rfl (any_of HT_.out jA) (fun _ _ _ h=>h) (Or.inr ⟨by rfl,rfl⟩) ?_ ?_;rotate_left
       exact jc
       refine pure_ (i:=21) (N:=some 54) (v:=?_) (a':=?_) (bm_ 22 22) rfl rfl (any_of HT_.out jA) (fun _ _ _ h=>h) (Or.inl ⟨by rfl,?_⟩) ?_ ?_;rotate_left;exact jb;rotate_left;exact jc
       refine done_ (done_of HT_.out jA) ?_
       try go_wp2
       go_meet
       case rel=>exact ⟨_,(false),jD,H',⟨jBE⟩,⟨jP⟩,⟨jJ⟩,⟨jZ⟩,⟨je⟩,⟨jT⟩⟩
      rw [if_neg c19] at H;have c19b0 : decide (t380<x9_1)=false:=decide_eq_false c19;clear c19;(first|rw [c19b0]|(simp only [zG,zH];rw [c19b0])|skip);have H':=zh H;clear H
      try go_wp2
      replace HO_6:=zh (zo HO_6.out);replace HO_7:=zh (zo HO_7.out);replace BK372:=zh (zf BK372.out);replace BK373:=zh (zf BK373.out);replace HB:=zh (zc HB.out);refine start_ (n:=22) (S:=fun w' => True) (ds:=[]) (bm_ 0 22) jA rfl rfl trivial (fun hHeld=>?_);refine with_tabW F5.tab8 F5.bits8 (fun HT_ HW_=>?_);generalize wr.drew=w26 at HO_6 HO_7 BK372 BK373 HB hHeld ⊢;refine pure_ (i:=0) (N:=some 33) (v:=?_) (a':=?_) (bm_ 1 22) rfl rfl (any_of HT_.out jA) (fun _ _ _ h=>h) (Or.inl ⟨by rfl,?_⟩) ?_ ?_;rotate_left;exact jb;rotate_left;exact jc
      refine pure_ (i:=1) (N:=some 34) (v:=?_) (a':=?_) (bm_ 2 22) rfl rfl (any_of HT_.out jA) (fun _ _ _ h=>h) (Or.inl ⟨by rfl,?_⟩) ?_ ?_;rotate_left;exact jb;rotate_left;exact jc
      refine pure_ (i:=2) (N:=some 35) (v:=?_) (a':=?_) (bm_ 3 22) rfl rfl (any_of HT_.out jA) (fun _ _ _ h=>h) (Or.inl ⟨by rfl,?_⟩) ?_ ?_;rotate_left;exact jb;rotate_left;exact jc
      refine pure_ (i:=3) (N:=some 36) (v:=?_) (a':=?_) (bm_ 4 22) rfl rfl (any_of HT_.out jA) (fun _ _ _ h=>h) (Or.inl ⟨by rfl,?_⟩) ?_ ?_;rotate_left;exact jb;rotate_left;exact jc
      refine pure_ (i:=4) (N:=some 37) (v:=undef) (a':=?_) (bm_ 5 22) rfl rfl (any_of HT_.out jA) (fun _ _ _ h=>h) (Or.inr ⟨by rfl,rfl⟩) ?_ ?_;rotate_left
      exact jc
      refine pure_ (i:=5) (N:=some 38) (v:=undef) (a':=?_) (bm_ 6 22) rfl rfl (any_of HT_.out jA) (fun _ _ _ h=>h) (Or.inr ⟨by rfl,rfl⟩) ?_ ?_;rotate_left
      exact jc
      refine pure_ (i:=6) (N:=some 39) (v:=undef) (a':=?_) (bm_ 7 22) rfl rfl (any_of HT_.out jA) (fun _ _ _ h=>h) (Or.inr ⟨by rfl,rfl⟩) ?_ ?_;rotate_left
      exact jc
      refine pure_ (i:=7) (N:=some 40) (v:=?_) (a':=?_) (bm_ 8 22) rfl rfl (any_of HT_.out jA) (fun _ _ _ h=>h) (Or.inl ⟨by rfl,?_⟩) ?_ ?_;rotate_left;exact jb;rotate_left;exact jc
      refine pure_ (i:=8) (N:=some 41) (v:=?_) (a':=?_) (bm_ 9 22) rfl rfl (any_of HT_.out jA) (fun _ _ _ h=>h) (Or.inl ⟨by rfl,?_⟩) ?_ ?_;rotate_left;exact jb;rotate_left;exact jc
      refine pure_ (i:=9) (N:=some 42) (v:=undef) (a':=?_) (bm_ 10 22) rfl rfl (any_of HT_.out jA) (fun _ _ _ h=>h) (Or.inr ⟨by rfl,rfl⟩) ?_ ?_;rotate_left
      exact jc
      refine pure_ (i:=10) (N:=some 43) (v:=undef) (a':=?_) (bm_ 11 22) rfl rfl (any_of HT_.out jA) (fun _ _ _ h=>h) (Or.inr ⟨by rfl,rfl⟩) ?_ ?_;rotate_left
      exact jc
      refine pure_ (i:=11) (N:=some 44) (v:=undef) (a':=?_) (bm_ 12 22) rfl rfl (any_of HT_.out jA) (fun _ _ _ h=>h) (Or.inr ⟨by rfl,rfl⟩) ?_ ?_;rotate_left
      exact jc
      refine pure_ (i:=12) (N:=some 45) (v:=?_) (a':=?_) (bm_ 13 22) rfl rfl (any_of HT_.out jA) (fun _ _ _ h=>h) (Or.inl ⟨by rfl,?_⟩) ?_ ?_;rotate_left;exact jb;rotate_left;exact jc
      refine pure_ (i:=13) (N:=some 46) (v:=?_) (a':=?_) (bm_ 14 22) rfl rfl (any_of HT_.out jA) (fun _ _ _ h=>h) (Or.inl ⟨by rfl,?_⟩) ?_ ?_;rotate_left;exact jb;rotate_left;exact jc
      refine pure_ (i:=14) (N:=some 47) (v:=undef) (a':=?_) (bm_ 15 22) rfl rfl (any_of HT_.out jA) (fun _ _ _ h=>h) (Or.inr ⟨by rfl,rfl⟩) ?_ ?_;rotate_left
      exact jc
      refine pure_ (i:=15) (N:=some 48) (v:=undef) (a':=?_) (bm_ 16 22) rfl rfl (any_of HT_.out jA) (fun _ _ _ h=>h) (Or.inr ⟨by rfl,rfl⟩) ?_ ?_;rotate_left
      exact jc
      refine pure_ (i:=16) (N:=some 49) (v:=undef) (a':=?_) (bm_ 17 22) rfl rfl (any_of HT_.out jA) (fun _ _ _ h=>h) (Or.inr ⟨by rfl,rfl⟩) ?_ ?_;rotate_left
      exact jc
      refine pure_ (i:=17) (N:=some 50) (v:=undef) (a':=?_) (bm_ 18 22) rfl rfl (any_of HT_.out jA) (fun _ _ _ h=>h) (Or.inr ⟨by rfl,rfl⟩) ?_ ?_;rotate_left
      exact jc
      refine pure_ (i:=18) (N:=some 51) (v:=undef) (a':=?_) (bm_ 19 22) rfl rfl (any_of HT_.out jA) (fun _ _ _ h=>h) (Or.inr ⟨by rfl,rfl⟩) ?_ ?_;rotate_left
      exact jc
      refine pure_ (i:=19) (N:=some 52) (v:=undef) (a':=?_) (bm_ 20 22) rfl rfl (any_of HT_.out jA) (fun _ _ _ h=>h) (Or.inr ⟨by rfl,rfl⟩) ?_ ?_;rotate_left
      exact jc
      refine pure_ (i:=20) (N:=some 53) (v:=undef) (a':=?_) (bm_ 21 22) rfl rfl (any_of HT_.out jA) (fun _ _ _ h=>h) (Or.inr ⟨by rfl,rfl⟩) ?_ ?_;rotate_left
      exact jc
      refine pure_ (i:=21) (N:=some 54) (v:=?_) (a':=?_) (bm_ 22 22) rfl rfl (any_of HT_.out jA) (fun _ _ _ h=>h) (Or.inl ⟨by rfl,?_⟩) ?_ ?_;rotate_left;exact jb;rotate_left;exact jc
      refine done_ (done_of HT_.out jA) ?_
      try go_wp2
      go_meet
      case rel=>exact ⟨_,(false),jD,H',⟨jBE⟩,⟨jP⟩,⟨jJ⟩,⟨jZ⟩,⟨je⟩,⟨jT⟩⟩
     case rest =>
      clear HC16
      try clear c1 c2
      try clear p2
      try clear p3
      try clear q3
      try clear hx3
      try clear qi3
      try clear c19 c19b0 c20 c22 c22b0 c22b1 c23 c23b0 c23b1
      try clear hx382_0
      try clear hx382_1
      try clear p382
      try clear q382
      obtain ⟨kq,x54_15,rfl,HA,HJ15,HO_6,HO_7,BK372,BK373,HB⟩:=hcut
      cases kq with
      | zero=>exact absurd HA.out (by simp [F5.j1])
      | succ kj15 =>
       have H:=HA.out;clear HA;simp only [F5.j1] at H
       by_cases c27 : x54_15=true
       ·
        subst c27
        rw [if_pos rfl] at H;simp only [Option.some.injEq,Prod.mk.injEq] at H;obtain ⟨rfl,rfl⟩:=H
        go_wp2
        go_ret2
        exact ⟨_,_,jG,jP,jJ,jT⟩
       replace c27:=yb.mpr c27;subst c27;rw [if_neg (show ¬ (false=true) by decide)] at H
       by_cases c28 : 0≤x9_1
       ·
        rw [if_pos c28] at H
        have c28b0 : decide (0≤x9_1)=true:=decide_eq_true c28;clear c28
        by_cases c29 : x9_1<(l0_0.length : Int)
        ·
         rw [if_pos c29] at H
         have c29b0 : decide (x9_1<(l0_0.length : Int))=true:=decide_eq_true c29;clear c29
         by_cases c30 : x7_1.length<17592186044416
         ·
          rw [if_pos c30] at H
          have LMc30:=zh c30;clear c30;obtain ⟨y384,hy384⟩ : ∃ y_ : List Int,y_=(x7_1 ++ [(rd_T60 l0_0 x9_1).f0]):=⟨_,rfl⟩;replace H : (F5.l1 kj15 x6_1 y384 t380 x9_1 ((rd_T60 l0_0 x9_1).f1) 0 l0_0 a0_1 a1_0 a1_1 a1_2)=some (r1,r2):=by first|(rw [hy384];with_reducible exact H)|(have H2_:=(Option.bind_some _ _).symm.trans H;rw [hy384];with_reducible exact H2_)|(have H2_:=(Option.bind_some _ _).symm.trans H;with_reducible exact H2_)|with_reducible exact H|(rw [hy384];exact H)|exact H
          have Ny384:=zh hy384;clear hy384;have H':=zh H;clear H;have hnb31:=NB372_373.out;have hnc31:=NB373_372.out;obtain ⟨hcz32_0,hcz32_1,hfz32_0,hfz32_1⟩:=cB2 BK372.out;have p383 : 0≤(x9_1 : Int):=zy jC;have q383 : x9_1<(l0_0.length : Int):=zy jC;obtain ⟨ad383,A383_1,c383_1,e383,hx383_0,hx383_1,hl383_1,hi383_1⟩:=at_T60 HR0_0.out x9_1 p383 q383;obtain rfl : ad381=ad383:=(by injection e383);replace hx383_0:=(HB.out.cell (zl w _ hx383_0)).trans hx383_0;replace hx383_1:=(HB.out.cell (zl w _ hx383_1)).trans hx383_1;have HR383_1:=zh hi383_1;have HC383_1:=zh hl383_1;clear hi383_1 hl383_1;replace p383:=eq_true p383;replace q383:=eq_true q383
          go_wp2_with (first|((with_reducible refine yA (b:=.append) (xs:=#[.tmp 55,.tmp 62]) rfl ?_);(try (refine yy (by rfl) ?_;dsimp only));at_builtin;refine Kd.R_append (Kd.int .i64) (w0:=w) w.heap.size rfl (.tmp 55) (.tmp 62) 34 3 (.int .i64 0) 8 rfl Try.underlying34 info3 rfl jB jE u7 x7_1 ((rd_T60 l0_0 x9_1).f0) [.int .i64 ((rd_T60 l0_0 x9_1).f0)] (fun _=>True) (fun _=>False) rfl rfl ?aP (fun _ hk=>hk.elim) ?aF ?aO ?aB ?aS ?aL ?_;(case aP=>exact rfl);(case aB=>exact jT);(case aF=>exact (fun _ _=>trivial));(case aO=>exact jJ);(case aS=>exact (zB jT));(case aL=>have:=LMc30.out;omega);intro v385 w33 ho hb hg hat;rw [← Ny384.out] at ho;replace HO_6:=zh (Kd.R_over' jP (Kd.R_typed jJ) jB hg);replace BK372:=zh (yv (g:=gb372) (o:=.cells #[.slice (some ad381) l0_0.length c0_0,.int .i64 a0_1] 25 (0,0)) jZ hg (Kd.R_ne HO_7.out BK372.out jB));replace BK373:=zh (yv (g:=gb373) (o:=.cells #[.string a1_0,.string a1_1,.bool a1_2] 32 (0,0)) je hg (Kd.R_ne HO_7.out BK373.out jB));replace HB:=zh (hb);have HO386:=zh (ho);clear HO_7 ho hb hg hat))
          go_loopg [6,11] kj15 (fun kq v6 v11 w' => ∃ (x6_3 : List (S28)) (x11_3 : Int),v11 = .int .i64 x11_3∧Aside0 (F5.l1 kq x6_3 y384 t380 x9_1 ((rd_T60 l0_0 x9_1).f1) x11_3 l0_0 a0_1 a1_0 a1_1 a1_2=some (r1,r2))∧Aside0 (kq≤kj15)∧Aside0 (Kd.R k28 28 w' w.heap.size (fun _=>True) v6 x6_3)∧Aside0 (Kd.R (Kd.int .i64) 3 w' w.heap.size (fun _=>True) v385 y384)∧Aside0 (w'.heap[gb372]? = some (.cells #[(.slice (some ad381) l0_0.length c0_0),.int .i64 a0_1] 25 (0,0)))∧Aside0 (w'.heap[gb373]? = some (.cells #[.string a1_0,.string a1_1,.bool a1_2] 32 (0,0)))∧Aside0 (Below w.heap.size w w'))
          case atStart=>exact ⟨(x6_1),(0),jD,H',⟨ye _⟩,⟨jP⟩,⟨by (with_reducible repeat (first|apply zm|apply zn|apply zo));exact HO386.out⟩,⟨jZ⟩,⟨je⟩,⟨jT⟩⟩
          case round =>
           clear H'
           try clear c1 c2
           try clear p2
           try clear c3
           try clear p3
           try clear q3
           try clear hx3
           try clear qi3
           try clear c19 c19b0 c20 c22 c22b0 c22b1 c23 c23b0 c23b1 c27 c28 c28b0 c29 c29b0 c30 c31
           try clear hcz32_0 hcz32_1 hfz32_0 hfz32_1
           try clear hx382_0
           try clear hx382_1
           try clear hx383_0
           try clear hx383_1
           try clear p2
           try clear p3
           try clear p382
           try clear p383
           try clear q3
           try clear q382
           try clear q383
           obtain ⟨x6_3,x11_3,rfl,HA,HK3,HO_6,HO_7,BK372,BK373,HB⟩:=hrel
           cases gk with
           | zero=>exact absurd HA.out (by simp [F5.l1])
           | succ k3 =>
            have H:=HA.out;clear HA;simp only [F5.l1] at H
            by_cases c34 : x11_3<(((rd_T60 l0_0 x9_1).f1).length : Int)
            ·
             rw [if_pos c34] at H
             have c34b0 : decide (x11_3<(((rd_T60 l0_0 x9_1).f1).length : Int))=true:=decide_eq_true c34;clear c34
             by_cases c35 : 0≤x11_3
             ·
              rw [if_pos c35] at H
              have c35b0 : decide (0≤x11_3)=true:=decide_eq_true c35;clear c35;replace H:=zT.mp H;obtain ⟨t388,A360,H⟩:=H;have A36:=zh A360;clear A360
              by_cases c37 : t388=true
              ·
               subst c37
               rw [if_pos rfl] at H
               by_cases c38 : x6_3.length<5864062014805
               ·
                rw [if_pos c38] at H
                have LMc38:=zh c38;clear c38;obtain ⟨y390,hy390⟩ : ∃ y_ : List (S28),y_=(x6_3 ++ [(⟨(rd_T28 ((rd_T60 l0_0 x9_1).f1) x11_3).f0,(rd_T28 ((rd_T60 l0_0 x9_1).f1) x11_3).f1⟩ : S28)]):=⟨_,rfl⟩;replace H : (F5.l1 k3 y390 y384 t380 x9_1 ((rd_T60 l0_0 x9_1).f1) (wrap64 (x11_3+1)) l0_0 a0_1 a1_0 a1_1 a1_2)=some (r1,r2):=by first|(rw [hy390];with_reducible exact H)|(have H2_:=(Option.bind_some _ _).symm.trans H;rw [hy390];with_reducible exact H2_)|(have H2_:=(Option.bind_some _ _).symm.trans H;with_reducible exact H2_)|with_reducible exact H|(rw [hy390];exact H)|exact H
                have Ny390:=zh hy390;clear hy390;have H':=zh H;clear H
                try go_wp2
                replace HO_6:=zh (zo HO_6.out);replace HO_7:=zh (zo HO_7.out);replace BK372:=zh (zf BK372.out);replace BK373:=zh (zf BK373.out);replace HB:=zh (zc HB.out);have p387 : 0≤(x11_3 : Int):=zy jC;have q387 : x11_3<(((rd_T60 l0_0 x9_1).f1).length : Int):=zy jC;obtain ⟨ad387,e387,hx387_0,hx387_1⟩:=at_T28 HR381_1.out x11_3 p387 q387;have hw387_1:=hx387_1;have hw387_0:=hx387_0
                cases e387
                replace hx387_0:=(HB.out.cell (zl w _ hx387_0)).trans hx387_0;replace hx387_1:=(HB.out.cell (zl w _ hx387_1)).trans hx387_1;replace p387:=eq_true p387;replace q387:=eq_true q387;refine start_ (n:=7) (S:=fun w' => w'.cell? ⟨gb373,0,none⟩=some (.string a1_0)∧w'.cell? ⟨gb373,1,none⟩=some (.string a1_1)∧w'.cell? ⟨gb373,2,none⟩=some (.bool a1_2)∧w'.cell? (ad387.add ((x11_3).toNat*2))=some (.string ((rd_T28 ((rd_T60 l0_0 x9_1).f1) x11_3).f0))∧w'.cell? ⟨(ad387.add ((x11_3).toNat*2)).block,(ad387.add ((x11_3).toNat*2)).off+1,none⟩=some (.int .i64 ((rd_T28 ((rd_T60 l0_0 x9_1).f1) x11_3).f1))) (ds:=[]) (bm_ 0 7) jA rfl rfl ⟨(zz BK373.out 0).trans rfl,(zz BK373.out 1).trans rfl,(zz BK373.out 2).trans rfl,((HB.out.cell (zl w _ hw387_0)).trans hw387_0),((HB.out.cell (zl w _ hw387_1)).trans hw387_1)⟩ (fun hHeld=>?_);generalize wr.drew=w39 at HO_6 HO_7 BK372 BK373 HB hx387_0 hx387_1 hHeld ⊢;refine pure_ (i:=1) (N:=some 71) (v:=?_) (a':=?_) #[false,true,false,false,false,false,false] rfl rfl jA (fun _ _ _ h=>h) (Or.inl ⟨by rfl,?_⟩) ?_ ?_;rotate_left;exact jb;rotate_left;exact jc
                refine pure_ (i:=2) (N:=some 72) (v:=?_) (a':=?_) #[false,true,true,false,false,false,false] rfl rfl jA (fun _ _ _ h=>h) (Or.inl ⟨by rfl,?_⟩) ?_ ?_;rotate_left;exact jb;rotate_left;exact jc
                refine pure_ (i:=3) (N:=some 73) (v:=?_) (a':=?_) #[false,true,true,true,false,false,false] rfl rfl jA (fun _ _ _ h=>h) (Or.inl ⟨by rfl,?_⟩) ?_ ?_;rotate_left;exact jb;rotate_left;exact jc
                refine pure_ (i:=4) (N:=some 74) (v:=?_) (a':=?_) #[false,true,true,true,true,false,false] rfl rfl jA (fun _ _ _ h=>h) (Or.inl ⟨by rfl,?_⟩) ?_ ?_;rotate_left;exact jb;rotate_left;exact jc
                refine take_ (i:=0) (N:=some 70) (v:=?_) (a':=?_) (bm_ 5 7) rfl rfl jA (fun _ _ _ h=>h) (Or.inl ⟨by rfl,?_⟩) hHeld ?_ ?_;rotate_left
                ·
                 rintro w' ⟨s0,s1,s2,s3,s4⟩
                 go_simp
                 with_reducible rfl
                rotate_left
                exact jc
                refine take_ (i:=5) (N:=some 75) (v:=?_) (a':=?_) (bm_ 6 7) rfl rfl jA (fun _ _ _ h=>h) (Or.inl ⟨by rfl,?_⟩) hHeld ?_ ?_;rotate_left
                ·
                 rintro w' ⟨s0,s1,s2,s3,s4⟩
                 go_simp
                 with_reducible rfl
                rotate_left
                exact jc
                refine one_ (i:=6) (N:=some 76) (bm_ 7 7) rfl rfl jA jB (fun K hK=>?_);refine goes_ Try.func51 jA rfl #[.agg #[.string a1_0,.string a1_1,.bool a1_2],.string ((rd_T28 ((rd_T60 l0_0 x9_1).f1) x11_3).f0)] (by rfl) rfl rfl jF ?_
                with_reducible refine (F0a.calls  a1_0 a1_1 a1_2 ((rd_T28 ((rd_T60 l0_0 x9_1).f1) x11_3).f0) true _ A36.out).mono ?_
                rintro e w40 ⟨rfl,hb⟩;refine ⟨_,rfl,?_⟩;replace HO_6:=zh (yg jP hb);replace HO_7:=zh (yg jJ hb);replace BK372:=zh (cD BK372.out jZ hb);replace BK373:=zh (cD BK373.out je hb);replace HB:=zh (zC jT hb);(try clear hb);(try clear hb2);(try clear hk);(try clear hi);refine hK.out _ _ ⟨(zz BK373.out 0).trans rfl,(zz BK373.out 1).trans rfl,(zz BK373.out 2).trans rfl,((HB.out.cell (zl w _ hw387_0)).trans hw387_0),((HB.out.cell (zl w _ hw387_1)).trans hw387_1)⟩ (fun hHeld=>?_);clear hK K;refine norm_ (a':=?_) ?_ ?_;rotate_left
                ·
                 show Act.put _ (some 76) _=_
                 simp only [Act.put,zi,zj,zk,zG,zH]
                 rfl
                refine done_ jA ?_;have p389 : 0≤(x11_3 : Int):=zy jC;have q389 : x11_3<(((rd_T60 l0_0 x9_1).f1).length : Int):=zy jC;obtain ⟨ad389,e389,hx389_0,hx389_1⟩:=at_T28 HR381_1.out x11_3 p389 q389;obtain rfl : ad387=ad389:=(by injection e389);replace hx389_0:=(HB.out.cell (zl w _ hx389_0)).trans hx389_0;replace hx389_1:=(HB.out.cell (zl w _ hx389_1)).trans hx389_1;replace p389:=eq_true p389;replace q389:=eq_true q389
                try go_wp2_with (first|((with_reducible refine yA (b:=.append) (xs:=#[.tmp 77,.tmp 82]) rfl ?_);(try (refine yy (by rfl) ?_;dsimp only));at_builtin;refine Kd.R_append k28 (w0:=w) w.heap.size rfl (.tmp 77) (.tmp 82) 33 28 (.agg #[(.string ⟨#[]⟩),(.int .i64 0)]) 24 rfl Try.underlying33 info28 rfl jB jE u6 x6_3 (⟨(rd_T28 ((rd_T60 l0_0 x9_1).f1) x11_3).f0,(rd_T28 ((rd_T60 l0_0 x9_1).f1) x11_3).f1⟩ : S28) [.string ((rd_T28 ((rd_T60 l0_0 x9_1).f1) x11_3).f0),.int .i64 ((rd_T28 ((rd_T60 l0_0 x9_1).f1) x11_3).f1)] (fun _=>True) (fun _=>False) rfl rfl ?aP (fun _ hk=>hk.elim) ?aF ?aO ?aB ?aS ?aL ?_;(case aP=>exact k28_mkM _ _ _ (⟨(rd_T28 ((rd_T60 l0_0 x9_1).f1) x11_3).f0,(rd_T28 ((rd_T60 l0_0 x9_1).f1) x11_3).f1⟩ : S28));(case aB=>exact jT);(case aF=>exact (fun _ _=>trivial));(case aO=>exact jP);(case aS=>exact (zB jT));(case aL=>have:=LMc38.out;omega);intro v391 w41 ho hb hg hat;rw [← Ny390.out] at ho;replace HO_7:=zh (Kd.R_over' jJ (Kd.R_typed jP) jB hg);replace BK372:=zh (yv (g:=gb372) (o:=.cells #[.slice (some ad381) l0_0.length c0_0,.int .i64 a0_1] 25 (0,0)) jZ hg (Kd.R_ne HO_6.out BK372.out jB));replace BK373:=zh (yv (g:=gb373) (o:=.cells #[.string a1_0,.string a1_1,.bool a1_2] 32 (0,0)) je hg (Kd.R_ne HO_6.out BK373.out jB));replace HB:=zh (hb);have HO392:=zh (ho);clear HO_6 ho hb hg hat))
                go_roundg k3
                case measure=>have:=HK1.out;have:=HJ15.out;have:=HK3.out;omega
                case rel=>exact ⟨(y390),(wrap64 (x11_3+1)),jD,H',⟨jBq⟩,⟨by (with_reducible repeat (first|apply zm|apply zn|apply zo));exact HO392.out⟩,⟨jJ⟩,⟨jZ⟩,⟨je⟩,⟨jT⟩⟩
               rw [if_neg c38] at H;exact absurd H (by simp)
              replace c37:=yb.mpr c37;subst c37;rw [if_neg (show ¬ (false=true) by decide)] at H;have H':=zh H;clear H
              try go_wp2
              replace HO_6:=zh (zo HO_6.out);replace HO_7:=zh (zo HO_7.out);replace BK372:=zh (zf BK372.out);replace BK373:=zh (zf BK373.out);replace HB:=zh (zc HB.out);have p387 : 0≤(x11_3 : Int):=zy jC;have q387 : x11_3<(((rd_T60 l0_0 x9_1).f1).length : Int):=zy jC;obtain ⟨ad387,e387,hx387_0,hx387_1⟩:=at_T28 HR381_1.out x11_3 p387 q387;have hw387_1:=hx387_1;have hw387_0:=hx387_0
              cases e387
              replace hx387_0:=(HB.out.cell (zl w _ hx387_0)).trans hx387_0;replace hx387_1:=(HB.out.cell (zl w _ hx387_1)).trans hx387_1;replace p387:=eq_true p387;replace q387:=eq_true q387;refine start_ (n:=7) (S:=fun w' => w'.cell? ⟨gb373,0,none⟩=some (.string a1_0)∧w'.cell? ⟨gb373,1,none⟩=some (.string a1_1)∧w'.cell? ⟨gb373,2,none⟩=some (.bool a1_2)∧w'.cell? (ad387.add ((x11_3).toNat*2))=some (.string ((rd_T28 ((rd_T60 l0_0 x9_1).f1) x11_3).f0))∧w'.cell? ⟨(ad387.add ((x11_3).toNat*2)).block,(ad387.add ((x11_3).toNat*2)).off+1,none⟩=some (.int .i64 ((rd_T28 ((rd_T60 l0_0 x9_1).f1) x11_3).f1))) (ds:=[]) (bm_ 0 7) jA rfl rfl ⟨(zz BK373.out 0).trans rfl,(zz BK373.out 1).trans rfl,(zz BK373.out 2).trans rfl,((HB.out.cell (zl w _ hw387_0)).trans hw387_0),((HB.out.cell (zl w _ hw387_1)).trans hw387_1)⟩ (fun hHeld=>?_);generalize wr.drew=w42 at HO_6 HO_7 BK372 BK373 HB hx387_0 hx387_1 hHeld ⊢;refine pure_ (i:=1) (N:=some 71) (v:=?_) (a':=?_) #[false,true,false,false,false,false,false] rfl rfl jA (fun _ _ _ h=>h) (Or.inl ⟨by rfl,?_⟩) ?_ ?_;rotate_left;exact jb;rotate_left;exact jc
              refine pure_ (i:=2) (N:=some 72) (v:=?_) (a':=?_) #[false,true,true,false,false,false,false] rfl rfl jA (fun _ _ _ h=>h) (Or.inl ⟨by rfl,?_⟩) ?_ ?_;rotate_left;exact jb;rotate_left;exact jc
              refine pure_ (i:=3) (N:=some 73) (v:=?_) (a':=?_) #[false,true,true,true,false,false,false] rfl rfl jA (fun _ _ _ h=>h) (Or.inl ⟨by rfl,?_⟩) ?_ ?_;rotate_left;exact jb;rotate_left;exact jc
              refine pure_ (i:=4) (N:=some 74) (v:=?_) (a':=?_) #[false,true,true,true,true,false,false] rfl rfl jA (fun _ _ _ h=>h) (Or.inl ⟨by rfl,?_⟩) ?_ ?_;rotate_left;exact jb;rotate_left;exact jc
              refine take_ (i:=0) (N:=some 70) (v:=?_) (a':=?_) (bm_ 5 7) rfl rfl jA (fun _ _ _ h=>h) (Or.inl ⟨by rfl,?_⟩) hHeld ?_ ?_;rotate_left
              ·
               rintro w' ⟨s0,s1,s2,s3,s4⟩
               go_simp
               with_reducible rfl
              rotate_left
              exact jc
              refine take_ (i:=5) (N:=some 75) (v:=?_) (a':=?_) (bm_ 6 7) rfl rfl jA (fun _ _ _ h=>h) (Or.inl ⟨by rfl,?_⟩) hHeld ?_ ?_;rotate_left
              ·
               rintro w' ⟨s0,s1,s2,s3,s4⟩
               go_simp
               with_reducible rfl
              rotate_left
              exact jc
              refine one_ (i:=6) (N:=some 76) (bm_ 7 7) rfl rfl jA jB (fun K hK=>?_);refine goes_ Try.func51 jA rfl #[.agg #[.string a1_0,.string a1_1,.bool a1_2],.string ((rd_T28 ((rd_T60 l0_0 x9_1).f1) x11_3).f0)] (by rfl) rfl rfl jF ?_
              with_reducible refine (F0a.calls  a1_0 a1_1 a1_2 ((rd_T28 ((rd_T60 l0_0 x9_1).f1) x11_3).f0) false _ A36.out).mono ?_
              rintro e w43 ⟨rfl,hb⟩;refine ⟨_,rfl,?_⟩;replace HO_6:=zh (yg jP hb);replace HO_7:=zh (yg jJ hb);replace BK372:=zh (cD BK372.out jZ hb);replace BK373:=zh (cD BK373.out je hb);replace HB:=zh (zC jT hb);(try clear hb);(try clear hb2);(try clear hk);(try clear hi);refine hK.out _ _ ⟨(zz BK373.out 0).trans rfl,(zz BK373.out 1).trans rfl,(zz BK373.out 2).trans rfl,((HB.out.cell (zl w _ hw387_0)).trans hw387_0),((HB.out.cell (zl w _ hw387_1)).trans hw387_1)⟩ (fun hHeld=>?_);clear hK K;refine norm_ (a':=?_) ?_ ?_;rotate_left
              ·
               show Act.put _ (some 76) _=_
               simp only [Act.put,zi,zj,zk,zG,zH]
               rfl
              refine done_ jA ?_
              try go_wp2
              go_roundg k3
              case measure=>have:=HK1.out;have:=HJ15.out;have:=HK3.out;omega
              case rel=>exact ⟨(x6_3),(wrap64 (x11_3+1)),jD,H',⟨jBq⟩,⟨jP⟩,⟨jJ⟩,⟨jZ⟩,⟨je⟩,⟨jT⟩⟩
             rw [if_neg c35] at H;exact absurd H (by simp)
            rw [if_neg c34] at H;have c34b0 : decide (x11_3<(((rd_T60 l0_0 x9_1).f1).length : Int))=false:=decide_eq_false c34;clear c34;have H':=zh H;clear H
            go_wp2
            go_roundg k3
            case measure=>have:=HK1.out;have:=HJ15.out;have:=HK3.out;omega
            case rel=>exact ⟨(x6_3),(y384),(wrap64 (x9_1+1)),jD,H',⟨jBq⟩,⟨jP⟩,⟨jJ⟩,⟨jZ⟩,⟨je⟩,⟨jT⟩⟩
         rw [if_neg c30] at H;exact absurd H (by simp)
        rw [if_neg c29] at H;exact absurd H (by simp)
       rw [if_neg c28] at H;exact absurd H (by simp)
    rw [if_neg c15] at H;exact absurd H (by simp)
   rw [if_neg c14] at H;have c14b0 : decide (x9_1<(l0_0.length : Int))=false:=decide_eq_false c14;clear c14;simp only [Option.some.injEq,Prod.mk.injEq] at H;obtain ⟨rfl,rfl⟩:=H;have hnb44:=NB372_373.out;have hnc44:=NB373_372.out;obtain ⟨hcz45_0,hcz45_1,hfz45_0,hfz45_1⟩:=cB2 BK372.out
   go_wp2
   go_ret2
   exact ⟨_,_,jG,jP,jJ,jT⟩

end Go.Proofs.Ytgifonogfgpjdaa.Q
end
section
namespace Go.Proofs.Ytgifonogfgpjdaa.Q
open Go.RowKit Go.Proofs.YtgifonogfgpjdaaW.PrintWords Go.Proofs.YtgifonogfgpjdaaW.PrintLast Go.Proofs.YtgifonogfgpjdaaW.PrintMore
attribute [local go_sem] max2_int min2_int max_two min_two max_three min_three max_four min_four max2_str min2_str str_geq str_gtr str_leq
set_option linter.unusedVariables false
set_option linter.unusedSimpArgs false

def Fo.f (k : Nat) (l0_0 : List (S60)) (a0_1 : Int) (a1_0 : ByteArray) (a1_1 : ByteArray) (a1_2 : Bool) : Option ((List (S28))×List Int×Int):=(F3.f k l0_0 a0_1).bind fun t395=>(if t395=true then ((F5.f k l0_0 a0_1 a1_0 a1_1 a1_2).bind fun bt396=>(some (bt396.1,bt396.2,0))) else (some ((([] : List (S28))),(([] : List Int)),1)))
theorem Fo.mono : ∀ a0 a1 a2 a3 a4 k,LeO (Fo.f k a0 a1 a2 a3 a4) (Fo.f (k+1) a0 a1 a2 a3 a4):=by
 intro a0 a1 a2 a3 a4 k;unfold Fo.f
 repeat' first|(with_reducible first|exact F3.mono _ _ _|exact F5.mono _ _ _ _ _ _|exact zQ _|exact zN _|refine zP ?_ ?_|refine zO ?_ (fun _=>?_))|refine zP ?_ ?_|refine zO ?_ (fun _=>?_)
set_option maxHeartbeats 8000000 in
set_option maxRecDepth 100000 in
theorem Fo.calls (k : Nat) (A0_0 : Option Addr) (c0_0 : Nat) (l0_0 : List (S60)) (a0_1 : Int) (a1_0 : ByteArray) (a1_1 : ByteArray) (a1_2 : Bool) (r1 : List (S28)) (r2 : List Int) (r3 : Int) (w : World) (hr0_0 : Kd.C k60 w A0_0 l0_0.length l0_0) (hc0_0 : l0_0.length≤c0_0) (h : Fo.f k l0_0 a0_1 a1_0 a1_1 a1_2=some (r1,r2,r3)) :
  Calls Try.prog 9 #[.agg #[.slice A0_0 l0_0.length c0_0,.int .i64 a0_1],.agg #[.string a1_0,.string a1_1,.bool a1_2]] w fun e w' => ∃ v0_ v1_ : Value,e = .returned (.tuple #[v0_,v1_,.int .i64 r3])∧Kd.R k28 28 w' w.heap.size (fun _=>True) v0_ r1∧Kd.R (Kd.int .i64) 3 w' w.heap.size (fun _=>True) v1_ r2∧Below w.heap.size w w':=by
 have hu25:=Try.underlying25;have hu32:=Try.underlying32;have HR0_0:=zh hr0_0;have HC0_0:=zh hc0_0;clear hr0_0 hc0_0;have HB:=zh (Below.refl w.heap.size w);have H : ((F3.f k l0_0 a0_1).bind fun t395=>(if t395=true then ((F5.f k l0_0 a0_1 a1_0 a1_1 a1_2).bind fun bt396=>(some (bt396.1,bt396.2,0))) else (some ((([] : List (S28))),(([] : List Int)),1))))=some (r1,r2,r3):=h;clear h;replace H:=zT.mp H;obtain ⟨t395,A30,H⟩:=H;have A3:=zh A30;clear A30
 by_cases c4 : t395=true
 ·
  subst c4
  rw [if_pos rfl] at H;replace H:=zT.mp H;obtain ⟨⟨t396,t399⟩,A50,H⟩:=H;have A5:=zh A50;clear A50;simp only [Option.some.injEq,Prod.mk.injEq] at H;obtain ⟨rfl,rfl,rfl⟩:=H
  go_enter Try.func9,Try.ntmps9
  go_wp2_with (first|((with_reducible refine zK (N:=2) rfl ?_);refine zI ?hg (N:=2) ?hd (cs:=#[.slice A0_0 l0_0.length c0_0,.int .i64 a0_1]) (t:=25) ?hr ?_;(case hd=>rfl);(case hg=>rfl);(case hr=>go_simp <;> rfl);intro gb393 hg w6 hbox hb;have BK393:=zh (hbox);have hH_:=cH jH hb hg;have GW393:=zh hH_.1;have GE393:=GW393;replace HB:=zh hH_.2;clear hb hbox hg hH_)|((with_reducible refine zK (N:=3) rfl ?_);refine zI ?hg (N:=3) ?hd (cs:=#[.string a1_0,.string a1_1,.bool a1_2]) (t:=32) ?hr ?_;(case hd=>rfl);(case hg=>rfl);(case hr=>go_simp <;> rfl);intro gb394 hg w7 hbox hb;have BK394:=zh (hbox);have hH_:=cH jCH hb hg;have GW394:=zh hH_.1;have GE394:=GW394;replace HB:=zh hH_.2;have NB393_394:=zh ((jCI : gb393≠gb394));have NB394_393:=zh NB393_394.out.symm;replace BK393:=zh (cD BK393.out jAQ hb);clear hb hbox hg hH_;have hnb8:=NB393_394.out;have hnc8:=NB394_393.out;obtain ⟨hcz9_0,hcz9_1,hfz9_0,hfz9_1⟩:=cB2 BK393.out)|((with_reducible refine zJ (f:=29) rfl ?_);refine yj (some 10) rfl rfl Try.func29 jA rfl #[.agg #[.slice A0_0 l0_0.length c0_0,.int .i64 a0_1]] rfl jF ?_;(with_reducible refine (F3.calls k  _ _ l0_0 a0_1 true _ ?side1 ?side2 A3.out).mono ?_);(case side1=>repeat (first|exact (Kd.C_below HR0_0.out HB.out)|(with_reducible refine Kd.C_alloc ?_ _)|(with_reducible refine Kd.C_drewN ?_ _)|(with_reducible refine Kd.C_drew ?_)));(case side2=>exact HC0_0.out);rintro e w10 ⟨rfl,hb⟩;refine ⟨_,rfl,?_⟩;replace BK393:=zh (cD BK393.out jAQ hb);replace BK394:=zh (cD BK394.out jAv hb);replace HB:=zh (zC ju hb);(try clear hb);(try clear hb2);(try clear hk);(try clear hi);obtain ⟨hcz11_0,hcz11_1,hfz11_0,hfz11_1⟩:=cB2 BK393.out;obtain ⟨hcz12_0,hcz12_1,hcz12_2,hfz12_0,hfz12_1,hfz12_2⟩:=cB3 BK394.out)|((with_reducible refine zJ (f:=30) rfl ?_);refine yj (some 17) rfl rfl Try.func30 jA rfl #[.agg #[.slice A0_0 l0_0.length c0_0,.int .i64 a0_1],.agg #[.string a1_0,.string a1_1,.bool a1_2]] rfl jF ?_;(with_reducible refine (F5.calls k  _ _ l0_0 a0_1 a1_0 a1_1 a1_2 t396 t399 _ ?side1 ?side2 A5.out).mono ?_);(case side1=>repeat (first|exact (Kd.C_below HR0_0.out HB.out)|(with_reducible refine Kd.C_alloc ?_ _)|(with_reducible refine Kd.C_drewN ?_ _)|(with_reducible refine Kd.C_drew ?_)));(case side2=>exact HC0_0.out);rintro e w13 ⟨v397,v400,rfl,ho0,ho1,hb⟩;refine ⟨_,rfl,?_⟩;have HO398:=zh (yx ho0 (zB ju));have HO401:=zh (yx ho1 (zB ju));replace BK393:=zh (cD BK393.out jAQ hb);replace BK394:=zh (cD BK394.out jAv hb);replace HB:=zh (zC ju hb);(try clear hb);(try clear hb2);(try clear hk);(try clear hi);(try clear ho0);(try clear ho1)))
  go_ret3
  exact ⟨_,_,jG,by (with_reducible repeat (first|apply zm|apply zn|apply zo));exact HO398.out,by (with_reducible repeat (first|apply zm|apply zn|apply zo));exact HO401.out,ju⟩
 replace c4:=yb.mpr c4;subst c4;rw [if_neg (show ¬ (false=true) by decide)] at H;obtain ⟨y402,hy402⟩ : ∃ y_ : List (S28),y_=(([] : List (S28))):=⟨_,rfl⟩;replace H : (some (y402,(([] : List Int)),1))=some (r1,r2,r3):=by first|(rw [hy402];with_reducible exact H)|(have H2_:=(Option.bind_some _ _).symm.trans H;rw [hy402];with_reducible exact H2_)|(have H2_:=(Option.bind_some _ _).symm.trans H;with_reducible exact H2_)|with_reducible exact H|(rw [hy402];exact H)|exact H
 have Ny402:=zh hy402;clear hy402;obtain ⟨y405,hy405⟩ : ∃ y_ : List Int,y_=(([] : List Int)):=⟨_,rfl⟩;replace H : (some (y402,y405,1))=some (r1,r2,r3):=by first|(rw [hy405];with_reducible exact H)|(have H2_:=(Option.bind_some _ _).symm.trans H;rw [hy405];with_reducible exact H2_)|(have H2_:=(Option.bind_some _ _).symm.trans H;with_reducible exact H2_)|with_reducible exact H|(rw [hy405];exact H)|exact H
 have Ny405:=zh hy405;clear hy405;simp only [Option.some.injEq,Prod.mk.injEq] at H;obtain ⟨rfl,rfl,rfl⟩:=H
 go_enter Try.func9,Try.ntmps9
 go_wp2_with (first|((with_reducible refine zK (N:=2) rfl ?_);refine zI ?hg (N:=2) ?hd (cs:=#[.slice A0_0 l0_0.length c0_0,.int .i64 a0_1]) (t:=25) ?hr ?_;(case hd=>rfl);(case hg=>rfl);(case hr=>go_simp <;> rfl);intro gb393 hg w14 hbox hb;have BK393:=zh (hbox);have hH_:=cH jH hb hg;have GW393:=zh hH_.1;have GE393:=GW393;replace HB:=zh hH_.2;clear hb hbox hg hH_)|((with_reducible refine zK (N:=3) rfl ?_);refine zI ?hg (N:=3) ?hd (cs:=#[.string a1_0,.string a1_1,.bool a1_2]) (t:=32) ?hr ?_;(case hd=>rfl);(case hg=>rfl);(case hr=>go_simp <;> rfl);intro gb394 hg w15 hbox hb;have BK394:=zh (hbox);have hH_:=cH jCH hb hg;have GW394:=zh hH_.1;have GE394:=GW394;replace HB:=zh hH_.2;have NB393_394:=zh ((jCI : gb393≠gb394));have NB394_393:=zh NB393_394.out.symm;replace BK393:=zh (cD BK393.out jAQ hb);clear hb hbox hg hH_;have hnb16:=NB393_394.out;have hnc16:=NB394_393.out;obtain ⟨hcz17_0,hcz17_1,hfz17_0,hfz17_1⟩:=cB2 BK393.out)|((with_reducible refine zJ (f:=29) rfl ?_);refine yj (some 10) rfl rfl Try.func29 jA rfl #[.agg #[.slice A0_0 l0_0.length c0_0,.int .i64 a0_1]] rfl jF ?_;(with_reducible refine (F3.calls k  _ _ l0_0 a0_1 false _ ?side1 ?side2 A3.out).mono ?_);(case side1=>repeat (first|exact (Kd.C_below HR0_0.out HB.out)|(with_reducible refine Kd.C_alloc ?_ _)|(with_reducible refine Kd.C_drewN ?_ _)|(with_reducible refine Kd.C_drew ?_)));(case side2=>exact HC0_0.out);rintro e w18 ⟨rfl,hb⟩;refine ⟨_,rfl,?_⟩;replace BK393:=zh (cD BK393.out jAQ hb);replace BK394:=zh (cD BK394.out jAv hb);replace HB:=zh (zC ju hb);(try clear hb);(try clear hb2);(try clear hk);(try clear hi))|((with_reducible refine zK (N:=12) rfl ?_);refine Kd.R_lit k28 _ 28 ?hg (N:=12) ?hd (xs:=([] : List (S28))) (inner:=[]) (ok:=fun _=>True) (okp:=fun _=>True) ?hr ?hp (fun _ hk=>hk) trivial (Below.refl _ _) (ye _) (by simp) ?_;(case hd=>rfl);(case hg=>rfl);(case hr=>go_simp <;> rfl);(case hp=>exact (Reps.none _ _));intro v403 w19 ho20 hb hg_ hnew_;clear hg_ hnew_;(first|rw [← Ny402.out] at ho20|(simp only [Int.reduceToNat] at ho20;rw [← Ny402.out] at ho20));have HO404:=zh (yx ho20 (zB ju));replace BK393:=zh (cD BK393.out jAQ hb);replace BK394:=zh (cD BK394.out jAv hb);replace HB:=zh (zC ju hb);clear hb ho20)|((with_reducible refine zK (N:=13) rfl ?_);refine Kd.R_lit (Kd.int .i64) _ 3 ?hg (N:=13) ?hd (xs:=([] : List Int)) (inner:=[]) (ok:=fun _=>True) (okp:=fun _=>True) ?hr ?hp (fun _ hk=>hk) trivial (Below.refl _ _) (ye _) (by simp) ?_;(case hd=>rfl);(case hg=>rfl);(case hr=>go_simp <;> rfl);(case hp=>exact (Reps.none _ _));intro v406 w21 ho22 hb hg_ hnew_;clear hg_ hnew_;(first|rw [← Ny405.out] at ho22|(simp only [Int.reduceToNat] at ho22;rw [← Ny405.out] at ho22));replace HO404:=zh (yg jCJ hb);have HO407:=zh (yx ho22 (zB ju));replace BK393:=zh (cD BK393.out jAQ hb);replace BK394:=zh (cD BK394.out jAv hb);replace HB:=zh (zC ju hb);clear hb ho22))
 go_ret3
 exact ⟨_,_,jG,jCJ,by (with_reducible repeat (first|apply zm|apply zn|apply zo));exact HO407.out,ju⟩

end Go.Proofs.Ytgifonogfgpjdaa.Q
end

/- Texts of this claim, merged by a program of this session. -/
import Derived.Test.YtamikhmpfmgofaaKLawFnExactTreePutp24
section
namespace Go.Proofs.Ytamikhmpfmgofaa.Q
open Go.RowKit Go.Proofs.YtamikhmpfmgofaaW.PrintWords Go.Proofs.YtamikhmpfmgofaaW.PrintLast Go.Proofs.YtamikhmpfmgofaaW.PrintMore
attribute [local go_sem] max2_int min2_int max_two min_two max_three min_three max_four min_four max2_str min2_str str_geq str_gtr str_leq   -- for this text's walks alone
set_option linter.unusedVariables false
set_option linter.unusedSimpArgs false

mutual
def F1.j0 : Nat→Bool→List (S67)→Int→Option (Bool)
 | 0,_,_,_=>none
 | k+1,x19,x230000,x230001=>if x19=true then (some false) else (F1.l0 k (([] : List Int)) x230000 (x230000.length : Int) 0 x230000 x230001)
def F1.l0 : Nat→List Int→List (S67)→Int→Int→List (S67)→Int→Option (Bool)
 | 0,_,_,_,_,_,_=>none
 | k+1,x3,x22,x23,x24,x230000,x230001=>if x24<x23 then (if 0≤x24 then (if x24<(x22.length : Int) then ((F02.f ((rd_T67 x22 x24).f0) 1 (wrap64 (x230001 - 1))).bind fun t237=>(if t237=true then ((F06.f k x3 ((rd_T67 x22 x24).f0)).bind fun t238=>(if t238=true then (some false) else (if (((rd_T67 x22 x24).f1).length : Int) > 4 then (some false) else (if (((rd_T67 x22 x24).f1).length : Int)=0 then (if (x230000.length : Int) > 1 then (some false) else (if x3.length<17592186044416 then (F1.l0 k (x3 ++ [(rd_T67 x22 x24).f0]) x22 x23 (wrap64 (x24+1)) x230000 x230001) else (none))) else (if x3.length<17592186044416 then (F1.l0 k (x3 ++ [(rd_T67 x22 x24).f0]) x22 x23 (wrap64 (x24+1)) x230000 x230001) else (none)))))) else (some false))) else (none)) else (none)) else ((Fl.f k x230000 x230001).bind fun t245=>(F1.l1 k t245 t245 (t245.length : Int) 0))
def F1.l1 : Nat→List (S51)→List (S51)→Int→Int→Option (Bool)
 | 0,_,_,_,_=>none
 | k+1,x6,x67,x68,x69=>if x69<x68 then (if 0≤x69 then (if x69<(x67.length : Int) then ((F0f.f ((rd_T51 x67 x69).f0) ((rd_T51 x67 x69).f1)).bind fun t250=>(if t250=true then (if x69 > 0 then (if 0≤(wrap64 (x69 - 1)) then (if (wrap64 (x69 - 1))<(x6.length : Int) then ((Fi.f k ((rd_T51 x6 (wrap64 (x69 - 1))).f0) ((rd_T51 x6 (wrap64 (x69 - 1))).f1) ((rd_T51 x67 x69).f0) ((rd_T51 x67 x69).f1)).bind fun t252=>(if t252 ≥ 0 then (some false) else (F1.l1 k x6 x67 x68 (wrap64 (x69+1))))) else (none)) else (none)) else (F1.l1 k x6 x67 x68 (wrap64 (x69+1)))) else (some false))) else (none)) else (none)) else (some true)
end
def F1.f (k : Nat) (l0_0 : List (S67)) (a0_1 : Int) : Option (Bool):=(F02.f (l0_0.length : Int) 1 60).bind fun t230=>(if t230=true then ((F02.f a0_1 2 100000).bind fun t231=>(F1.j0 k (!t231) l0_0 a0_1)) else (F1.j0 k true l0_0 a0_1))
theorem F1.mono_l : ∀ k,(∀ y0 y1 y2,LeO (F1.j0 k y0 y1 y2) (F1.j0 (k+1) y0 y1 y2))∧(∀ y0 y1 y2 y3 y4 y5,LeO (F1.l0 k y0 y1 y2 y3 y4 y5) (F1.l0 (k+1) y0 y1 y2 y3 y4 y5))∧(∀ y0 y1 y2 y3,LeO (F1.l1 k y0 y1 y2 y3) (F1.l1 (k+1) y0 y1 y2 y3))
 | 0=>⟨fun _ _ _ r h=>by simp [F1.j0] at h,fun _ _ _ _ _ _ r h=>by simp [F1.l0] at h,fun _ _ _ _ r h=>by simp [F1.l1] at h⟩
 | k+1=>by
  obtain ⟨ih0,ih1,ih2⟩:=F1.mono_l k;refine ⟨?_,?_,?_⟩
  ·
   intro y0 y1 y2
   unfold F1.j0
   repeat' first|(with_reducible first|exact ih0 _ _ _|exact ih1 _ _ _ _ _ _|exact ih2 _ _ _ _|exact Fl.mono _ _ _|exact F06.mono _ _ _|exact Fi.mono _ _ _ _ _|exact zQ _|exact zN _|refine zP ?_ ?_|refine zO ?_ (fun _=>?_))|refine zP ?_ ?_|refine zO ?_ (fun _=>?_)
  ·
   intro y0 y1 y2 y3 y4 y5
   unfold F1.l0
   repeat' first|(with_reducible first|exact ih0 _ _ _|exact ih1 _ _ _ _ _ _|exact ih2 _ _ _ _|exact Fl.mono _ _ _|exact F06.mono _ _ _|exact Fi.mono _ _ _ _ _|exact zQ _|exact zN _|refine zP ?_ ?_|refine zO ?_ (fun _=>?_))|refine zP ?_ ?_|refine zO ?_ (fun _=>?_)
  intro y0 y1 y2 y3;unfold F1.l1
  repeat' first|(with_reducible first|exact ih0 _ _ _|exact ih1 _ _ _ _ _ _|exact ih2 _ _ _ _|exact Fl.mono _ _ _|exact F06.mono _ _ _|exact Fi.mono _ _ _ _ _|exact zQ _|exact zN _|refine zP ?_ ?_|refine zO ?_ (fun _=>?_))|refine zP ?_ ?_|refine zO ?_ (fun _=>?_)
theorem F1.mono : ∀ a0 a1 k,LeO (F1.f k a0 a1) (F1.f (k+1) a0 a1):=by
 intro a0 a1 k;obtain ⟨ih0,ih1,ih2⟩:=F1.mono_l k;unfold F1.f
 repeat' first|(with_reducible first|exact ih0 _ _ _|exact ih1 _ _ _ _ _ _|exact ih2 _ _ _ _|exact Fl.mono _ _ _|exact F06.mono _ _ _|exact Fi.mono _ _ _ _ _|exact zQ _|exact zN _|refine zP ?_ ?_|refine zO ?_ (fun _=>?_))|refine zP ?_ ?_|refine zO ?_ (fun _=>?_)
def F1.T15 : Bool×List (List Nat×List Nat):=(true,[([],[]),([0],[0]),([1],[1]),([2,1],[2]),([3],[3]),([4,3],[3,4]),([5,3,3],[3,5]),([6],[6]),([6],[6]),([8,6],[6,8]),([7,9,6],[6,7,9]),([10,6],[6,10]),([6],[6]),([11,12,6,6],[6,11,12]),([13,6],[6,13]),([6,14,3],[3,6,14]),([3,15],[3,15])])
def F1.B15 : List Nat:=[0,1,3,7,15,31,63,127,127,383,1023,2047,127,8191,16383,32767,65535]
theorem F1.tab15 : rtab .any (opsOf Try.f31 15)=F1.T15:=by kernel_rfl
theorem F1.bits15 : waitsOk F1.T15.2 F1.B15=true:=by kernel_rfl
set_option maxHeartbeats 8000000 in
set_option maxRecDepth 100000 in
theorem F1.calls (k : Nat) (A0_0 : Option Addr) (c0_0 : Nat) (l0_0 : List (S67)) (a0_1 : Int) (r : Bool) (w : World) (hr0_0 : Kd.C k67 w A0_0 l0_0.length l0_0) (hc0_0 : l0_0.length≤c0_0) (h : F1.f k l0_0 a0_1=some r) :
  Calls Try.prog 31 #[.agg #[.slice A0_0 l0_0.length c0_0,.int .i64 a0_1]] w fun e w' => e = .returned (.bool r)∧Below w.heap.size w w':=by
 have hu35:=Try.underlying35;have hu67:=Try.underlying67;have hu51:=Try.underlying51;have HR0_0:=zh hr0_0;have HC0_0:=zh hc0_0;clear hr0_0 hc0_0;have HB:=zh (Below.refl w.heap.size w);have H : ((F02.f (l0_0.length : Int) 1 60).bind fun t230=>(if t230=true then ((F02.f a0_1 2 100000).bind fun t231=>(F1.j0 k (!t231) l0_0 a0_1)) else (F1.j0 k true l0_0 a0_1)))=some r:=h;clear h;have HC2:=zh H;clear H
 go_enter Try.func31,Try.ntmps31
 go_upto_region 1 with (first|((with_reducible refine zK (N:=1) rfl ?_);(try (refine yy (by rfl) ?_;dsimp only));refine zI ?hg (N:=1) ?hd (cs:=#[.slice A0_0 l0_0.length c0_0,.int .i64 a0_1]) (t:=35) ?hr ?_;(case hd=>rfl);(case hg=>rfl);(case hr=>go_simp <;> rfl);intro gb229 hg w3 hbox hb;have BK229:=zh (hbox);have hH_:=cH jF hb hg;have GW229:=zh hH_.1;have GE229:=GW229;replace HB:=zh hH_.2;clear hb hbox hg hH_))
 (try simp only [Act.put,zi,zj,zk])
 go_cut [19] (fun v19 wc => ∃ (kq : Nat) (x19_1 : Bool),v19 = .bool x19_1∧Aside0 (F1.j0 kq x19_1 l0_0 a0_1=some r)∧Aside0 (kq≤k)∧Aside0 (wc.heap[gb229]? = some (.cells #[(.slice A0_0 l0_0.length c0_0),.int .i64 a0_1] 35 (0,0)))∧Aside0 (Below w.heap.size w wc))
 case first =>
  have H:=HC2.out;clear HC2;replace H:=zT.mp H;obtain ⟨t230,A40,H⟩:=H;have A4:=zh A40;clear A40
  by_cases c5 : t230=true
  ·
   subst c5
   rw [if_pos rfl] at H;replace H:=zT.mp H;obtain ⟨t231,A60,H⟩:=H;have A6:=zh A60;clear A60;have H':=zh H;clear H;obtain ⟨hcz7_0,hcz7_1,hfz7_0,hfz7_1⟩:=cB2 BK229.out
   go_wp2_with (first|((with_reducible refine zJ (f:=56) rfl ?_);refine yj (some 12) rfl rfl Try.func56 jA rfl #[.int .i64 (l0_0.length : Int),.int .i64 1,.int .i64 60] rfl jG ?_;(with_reducible refine (F02.calls  (l0_0.length : Int) 1 60 true _ A4.out).mono ?_);rintro e w' ⟨rfl,⟨nd,rfl⟩⟩;refine ⟨_,rfl,?_⟩)|(go_at_call 56;(with_reducible refine (F02.calls  a0_1 2 100000 t231 _ A6.out).mono ?_);rintro e w' ⟨rfl,⟨nd,rfl⟩⟩))
   go_meet
   case rel=>exact ⟨_,(!t231),jE,H',⟨jw⟩,⟨jK⟩,⟨jN⟩⟩
  replace c5:=yb.mpr c5;subst c5;rw [if_neg (show ¬ (false=true) by decide)] at H;have H':=zh H;clear H;obtain ⟨hcz8_0,hcz8_1,hfz8_0,hfz8_1⟩:=cB2 BK229.out
  go_wp2_with (first|((with_reducible refine zJ (f:=56) rfl ?_);refine yj (some 12) rfl rfl Try.func56 jA rfl #[.int .i64 (l0_0.length : Int),.int .i64 1,.int .i64 60] rfl jG ?_;(with_reducible refine (F02.calls  (l0_0.length : Int) 1 60 false _ A4.out).mono ?_);rintro e w' ⟨rfl,⟨nd,rfl⟩⟩;refine ⟨_,rfl,?_⟩))
  go_meet
  case rel=>exact ⟨_,(true),jE,H',⟨jw⟩,⟨jK⟩,⟨jN⟩⟩
 case rest =>
  clear HC2
  try clear p2
  try clear c3 c5
  try clear hcz7_0 hcz7_1
  try clear hcz8_0 hcz8_1
  try clear hfz7_0 hfz7_1
  try clear hfz8_0 hfz8_1
  obtain ⟨kq,x19_1,rfl,HA,HJ1,BK229,HB⟩:=hcut
  cases kq with
  | zero=>exact absurd HA.out (by simp [F1.j0])
  | succ kj1 =>
   have H:=HA.out;clear HA;simp only [F1.j0] at H
   by_cases c9 : x19_1=true
   ·
    subst c9
    rw [if_pos rfl] at H;obtain rfl:=zU H
    go_wp2
    go_ret
    exact ⟨jH,jN⟩
   replace c9:=yb.mpr c9;subst c9;rw [if_neg (show ¬ (false=true) by decide)] at H;obtain ⟨y232,hy232⟩ : ∃ y_ : List Int,y_=(([] : List Int)):=⟨_,rfl⟩;replace H : (F1.l0 kj1 y232 l0_0 (l0_0.length : Int) 0 l0_0 a0_1)=some r:=by first|(rw [hy232];with_reducible exact H)|(have H2_:=(Option.bind_some _ _).symm.trans H;rw [hy232];with_reducible exact H2_)|(have H2_:=(Option.bind_some _ _).symm.trans H;with_reducible exact H2_)|with_reducible exact H|(rw [hy232];exact H)|exact H
   have Ny232:=zh hy232;clear hy232;have H':=zh H;clear H
   go_wp2_with (first|((with_reducible refine zK (N:=20) rfl ?_);(try (refine yy (by rfl) ?_;dsimp only));refine Kd.R_lit (Kd.int .i64) _ 3 ?hg (N:=20) ?hd (xs:=([] : List Int)) (inner:=[]) (ok:=fun _=>True) (okp:=fun _=>True) ?hr ?hp (fun _ hk=>hk) trivial (Below.refl _ _) (ye _) (by simp) ?_;(case hd=>rfl);(case hg=>rfl);(case hr=>go_simp <;> rfl);(case hp=>exact (Reps.none _ _));intro v233 w10 ho11 hb hg_ hnew_;clear hg_ hnew_;(first|rw [← Ny232.out] at ho11|(simp only [Int.reduceToNat] at ho11;rw [← Ny232.out] at ho11));have HO234:=zh (yx ho11 (zB jN));replace BK229:=zh (cD BK229.out jK hb);replace HB:=zh (zC jN hb);clear hb ho11;obtain ⟨hcz12_0,hcz12_1,hfz12_0,hfz12_1⟩:=cB2 BK229.out))
   go_loopg [3,24] kj1 (fun kq v3 v24 w' => ∃ (x3_2 : List Int) (x24_2 : Int),v24 = .int .i64 x24_2∧Aside0 (F1.l0 kq x3_2 l0_0 (l0_0.length : Int) x24_2 l0_0 a0_1=some r)∧Aside0 (kq≤kj1)∧Aside0 (Kd.R (Kd.int .i64) 3 w' w.heap.size (fun _=>True) v3 x3_2)∧Aside0 (w'.heap[gb229]? = some (.cells #[(.slice A0_0 l0_0.length c0_0),.int .i64 a0_1] 35 (0,0)))∧Aside0 (Below w.heap.size w w'))
   case atStart=>exact ⟨(y232),(0),jE,H',⟨ye _⟩,⟨by (with_reducible repeat (first|apply zm|apply zn|apply zo));exact HO234.out⟩,⟨jK⟩,⟨jN⟩⟩
   case round =>
    clear H'
    try clear p2
    try clear c3 c5 c9
    try clear hcz12_0 hcz12_1
    try clear hcz7_0 hcz7_1
    try clear hcz8_0 hcz8_1
    try clear hfz12_0 hfz12_1
    try clear hfz7_0 hfz7_1
    try clear hfz8_0 hfz8_1
    try clear p2
    obtain ⟨x3_2,x24_2,rfl,HA,HK2,HO_3,BK229,HB⟩:=hrel
    cases gk with
    | zero=>exact absurd HA.out (by simp [F1.l0])
    | succ k2 =>
     have H:=HA.out;clear HA;simp only [F1.l0] at H
     by_cases c13 : x24_2<(l0_0.length : Int)
     ·
      rw [if_pos c13] at H
      have c13b0 : decide (x24_2<(l0_0.length : Int))=true:=decide_eq_true c13;clear c13
      by_cases c14 : 0≤x24_2
      ·
       rw [if_pos c14] at H
       have c14b0 : decide (0≤x24_2)=true:=decide_eq_true c14;clear c14
       by_cases c15 : x24_2<(l0_0.length : Int)
       ·
        rw [if_pos c15] at H
        have c15b0 : decide (x24_2<(l0_0.length : Int))=true:=decide_eq_true c15;clear c15;replace H:=zT.mp H;obtain ⟨t237,A160,H⟩:=H;have A16:=zh A160;clear A160
        by_cases c17 : t237=true
        ·
         subst c17
         rw [if_pos rfl] at H;replace H:=zT.mp H;obtain ⟨t238,A180,H⟩:=H;have A18:=zh A180;clear A180
         by_cases c19 : t238=true
         ·
          subst c19
          rw [if_pos rfl] at H;obtain rfl:=zU H;have p235 : 0≤(x24_2 : Int):=zy jC;have q235 : x24_2<(l0_0.length : Int):=zy jC;obtain ⟨ad235,A235_1,c235_1,e235,hx235_0,hx235_1,hl235_1,hi235_1⟩:=at_T67 HR0_0.out x24_2 p235 q235
          cases e235
          replace hx235_0:=(HB.out.cell (zl w _ hx235_0)).trans hx235_0;replace hx235_1:=(HB.out.cell (zl w _ hx235_1)).trans hx235_1;have HR235_1:=zh hi235_1;have HC235_1:=zh hl235_1;clear hi235_1 hl235_1;replace p235:=eq_true p235;replace q235:=eq_true q235
          go_wp2_with (first|((with_reducible refine zK (N:=5) rfl ?_);(try (refine yy (by rfl) ?_;dsimp only));refine zI ?hg (N:=5) ?hd (cs:=#[.int .i64 0,.slice none 0 0]) (t:=67) ?hr ?_;(case hd=>rfl);(case hg=>rfl);(case hr=>go_simp <;> rfl);intro gb236 hg w20 hbox hb;replace HO_3:=zh (yg jR hb);have BK236:=zh (hbox);have hH_:=cH jN hb hg;have GW236:=zh hH_.1;have GE236:=GW236;replace HB:=zh hH_.2;have NB229_236:=zh ((jz : gb229≠gb236));have NB236_229:=zh NB229_236.out.symm;replace BK229:=zh (cD BK229.out jK hb);clear hb hbox hg hH_;have hnb21:=NB236_229.out;have hnc21:=NB229_236.out;obtain ⟨hcz22_0,hcz22_1,hfz22_0,hfz22_1⟩:=cB2 BK236.out;obtain ⟨hcz23_0,hcz23_1,hfz23_0,hfz23_1⟩:=cB2 BK229.out)|((with_reducible refine zJ (f:=56) rfl ?_);refine yj (some 33) rfl rfl Try.func56 jA rfl #[.int .i64 ((rd_T67 l0_0 x24_2).f0),.int .i64 1,.int .i64 (wrap64 (a0_1 - 1))] rfl jG ?_;(with_reducible refine (F02.calls  ((rd_T67 l0_0 x24_2).f0) 1 (wrap64 (a0_1 - 1)) true _ A16.out).mono ?_);rintro e w' ⟨rfl,⟨nd,rfl⟩⟩;refine ⟨_,rfl,?_⟩;obtain ⟨Ao24,co24,eo24⟩:=yk HO_3.out;subst eo24)|(go_at_call 57;(with_reducible refine (F06.calls k2  _ _ x3_2 ((rd_T67 l0_0 x24_2).f0) true _ ?side1 ?side2 A18.out).mono ?_);(case side1=>refine (yh (e:=3) (base:=w.heap.size) (ok:=fun k_=>True) (n:=x3_2.length) (c:=co24) ?_).2.2;exact jAN);(case side2=>exact (yh HO_3.out).2.1);rintro e w' ⟨rfl,⟨nd,rfl⟩⟩))
          go_ret
          exact ⟨jH,jY⟩
         replace c19:=yb.mpr c19;subst c19;rw [if_neg (show ¬ (false=true) by decide)] at H
         by_cases c25 : (((rd_T67 l0_0 x24_2).f1).length : Int) > 4
         ·
          rw [if_pos c25] at H
          have c25b0 : decide (4<(((rd_T67 l0_0 x24_2).f1).length : Int))=true:=decide_eq_true c25;have c25b1 : decide (4<((rd_T67 l0_0 x24_2).f1).length)=true:=decide_eq_true jD;clear c25;obtain rfl:=zU H;have p235 : 0≤(x24_2 : Int):=zy jC;have q235 : x24_2<(l0_0.length : Int):=zy jC;obtain ⟨ad235,A235_1,c235_1,e235,hx235_0,hx235_1,hl235_1,hi235_1⟩:=at_T67 HR0_0.out x24_2 p235 q235
          cases e235
          replace hx235_0:=(HB.out.cell (zl w _ hx235_0)).trans hx235_0;replace hx235_1:=(HB.out.cell (zl w _ hx235_1)).trans hx235_1;have HR235_1:=zh hi235_1;have HC235_1:=zh hl235_1;clear hi235_1 hl235_1;replace p235:=eq_true p235;replace q235:=eq_true q235
          go_wp2_with (first|((with_reducible refine zK (N:=5) rfl ?_);(try (refine yy (by rfl) ?_;dsimp only));refine zI ?hg (N:=5) ?hd (cs:=#[.int .i64 0,.slice none 0 0]) (t:=67) ?hr ?_;(case hd=>rfl);(case hg=>rfl);(case hr=>go_simp <;> rfl);intro gb236 hg w26 hbox hb;replace HO_3:=zh (yg jR hb);have BK236:=zh (hbox);have hH_:=cH jN hb hg;have GW236:=zh hH_.1;have GE236:=GW236;replace HB:=zh hH_.2;have NB229_236:=zh ((jz : gb229≠gb236));have NB236_229:=zh NB229_236.out.symm;replace BK229:=zh (cD BK229.out jK hb);clear hb hbox hg hH_;have hnb27:=NB236_229.out;have hnc27:=NB229_236.out;obtain ⟨hcz28_0,hcz28_1,hfz28_0,hfz28_1⟩:=cB2 BK236.out;obtain ⟨hcz29_0,hcz29_1,hfz29_0,hfz29_1⟩:=cB2 BK229.out)|((with_reducible refine zJ (f:=56) rfl ?_);refine yj (some 33) rfl rfl Try.func56 jA rfl #[.int .i64 ((rd_T67 l0_0 x24_2).f0),.int .i64 1,.int .i64 (wrap64 (a0_1 - 1))] rfl jG ?_;(with_reducible refine (F02.calls  ((rd_T67 l0_0 x24_2).f0) 1 (wrap64 (a0_1 - 1)) true _ A16.out).mono ?_);rintro e w' ⟨rfl,⟨nd,rfl⟩⟩;refine ⟨_,rfl,?_⟩;obtain ⟨Ao30,co30,eo30⟩:=yk HO_3.out;subst eo30)|(go_at_call 57;(with_reducible refine (F06.calls k2  _ _ x3_2 ((rd_T67 l0_0 x24_2).f0) false _ ?side1 ?side2 A18.out).mono ?_);(case side1=>refine (yh (e:=3) (base:=w.heap.size) (ok:=fun k_=>True) (n:=x3_2.length) (c:=co30) ?_).2.2;exact jAN);(case side2=>exact (yh HO_3.out).2.1);rintro e w' ⟨rfl,⟨nd,rfl⟩⟩))
          go_ret
          exact ⟨jH,jY⟩
         rw [if_neg c25] at H;have c25b0 : decide (4<(((rd_T67 l0_0 x24_2).f1).length : Int))=false:=decide_eq_false c25;have c25b1 : decide (4<((rd_T67 l0_0 x24_2).f1).length)=false:=decide_eq_false jD;clear c25
         by_cases c31 : (((rd_T67 l0_0 x24_2).f1).length : Int)=0
         ·
          rw [if_pos c31] at H
          have c31b0 : ((((rd_T67 l0_0 x24_2).f1).length : Int) == 0)=true:=ya.mpr c31;have c31b1 : ((((rd_T67 l0_0 x24_2).f1).length : Int) != 0)=false:=zX.mpr c31;clear c31
          by_cases c32 : (l0_0.length : Int) > 1
          ·
           rw [if_pos c32] at H
           have c32b0 : decide (1<(l0_0.length : Int))=true:=decide_eq_true c32;have c32b1 : decide (1<l0_0.length)=true:=decide_eq_true jD;clear c32;obtain rfl:=zU H;have p235 : 0≤(x24_2 : Int):=zy jC;have q235 : x24_2<(l0_0.length : Int):=zy jC;obtain ⟨ad235,A235_1,c235_1,e235,hx235_0,hx235_1,hl235_1,hi235_1⟩:=at_T67 HR0_0.out x24_2 p235 q235
           cases e235
           replace hx235_0:=(HB.out.cell (zl w _ hx235_0)).trans hx235_0;replace hx235_1:=(HB.out.cell (zl w _ hx235_1)).trans hx235_1;have HR235_1:=zh hi235_1;have HC235_1:=zh hl235_1;clear hi235_1 hl235_1;replace p235:=eq_true p235;replace q235:=eq_true q235
           go_wp2_with (first|((with_reducible refine zK (N:=5) rfl ?_);(try (refine yy (by rfl) ?_;dsimp only));refine zI ?hg (N:=5) ?hd (cs:=#[.int .i64 0,.slice none 0 0]) (t:=67) ?hr ?_;(case hd=>rfl);(case hg=>rfl);(case hr=>go_simp <;> rfl);intro gb236 hg w33 hbox hb;replace HO_3:=zh (yg jR hb);have BK236:=zh (hbox);have hH_:=cH jN hb hg;have GW236:=zh hH_.1;have GE236:=GW236;replace HB:=zh hH_.2;have NB229_236:=zh ((jz : gb229≠gb236));have NB236_229:=zh NB229_236.out.symm;replace BK229:=zh (cD BK229.out jK hb);clear hb hbox hg hH_;have hnb34:=NB236_229.out;have hnc34:=NB229_236.out;obtain ⟨hcz35_0,hcz35_1,hfz35_0,hfz35_1⟩:=cB2 BK236.out;obtain ⟨hcz36_0,hcz36_1,hfz36_0,hfz36_1⟩:=cB2 BK229.out)|((with_reducible refine zJ (f:=56) rfl ?_);refine yj (some 33) rfl rfl Try.func56 jA rfl #[.int .i64 ((rd_T67 l0_0 x24_2).f0),.int .i64 1,.int .i64 (wrap64 (a0_1 - 1))] rfl jG ?_;(with_reducible refine (F02.calls  ((rd_T67 l0_0 x24_2).f0) 1 (wrap64 (a0_1 - 1)) true _ A16.out).mono ?_);rintro e w' ⟨rfl,⟨nd,rfl⟩⟩;refine ⟨_,rfl,?_⟩;obtain ⟨Ao37,co37,eo37⟩:=yk HO_3.out;subst eo37)|(go_at_call 57;(with_reducible refine (F06.calls k2  _ _ x3_2 ((rd_T67 l0_0 x24_2).f0) false _ ?side1 ?side2 A18.out).mono ?_);(case side1=>refine (yh (e:=3) (base:=w.heap.size) (ok:=fun k_=>True) (n:=x3_2.length) (c:=co37) ?_).2.2;exact jAN);(case side2=>exact (yh HO_3.out).2.1);rintro e w' ⟨rfl,⟨nd,rfl⟩⟩))
           go_ret
           exact ⟨jH,jY⟩
          rw [if_neg c32] at H;have c32b0 : decide (1<(l0_0.length : Int))=false:=decide_eq_false c32;have c32b1 : decide (1<l0_0.length)=false:=decide_eq_false jD;clear c32
          by_cases c38 : x3_2.length<17592186044416
          ·
           rw [if_pos c38] at H
           have LMc38:=zh c38;clear c38;obtain ⟨y239,hy239⟩ : ∃ y_ : List Int,y_=(x3_2 ++ [(rd_T67 l0_0 x24_2).f0]):=⟨_,rfl⟩;replace H : (F1.l0 k2 y239 l0_0 (l0_0.length : Int) (wrap64 (x24_2+1)) l0_0 a0_1)=some r:=by first|(rw [hy239];with_reducible exact H)|(have H2_:=(Option.bind_some _ _).symm.trans H;rw [hy239];with_reducible exact H2_)|(have H2_:=(Option.bind_some _ _).symm.trans H;with_reducible exact H2_)|with_reducible exact H|(rw [hy239];exact H)|exact H
           have Ny239:=zh hy239;clear hy239;have H':=zh H;clear H;have p235 : 0≤(x24_2 : Int):=zy jC;have q235 : x24_2<(l0_0.length : Int):=zy jC;obtain ⟨ad235,A235_1,c235_1,e235,hx235_0,hx235_1,hl235_1,hi235_1⟩:=at_T67 HR0_0.out x24_2 p235 q235
           cases e235
           replace hx235_0:=(HB.out.cell (zl w _ hx235_0)).trans hx235_0;replace hx235_1:=(HB.out.cell (zl w _ hx235_1)).trans hx235_1;have HR235_1:=zh hi235_1;have HC235_1:=zh hl235_1;clear hi235_1 hl235_1;replace p235:=eq_true p235;replace q235:=eq_true q235
           go_wp2_with (first|((with_reducible refine zK (N:=5) rfl ?_);(try (refine yy (by rfl) ?_;dsimp only));refine zI ?hg (N:=5) ?hd (cs:=#[.int .i64 0,.slice none 0 0]) (t:=67) ?hr ?_;(case hd=>rfl);(case hg=>rfl);(case hr=>go_simp <;> rfl);intro gb236 hg w39 hbox hb;replace HO_3:=zh (yg jR hb);have BK236:=zh (hbox);have hH_:=cH jN hb hg;have GW236:=zh hH_.1;have GE236:=GW236;replace HB:=zh hH_.2;have NB229_236:=zh ((jz : gb229≠gb236));have NB236_229:=zh NB229_236.out.symm;replace BK229:=zh (cD BK229.out jK hb);clear hb hbox hg hH_;have hnb40:=NB236_229.out;have hnc40:=NB229_236.out;obtain ⟨hcz41_0,hcz41_1,hfz41_0,hfz41_1⟩:=cB2 BK236.out;obtain ⟨hcz42_0,hcz42_1,hfz42_0,hfz42_1⟩:=cB2 BK229.out)|((with_reducible refine zJ (f:=56) rfl ?_);refine yj (some 33) rfl rfl Try.func56 jA rfl #[.int .i64 ((rd_T67 l0_0 x24_2).f0),.int .i64 1,.int .i64 (wrap64 (a0_1 - 1))] rfl jG ?_;(with_reducible refine (F02.calls  ((rd_T67 l0_0 x24_2).f0) 1 (wrap64 (a0_1 - 1)) true _ A16.out).mono ?_);rintro e w' ⟨rfl,⟨nd,rfl⟩⟩;refine ⟨_,rfl,?_⟩;obtain ⟨Ao43,co43,eo43⟩:=yk HO_3.out;subst eo43)|(go_at_call 57;(with_reducible refine (F06.calls k2  _ _ x3_2 ((rd_T67 l0_0 x24_2).f0) false _ ?side1 ?side2 A18.out).mono ?_);(case side1=>refine (yh (e:=3) (base:=w.heap.size) (ok:=fun k_=>True) (n:=x3_2.length) (c:=co43) ?_).2.2;exact jAN);(case side2=>exact (yh HO_3.out).2.1);rintro e w' ⟨rfl,⟨nd,rfl⟩⟩)|((with_reducible refine yA (b:=.append) (xs:=#[.tmp 59,.tmp 62]) rfl ?_);(try (refine yy (by rfl) ?_;dsimp only));at_builtin;refine Kd.R_append (Kd.int .i64) (w0:=w) w.heap.size rfl (.tmp 59) (.tmp 62) 30 3 (.int .i64 0) 8 rfl Try.underlying30 info3 rfl jB jD (.slice Ao43 x3_2.length co43) x3_2 ((rd_T67 l0_0 x24_2).f0) [.int .i64 ((rd_T67 l0_0 x24_2).f0)] (fun _=>True) (fun _=>False) rfl (by go_simp <;> rfl) ?aP (fun _ hk=>hk.elim) ?aF ?aO ?aB ?aS ?aL ?_;(case aP=>exact rfl);(case aB=>exact jY);(case aF=>exact (fun _ _=>trivial));(case aO=>exact jBe);(case aS=>exact (zB jY));(case aL=>have:=LMc38.out;omega);intro v240 w44 ho hb hg hat;rw [← Ny239.out] at ho;replace BK229:=zh (yv (g:=gb229) (o:=.cells #[.slice (some ad235) l0_0.length c0_0,.int .i64 a0_1] 35 (0,0)) jBf hg (Kd.R_ne HO_3.out BK229.out jB));replace BK236:=zh (yv (g:=gb236) (o:=.cells #[.int .i64 ((rd_T67 l0_0 x24_2).f0),.slice A235_1 ((rd_T67 l0_0 x24_2).f1).length c235_1] 67 (0,0)) jBg hg (Kd.R_ne HO_3.out BK236.out jB));replace HB:=zh (hb);have HO241:=zh (ho);clear HO_3 ho hb hg hat))
           go_roundg k2
           case measure=>have:=HJ1.out;have:=HK2.out;omega
           case rel=>exact ⟨(y239),(wrap64 (x24_2+1)),jE,H',⟨by have:=HJ1.out;have:=HK2.out;omega⟩,⟨by (with_reducible repeat (first|apply zm|apply zn|apply zo));exact HO241.out⟩,⟨jK⟩,⟨jY⟩⟩
          rw [if_neg c38] at H;exact absurd H (by simp)
         rw [if_neg c31] at H;have c31b0 : ((((rd_T67 l0_0 x24_2).f1).length : Int) == 0)=false:=zY.mpr c31;have c31b1 : ((((rd_T67 l0_0 x24_2).f1).length : Int) != 0)=true:=zZ.mpr c31;have c31b2 : ¬ (((rd_T67 l0_0 x24_2).f1)=[]):=fun h_=>c31 (by rw [h_];rfl)
         by_cases c45 : x3_2.length<17592186044416
         ·
          rw [if_pos c45] at H
          have LMc45:=zh c45;clear c45;obtain ⟨y242,hy242⟩ : ∃ y_ : List Int,y_=(x3_2 ++ [(rd_T67 l0_0 x24_2).f0]):=⟨_,rfl⟩;replace H : (F1.l0 k2 y242 l0_0 (l0_0.length : Int) (wrap64 (x24_2+1)) l0_0 a0_1)=some r:=by first|(rw [hy242];with_reducible exact H)|(have H2_:=(Option.bind_some _ _).symm.trans H;rw [hy242];with_reducible exact H2_)|(have H2_:=(Option.bind_some _ _).symm.trans H;with_reducible exact H2_)|with_reducible exact H|(rw [hy242];exact H)|exact H
          have Ny242:=zh hy242;clear hy242;have H':=zh H;clear H;have p235 : 0≤(x24_2 : Int):=zy jC;have q235 : x24_2<(l0_0.length : Int):=zy jC;obtain ⟨ad235,A235_1,c235_1,e235,hx235_0,hx235_1,hl235_1,hi235_1⟩:=at_T67 HR0_0.out x24_2 p235 q235
          cases e235
          replace hx235_0:=(HB.out.cell (zl w _ hx235_0)).trans hx235_0;replace hx235_1:=(HB.out.cell (zl w _ hx235_1)).trans hx235_1;have HR235_1:=zh hi235_1;have HC235_1:=zh hl235_1;clear hi235_1 hl235_1;replace p235:=eq_true p235;replace q235:=eq_true q235
          go_wp2_with (first|((with_reducible refine zK (N:=5) rfl ?_);(try (refine yy (by rfl) ?_;dsimp only));refine zI ?hg (N:=5) ?hd (cs:=#[.int .i64 0,.slice none 0 0]) (t:=67) ?hr ?_;(case hd=>rfl);(case hg=>rfl);(case hr=>go_simp <;> rfl);intro gb236 hg w46 hbox hb;replace HO_3:=zh (yg jR hb);have BK236:=zh (hbox);have hH_:=cH jN hb hg;have GW236:=zh hH_.1;have GE236:=GW236;replace HB:=zh hH_.2;have NB229_236:=zh ((jz : gb229≠gb236));have NB236_229:=zh NB229_236.out.symm;replace BK229:=zh (cD BK229.out jK hb);clear hb hbox hg hH_;have hnb47:=NB236_229.out;have hnc47:=NB229_236.out;obtain ⟨hcz48_0,hcz48_1,hfz48_0,hfz48_1⟩:=cB2 BK236.out;obtain ⟨hcz49_0,hcz49_1,hfz49_0,hfz49_1⟩:=cB2 BK229.out)|((with_reducible refine zJ (f:=56) rfl ?_);refine yj (some 33) rfl rfl Try.func56 jA rfl #[.int .i64 ((rd_T67 l0_0 x24_2).f0),.int .i64 1,.int .i64 (wrap64 (a0_1 - 1))] rfl jG ?_;(with_reducible refine (F02.calls  ((rd_T67 l0_0 x24_2).f0) 1 (wrap64 (a0_1 - 1)) true _ A16.out).mono ?_);rintro e w' ⟨rfl,⟨nd,rfl⟩⟩;refine ⟨_,rfl,?_⟩;obtain ⟨Ao50,co50,eo50⟩:=yk HO_3.out;subst eo50)|(go_at_call 57;(with_reducible refine (F06.calls k2  _ _ x3_2 ((rd_T67 l0_0 x24_2).f0) false _ ?side1 ?side2 A18.out).mono ?_);(case side1=>refine (yh (e:=3) (base:=w.heap.size) (ok:=fun k_=>True) (n:=x3_2.length) (c:=co50) ?_).2.2;exact jAN);(case side2=>exact (yh HO_3.out).2.1);rintro e w' ⟨rfl,⟨nd,rfl⟩⟩)|((with_reducible refine yA (b:=.append) (xs:=#[.tmp 59,.tmp 62]) rfl ?_);(try (refine yy (by rfl) ?_;dsimp only));at_builtin;refine Kd.R_append (Kd.int .i64) (w0:=w) w.heap.size rfl (.tmp 59) (.tmp 62) 30 3 (.int .i64 0) 8 rfl Try.underlying30 info3 rfl jB jD (.slice Ao50 x3_2.length co50) x3_2 ((rd_T67 l0_0 x24_2).f0) [.int .i64 ((rd_T67 l0_0 x24_2).f0)] (fun _=>True) (fun _=>False) rfl (by go_simp <;> rfl) ?aP (fun _ hk=>hk.elim) ?aF ?aO ?aB ?aS ?aL ?_;(case aP=>exact rfl);(case aB=>exact jY);(case aF=>exact (fun _ _=>trivial));(case aO=>exact jBe);(case aS=>exact (zB jY));(case aL=>have:=LMc45.out;omega);intro v243 w51 ho hb hg hat;rw [← Ny242.out] at ho;replace BK229:=zh (yv (g:=gb229) (o:=.cells #[.slice (some ad235) l0_0.length c0_0,.int .i64 a0_1] 35 (0,0)) jBf hg (Kd.R_ne HO_3.out BK229.out jB));replace BK236:=zh (yv (g:=gb236) (o:=.cells #[.int .i64 ((rd_T67 l0_0 x24_2).f0),.slice A235_1 ((rd_T67 l0_0 x24_2).f1).length c235_1] 67 (0,0)) jBg hg (Kd.R_ne HO_3.out BK236.out jB));replace HB:=zh (hb);have HO244:=zh (ho);clear HO_3 ho hb hg hat))
          go_roundg k2
          case measure=>have:=HJ1.out;have:=HK2.out;omega
          case rel=>exact ⟨(y242),(wrap64 (x24_2+1)),jE,H',⟨by have:=HJ1.out;have:=HK2.out;omega⟩,⟨by (with_reducible repeat (first|apply zm|apply zn|apply zo));exact HO244.out⟩,⟨jK⟩,⟨jY⟩⟩
         rw [if_neg c45] at H;exact absurd H (by simp)
        replace c17:=yb.mpr c17;subst c17;rw [if_neg (show ¬ (false=true) by decide)] at H;obtain rfl:=zU H;have p235 : 0≤(x24_2 : Int):=zy jC;have q235 : x24_2<(l0_0.length : Int):=zy jC;obtain ⟨ad235,A235_1,c235_1,e235,hx235_0,hx235_1,hl235_1,hi235_1⟩:=at_T67 HR0_0.out x24_2 p235 q235
        cases e235
        replace hx235_0:=(HB.out.cell (zl w _ hx235_0)).trans hx235_0;replace hx235_1:=(HB.out.cell (zl w _ hx235_1)).trans hx235_1;have HR235_1:=zh hi235_1;have HC235_1:=zh hl235_1;clear hi235_1 hl235_1;replace p235:=eq_true p235;replace q235:=eq_true q235
        go_wp2_with (first|((with_reducible refine zK (N:=5) rfl ?_);(try (refine yy (by rfl) ?_;dsimp only));refine zI ?hg (N:=5) ?hd (cs:=#[.int .i64 0,.slice none 0 0]) (t:=67) ?hr ?_;(case hd=>rfl);(case hg=>rfl);(case hr=>go_simp <;> rfl);intro gb236 hg w52 hbox hb;replace HO_3:=zh (yg jR hb);have BK236:=zh (hbox);have hH_:=cH jN hb hg;have GW236:=zh hH_.1;have GE236:=GW236;replace HB:=zh hH_.2;have NB229_236:=zh ((jz : gb229≠gb236));have NB236_229:=zh NB229_236.out.symm;replace BK229:=zh (cD BK229.out jK hb);clear hb hbox hg hH_;have hnb53:=NB236_229.out;have hnc53:=NB229_236.out;obtain ⟨hcz54_0,hcz54_1,hfz54_0,hfz54_1⟩:=cB2 BK236.out;obtain ⟨hcz55_0,hcz55_1,hfz55_0,hfz55_1⟩:=cB2 BK229.out)|((with_reducible refine zJ (f:=56) rfl ?_);refine yj (some 33) rfl rfl Try.func56 jA rfl #[.int .i64 ((rd_T67 l0_0 x24_2).f0),.int .i64 1,.int .i64 (wrap64 (a0_1 - 1))] rfl jG ?_;(with_reducible refine (F02.calls  ((rd_T67 l0_0 x24_2).f0) 1 (wrap64 (a0_1 - 1)) false _ A16.out).mono ?_);rintro e w' ⟨rfl,⟨nd,rfl⟩⟩;refine ⟨_,rfl,?_⟩))
        go_ret
        exact ⟨jH,jY⟩
       rw [if_neg c15] at H;exact absurd H (by simp)
      rw [if_neg c14] at H;exact absurd H (by simp)
     rw [if_neg c13] at H;have c13b0 : decide (x24_2<(l0_0.length : Int))=false:=decide_eq_false c13;clear c13;replace H:=zT.mp H;obtain ⟨t245,A560,H⟩:=H;have A56:=zh A560;clear A560;have H':=zh H;clear H;obtain ⟨hcz57_0,hcz57_1,hfz57_0,hfz57_1⟩:=cB2 BK229.out
     go_wp2_with (first|((with_reducible refine zJ (f:=33) rfl ?_);refine yj (some 66) rfl rfl Try.func33 jA rfl #[.agg #[.slice A0_0 l0_0.length c0_0,.int .i64 a0_1]] rfl jG ?_;(with_reducible refine (Fl.calls k2  _ _ l0_0 a0_1 t245 _ ?side1 ?side2 A56.out).mono ?_);(case side1=>repeat (first|exact (Kd.C_below HR0_0.out HB.out)|(with_reducible refine Kd.C_alloc ?_ _)|(with_reducible refine Kd.C_drewN ?_ _)|(with_reducible refine Kd.C_drew ?_)));(case side2=>exact HC0_0.out);rintro e w58 ⟨v246,rfl,ho0,hb⟩;refine ⟨_,rfl,?_⟩;replace HO_3:=zh (yg jR hb);have HO247:=zh (yx ho0 (zB jN));replace BK229:=zh (cD BK229.out jK hb);replace HB:=zh (zC jN hb);(try clear hb);(try clear hb2);(try clear hk);(try clear hi);(try clear ho0);obtain ⟨Ao59,co59,eo59⟩:=yk HO247.out;subst eo59))
     go_loopg [69] k2 (fun kq v69 w' => ∃ (x69_3 : Int),v69 = .int .i64 x69_3∧Aside0 (F1.l1 kq t245 t245 (t245.length : Int) x69_3=some r)∧Aside0 (kq≤k2)∧Aside0 (Kd.R k51 51 w' w.heap.size (fun _=>True) (.slice Ao59 t245.length co59) t245)∧Aside0 (Kd.R k51 51 w' w.heap.size (fun _=>True) (.slice Ao59 t245.length co59) t245)∧Aside0 (w'.heap[gb229]? = some (.cells #[(.slice A0_0 l0_0.length c0_0),.int .i64 a0_1] 35 (0,0)))∧Aside0 (Below w.heap.size w w'))
     case atStart=>exact ⟨(0),jE,H',⟨ye _⟩,⟨jBh⟩,⟨jBh⟩,⟨jK⟩,⟨jN⟩⟩
     case round =>
      clear H'
      try clear c1 c2
      try clear p2
      try clear q2
      try clear hx2
      try clear c3 c4 c5
      try clear p6
      try clear c9 c13 c13b0 c14 c14b0 c15 c15b0 c17 c19 c21 c23
      try clear p23
      try clear q23
      try clear hx23
      try clear c25 c25b0 c25b1 c27 c31 c31b0 c31b1 c31b2 c32 c32b0 c32b1 c33 c34 c38 c40 c45 c47 c53 c56
      try clear hcz12_0 hcz12_1
      try clear hcz22_0 hcz22_1
      try clear hcz23_0 hcz23_1
      try clear hcz28_0 hcz28_1
      try clear hcz29_0 hcz29_1
      try clear hcz35_0 hcz35_1
      try clear hcz36_0 hcz36_1
      try clear hcz41_0 hcz41_1
      try clear hcz42_0 hcz42_1
      try clear hcz48_0 hcz48_1
      try clear hcz49_0 hcz49_1
      try clear hcz54_0 hcz54_1
      try clear hcz55_0 hcz55_1
      try clear hcz57_0 hcz57_1
      try clear hcz7_0 hcz7_1
      try clear hcz8_0 hcz8_1
      try clear hfz12_0 hfz12_1
      try clear hfz22_0 hfz22_1
      try clear hfz23_0 hfz23_1
      try clear hfz28_0 hfz28_1
      try clear hfz29_0 hfz29_1
      try clear hfz35_0 hfz35_1
      try clear hfz36_0 hfz36_1
      try clear hfz41_0 hfz41_1
      try clear hfz42_0 hfz42_1
      try clear hfz48_0 hfz48_1
      try clear hfz49_0 hfz49_1
      try clear hfz54_0 hfz54_1
      try clear hfz55_0 hfz55_1
      try clear hfz57_0 hfz57_1
      try clear hfz7_0 hfz7_1
      try clear hfz8_0 hfz8_1
      try clear hx235_0
      try clear hx235_1
      try clear p2
      try clear p235
      try clear q235
      obtain ⟨x69_3,rfl,HA,HK3,HO_6,HO_67,BK229,HB⟩:=hrel
      cases gk with
      | zero=>exact absurd HA.out (by simp [F1.l1])
      | succ k3 =>
       have H:=HA.out;clear HA;simp only [F1.l1] at H
       by_cases c60 : x69_3<(t245.length : Int)
       ·
        rw [if_pos c60] at H
        have c60b0 : decide (x69_3<(t245.length : Int))=true:=decide_eq_true c60;clear c60
        by_cases c61 : 0≤x69_3
        ·
         rw [if_pos c61] at H
         have c61b0 : decide (0≤x69_3)=true:=decide_eq_true c61;clear c61
         by_cases c62 : x69_3<(t245.length : Int)
         ·
          rw [if_pos c62] at H
          have c62b0 : decide (x69_3<(t245.length : Int))=true:=decide_eq_true c62;clear c62;replace H:=zT.mp H;obtain ⟨t250,A630,H⟩:=H;have A63:=zh A630;clear A630
          by_cases c64 : t250=true
          ·
           subst c64
           rw [if_pos rfl] at H
           by_cases c65 : x69_3 > 0
           ·
            rw [if_pos c65] at H
            have c65b0 : decide (0<x69_3)=true:=decide_eq_true c65;clear c65;obtain ⟨ji66,hji66⟩ : ∃ j_ : Int,(wrap64 (x69_3 - 1))=j_:=⟨_,rfl⟩;replace H : (if 0≤(ji66) then (if (ji66)<(t245.length : Int) then ((Fi.f k3 ((rd_T51 t245 (ji66)).f0) ((rd_T51 t245 (ji66)).f1) ((rd_T51 t245 x69_3).f0) ((rd_T51 t245 x69_3).f1)).bind fun t252=>(if t252 ≥ 0 then (some false) else (F1.l1 k3 t245 t245 (t245.length : Int) (wrap64 (x69_3+1))))) else (none)) else (none))=some r:=by first|(rw [hji66] at H;exact H)|(simp only [hji66] at H ⊢;exact H)
            (try rw [hji66] at A63);have hji66w : (IntKind.i64.wrap (x69_3 - 1))=ji66:=(zG _).trans hji66
            by_cases c67 : 0≤(ji66)
            ·
             rw [if_pos c67] at H
             have c67b0 : decide (0≤(ji66))=true:=decide_eq_true c67;clear c67
             by_cases c68 : (ji66)<(t245.length : Int)
             ·
              rw [if_pos c68] at H
              have c68b0 : decide ((ji66)<(t245.length : Int))=true:=decide_eq_true c68;clear c68;replace H:=zT.mp H;obtain ⟨t252,A690,H⟩:=H;have A69:=zh A690;clear A690
              by_cases c70 : t252 ≥ 0
              ·
               rw [if_pos c70] at H
               have c70b0 : decide (0≤t252)=true:=decide_eq_true c70;clear c70;obtain rfl:=zU H;have p248 : 0≤(x69_3 : Int):=zy jC;have q248 : x69_3<(t245.length : Int):=zy jC;obtain ⟨ad248,e248,hx248_0,hx248_1⟩:=at_T51 (yh HO_67.out).2.2 x69_3 p248 q248
               cases e248
               replace p248:=eq_true p248;replace q248:=eq_true q248
               try go_wp2_with (first|((with_reducible refine zK (N:=8) rfl ?_);(try (refine yy (by rfl) ?_;dsimp only));refine zI ?hg (N:=8) ?hd (cs:=#[.string (⟨#[]⟩ : ByteArray),.int .i64 0]) (t:=51) ?hr ?_;(case hd=>rfl);(case hg=>rfl);(case hr=>go_simp <;> rfl);intro gb249 hg w71 hbox hb;replace HO_6:=zh (yg (Kd.R_elderB jZ gb249 (Nat.le_of_eq hg.symm)) hb);replace HO_67:=zh (yg (Kd.R_elderB jd gb249 (Nat.le_of_eq hg.symm)) hb);have BK249:=zh (hbox);have hH_:=cH jN hb hg;have GW249:=zh hH_.1;have GE249:=GW249;replace HB:=zh hH_.2;have NB229_249:=zh ((jAg : gb229≠gb249));have NB249_229:=zh NB229_249.out.symm;replace BK229:=zh (cD BK229.out jK hb);clear hb hbox hg hH_;have hnb72:=NB249_229.out;have hnc72:=NB229_249.out;obtain ⟨hcz73_0,hcz73_1,hfz73_0,hfz73_1⟩:=cB2 BK249.out))
               have n0_ : Aside0 (Kd.R k51 51 ((w71.setCell ⟨gb249,0,none⟩ (.string ((rd_T51 t245 x69_3).f0))).setCell ⟨gb249,1,none⟩ (.int .i64 ((rd_T51 t245 x69_3).f1))) w.heap.size (fun k_=>k_≠gb249) (.slice (some ad248) t245.length co59) t245):=⟨jAh⟩;have n1_ : Aside0 (Kd.R k51 51 ((w71.setCell ⟨gb249,0,none⟩ (.string ((rd_T51 t245 x69_3).f0))).setCell ⟨gb249,1,none⟩ (.int .i64 ((rd_T51 t245 x69_3).f1))) w.heap.size (fun k_=>k_≠gb249) (.slice (some ad248) t245.length co59) t245):=⟨jAi⟩;have n2_ : Aside0 (((w71.setCell ⟨gb249,0,none⟩ (.string ((rd_T51 t245 x69_3).f0))).setCell ⟨gb249,1,none⟩ (.int .i64 ((rd_T51 t245 x69_3).f1))).heap[gb229]? = some (.cells #[.slice A0_0 l0_0.length c0_0,.int .i64 a0_1] 35 (0,0))):=⟨jAk⟩;have n3_ : Aside0 (((w71.setCell ⟨gb249,0,none⟩ (.string ((rd_T51 t245 x69_3).f0))).setCell ⟨gb249,1,none⟩ (.int .i64 ((rd_T51 t245 x69_3).f1))).heap[gb249]? = some (.cells #[.string ((rd_T51 t245 x69_3).f0),.int .i64 ((rd_T51 t245 x69_3).f1)] 51 (0,0))):=⟨jAl⟩;have n4_ : Aside0 (Below w.heap.size w ((w71.setCell ⟨gb249,0,none⟩ (.string ((rd_T51 t245 x69_3).f0))).setCell ⟨gb249,1,none⟩ (.int .i64 ((rd_T51 t245 x69_3).f1)))):=⟨jQ⟩;(try clear HO_6);(try clear HO_67);(try clear BK229);(try clear BK249);(try clear HB);generalize ((w71.setCell ⟨gb249,0,none⟩ (.string ((rd_T51 t245 x69_3).f0))).setCell ⟨gb249,1,none⟩ (.int .i64 ((rd_T51 t245 x69_3).f1)))=w74 at n0_ n1_ n2_ n3_ n4_ ⊢;have HO_6:=n0_;have HO_67:=n1_;have BK229:=n2_;have BK249:=n3_;have HB:=n4_;clear n0_ n1_ n2_ n3_ n4_;replace HO_6:=zh (zo HO_6.out);replace HO_67:=zh (zo HO_67.out);replace BK229:=zh (zf BK229.out);replace BK249:=zh (zf BK249.out);replace HB:=zh (zc HB.out);have p251 : 0≤((ji66) : Int):=zy jC;have q251 : (ji66)<(t245.length : Int):=zy jC;obtain ⟨ad251,e251,hx251_0,hx251_1⟩:=at_T51 (yh HO_6.out).2.2 (ji66) p251 q251;obtain rfl : ad248=ad251:=(by injection e251);replace p251:=eq_true p251;replace q251:=eq_true q251;refine start_ (n:=17) (S:=fun w' => w'.cell? ⟨gb249,0,none⟩=some (.string ((rd_T51 t245 x69_3).f0))∧w'.cell? ⟨gb249,1,none⟩=some (.int .i64 ((rd_T51 t245 x69_3).f1))∧w'.cell? (ad248.add (((ji66)).toNat*2))=some (.string ((rd_T51 t245 (ji66)).f0))∧w'.cell? ⟨(ad248.add (((ji66)).toNat*2)).block,(ad248.add (((ji66)).toNat*2)).off+1,none⟩=some (.int .i64 ((rd_T51 t245 (ji66)).f1))) (ds:=[]) (bm_ 0 17) jA rfl rfl ⟨(zz BK249.out 0).trans rfl,(zz BK249.out 1).trans rfl,hx251_0,hx251_1⟩ (fun hHeld=>?_);refine with_tabW F1.tab15 F1.bits15 (fun HT_ HW_=>?_);generalize w74.drew=w75 at HO_6 HO_67 BK229 BK249 HB hx251_0 hx251_1 hHeld ⊢;refine take_ (i:=0) (N:=some 74) (v:=?_) (a':=?_) (bm_ 1 17) rfl rfl (yo HT_.out HW_.out jA) (fun _ _ _ h=>h) (Or.inl ⟨by rfl,?_⟩) hHeld ?_ ?_;rotate_left
               ·
                rintro w' ⟨s0,s1,s2,s3⟩
                go_simp
                with_reducible rfl
               rotate_left
               exact jc
               refine one_ (i:=1) (N:=some 75) (bm_ 2 17) rfl rfl (one_of HT_.out jA) jB (fun K hK=>?_);refine goes_ Try.func44 jA rfl #[.agg #[.string ((rd_T51 t245 x69_3).f0),.int .i64 ((rd_T51 t245 x69_3).f1)]] (by rfl) rfl rfl jG ?_
               with_reducible refine (F0f.calls  ((rd_T51 t245 x69_3).f0) ((rd_T51 t245 x69_3).f1) true _ A63.out).mono ?_
               rintro e w76 ⟨rfl,hb⟩;have HS2_:=(hb.cell (zl _ _ (hHeld.2.2.1))).trans (hHeld.2.2.1);have HS3_:=(hb.cell (zl _ _ (hHeld.2.2.2))).trans (hHeld.2.2.2);refine ⟨_,rfl,?_⟩;replace HO_6:=zh (yg jZ hb);replace HO_67:=zh (yg jd hb);replace BK229:=zh (cD BK229.out jK hb);replace BK249:=zh (cD BK249.out jAA hb);replace HB:=zh (zC jQ hb);(try clear hb);(try clear hb2);(try clear hk);(try clear hi);refine hK.out _ _ ⟨(zz BK249.out 0).trans rfl,(zz BK249.out 1).trans rfl,HS2_,HS3_⟩ (fun hHeld=>?_);clear hK K;refine norm_ (a':=?_) ?_ ?_;rotate_left
               ·
                show Act.put _ (some 75) _=_
                simp only [Act.put,zi,zj,zk,zG,zH]
                rfl
               refine pure_ (i:=2) (N:=some 76) (v:=?_) (a':=?_) (bm_ 3 17) rfl rfl (any_of HT_.out jA) (fun _ _ _ h=>h) (Or.inl ⟨by rfl,?_⟩) ?_ ?_;rotate_left;exact jb;rotate_left;exact jc
               refine pure_ (i:=3) (N:=some 77) (v:=?_) (a':=?_) (bm_ 4 17) rfl rfl (any_of HT_.out jA) (fun _ _ _ h=>h) (Or.inl ⟨by rfl,?_⟩) ?_ ?_;rotate_left;exact jb;rotate_left;exact jc
               refine pure_ (i:=4) (N:=some 78) (v:=?_) (a':=?_) (bm_ 5 17) rfl rfl (any_of HT_.out jA) (fun _ _ _ h=>h) (Or.inl ⟨by rfl,?_⟩) ?_ ?_;rotate_left;exact jb;rotate_left;exact jc
               refine pure_ (i:=5) (N:=some 79) (v:=?_) (a':=?_) (bm_ 6 17) rfl rfl (any_of HT_.out jA) (fun _ _ _ h=>h) (Or.inl ⟨by rfl,?_⟩) ?_ ?_;rotate_left;exact jb;rotate_left;exact jc
               refine pure_ (i:=6) (N:=some 80) (v:=?_) (a':=?_) (bm_ 7 17) rfl rfl (any_of HT_.out jA) (fun _ _ _ h=>h) (Or.inl ⟨by rfl,?_⟩) ?_ ?_;rotate_left;exact jb;rotate_left;exact jc
               refine pure_ (i:=7) (N:=some 81) (v:=?_) (a':=?_) (bm_ 8 17) rfl rfl (any_of HT_.out jA) (fun _ _ _ h=>h) (Or.inl ⟨by rfl,?_⟩) ?_ ?_;rotate_left;exact jb;rotate_left;exact jc
               refine pure_ (i:=8) (N:=some 82) (v:=?_) (a':=?_) (bm_ 9 17) rfl rfl (any_of HT_.out jA) (fun _ _ _ h=>h) (Or.inl ⟨by rfl,?_⟩) ?_ ?_;rotate_left;exact jb;rotate_left;exact jc
               refine pure_ (i:=9) (N:=some 83) (v:=?_) (a':=?_) (bm_ 10 17) rfl rfl (any_of HT_.out jA) (fun _ _ _ h=>h) (Or.inl ⟨by rfl,?_⟩) ?_ ?_;rotate_left;exact jb;rotate_left;exact jc
               refine pure_ (i:=10) (N:=some 84) (v:=?_) (a':=?_) (bm_ 11 17) rfl rfl (any_of HT_.out jA) (fun _ _ _ h=>h) (Or.inl ⟨by rfl,?_⟩) ?_ ?_;rotate_left;exact jb;rotate_left;exact jc
               refine take_ (i:=11) (N:=some 85) (v:=?_) (a':=?_) (bm_ 12 17) rfl rfl (yo HT_.out HW_.out jA) (fun _ _ _ h=>h) (Or.inl ⟨by rfl,?_⟩) hHeld ?_ ?_;rotate_left
               ·
                rintro w' ⟨s0,s1,s2,s3⟩
                go_simp
                with_reducible rfl
               rotate_left
               exact jc
               refine take_ (i:=12) (N:=some 86) (v:=?_) (a':=?_) (bm_ 13 17) rfl rfl (yo HT_.out HW_.out jA) (fun _ _ _ h=>h) (Or.inl ⟨by rfl,?_⟩) hHeld ?_ ?_;rotate_left
               ·
                rintro w' ⟨s0,s1,s2,s3⟩
                go_simp
                with_reducible rfl
               rotate_left
               exact jc
               refine one_ (i:=13) (N:=some 87) (bm_ 14 17) rfl rfl (one_of HT_.out jA) jB (fun K hK=>?_);refine goes_ Try.func58 jA rfl #[.agg #[.string ((rd_T51 t245 (ji66)).f0),.int .i64 ((rd_T51 t245 (ji66)).f1)],.agg #[.string ((rd_T51 t245 x69_3).f0),.int .i64 ((rd_T51 t245 x69_3).f1)]] (by rfl) rfl rfl jBi ?_
               with_reducible refine (Fi.calls k3  ((rd_T51 t245 (ji66)).f0) ((rd_T51 t245 (ji66)).f1) ((rd_T51 t245 x69_3).f0) ((rd_T51 t245 x69_3).f1) t252 _ A69.out).mono ?_
               rintro e w77 ⟨rfl,hb⟩;have HS2_:=(hb.cell (zl _ _ (hHeld.2.2.1))).trans (hHeld.2.2.1);have HS3_:=(hb.cell (zl _ _ (hHeld.2.2.2))).trans (hHeld.2.2.2);refine ⟨_,rfl,?_⟩;replace HO_6:=zh (yg jZ hb);replace HO_67:=zh (yg jd hb);replace BK229:=zh (cD BK229.out jK hb);replace BK249:=zh (cD BK249.out jAA hb);replace HB:=zh (zC jQ hb);(try clear hb);(try clear hb2);(try clear hk);(try clear hi);refine hK.out _ _ ⟨(zz BK249.out 0).trans rfl,(zz BK249.out 1).trans rfl,HS2_,HS3_⟩ (fun hHeld=>?_);clear hK K;refine norm_ (a':=?_) ?_ ?_;rotate_left
               ·
                show Act.put _ (some 87) _=_
                simp only [Act.put,zi,zj,zk,zG,zH]
                rfl
               refine pure_ (i:=14) (N:=some 88) (v:=?_) (a':=?_) (bm_ 15 17) rfl rfl (any_of HT_.out jA) (fun _ _ _ h=>h) (Or.inl ⟨by rfl,?_⟩) ?_ ?_;rotate_left;exact jb;rotate_left;exact jc
               refine pure_ (i:=15) (N:=some 89) (v:=?_) (a':=?_) (bm_ 16 17) rfl rfl (any_of HT_.out jA) (fun _ _ _ h=>h) (Or.inl ⟨by rfl,?_⟩) ?_ ?_;rotate_left;exact jb;rotate_left;exact jc
               refine pure_ (i:=16) (N:=some 90) (v:=?_) (a':=?_) (bm_ 17 17) rfl rfl (any_of HT_.out jA) (fun _ _ _ h=>h) (Or.inl ⟨by rfl,?_⟩) ?_ ?_;rotate_left;exact jb;rotate_left;exact jc
               refine done_ (done_of HT_.out jA) ?_
               try go_wp2
               go_ret
               exact ⟨by first|rfl|(simp [yt,yu] <;> rfl)|(simp only [← hji66];first|rfl|(simp [yt,yu] <;> rfl))|(simp [*,yt,yu] <;> rfl),jQ⟩
              rw [if_neg c70] at H;have c70b0 : decide (0≤t252)=false:=decide_eq_false c70;clear c70;have H':=zh H;clear H;have p248 : 0≤(x69_3 : Int):=zy jC;have q248 : x69_3<(t245.length : Int):=zy jC;obtain ⟨ad248,e248,hx248_0,hx248_1⟩:=at_T51 (yh HO_67.out).2.2 x69_3 p248 q248
              cases e248
              replace p248:=eq_true p248;replace q248:=eq_true q248
              try go_wp2_with (first|((with_reducible refine zK (N:=8) rfl ?_);(try (refine yy (by rfl) ?_;dsimp only));refine zI ?hg (N:=8) ?hd (cs:=#[.string (⟨#[]⟩ : ByteArray),.int .i64 0]) (t:=51) ?hr ?_;(case hd=>rfl);(case hg=>rfl);(case hr=>go_simp <;> rfl);intro gb249 hg w78 hbox hb;replace HO_6:=zh (yg (Kd.R_elderB jZ gb249 (Nat.le_of_eq hg.symm)) hb);replace HO_67:=zh (yg (Kd.R_elderB jd gb249 (Nat.le_of_eq hg.symm)) hb);have BK249:=zh (hbox);have hH_:=cH jN hb hg;have GW249:=zh hH_.1;have GE249:=GW249;replace HB:=zh hH_.2;have NB229_249:=zh ((jAg : gb229≠gb249));have NB249_229:=zh NB229_249.out.symm;replace BK229:=zh (cD BK229.out jK hb);clear hb hbox hg hH_;have hnb79:=NB249_229.out;have hnc79:=NB229_249.out;obtain ⟨hcz80_0,hcz80_1,hfz80_0,hfz80_1⟩:=cB2 BK249.out))
              have n0_ : Aside0 (Kd.R k51 51 ((w78.setCell ⟨gb249,0,none⟩ (.string ((rd_T51 t245 x69_3).f0))).setCell ⟨gb249,1,none⟩ (.int .i64 ((rd_T51 t245 x69_3).f1))) w.heap.size (fun k_=>k_≠gb249) (.slice (some ad248) t245.length co59) t245):=⟨jAh⟩;have n1_ : Aside0 (Kd.R k51 51 ((w78.setCell ⟨gb249,0,none⟩ (.string ((rd_T51 t245 x69_3).f0))).setCell ⟨gb249,1,none⟩ (.int .i64 ((rd_T51 t245 x69_3).f1))) w.heap.size (fun k_=>k_≠gb249) (.slice (some ad248) t245.length co59) t245):=⟨jAi⟩;have n2_ : Aside0 (((w78.setCell ⟨gb249,0,none⟩ (.string ((rd_T51 t245 x69_3).f0))).setCell ⟨gb249,1,none⟩ (.int .i64 ((rd_T51 t245 x69_3).f1))).heap[gb229]? = some (.cells #[.slice A0_0 l0_0.length c0_0,.int .i64 a0_1] 35 (0,0))):=⟨jAk⟩;have n3_ : Aside0 (((w78.setCell ⟨gb249,0,none⟩ (.string ((rd_T51 t245 x69_3).f0))).setCell ⟨gb249,1,none⟩ (.int .i64 ((rd_T51 t245 x69_3).f1))).heap[gb249]? = some (.cells #[.string ((rd_T51 t245 x69_3).f0),.int .i64 ((rd_T51 t245 x69_3).f1)] 51 (0,0))):=⟨jAl⟩;have n4_ : Aside0 (Below w.heap.size w ((w78.setCell ⟨gb249,0,none⟩ (.string ((rd_T51 t245 x69_3).f0))).setCell ⟨gb249,1,none⟩ (.int .i64 ((rd_T51 t245 x69_3).f1)))):=⟨jQ⟩;(try clear HO_6);(try clear HO_67);(try clear BK229);(try clear BK249);(try clear HB);generalize ((w78.setCell ⟨gb249,0,none⟩ (.string ((rd_T51 t245 x69_3).f0))).setCell ⟨gb249,1,none⟩ (.int .i64 ((rd_T51 t245 x69_3).f1)))=w81 at n0_ n1_ n2_ n3_ n4_ ⊢;have HO_6:=n0_;have HO_67:=n1_;have BK229:=n2_;have BK249:=n3_;have HB:=n4_;clear n0_ n1_ n2_ n3_ n4_;replace HO_6:=zh (zo HO_6.out);replace HO_67:=zh (zo HO_67.out);replace BK229:=zh (zf BK229.out);replace BK249:=zh (zf BK249.out);replace HB:=zh (zc HB.out);have p251 : 0≤((ji66) : Int):=zy jC;have q251 : (ji66)<(t245.length : Int):=zy jC;obtain ⟨ad251,e251,hx251_0,hx251_1⟩:=at_T51 (yh HO_6.out).2.2 (ji66) p251 q251;obtain rfl : ad248=ad251:=(by injection e251);replace p251:=eq_true p251;replace q251:=eq_true q251;refine start_ (n:=17) (S:=fun w' => w'.cell? ⟨gb249,0,none⟩=some (.string ((rd_T51 t245 x69_3).f0))∧w'.cell? ⟨gb249,1,none⟩=some (.int .i64 ((rd_T51 t245 x69_3).f1))∧w'.cell? (ad248.add (((ji66)).toNat*2))=some (.string ((rd_T51 t245 (ji66)).f0))∧w'.cell? ⟨(ad248.add (((ji66)).toNat*2)).block,(ad248.add (((ji66)).toNat*2)).off+1,none⟩=some (.int .i64 ((rd_T51 t245 (ji66)).f1))) (ds:=[]) (bm_ 0 17) jA rfl rfl ⟨(zz BK249.out 0).trans rfl,(zz BK249.out 1).trans rfl,hx251_0,hx251_1⟩ (fun hHeld=>?_);refine with_tabW F1.tab15 F1.bits15 (fun HT_ HW_=>?_);generalize w81.drew=w82 at HO_6 HO_67 BK229 BK249 HB hx251_0 hx251_1 hHeld ⊢;refine take_ (i:=0) (N:=some 74) (v:=?_) (a':=?_) (bm_ 1 17) rfl rfl (yo HT_.out HW_.out jA) (fun _ _ _ h=>h) (Or.inl ⟨by rfl,?_⟩) hHeld ?_ ?_;rotate_left
              ·
               rintro w' ⟨s0,s1,s2,s3⟩
               go_simp
               with_reducible rfl
              rotate_left
              exact jc
              refine one_ (i:=1) (N:=some 75) (bm_ 2 17) rfl rfl (one_of HT_.out jA) jB (fun K hK=>?_);refine goes_ Try.func44 jA rfl #[.agg #[.string ((rd_T51 t245 x69_3).f0),.int .i64 ((rd_T51 t245 x69_3).f1)]] (by rfl) rfl rfl jG ?_
              with_reducible refine (F0f.calls  ((rd_T51 t245 x69_3).f0) ((rd_T51 t245 x69_3).f1) true _ A63.out).mono ?_
              rintro e w83 ⟨rfl,hb⟩;have HS2_:=(hb.cell (zl _ _ (hHeld.2.2.1))).trans (hHeld.2.2.1);have HS3_:=(hb.cell (zl _ _ (hHeld.2.2.2))).trans (hHeld.2.2.2);refine ⟨_,rfl,?_⟩;replace HO_6:=zh (yg jZ hb);replace HO_67:=zh (yg jd hb);replace BK229:=zh (cD BK229.out jK hb);replace BK249:=zh (cD BK249.out jAA hb);replace HB:=zh (zC jQ hb);(try clear hb);(try clear hb2);(try clear hk);(try clear hi);refine hK.out _ _ ⟨(zz BK249.out 0).trans rfl,(zz BK249.out 1).trans rfl,HS2_,HS3_⟩ (fun hHeld=>?_);clear hK K;refine norm_ (a':=?_) ?_ ?_;rotate_left
              ·
               show Act.put _ (some 75) _=_
               simp only [Act.put,zi,zj,zk,zG,zH]
               rfl
              refine pure_ (i:=2) (N:=some 76) (v:=?_) (a':=?_) (bm_ 3 17) rfl rfl (any_of HT_.out jA) (fun _ _ _ h=>h) (Or.inl ⟨by rfl,?_⟩) ?_ ?_;rotate_left;exact jb;rotate_left;exact jc
              refine pure_ (i:=3) (N:=some 77) (v:=?_) (a':=?_) (bm_ 4 17) rfl rfl (any_of HT_.out jA) (fun _ _ _ h=>h) (Or.inl ⟨by rfl,?_⟩) ?_ ?_;rotate_left;exact jb;rotate_left;exact jc
              refine pure_ (i:=4) (N:=some 78) (v:=?_) (a':=?_) (bm_ 5 17) rfl rfl (any_of HT_.out jA) (fun _ _ _ h=>h) (Or.inl ⟨by rfl,?_⟩) ?_ ?_;rotate_left;exact jb;rotate_left;exact jc
              refine pure_ (i:=5) (N:=some 79) (v:=?_) (a':=?_) (bm_ 6 17) rfl rfl (any_of HT_.out jA) (fun _ _ _ h=>h) (Or.inl ⟨by rfl,?_⟩) ?_ ?_;rotate_left;exact jb;rotate_left;exact jc
              refine pure_ (i:=6) (N:=some 80) (v:=?_) (a':=?_) (bm_ 7 17) rfl rfl (any_of HT_.out jA) (fun _ _ _ h=>h) (Or.inl ⟨by rfl,?_⟩) ?_ ?_;rotate_left;exact jb;rotate_left;exact jc
              refine pure_ (i:=7) (N:=some 81) (v:=?_) (a':=?_) (bm_ 8 17) rfl rfl (any_of HT_.out jA) (fun _ _ _ h=>h) (Or.inl ⟨by rfl,?_⟩) ?_ ?_;rotate_left;exact jb;rotate_left;exact jc
              refine pure_ (i:=8) (N:=some 82) (v:=?_) (a':=?_) (bm_ 9 17) rfl rfl (any_of HT_.out jA) (fun _ _ _ h=>h) (Or.inl ⟨by rfl,?_⟩) ?_ ?_;rotate_left;exact jb;rotate_left;exact jc
              refine pure_ (i:=9) (N:=some 83) (v:=?_) (a':=?_) (bm_ 10 17) rfl rfl (any_of HT_.out jA) (fun _ _ _ h=>h) (Or.inl ⟨by rfl,?_⟩) ?_ ?_;rotate_left;exact jb;rotate_left;exact jc
              refine pure_ (i:=10) (N:=some 84) (v:=?_) (a':=?_) (bm_ 11 17) rfl rfl (any_of HT_.out jA) (fun _ _ _ h=>h) (Or.inl ⟨by rfl,?_⟩) ?_ ?_;rotate_left;exact jb;rotate_left;exact jc
              refine take_ (i:=11) (N:=some 85) (v:=?_) (a':=?_) (bm_ 12 17) rfl rfl (yo HT_.out HW_.out jA) (fun _ _ _ h=>h) (Or.inl ⟨by rfl,?_⟩) hHeld ?_ ?_;rotate_left
              ·
               rintro w' ⟨s0,s1,s2,s3⟩
               go_simp
               with_reducible rfl
              rotate_left
              exact jc
              refine take_ (i:=12) (N:=some 86) (v:=?_) (a':=?_) (bm_ 13 17) rfl rfl (yo HT_.out HW_.out jA) (fun _ _ _ h=>h) (Or.inl ⟨by rfl,?_⟩) hHeld ?_ ?_;rotate_left
              ·
               rintro w' ⟨s0,s1,s2,s3⟩
               go_simp
               with_reducible rfl
              rotate_left
              exact jc
              refine one_ (i:=13) (N:=some 87) (bm_ 14 17) rfl rfl (one_of HT_.out jA) jB (fun K hK=>?_);refine goes_ Try.func58 jA rfl #[.agg #[.string ((rd_T51 t245 (ji66)).f0),.int .i64 ((rd_T51 t245 (ji66)).f1)],.agg #[.string ((rd_T51 t245 x69_3).f0),.int .i64 ((rd_T51 t245 x69_3).f1)]] (by rfl) rfl rfl jBi ?_
              with_reducible refine (Fi.calls k3  ((rd_T51 t245 (ji66)).f0) ((rd_T51 t245 (ji66)).f1) ((rd_T51 t245 x69_3).f0) ((rd_T51 t245 x69_3).f1) t252 _ A69.out).mono ?_
              rintro e w84 ⟨rfl,hb⟩;have HS2_:=(hb.cell (zl _ _ (hHeld.2.2.1))).trans (hHeld.2.2.1);have HS3_:=(hb.cell (zl _ _ (hHeld.2.2.2))).trans (hHeld.2.2.2);refine ⟨_,rfl,?_⟩;replace HO_6:=zh (yg jZ hb);replace HO_67:=zh (yg jd hb);replace BK229:=zh (cD BK229.out jK hb);replace BK249:=zh (cD BK249.out jAA hb);replace HB:=zh (zC jQ hb);(try clear hb);(try clear hb2);(try clear hk);(try clear hi);refine hK.out _ _ ⟨(zz BK249.out 0).trans rfl,(zz BK249.out 1).trans rfl,HS2_,HS3_⟩ (fun hHeld=>?_);clear hK K;refine norm_ (a':=?_) ?_ ?_;rotate_left
              ·
               show Act.put _ (some 87) _=_
               simp only [Act.put,zi,zj,zk,zG,zH]
               rfl
              refine pure_ (i:=14) (N:=some 88) (v:=?_) (a':=?_) (bm_ 15 17) rfl rfl (any_of HT_.out jA) (fun _ _ _ h=>h) (Or.inl ⟨by rfl,?_⟩) ?_ ?_;rotate_left;exact jb;rotate_left;exact jc
              refine pure_ (i:=15) (N:=some 89) (v:=?_) (a':=?_) (bm_ 16 17) rfl rfl (any_of HT_.out jA) (fun _ _ _ h=>h) (Or.inl ⟨by rfl,?_⟩) ?_ ?_;rotate_left;exact jb;rotate_left;exact jc
              refine pure_ (i:=16) (N:=some 90) (v:=?_) (a':=?_) (bm_ 17 17) rfl rfl (any_of HT_.out jA) (fun _ _ _ h=>h) (Or.inl ⟨by rfl,?_⟩) ?_ ?_;rotate_left;exact jb;rotate_left;exact jc
              refine done_ (done_of HT_.out jA) ?_
              try go_wp2
              go_roundg k3
              case measure=>have:=HJ1.out;have:=HK2.out;have:=HK3.out;omega
              case rel=>exact ⟨(wrap64 (x69_3+1)),jE,H',⟨by have:=HJ1.out;have:=HK2.out;have:=HK3.out;omega⟩,⟨jBk⟩,⟨jBl⟩,⟨jK⟩,⟨jQ⟩⟩
             rw [if_neg c68] at H;exact absurd H (by simp)
            rw [if_neg c67] at H;exact absurd H (by simp)
           rw [if_neg c65] at H;have c65b0 : decide (0<x69_3)=false:=decide_eq_false c65;clear c65;have H':=zh H;clear H;have p248 : 0≤(x69_3 : Int):=zy jC;have q248 : x69_3<(t245.length : Int):=zy jC;obtain ⟨ad248,e248,hx248_0,hx248_1⟩:=at_T51 (yh HO_67.out).2.2 x69_3 p248 q248
           cases e248
           replace p248:=eq_true p248;replace q248:=eq_true q248
           try go_wp2_with (first|((with_reducible refine zK (N:=8) rfl ?_);(try (refine yy (by rfl) ?_;dsimp only));refine zI ?hg (N:=8) ?hd (cs:=#[.string (⟨#[]⟩ : ByteArray),.int .i64 0]) (t:=51) ?hr ?_;(case hd=>rfl);(case hg=>rfl);(case hr=>go_simp <;> rfl);intro gb249 hg w85 hbox hb;replace HO_6:=zh (yg (Kd.R_elderB jZ gb249 (Nat.le_of_eq hg.symm)) hb);replace HO_67:=zh (yg (Kd.R_elderB jd gb249 (Nat.le_of_eq hg.symm)) hb);have BK249:=zh (hbox);have hH_:=cH jN hb hg;have GW249:=zh hH_.1;have GE249:=GW249;replace HB:=zh hH_.2;have NB229_249:=zh ((jAg : gb229≠gb249));have NB249_229:=zh NB229_249.out.symm;replace BK229:=zh (cD BK229.out jK hb);clear hb hbox hg hH_;have hnb86:=NB249_229.out;have hnc86:=NB229_249.out;obtain ⟨hcz87_0,hcz87_1,hfz87_0,hfz87_1⟩:=cB2 BK249.out))
           have n0_ : Aside0 (Kd.R k51 51 ((w85.setCell ⟨gb249,0,none⟩ (.string ((rd_T51 t245 x69_3).f0))).setCell ⟨gb249,1,none⟩ (.int .i64 ((rd_T51 t245 x69_3).f1))) w.heap.size (fun k_=>k_≠gb249) (.slice (some ad248) t245.length co59) t245):=⟨jAh⟩;have n1_ : Aside0 (Kd.R k51 51 ((w85.setCell ⟨gb249,0,none⟩ (.string ((rd_T51 t245 x69_3).f0))).setCell ⟨gb249,1,none⟩ (.int .i64 ((rd_T51 t245 x69_3).f1))) w.heap.size (fun k_=>k_≠gb249) (.slice (some ad248) t245.length co59) t245):=⟨jAi⟩;have n2_ : Aside0 (((w85.setCell ⟨gb249,0,none⟩ (.string ((rd_T51 t245 x69_3).f0))).setCell ⟨gb249,1,none⟩ (.int .i64 ((rd_T51 t245 x69_3).f1))).heap[gb229]? = some (.cells #[.slice A0_0 l0_0.length c0_0,.int .i64 a0_1] 35 (0,0))):=⟨jAk⟩;have n3_ : Aside0 (((w85.setCell ⟨gb249,0,none⟩ (.string ((rd_T51 t245 x69_3).f0))).setCell ⟨gb249,1,none⟩ (.int .i64 ((rd_T51 t245 x69_3).f1))).heap[gb249]? = some (.cells #[.string ((rd_T51 t245 x69_3).f0),.int .i64 ((rd_T51 t245 x69_3).f1)] 51 (0,0))):=⟨jAl⟩;have n4_ : Aside0 (Below w.heap.size w ((w85.setCell ⟨gb249,0,none⟩ (.string ((rd_T51 t245 x69_3).f0))).setCell ⟨gb249,1,none⟩ (.int .i64 ((rd_T51 t245 x69_3).f1)))):=⟨jQ⟩;(try clear HO_6);(try clear HO_67);(try clear BK229);(try clear BK249);(try clear HB);generalize ((w85.setCell ⟨gb249,0,none⟩ (.string ((rd_T51 t245 x69_3).f0))).setCell ⟨gb249,1,none⟩ (.int .i64 ((rd_T51 t245 x69_3).f1)))=w88 at n0_ n1_ n2_ n3_ n4_ ⊢;have HO_6:=n0_;have HO_67:=n1_;have BK229:=n2_;have BK249:=n3_;have HB:=n4_;clear n0_ n1_ n2_ n3_ n4_;replace HO_6:=zh (zo HO_6.out);replace HO_67:=zh (zo HO_67.out);replace BK229:=zh (zf BK229.out);replace BK249:=zh (zf BK249.out);replace HB:=zh (zc HB.out);refine start_ (n:=17) (S:=fun w' => w'.cell? ⟨gb249,0,none⟩=some (.string ((rd_T51 t245 x69_3).f0))∧w'.cell? ⟨gb249,1,none⟩=some (.int .i64 ((rd_T51 t245 x69_3).f1))) (ds:=[]) (bm_ 0 17) jA rfl rfl ⟨(zz BK249.out 0).trans rfl,(zz BK249.out 1).trans rfl⟩ (fun hHeld=>?_);refine with_tabW F1.tab15 F1.bits15 (fun HT_ HW_=>?_);generalize w88.drew=w89 at HO_6 HO_67 BK229 BK249 HB hHeld ⊢;refine take_ (i:=0) (N:=some 74) (v:=?_) (a':=?_) (bm_ 1 17) rfl rfl (yo HT_.out HW_.out jA) (fun _ _ _ h=>h) (Or.inl ⟨by rfl,?_⟩) hHeld ?_ ?_;rotate_left
           ·
            rintro w' ⟨s0,s1⟩
            go_simp
            with_reducible rfl
           rotate_left
           exact jc
           refine one_ (i:=1) (N:=some 75) (bm_ 2 17) rfl rfl (one_of HT_.out jA) jB (fun K hK=>?_);refine goes_ Try.func44 jA rfl #[.agg #[.string ((rd_T51 t245 x69_3).f0),.int .i64 ((rd_T51 t245 x69_3).f1)]] (by rfl) rfl rfl jG ?_
           with_reducible refine (F0f.calls  ((rd_T51 t245 x69_3).f0) ((rd_T51 t245 x69_3).f1) true _ A63.out).mono ?_
           rintro e w90 ⟨rfl,hb⟩;refine ⟨_,rfl,?_⟩;replace HO_6:=zh (yg jZ hb);replace HO_67:=zh (yg jd hb);replace BK229:=zh (cD BK229.out jK hb);replace BK249:=zh (cD BK249.out jAA hb);replace HB:=zh (zC jQ hb);(try clear hb);(try clear hb2);(try clear hk);(try clear hi);refine hK.out _ _ ⟨(zz BK249.out 0).trans rfl,(zz BK249.out 1).trans rfl⟩ (fun hHeld=>?_);clear hK K;refine norm_ (a':=?_) ?_ ?_;rotate_left
           ·
            show Act.put _ (some 75) _=_
            simp only [Act.put,zi,zj,zk,zG,zH]
            rfl
           refine pure_ (i:=2) (N:=some 76) (v:=?_) (a':=?_) (bm_ 3 17) rfl rfl (any_of HT_.out jA) (fun _ _ _ h=>h) (Or.inl ⟨by rfl,?_⟩) ?_ ?_;rotate_left;exact jb;rotate_left;exact jc
           refine pure_ (i:=3) (N:=some 77) (v:=?_) (a':=?_) (bm_ 4 17) rfl rfl (any_of HT_.out jA) (fun _ _ _ h=>h) (Or.inl ⟨by rfl,?_⟩) ?_ ?_;rotate_left;exact jb;rotate_left;exact jc
           refine pure_ (i:=4) (N:=some 78) (v:=?_) (a':=?_) (bm_ 5 17) rfl rfl (any_of HT_.out jA) (fun _ _ _ h=>h) (Or.inl ⟨by rfl,?_⟩) ?_ ?_;rotate_left;exact jb;rotate_left;exact jc
           refine pure_ (i:=5) (N:=some 79) (v:=?_) (a':=?_) (bm_ 6 17) rfl rfl (any_of HT_.out jA) (fun _ _ _ h=>h) (Or.inl ⟨by rfl,?_⟩) ?_ ?_;rotate_left;exact jb;rotate_left;exact jc
           refine pure_ (i:=6) (N:=some 80) (v:=?_) (a':=?_) (bm_ 7 17) rfl rfl (any_of HT_.out jA) (fun _ _ _ h=>h) (Or.inl ⟨by rfl,?_⟩) ?_ ?_;rotate_left;exact jb;rotate_left;exact jc
           refine pure_ (i:=7) (N:=some 81) (v:=undef) (a':=?_) (bm_ 8 17) rfl rfl (any_of HT_.out jA) (fun _ _ _ h=>h) (Or.inr ⟨by rfl,rfl⟩) ?_ ?_;rotate_left
           exact jc
           refine pure_ (i:=8) (N:=some 82) (v:=undef) (a':=?_) (bm_ 9 17) rfl rfl (any_of HT_.out jA) (fun _ _ _ h=>h) (Or.inr ⟨by rfl,rfl⟩) ?_ ?_;rotate_left
           exact jc
           refine pure_ (i:=9) (N:=some 83) (v:=undef) (a':=?_) (bm_ 10 17) rfl rfl (any_of HT_.out jA) (fun _ _ _ h=>h) (Or.inr ⟨by rfl,rfl⟩) ?_ ?_;rotate_left
           exact jc
           refine pure_ (i:=10) (N:=some 84) (v:=undef) (a':=?_) (bm_ 11 17) rfl rfl (any_of HT_.out jA) (fun _ _ _ h=>h) (Or.inr ⟨by rfl,rfl⟩) ?_ ?_;rotate_left
           exact jc
           refine pure_ (i:=11) (N:=some 85) (v:=undef) (a':=?_) (bm_ 12 17) rfl rfl (any_of HT_.out jA) (fun _ _ _ h=>h) (Or.inr ⟨by rfl,rfl⟩) ?_ ?_;rotate_left
           exact jc
           refine pure_ (i:=12) (N:=some 86) (v:=undef) (a':=?_) (bm_ 13 17) rfl rfl (any_of HT_.out jA) (fun _ _ _ h=>h) (Or.inr ⟨by rfl,rfl⟩) ?_ ?_;rotate_left
           exact jc
           refine pure_ (i:=13) (N:=some 87) (v:=undef) (a':=?_) (bm_ 14 17) rfl rfl (any_of HT_.out jA) (fun _ _ _ h=>h) (Or.inr ⟨by rfl,rfl⟩) ?_ ?_;rotate_left
           exact jc
           refine pure_ (i:=14) (N:=some 88) (v:=undef) (a':=?_) (bm_ 15 17) rfl rfl (any_of HT_.out jA) (fun _ _ _ h=>h) (Or.inr ⟨by rfl,rfl⟩) ?_ ?_;rotate_left
           exact jc
           refine pure_ (i:=15) (N:=some 89) (v:=?_) (a':=?_) (bm_ 16 17) rfl rfl (any_of HT_.out jA) (fun _ _ _ h=>h) (Or.inl ⟨by rfl,?_⟩) ?_ ?_;rotate_left;exact jb;rotate_left;exact jc
           refine pure_ (i:=16) (N:=some 90) (v:=?_) (a':=?_) (bm_ 17 17) rfl rfl (any_of HT_.out jA) (fun _ _ _ h=>h) (Or.inl ⟨by rfl,?_⟩) ?_ ?_;rotate_left;exact jb;rotate_left;exact jc
           refine done_ (done_of HT_.out jA) ?_
           try go_wp2
           go_roundg k3
           case measure=>have:=HJ1.out;have:=HK2.out;have:=HK3.out;omega
           case rel=>exact ⟨(wrap64 (x69_3+1)),jE,H',⟨by have:=HJ1.out;have:=HK2.out;have:=HK3.out;omega⟩,⟨jBk⟩,⟨jBl⟩,⟨jK⟩,⟨jQ⟩⟩
          replace c64:=yb.mpr c64;subst c64;rw [if_neg (show ¬ (false=true) by decide)] at H;obtain rfl:=zU H;have p248 : 0≤(x69_3 : Int):=zy jC;have q248 : x69_3<(t245.length : Int):=zy jC;obtain ⟨ad248,e248,hx248_0,hx248_1⟩:=at_T51 (yh HO_67.out).2.2 x69_3 p248 q248
          cases e248
          replace p248:=eq_true p248;replace q248:=eq_true q248
          try go_wp2_with (first|((with_reducible refine zK (N:=8) rfl ?_);(try (refine yy (by rfl) ?_;dsimp only));refine zI ?hg (N:=8) ?hd (cs:=#[.string (⟨#[]⟩ : ByteArray),.int .i64 0]) (t:=51) ?hr ?_;(case hd=>rfl);(case hg=>rfl);(case hr=>go_simp <;> rfl);intro gb249 hg w91 hbox hb;replace HO_6:=zh (yg (Kd.R_elderB jZ gb249 (Nat.le_of_eq hg.symm)) hb);replace HO_67:=zh (yg (Kd.R_elderB jd gb249 (Nat.le_of_eq hg.symm)) hb);have BK249:=zh (hbox);have hH_:=cH jN hb hg;have GW249:=zh hH_.1;have GE249:=GW249;replace HB:=zh hH_.2;have NB229_249:=zh ((jAg : gb229≠gb249));have NB249_229:=zh NB229_249.out.symm;replace BK229:=zh (cD BK229.out jK hb);clear hb hbox hg hH_;have hnb92:=NB249_229.out;have hnc92:=NB229_249.out;obtain ⟨hcz93_0,hcz93_1,hfz93_0,hfz93_1⟩:=cB2 BK249.out))
          have n0_ : Aside0 (Kd.R k51 51 ((w91.setCell ⟨gb249,0,none⟩ (.string ((rd_T51 t245 x69_3).f0))).setCell ⟨gb249,1,none⟩ (.int .i64 ((rd_T51 t245 x69_3).f1))) w.heap.size (fun k_=>k_≠gb249) (.slice (some ad248) t245.length co59) t245):=⟨jAh⟩;have n1_ : Aside0 (Kd.R k51 51 ((w91.setCell ⟨gb249,0,none⟩ (.string ((rd_T51 t245 x69_3).f0))).setCell ⟨gb249,1,none⟩ (.int .i64 ((rd_T51 t245 x69_3).f1))) w.heap.size (fun k_=>k_≠gb249) (.slice (some ad248) t245.length co59) t245):=⟨jAi⟩;have n2_ : Aside0 (((w91.setCell ⟨gb249,0,none⟩ (.string ((rd_T51 t245 x69_3).f0))).setCell ⟨gb249,1,none⟩ (.int .i64 ((rd_T51 t245 x69_3).f1))).heap[gb229]? = some (.cells #[.slice A0_0 l0_0.length c0_0,.int .i64 a0_1] 35 (0,0))):=⟨jAk⟩;have n3_ : Aside0 (((w91.setCell ⟨gb249,0,none⟩ (.string ((rd_T51 t245 x69_3).f0))).setCell ⟨gb249,1,none⟩ (.int .i64 ((rd_T51 t245 x69_3).f1))).heap[gb249]? = some (.cells #[.string ((rd_T51 t245 x69_3).f0),.int .i64 ((rd_T51 t245 x69_3).f1)] 51 (0,0))):=⟨jAl⟩;have n4_ : Aside0 (Below w.heap.size w ((w91.setCell ⟨gb249,0,none⟩ (.string ((rd_T51 t245 x69_3).f0))).setCell ⟨gb249,1,none⟩ (.int .i64 ((rd_T51 t245 x69_3).f1)))):=⟨jQ⟩;(try clear HO_6);(try clear HO_67);(try clear BK229);(try clear BK249);(try clear HB);generalize ((w91.setCell ⟨gb249,0,none⟩ (.string ((rd_T51 t245 x69_3).f0))).setCell ⟨gb249,1,none⟩ (.int .i64 ((rd_T51 t245 x69_3).f1)))=w94 at n0_ n1_ n2_ n3_ n4_ ⊢;have HO_6:=n0_;have HO_67:=n1_;have BK229:=n2_;have BK249:=n3_;have HB:=n4_;clear n0_ n1_ n2_ n3_ n4_;replace HO_6:=zh (zo HO_6.out);replace HO_67:=zh (zo HO_67.out);replace BK229:=zh (zf BK229.out);replace BK249:=zh (zf BK249.out);replace HB:=zh (zc HB.out);refine start_ (n:=17) (S:=fun w' => w'.cell? ⟨gb249,0,none⟩=some (.string ((rd_T51 t245 x69_3).f0))∧w'.cell? ⟨gb249,1,none⟩=some (.int .i64 ((rd_T51 t245 x69_3).f1))) (ds:=[]) (bm_ 0 17) jA rfl rfl ⟨(zz BK249.out 0).trans rfl,(zz BK249.out 1).trans rfl⟩ (fun hHeld=>?_);refine with_tabW F1.tab15 F1.bits15 (fun HT_ HW_=>?_);generalize w94.drew=w95 at HO_6 HO_67 BK229 BK249 HB hHeld ⊢;refine take_ (i:=0) (N:=some 74) (v:=?_) (a':=?_) (bm_ 1 17) rfl rfl (yo HT_.out HW_.out jA) (fun _ _ _ h=>h) (Or.inl ⟨by rfl,?_⟩) hHeld ?_ ?_;rotate_left
          ·
           rintro w' ⟨s0,s1⟩
           go_simp
           with_reducible rfl
          rotate_left
          exact jc
          refine one_ (i:=1) (N:=some 75) (bm_ 2 17) rfl rfl (one_of HT_.out jA) jB (fun K hK=>?_);refine goes_ Try.func44 jA rfl #[.agg #[.string ((rd_T51 t245 x69_3).f0),.int .i64 ((rd_T51 t245 x69_3).f1)]] (by rfl) rfl rfl jG ?_
          with_reducible refine (F0f.calls  ((rd_T51 t245 x69_3).f0) ((rd_T51 t245 x69_3).f1) false _ A63.out).mono ?_
          rintro e w96 ⟨rfl,hb⟩;refine ⟨_,rfl,?_⟩;replace HO_6:=zh (yg jZ hb);replace HO_67:=zh (yg jd hb);replace BK229:=zh (cD BK229.out jK hb);replace BK249:=zh (cD BK249.out jAA hb);replace HB:=zh (zC jQ hb);(try clear hb);(try clear hb2);(try clear hk);(try clear hi);refine hK.out _ _ ⟨(zz BK249.out 0).trans rfl,(zz BK249.out 1).trans rfl⟩ (fun hHeld=>?_);clear hK K;refine norm_ (a':=?_) ?_ ?_;rotate_left
          ·
           show Act.put _ (some 75) _=_
           simp only [Act.put,zi,zj,zk,zG,zH]
           rfl
          refine pure_ (i:=2) (N:=some 76) (v:=?_) (a':=?_) (bm_ 3 17) rfl rfl (any_of HT_.out jA) (fun _ _ _ h=>h) (Or.inl ⟨by rfl,?_⟩) ?_ ?_;rotate_left;exact jb;rotate_left;exact jc
          refine pure_ (i:=3) (N:=some 77) (v:=?_) (a':=?_) (bm_ 4 17) rfl rfl (any_of HT_.out jA) (fun _ _ _ h=>h) (Or.inl ⟨by rfl,?_⟩) ?_ ?_;rotate_left;exact jb;rotate_left;exact jc
          refine pure_ (i:=4) (N:=some 78) (v:=undef) (a':=?_) (bm_ 5 17) rfl rfl (any_of HT_.out jA) (fun _ _ _ h=>h) (Or.inr ⟨by rfl,rfl⟩) ?_ ?_;rotate_left
          exact jc
          refine pure_ (i:=5) (N:=some 79) (v:=undef) (a':=?_) (bm_ 6 17) rfl rfl (any_of HT_.out jA) (fun _ _ _ h=>h) (Or.inr ⟨by rfl,rfl⟩) ?_ ?_;rotate_left
          exact jc
          refine pure_ (i:=6) (N:=some 80) (v:=undef) (a':=?_) (bm_ 7 17) rfl rfl (any_of HT_.out jA) (fun _ _ _ h=>h) (Or.inr ⟨by rfl,rfl⟩) ?_ ?_;rotate_left
          exact jc
          refine pure_ (i:=7) (N:=some 81) (v:=undef) (a':=?_) (bm_ 8 17) rfl rfl (any_of HT_.out jA) (fun _ _ _ h=>h) (Or.inr ⟨by rfl,rfl⟩) ?_ ?_;rotate_left
          exact jc
          refine pure_ (i:=8) (N:=some 82) (v:=undef) (a':=?_) (bm_ 9 17) rfl rfl (any_of HT_.out jA) (fun _ _ _ h=>h) (Or.inr ⟨by rfl,rfl⟩) ?_ ?_;rotate_left
          exact jc
          refine pure_ (i:=9) (N:=some 83) (v:=undef) (a':=?_) (bm_ 10 17) rfl rfl (any_of HT_.out jA) (fun _ _ _ h=>h) (Or.inr ⟨by rfl,rfl⟩) ?_ ?_;rotate_left
          exact jc
          refine pure_ (i:=10) (N:=some 84) (v:=undef) (a':=?_) (bm_ 11 17) rfl rfl (any_of HT_.out jA) (fun _ _ _ h=>h) (Or.inr ⟨by rfl,rfl⟩) ?_ ?_;rotate_left
          exact jc
          refine pure_ (i:=11) (N:=some 85) (v:=undef) (a':=?_) (bm_ 12 17) rfl rfl (any_of HT_.out jA) (fun _ _ _ h=>h) (Or.inr ⟨by rfl,rfl⟩) ?_ ?_;rotate_left
          exact jc
          refine pure_ (i:=12) (N:=some 86) (v:=undef) (a':=?_) (bm_ 13 17) rfl rfl (any_of HT_.out jA) (fun _ _ _ h=>h) (Or.inr ⟨by rfl,rfl⟩) ?_ ?_;rotate_left
          exact jc
          refine pure_ (i:=13) (N:=some 87) (v:=undef) (a':=?_) (bm_ 14 17) rfl rfl (any_of HT_.out jA) (fun _ _ _ h=>h) (Or.inr ⟨by rfl,rfl⟩) ?_ ?_;rotate_left
          exact jc
          refine pure_ (i:=14) (N:=some 88) (v:=undef) (a':=?_) (bm_ 15 17) rfl rfl (any_of HT_.out jA) (fun _ _ _ h=>h) (Or.inr ⟨by rfl,rfl⟩) ?_ ?_;rotate_left
          exact jc
          refine pure_ (i:=15) (N:=some 89) (v:=undef) (a':=?_) (bm_ 16 17) rfl rfl (any_of HT_.out jA) (fun _ _ _ h=>h) (Or.inr ⟨by rfl,rfl⟩) ?_ ?_;rotate_left
          exact jc
          refine pure_ (i:=16) (N:=some 90) (v:=?_) (a':=?_) (bm_ 17 17) rfl rfl (any_of HT_.out jA) (fun _ _ _ h=>h) (Or.inl ⟨by rfl,?_⟩) ?_ ?_;rotate_left;exact jb;rotate_left;exact jc
          refine done_ (done_of HT_.out jA) ?_
          try go_wp2
          go_ret
          exact ⟨jH,jQ⟩
         rw [if_neg c62] at H;exact absurd H (by simp)
        rw [if_neg c61] at H;exact absurd H (by simp)
       rw [if_neg c60] at H;have c60b0 : decide (x69_3<(t245.length : Int))=false:=decide_eq_false c60;clear c60;obtain rfl:=zU H
       go_wp2
       go_ret
       exact ⟨jH,jN⟩

end Go.Proofs.Ytamikhmpfmgofaa.Q
end
section
namespace Go.Proofs.Ytamikhmpfmgofaa.Q
open Go.RowKit Go.Proofs.YtamikhmpfmgofaaW.PrintWords Go.Proofs.YtamikhmpfmgofaaW.PrintLast Go.Proofs.YtamikhmpfmgofaaW.PrintMore
attribute [local go_sem] max2_int min2_int max_two min_two max_three min_three max_four min_four max2_str min2_str str_geq str_gtr str_leq
set_option linter.unusedVariables false
set_option linter.unusedSimpArgs false

def F09.f (l0 : List S51) : Option (List S51):=if l0.length*24≤140737488355328 then (some l0) else (none)
theorem F09.R_empty (base : Nat) (W : World) (hb : base≤W.heap.size) : Kd.R k51 51 (W.alloc (.cells #[] 51)) base (fun _=>True) (.slice (some ⟨W.heap.size,0,none⟩) 0 0) [] :=
 ⟨fun _ _=>trivial,[],⟨by simp,.inr ⟨W.heap.size,0,#[],rfl,hb,blk_new W _,ye _,by unfold maxLen;omega,by simp,by simp⟩⟩,Reps.none _ _⟩
theorem F09.R_nil (base : Nat) (W : World) : Kd.R k51 51 W base (fun _=>True) (.slice none 0 0) [] :=
 ⟨fun _ _=>trivial,[],⟨by simp,.inl ⟨rfl,rfl⟩⟩,Reps.none _ _⟩
theorem F09.run_nil {P : Program} (t e : TypeId) (ht : P.underlying t=some (.slice e)) (A : Option Addr) (n c : Nat) (w : World) : (binOp .eql t (.slice A n c) (.slice none 0 0)).run P w = .ok (.bool A.isNone) w:=by
 have h : ∀ d,(Op.equalIn (d+1) t (.slice A n c) (.slice none 0 0)).run P w = .ok A.isNone w:=fun d=>by
  unfold Op.equalIn;rw [Sem.run_bind,run_underlying ht];cases A <;> rfl
 have h2 : (Op.equal t (.slice A n c) (.slice none 0 0)).run P w = .ok A.isNone w:=h 9999;simp [binOp,h2]
set_option maxHeartbeats 4000000 in
set_option maxRecDepth 100000 in
theorem F09.calls (A0 : Option Addr) (c0 : Nat) (l0 : List S51) (r : List S51) (w : World) (hr0 : Kd.C k51 w A0 l0.length l0) (hc0 : l0.length≤c0) (h : F09.f l0=some r) :
  Calls Try.prog 61 #[.slice A0 l0.length c0] w fun e w' => ∃ v0_ : Value,e = .returned (v0_)∧Kd.R k51 51 w' w.heap.size (fun _=>True) v0_ r∧Below w.heap.size w w':=by
 unfold F09.f at h
 by_cases hl : l0.length*24≤140737488355328
 case neg=>rw [if_neg hl] at h;cases h
 rw [if_pos hl] at h;obtain rfl:=zU h;have hnil:=fun A n c w=>F09.run_nil (P:=Try.prog) 29 51 Try.underlying29 A n c w
 cases A0 with
 | none =>
  have h0 : l0=[]:=by
   rcases Nat.eq_zero_or_pos l0.length with h0|h0
   ·
    exact List.eq_nil_of_length_eq_zero h0
   obtain ⟨ad,h9,_⟩:=hr0.2.2 h0
   cases h9
  subst h0
  go_enter Try.func61,Try.ntmps61
  go_wp2_with fail
  go_ret
  exact ⟨_,rfl,F09.R_nil _ _,Below.refl _ _⟩
 | some ad =>
  have hC:=Kd.C_alloc hr0 (.cells #[] 51);have hO:=F09.R_empty w.heap.size w (ye _);have hB:=za (Below.refl w.heap.size w) (.cells #[] 51)
  go_enter Try.func61,Try.ntmps61
  go_wp2_with (at_builtin;refine Kd.R_append_rows k51 w.heap.size (by rfl) (.tmp 5) (.tmp 6) 29 51 (.agg #[(.string ⟨#[]⟩),(.int .i64 0)]) 24 rfl Try.underlying29 info51 rfl jB jB (.slice (some ⟨w.heap.size,0,none⟩) 0 0) [] l0 (some ad) l0.length c0 (fun _=>True) (fun _=>False) rfl rfl hO hC (fun x cs h9=>by rw [k51_open h9];exact k51_mkM _ _ _ _) (fun _ h9=>h9.elim) (fun _ _=>trivial) hB hB.size (by simpa using hl) ?_;intro v1 w1 hR hb hg hat)
  go_ret
  exact ⟨v1,rfl,by simpa using hR,hb⟩


def Fa.l0 : Nat→List (S67)→Int→Int→List (S67)→Int→Option ((List (S67))×Int)
 | 0,_,_,_,_,_=>none
 | k+1,x10,x11,x12,x468000,x468001=>if x12<x11 then (if 0≤x12 then (if x12<(x10.length : Int) then ((F09.f ((rd_T67 x10 x12).f1)).bind fun t470=>(if x468000.length<4398046511104 then (Fa.l0 k x10 x11 (wrap64 (x12+1)) (x468000 ++ [(⟨(rd_T67 x10 x12).f0,t470⟩ : S67)]) x468001) else (none))) else (none)) else (none)) else (some (x468000,x468001))
def Fa.f (k : Nat) (l0_0 : List (S67)) (a0_1 : Int) : Option ((List (S67))×Int):=Fa.l0 k l0_0 (l0_0.length : Int) 0 ([] : List (S67)) a0_1
theorem Fa.mono_l : ∀ k,(∀ y0 y1 y2 y3 y4,LeO (Fa.l0 k y0 y1 y2 y3 y4) (Fa.l0 (k+1) y0 y1 y2 y3 y4))
 | 0=>fun _ _ _ _ _ r h=>by simp [Fa.l0] at h
 | k+1=>by
  have ih0:=Fa.mono_l k;intro y0 y1 y2 y3 y4;unfold Fa.l0
  repeat' first|(with_reducible first|exact ih0 _ _ _ _ _|exact zQ _|exact zN _|refine zP ?_ ?_|refine zO ?_ (fun _=>?_))|refine zP ?_ ?_|refine zO ?_ (fun _=>?_)
theorem Fa.mono : ∀ a0 a1 k,LeO (Fa.f k a0 a1) (Fa.f (k+1) a0 a1):=by
 intro a0 a1 k;have ih0:=Fa.mono_l k;unfold Fa.f
 repeat' first|(with_reducible first|exact ih0 _ _ _ _ _|exact zQ _|exact zN _|refine zP ?_ ?_|refine zO ?_ (fun _=>?_))|refine zP ?_ ?_|refine zO ?_ (fun _=>?_)
def Fa.T5 : Bool×List (List Nat×List Nat):=(true,[([],[]),([0],[0]),([],[]),([2],[2]),([],[]),([4],[4]),([5],[5]),([3,6],[3,6]),([7],[7]),([1,8,6],[1,8]),([0,1,2,3,4,5,6,7,8,9],[]),([10,9,9,0,1,2,3,4,5,6,7,8,9],[9,10])])
def Fa.B5 : List Nat:=[0,1,0,4,0,16,48,124,252,511,1023,2047]
theorem Fa.tab5 : rtab .any (opsOf Try.f45 5)=Fa.T5:=by kernel_rfl
theorem Fa.bits5 : waitsOk Fa.T5.2 Fa.B5=true:=by kernel_rfl
set_option maxHeartbeats 8000000 in
set_option maxRecDepth 100000 in
theorem Fa.calls (k : Nat) (A0_0 : Option Addr) (c0_0 : Nat) (l0_0 : List (S67)) (a0_1 : Int) (r1 : List (S67)) (r2 : Int) (w : World) (hr0_0 : Kd.C k67 w A0_0 l0_0.length l0_0) (hc0_0 : l0_0.length≤c0_0) (h : Fa.f k l0_0 a0_1=some (r1,r2)) :
  Calls Try.prog 45 #[.agg #[.slice A0_0 l0_0.length c0_0,.int .i64 a0_1]] w fun e w' => ∃ v0_ : Value,e = .returned (.agg #[v0_,.int .i64 r2])∧Kd.S k67 67 w' w.heap.size (fun _=>True) v0_ r1∧Below w.heap.size w w':=by
 have hu35:=Try.underlying35;have hu67:=Try.underlying67;have HR0_0:=zh hr0_0;have HC0_0:=zh hc0_0;clear hr0_0 hc0_0;have HB:=zh (Below.refl w.heap.size w);have H : (Fa.l0 k l0_0 (l0_0.length : Int) 0 ([] : List (S67)) a0_1)=some (r1,r2):=h;clear h;have H':=zh H;clear H
 go_enter Try.func45,Try.ntmps45
 go_wp2_with (first|((with_reducible refine zK (N:=1) rfl ?_);refine zI ?hg (N:=1) ?hd (cs:=#[.slice A0_0 l0_0.length c0_0,.int .i64 a0_1]) (t:=35) ?hr ?_;(case hd=>rfl);(case hg=>rfl);(case hr=>go_simp <;> rfl);intro gb465 hg w2 hbox hb;have BK465:=zh (hbox);have hH_:=cH jF hb hg;have GW465:=zh hH_.1;have GE465:=GW465;replace HB:=zh hH_.2;clear hb hbox hg hH_)|((with_reducible refine zK (N:=2) rfl ?_);refine zI ?hg (N:=2) ?hd (cs:=#[.slice none 0 0,.int .i64 0]) (t:=35) ?hr ?_;(case hd=>rfl);(case hg=>rfl);(case hr=>go_simp <;> rfl);intro gb466 hg w3 hbox hb;have BK466:=zh (hbox);have hH_:=cH (by repeat (with_reducible first|exact HB.out|apply za|apply zb|apply zc|refine zd ?_ GE465.out)) hb hg;have GW466:=zh hH_.1;have GE466:=GW466;replace HB:=zh hH_.2;have NB465_466:=zh ((jBm : gb465≠gb466));have NB466_465:=zh NB465_466.out.symm;replace BK465:=zh (cD BK465.out jt hb);clear hb hbox hg hH_;have hnb4:=NB465_466.out;have hnc4:=NB466_465.out;obtain ⟨hcz5_0,hcz5_1,hfz5_0,hfz5_1⟩:=cB2 BK465.out)|((with_reducible refine zK (N:=3) rfl ?_);refine zI ?hg (N:=3) ?hd (cs:=#[.slice none 0 0,.int .i64 0]) (t:=35) ?hr ?_;(case hd=>rfl);(case hg=>rfl);(case hr=>go_simp <;> rfl);intro gb467 hg w6 hbox hb;have BK467:=zh (hbox);have hH_:=cH (by repeat (with_reducible first|exact HB.out|apply za|apply zb|apply zc|refine zd ?_ GE465.out|refine zd ?_ GE466.out)) hb hg;have GW467:=zh hH_.1;have GE467:=GW467;replace HB:=zh hH_.2;have NB465_467:=zh ((jBm : gb465≠gb467));have NB467_465:=zh NB465_467.out.symm;replace BK465:=zh (cD BK465.out jt hb);have NB466_467:=zh ((jBn : gb466≠gb467));have NB467_466:=zh NB466_467.out.symm;replace BK466:=zh (cD BK466.out jAO hb);clear hb hbox hg hH_;have hnb7:=NB467_465.out;have hnc7:=NB465_467.out;have hnb8:=NB467_466.out;have hnc8:=NB466_467.out;obtain ⟨hcz9_0,hcz9_1,hfz9_0,hfz9_1⟩:=cB2 BK467.out;obtain ⟨hcz10_0,hcz10_1,hfz10_0,hfz10_1⟩:=cB2 BK465.out))
 go_loopg [12] k (fun kq v12 w' => ∃ (x12_1 : Int) (x468000_1 : List (S67)) (u468000 : Value),v12 = .int .i64 x12_1∧Aside0 (Fa.l0 kq l0_0 (l0_0.length : Int) x12_1 x468000_1 a0_1=some (r1,r2))∧Aside0 (kq≤k)∧Aside0 (Kd.S k67 67 w' w.heap.size (fun _=>True) u468000 x468000_1)∧Aside0 (w'.heap[gb465]? = some (.cells #[(.slice A0_0 l0_0.length c0_0),.int .i64 a0_1] 35 (0,0)))∧Aside0 (w'.heap[gb466]? = some (.cells #[(.slice none 0 0),.int .i64 0] 35 (0,0)))∧Aside0 (w'.heap[gb467]? = some (.cells #[u468000,.int .i64 a0_1] 35 (0,0)))∧Aside0 (Below w.heap.size w w'))
 case atStart=>exact ⟨(0),(([] : List (S67))),(.slice none 0 0),jE,H',⟨ye _⟩,⟨jBo⟩,⟨by (with_reducible repeat first|apply ze|apply zf|apply zg);refine cS2 ?_ NB465_467.out;(with_reducible repeat first|apply ze|apply zf|apply zg);exact BK465.out⟩,⟨by (with_reducible repeat first|apply ze|apply zf|apply zg);refine cS2 ?_ NB466_467.out;(with_reducible repeat first|apply ze|apply zf|apply zg);exact BK466.out⟩,⟨by (with_reducible repeat first|apply ze|apply zf|apply zg);refine zL (cs:=#[.slice none 0 0,.int .i64 0]) ?_ 1 _ rfl;(with_reducible repeat first|apply ze|apply zf|apply zg);refine zL (cs:=#[.slice none 0 0,.int .i64 0]) ?_ 0 _ rfl;(with_reducible repeat first|apply ze|apply zf|apply zg);exact BK467.out⟩,⟨jBD⟩⟩
 case round =>
  clear H'
  try clear p2
  try clear c4 c7 c8
  try clear hcz10_0 hcz10_1
  try clear hcz5_0 hcz5_1
  try clear hcz9_0 hcz9_1
  try clear hfz10_0 hfz10_1
  try clear hfz5_0 hfz5_1
  try clear hfz9_0 hfz9_1
  obtain ⟨x12_1,x468000_1,u468000,rfl,HA,HK1,HO_468000,BK465,BK466,BK467,HB⟩:=hrel
  cases gk with
  | zero=>exact absurd HA.out (by simp [Fa.l0])
  | succ k1 =>
   have H:=HA.out;clear HA;simp only [Fa.l0] at H
   by_cases c11 : x12_1<(l0_0.length : Int)
   ·
    rw [if_pos c11] at H
    have c11b0 : decide (x12_1<(l0_0.length : Int))=true:=decide_eq_true c11;clear c11
    by_cases c12 : 0≤x12_1
    ·
     rw [if_pos c12] at H
     have c12b0 : decide (0≤x12_1)=true:=decide_eq_true c12;clear c12
     by_cases c13 : x12_1<(l0_0.length : Int)
     ·
      rw [if_pos c13] at H
      have c13b0 : decide (x12_1<(l0_0.length : Int))=true:=decide_eq_true c13;clear c13;replace H:=zT.mp H;obtain ⟨t470,A140,H⟩:=H;have A14:=zh A140;clear A140
      by_cases c15 : x468000_1.length<4398046511104
      ·
       rw [if_pos c15] at H
       have LMc15:=zh c15;clear c15;obtain ⟨y473,hy473⟩ : ∃ y_ : List (S67),y_=(x468000_1 ++ [(⟨(rd_T67 l0_0 x12_1).f0,t470⟩ : S67)]):=⟨_,rfl⟩;replace H : (Fa.l0 k1 l0_0 (l0_0.length : Int) (wrap64 (x12_1+1)) y473 a0_1)=some (r1,r2):=by first|(rw [hy473];with_reducible exact H)|(have H2_:=(Option.bind_some _ _).symm.trans H;rw [hy473];with_reducible exact H2_)|(have H2_:=(Option.bind_some _ _).symm.trans H;with_reducible exact H2_)|with_reducible exact H|(rw [hy473];exact H)|exact H
       have Ny473:=zh hy473;clear hy473;have H':=zh H;clear H;have p468 : 0≤(x12_1 : Int):=zy jC;have q468 : x12_1<(l0_0.length : Int):=zy jC;obtain ⟨ad468,A468_1,c468_1,e468,hx468_0,hx468_1,hl468_1,hi468_1⟩:=at_T67 HR0_0.out x12_1 p468 q468
       cases e468
       replace hx468_0:=(HB.out.cell (zl w _ hx468_0)).trans hx468_0;replace hx468_1:=(HB.out.cell (zl w _ hx468_1)).trans hx468_1;have HR468_1:=zh hi468_1;have HC468_1:=zh hl468_1;clear hi468_1 hl468_1;replace p468:=eq_true p468;replace q468:=eq_true q468
       try go_wp2_with (first|((with_reducible refine zK (N:=5) rfl ?_);refine zI ?hg (N:=5) ?hd (cs:=#[.int .i64 0,.slice none 0 0]) (t:=67) ?hr ?_;(case hd=>rfl);(case hg=>rfl);(case hr=>go_simp <;> rfl);intro gb469 hg w16 hbox hb;replace HO_468000:=zh (Kd.S_below (Kd.S_elderB jBp gb469 (Nat.le_of_eq hg.symm)) hb);have BK469:=zh (hbox);have hH_:=cH jBD hb hg;have GW469:=zh hH_.1;have GE469:=GW469;replace HB:=zh hH_.2;have NB465_469:=zh ((by rw [hg];exact yc (yi (g:=gb465) (o:=.cells #[.slice (some ad468) l0_0.length c0_0,.int .i64 a0_1] 35 (0,0)) jt) : gb465≠gb469));have NB469_465:=zh NB465_469.out.symm;replace BK465:=zh (cD BK465.out jt hb);have NB466_469:=zh ((jBn : gb466≠gb469));have NB469_466:=zh NB466_469.out.symm;replace BK466:=zh (cD BK466.out jAO hb);have NB467_469:=zh ((by rw [hg];exact yc (yi (g:=gb467) (o:=.cells #[u468000,.int .i64 a0_1] 35 (0,0)) jAm) : gb467≠gb469));have NB469_467:=zh NB467_469.out.symm;replace BK467:=zh (cD BK467.out jAm hb);clear hb hbox hg hH_;have hnb17:=NB469_465.out;have hnc17:=NB465_469.out;have hnb18:=NB469_466.out;have hnc18:=NB466_469.out;have hnb19:=NB469_467.out;have hnc19:=NB467_469.out;obtain ⟨hcz20_0,hcz20_1,hfz20_0,hfz20_1⟩:=cB2 BK469.out))
       have n0_ : Aside0 (Kd.S k67 67 ((w16.setCell ⟨gb469,0,none⟩ (.int .i64 ((rd_T67 l0_0 x12_1).f0))).setCell ⟨gb469,1,none⟩ (.slice A468_1 ((rd_T67 l0_0 x12_1).f1).length c468_1)) w.heap.size (fun k_=>k_≠gb469) u468000 x468000_1):=⟨by (with_reducible repeat (first|apply Kd.S_alloc|apply Kd.S_drewN|apply Kd.S_drew));exact Kd.S_mono (Kd.S_far (p:=⟨gb469,1,none⟩) (Kd.S_far (p:=⟨gb469,0,none⟩) (Kd.S_mono HO_468000.out (fun k_ hk=>(⟨hk,hk.2⟩ : _∧k_≠gb469))) (fun _ hk=>hk.2) (.int .i64 ((rd_T67 l0_0 x12_1).f0))) (fun _ hk=>hk.2) (.slice A468_1 ((rd_T67 l0_0 x12_1).f1).length c468_1)) (fun _ hk=>hk.1.2)⟩;have n1_ : Aside0 (((w16.setCell ⟨gb469,0,none⟩ (.int .i64 ((rd_T67 l0_0 x12_1).f0))).setCell ⟨gb469,1,none⟩ (.slice A468_1 ((rd_T67 l0_0 x12_1).f1).length c468_1)).heap[gb465]? = some (.cells #[.slice (some ad468) l0_0.length c0_0,.int .i64 a0_1] 35 (0,0))):=⟨by (with_reducible repeat first|apply ze|apply zf|apply zg);refine cS2 ?_ NB465_469.out;(with_reducible repeat first|apply ze|apply zf|apply zg);exact BK465.out⟩;have n2_ : Aside0 (((w16.setCell ⟨gb469,0,none⟩ (.int .i64 ((rd_T67 l0_0 x12_1).f0))).setCell ⟨gb469,1,none⟩ (.slice A468_1 ((rd_T67 l0_0 x12_1).f1).length c468_1)).heap[gb466]? = some (.cells #[.slice none 0 0,.int .i64 0] 35 (0,0))):=⟨by (with_reducible repeat first|apply ze|apply zf|apply zg);refine cS2 ?_ NB466_469.out;(with_reducible repeat first|apply ze|apply zf|apply zg);exact BK466.out⟩;have n3_ : Aside0 (((w16.setCell ⟨gb469,0,none⟩ (.int .i64 ((rd_T67 l0_0 x12_1).f0))).setCell ⟨gb469,1,none⟩ (.slice A468_1 ((rd_T67 l0_0 x12_1).f1).length c468_1)).heap[gb467]? = some (.cells #[u468000,.int .i64 a0_1] 35 (0,0))):=⟨by (with_reducible repeat first|apply ze|apply zf|apply zg);refine cS2 ?_ NB467_469.out;(with_reducible repeat first|apply ze|apply zf|apply zg);exact BK467.out⟩;have n4_ : Aside0 (((w16.setCell ⟨gb469,0,none⟩ (.int .i64 ((rd_T67 l0_0 x12_1).f0))).setCell ⟨gb469,1,none⟩ (.slice A468_1 ((rd_T67 l0_0 x12_1).f1).length c468_1)).heap[gb469]? = some (.cells #[.int .i64 ((rd_T67 l0_0 x12_1).f0),.slice A468_1 ((rd_T67 l0_0 x12_1).f1).length c468_1] 67 (0,0))):=⟨by (with_reducible repeat first|apply ze|apply zf|apply zg);refine zL (cs:=#[.int .i64 ((rd_T67 l0_0 x12_1).f0),.slice none 0 0]) ?_ 1 _ rfl;(with_reducible repeat first|apply ze|apply zf|apply zg);refine zL (cs:=#[.int .i64 0,.slice none 0 0]) ?_ 0 _ rfl;(with_reducible repeat first|apply ze|apply zf|apply zg);exact BK469.out⟩;have n5_ : Aside0 (Below w.heap.size w ((w16.setCell ⟨gb469,0,none⟩ (.int .i64 ((rd_T67 l0_0 x12_1).f0))).setCell ⟨gb469,1,none⟩ (.slice A468_1 ((rd_T67 l0_0 x12_1).f1).length c468_1))):=⟨jAB⟩;(try clear HO_468000);(try clear BK465);(try clear BK466);(try clear BK467);(try clear BK469);(try clear HB);generalize ((w16.setCell ⟨gb469,0,none⟩ (.int .i64 ((rd_T67 l0_0 x12_1).f0))).setCell ⟨gb469,1,none⟩ (.slice A468_1 ((rd_T67 l0_0 x12_1).f1).length c468_1))=w21 at n0_ n1_ n2_ n3_ n4_ n5_ ⊢;have HO_468000:=n0_;have BK465:=n1_;have BK466:=n2_;have BK467:=n3_;have BK469:=n4_;have HB:=n5_;clear n0_ n1_ n2_ n3_ n4_ n5_;replace HO_468000:=zh (Kd.S_drew HO_468000.out);replace BK465:=zh (zf BK465.out);replace BK466:=zh (zf BK466.out);replace BK467:=zh (zf BK467.out);replace BK469:=zh (zf BK469.out);replace HB:=zh (zc HB.out);refine start_ (n:=12) (S:=fun w' => w'.cell? ⟨gb467,0,none⟩=some (u468000)∧w'.cell? ⟨gb467,1,none⟩=some (.int .i64 a0_1)∧w'.cell? ⟨gb469,0,none⟩=some (.int .i64 ((rd_T67 l0_0 x12_1).f0))∧w'.cell? ⟨gb469,1,none⟩=some (.slice A468_1 ((rd_T67 l0_0 x12_1).f1).length c468_1)) (ds:=[11]) (bm_ 0 12) jA rfl rfl ⟨(zz BK467.out 0).trans rfl,(zz BK467.out 1).trans rfl,(zz BK469.out 0).trans rfl,(zz BK469.out 1).trans rfl⟩ (fun hHeld=>?_);refine with_tabW Fa.tab5 Fa.bits5 (fun HT_ HW_=>?_);generalize w21.drew=w22 at HO_468000 BK465 BK466 BK467 BK469 HB hHeld ⊢;refine pure_ (i:=0) (N:=some 16) (v:=?_) (a':=?_) (bm_ 1 12) rfl rfl (any_of HT_.out jA) (fun _ _ _ h=>h) (Or.inl ⟨by rfl,?_⟩) ?_ ?_;rotate_left;exact jb;rotate_left;exact jc
       refine pure_ (i:=2) (N:=some 18) (v:=?_) (a':=?_) #[true,false,true,false,false,false,false,false,false,false,false,false] rfl rfl (any_of HT_.out jA) (fun _ _ _ h=>h) (Or.inl ⟨by rfl,?_⟩) ?_ ?_;rotate_left;exact jb;rotate_left;exact jc
       refine pure_ (i:=4) (N:=some 20) (v:=?_) (a':=?_) #[true,false,true,false,true,false,false,false,false,false,false,false] rfl rfl (any_of HT_.out jA) (fun _ _ _ h=>h) (Or.inl ⟨by rfl,?_⟩) ?_ ?_;rotate_left;exact jb;rotate_left;exact jc
       refine take_ (i:=1) (N:=some 17) (v:=?_) (a':=?_) #[true,true,true,false,true,false,false,false,false,false,false,false] rfl rfl (yo HT_.out HW_.out jA) (fun _ _ _ h=>h) (Or.inl ⟨by rfl,?_⟩) hHeld ?_ ?_;rotate_left
       ·
        rintro w' ⟨s0,s1,s2,s3⟩
        go_simp
        with_reducible rfl
       rotate_left
       exact jc
       refine take_ (i:=3) (N:=some 19) (v:=?_) (a':=?_) (bm_ 5 12) rfl rfl (yo HT_.out HW_.out jA) (fun _ _ _ h=>h) (Or.inl ⟨by rfl,?_⟩) hHeld ?_ ?_;rotate_left
       ·
        rintro w' ⟨s0,s1,s2,s3⟩
        go_simp
        with_reducible rfl
       rotate_left
       exact jc
       refine take_ (i:=5) (N:=some 21) (v:=?_) (a':=?_) (bm_ 6 12) rfl rfl (yo HT_.out HW_.out jA) (fun _ _ _ h=>h) (Or.inl ⟨by rfl,?_⟩) hHeld ?_ ?_;rotate_left
       ·
        rintro w' ⟨s0,s1,s2,s3⟩
        go_simp
        with_reducible rfl
       rotate_left
       exact jc
       refine one_ (i:=6) (N:=some 22) (bm_ 7 12) rfl rfl (one_of HT_.out jA) jB (fun K hK=>?_);refine goes_ Try.func61 jA rfl #[.slice A468_1 ((rd_T67 l0_0 x12_1).f1).length c468_1] (by rfl) rfl rfl jG ?_
       with_reducible refine (F09.calls  _ _ ((rd_T67 l0_0 x12_1).f1) t470 _ ?side1 ?side2 A14.out).mono ?_
       (case side1=>repeat (first|exact (Kd.C_below HR468_1.out HB.out)|(with_reducible refine Kd.C_alloc ?_ _)|(with_reducible refine Kd.C_drewN ?_ _)|(with_reducible refine Kd.C_drew ?_)))
       (case side2=>exact HC468_1.out)
       rintro e w23 ⟨v471,rfl,ho0,hb⟩;refine ⟨_,rfl,?_⟩;replace HO_468000:=zh (Kd.S_elder' jBp (Kd.R_base ho0) hb);have HO472:=zh (yx ho0 (zB jAB));replace BK465:=zh (cD BK465.out jt hb);replace BK466:=zh (cD BK466.out jAO hb);replace BK467:=zh (cD BK467.out jAm hb);replace BK469:=zh (cD BK469.out jBE hb);replace HB:=zh (zC jAB hb);(try clear hb);(try clear hb2);(try clear hk);(try clear hi);(try clear ho0);obtain ⟨Ao24,co24,eo24⟩:=yk HO472.out;(first|subst eo24|(injection eo24 with f1_ f2_ f3_;have f4_:=f1_.symm;have f5_:=f3_.symm;clear f1_ f2_ f3_;subst f4_;subst f5_));refine hK.out _ _ ⟨(zz BK467.out 0).trans rfl,(zz BK467.out 1).trans rfl,(zz BK469.out 0).trans rfl,(zz BK469.out 1).trans rfl⟩ (fun hHeld=>?_);clear hK K;refine norm_ (a':=?_) ?_ ?_;rotate_left
       ·
        show Act.put _ (some 22) _=_
        simp only [Act.put,zi,zj,zk,zG,zH]
        rfl
       refine pure_ (i:=7) (N:=some 23) (v:=?_) (a':=?_) (bm_ 8 12) rfl rfl (any_of HT_.out jA) (fun _ _ _ h=>h) (Or.inl ⟨by rfl,?_⟩) ?_ ?_;rotate_left;exact jb;rotate_left;exact jc
       refine one_ (i:=8) (N:=some 24) (bm_ 9 12) rfl rfl (one_of HT_.out jA) jB (fun K hK=>?_);refine value_ (w1:=?_) (v:=?_) (by rfl) rfl ?_ ?_;rotate_left 2
       ·
        go_simp
        constructor
        ·
         rfl
        rfl
       refine hK.out _ _ ⟨(zz (zg BK467.out _) 0).trans rfl,(zz (zg BK467.out _) 1).trans rfl,(zz (zg BK469.out _) 0).trans rfl,(zz (zg BK469.out _) 1).trans rfl⟩ (fun hHeld=>?_);clear hK K;refine norm_ (a':=?_) ?_ ?_;rotate_left
       ·
        show Act.put _ (some 24) _=_
        simp only [Act.put,zi,zj,zk,zG,zH]
        rfl
       refine one_ (i:=9) (N:=some 25) (bm_ 10 12) rfl rfl (one_of HT_.out jA) jB (fun K hK=>?_);refine Kd.S_append_step k67 (w0:=w) w.heap.size (by rfl) (.tmp 17) (.tmp 24) 33 67 (.agg #[(.int .i64 0),(.slice none 0 0)]) 32 rfl Try.underlying33 info67 rfl jB jD u468000 x468000_1 (⟨(rd_T67 l0_0 x12_1).f0,t470⟩ : S67) [.int .i64 ((rd_T67 l0_0 x12_1).f0),.slice Ao24 t470.length co24] (fun k_=>k_≠gb469) (fun k_=>some k_=(.slice Ao24 t470.length co24 : Value).ownBlock) rfl rfl ?aP (fun k_ hk_=>((zM (ok':=fun k_=>((fun k_=>k_≠gb469)) k_∧some k_≠(u468000 : Value).ownBlock) (yf (Kd.R_apart' (HO472.out) (Kd.S_typed HO_468000.out) jB) BK469.out jB) (fun k_ hk=>⟨hk.2,hk.1.2⟩))).1 k_ hk_.symm) ?aF ?aO ?aB ?aS ?aL ?_;(case aP=>exact k67_mkM _ _ _ (⟨(rd_T67 l0_0 x12_1).f0,t470⟩ : S67) (zM (Kd.R_tight rfl (zM (ok':=fun k_=>((fun k_=>k_≠gb469)) k_∧some k_≠(u468000 : Value).ownBlock) (yf (Kd.R_apart' (HO472.out) (Kd.S_typed HO_468000.out) jB) BK469.out jB) (fun k_ hk=>⟨hk.2,hk.1.2⟩))) (fun _ h_=>h_)))
       (case aB=>exact jAB)
       (case aF=>exact (fun k_ hk=>Kd.freshB (g:=gb469) (o:=.cells #[.int .i64 ((rd_T67 l0_0 x12_1).f0),.slice A468_1 ((rd_T67 l0_0 x12_1).f1).length c468_1] 67 (0,0)) jBE k_ hk))
       (case aO=>exact (by (with_reducible repeat (first|apply Kd.S_alloc|apply Kd.S_drewN|apply Kd.S_drew));exact Kd.S_mono HO_468000.out (fun k_ hk=>⟨hk.1,fun e_=>hk.2 e_⟩)))
       (case aS=>exact (zB jAB))
       (case aL=>have:=LMc15.out;omega)
       intro v474 w25 ho hb hg hat;rw [← Ny473.out] at ho;replace BK465:=zh (yv (g:=gb465) (o:=.cells #[.slice (some ad468) l0_0.length c0_0,.int .i64 a0_1] 35 (0,0)) jt hg (Kd.S_ne HO_468000.out BK465.out jB));replace BK466:=zh (yv (g:=gb466) (o:=.cells #[.slice none 0 0,.int .i64 0] 35 (0,0)) jAO hg (Kd.S_ne HO_468000.out BK466.out jB));replace BK467:=zh (yv (g:=gb467) (o:=.cells #[u468000,.int .i64 a0_1] 35 (0,0)) jAm hg (Kd.S_ne HO_468000.out BK467.out jB));replace BK469:=zh (yv (g:=gb469) (o:=.cells #[.int .i64 ((rd_T67 l0_0 x12_1).f0),.slice A468_1 ((rd_T67 l0_0 x12_1).f1).length c468_1] 67 (0,0)) jBE hg (Kd.S_away HO_468000.out (fun _ hk=>hk.1)));replace HB:=zh (hb);have HO475:=zh (ho);clear HO_468000 HO472 ho hb hg hat;obtain ⟨Ao26,co26,eo26⟩:=Kd.S_slice HO475.out;(first|subst eo26|(injection eo26 with f1_ f2_ f3_;have f4_:=f1_.symm;have f5_:=f3_.symm;clear f1_ f2_ f3_;subst f4_;subst f5_));refine hK.out _ _ ⟨(zz BK467.out 0).trans rfl,(zz BK467.out 1).trans rfl,(zz BK469.out 0).trans rfl,(zz BK469.out 1).trans rfl⟩ (fun hHeld=>?_);clear hK K;refine norm_ (a':=?_) ?_ ?_;rotate_left
       ·
        show Act.put _ (some 25) _=_
        simp only [Act.put,zi,zj,zk,zG,zH]
        rfl
       refine pure_ (i:=10) (N:=some 26) (v:=?_) (a':=?_) (bm_ 11 12) rfl rfl (any_of HT_.out jA) (fun _ _ _ h=>h) (Or.inl ⟨by rfl,?_⟩) ?_ ?_;rotate_left;exact jb;rotate_left;exact jc
       refine last_ (i:=11) (N:=none) (bm_ 12 12) rfl rfl (one_of HT_.out jA) jB (fun K hK=>?_);have hs27 : w25.cell? ⟨gb467,0,none⟩=some (u468000):=(zz BK467.out 0).trans rfl;have hfs27:=zA BK467.out 0;have hns27_0:=NB465_467.out;have hns27_1:=NB466_467.out;have hns27_3:=NB469_467.out;have hms27_0:=NB467_465.out;have hms27_1:=NB467_466.out;have hms27_3:=NB467_469.out;refine skip_ (w1:=?_) (by rfl) rfl ?_ ?_;rotate_left
       ·
        go_simp
        rfl
       refine hK.out _ _ ?_;clear hK K;refine done_ (done_of HT_.out jA) ?_
       try go_wp2
       go_roundg k1
       case measure=>have:=HK1.out;omega
       case rel=>exact ⟨(wrap64 (x12_1+1)),(y473),(.slice Ao26 y473.length co26),jE,H',⟨jL⟩,⟨by (with_reducible repeat (first|apply Kd.S_alloc|apply Kd.S_drewN|apply Kd.S_drew));exact Kd.S_mono (Kd.S_far (p:=⟨gb467,0,none⟩) (Kd.S_types HO475.out BK467.out jB) (fun _ hk=>hk.2) (.slice Ao26 y473.length co26)) (fun _ hk=>trivial)⟩,⟨by (with_reducible repeat first|apply ze|apply zf|apply zg);refine zS ?_ NB465_467.out _;(with_reducible repeat first|apply ze|apply zf|apply zg);exact BK465.out⟩,⟨by (with_reducible repeat first|apply ze|apply zf|apply zg);refine zS ?_ NB466_467.out _;(with_reducible repeat first|apply ze|apply zf|apply zg);exact BK466.out⟩,⟨by (with_reducible repeat first|apply ze|apply zf|apply zg);refine zL (cs:=#[u468000,.int .i64 a0_1]) ?_ 0 _ rfl;(with_reducible repeat first|apply ze|apply zf|apply zg);exact BK467.out⟩,⟨jAB⟩⟩
      rw [if_neg c15] at H;exact absurd H (by simp)
     rw [if_neg c13] at H;exact absurd H (by simp)
    rw [if_neg c12] at H;exact absurd H (by simp)
   rw [if_neg c11] at H;have c11b0 : decide (x12_1<(l0_0.length : Int))=false:=decide_eq_false c11;clear c11;simp only [Option.some.injEq,Prod.mk.injEq] at H;obtain ⟨rfl,rfl⟩:=H;have hnb28:=NB467_465.out;have hnc28:=NB465_467.out;have hnb29:=NB467_466.out;have hnc29:=NB466_467.out;obtain ⟨hcz30_0,hcz30_1,hfz30_0,hfz30_1⟩:=cB2 BK467.out;obtain ⟨Ao31,co31,eo31⟩:=Kd.S_slice HO_468000.out;subst eo31;have hnb32:=NB466_465.out;have hnc32:=NB465_466.out;obtain ⟨hcz33_0,hcz33_1,hfz33_0,hfz33_1⟩:=cB2 BK466.out
   go_wp2
   refine bodyPost_ret (results_cell_row rfl _ _ gb466 35 #[.slice Ao31 x468000_1.length co31,.int .i64 a0_1] (0,0) _ rfl (by (with_reducible repeat first|apply ze|apply zf|apply zg);refine zL (cs:=#[.slice Ao31 x468000_1.length co31,.int .i64 0]) ?_ 1 _ rfl;(with_reducible repeat first|apply ze|apply zf|apply zg);refine zL (cs:=#[.slice none 0 0,.int .i64 0]) ?_ 0 _ rfl;(with_reducible repeat first|apply ze|apply zf|apply zg);exact BK466.out) Try.underlying35 rfl jA) rfl ?_;exact ⟨_,jH,by (with_reducible repeat (first|apply Kd.S_alloc|apply Kd.S_drewN|apply Kd.S_drew));exact Kd.S_mono (Kd.S_far (p:=⟨gb466,1,none⟩) (Kd.S_far (p:=⟨gb466,0,none⟩) (Kd.S_types HO_468000.out BK466.out jB) (fun _ hk=>hk.2) (.slice Ao31 x468000_1.length co31)) (fun _ hk=>hk.2) (.int .i64 a0_1)) (fun _ hk=>trivial),jBD⟩


def Fc.l0 : Nat→Int→List (S67)→Int→Int→ByteArray→Int→Option (Int)
 | 0,_,_,_,_,_,_=>none
 | k+1,x5,x9,x10,x11,x258000,x258001=>if x11<x10 then (if 0≤x11 then (if x11<(x9.length : Int) then (if (((rd_T67 x9 x11).f1).length : Int) > 0 then (if 0<(((rd_T67 x9 x11).f1).length : Int) then ((Fi.f k ((rd_T51 ((rd_T67 x9 x11).f1) 0).f0) ((rd_T51 ((rd_T67 x9 x11).f1) 0).f1) x258000 x258001).bind fun t261=>(if t261≤0 then (Fc.l0 k x11 x9 x10 (wrap64 (x11+1)) x258000 x258001) else (Fc.l0 k x5 x9 x10 (wrap64 (x11+1)) x258000 x258001))) else (none)) else (Fc.l0 k x5 x9 x10 (wrap64 (x11+1)) x258000 x258001)) else (none)) else (none)) else (some x5)
def Fc.f (k : Nat) (l0_0 : List (S67)) (a0_1 : Int) (a1_0 : ByteArray) (a1_1 : Int) : Option (Int):=Fc.l0 k 0 l0_0 (l0_0.length : Int) 0 a1_0 a1_1
theorem Fc.mono_l : ∀ k,(∀ y0 y1 y2 y3 y4 y5,LeO (Fc.l0 k y0 y1 y2 y3 y4 y5) (Fc.l0 (k+1) y0 y1 y2 y3 y4 y5))
 | 0=>fun _ _ _ _ _ _ r h=>by simp [Fc.l0] at h
 | k+1=>by
  have ih0:=Fc.mono_l k;intro y0 y1 y2 y3 y4 y5;unfold Fc.l0
  repeat' first|(with_reducible first|exact ih0 _ _ _ _ _ _|exact Fi.mono _ _ _ _ _|exact zQ _|exact zN _|refine zP ?_ ?_|refine zO ?_ (fun _=>?_))|refine zP ?_ ?_|refine zO ?_ (fun _=>?_)
theorem Fc.mono : ∀ a0 a1 a2 a3 k,LeO (Fc.f k a0 a1 a2 a3) (Fc.f (k+1) a0 a1 a2 a3):=by
 intro a0 a1 a2 a3 k;have ih0:=Fc.mono_l k;unfold Fc.f
 repeat' first|(with_reducible first|exact ih0 _ _ _ _ _ _|exact Fi.mono _ _ _ _ _|exact zQ _|exact zN _|refine zP ?_ ?_|refine zO ?_ (fun _=>?_))|refine zP ?_ ?_|refine zO ?_ (fun _=>?_)
def Fc.T5 : Bool×List (List Nat×List Nat):=(true,[([],[]),([0],[0]),([1],[1]),([2],[2]),([3],[3]),([4],[4]),([5,4],[4,5]),([6,4],[4,6]),([7,4],[4,7]),([4],[4]),([8,9,4,4],[4,8,9]),([10,4],[4,10]),([4,11],[4,11])])
def Fc.B5 : List Nat:=[0,1,3,7,15,31,63,127,255,31,1023,2047,4095]
theorem Fc.tab5 : rtab .any (opsOf Try.f36 5)=Fc.T5:=by kernel_rfl
theorem Fc.bits5 : waitsOk Fc.T5.2 Fc.B5=true:=by kernel_rfl
set_option maxHeartbeats 8000000 in
set_option maxRecDepth 100000 in
theorem Fc.calls (k : Nat) (A0_0 : Option Addr) (c0_0 : Nat) (l0_0 : List (S67)) (a0_1 : Int) (a1_0 : ByteArray) (a1_1 : Int) (r : Int) (w : World) (hr0_0 : Kd.C k67 w A0_0 l0_0.length l0_0) (hc0_0 : l0_0.length≤c0_0) (h : Fc.f k l0_0 a0_1 a1_0 a1_1=some r) :
  Calls Try.prog 36 #[.agg #[.slice A0_0 l0_0.length c0_0,.int .i64 a0_1],.agg #[.string a1_0,.int .i64 a1_1]] w fun e w' => e = .returned (.int .i64 r)∧Below w.heap.size w w':=by
 have hu35:=Try.underlying35;have hu51:=Try.underlying51;have hu67:=Try.underlying67;have HR0_0:=zh hr0_0;have HC0_0:=zh hc0_0;clear hr0_0 hc0_0;have HB:=zh (Below.refl w.heap.size w);have H : (Fc.l0 k 0 l0_0 (l0_0.length : Int) 0 a1_0 a1_1)=some r:=h;clear h;have H':=zh H;clear H
 go_enter Try.func36,Try.ntmps36
 go_wp2_with (first|((with_reducible refine zK (N:=2) rfl ?_);refine zI ?hg (N:=2) ?hd (cs:=#[.slice A0_0 l0_0.length c0_0,.int .i64 a0_1]) (t:=35) ?hr ?_;(case hd=>rfl);(case hg=>rfl);(case hr=>go_simp <;> rfl);intro gb256 hg w3 hbox hb;have BK256:=zh (hbox);have hH_:=cH jF hb hg;have GW256:=zh hH_.1;have GE256:=GW256;replace HB:=zh hH_.2;clear hb hbox hg hH_)|((with_reducible refine zK (N:=3) rfl ?_);refine zI ?hg (N:=3) ?hd (cs:=#[.string a1_0,.int .i64 a1_1]) (t:=51) ?hr ?_;(case hd=>rfl);(case hg=>rfl);(case hr=>go_simp <;> rfl);intro gb257 hg w4 hbox hb;have BK257:=zh (hbox);have hH_:=cH (by repeat (with_reducible first|exact HB.out|apply za|apply zb|apply zc|refine zd ?_ GE256.out)) hb hg;have GW257:=zh hH_.1;have GE257:=GW257;replace HB:=zh hH_.2;have NB256_257:=zh ((by rw [hg];exact yc (yi (g:=gb256) (o:=.cells #[.slice A0_0 l0_0.length c0_0,.int .i64 a0_1] 35 (0,0)) jS) : gb256≠gb257));have NB257_256:=zh NB256_257.out.symm;replace BK256:=zh (cD BK256.out jS hb);clear hb hbox hg hH_;have hnb5:=NB256_257.out;have hnc5:=NB257_256.out;obtain ⟨hcz6_0,hcz6_1,hfz6_0,hfz6_1⟩:=cB2 BK256.out))
 go_loopg [5,11] k (fun kq v5 v11 w' => ∃ (x5_1 : Int) (x11_1 : Int),v5 = .int .i64 x5_1∧v11 = .int .i64 x11_1∧Aside0 (Fc.l0 kq x5_1 l0_0 (l0_0.length : Int) x11_1 a1_0 a1_1=some r)∧Aside0 (kq≤k)∧Aside0 (w'.heap[gb256]? = some (.cells #[(.slice A0_0 l0_0.length c0_0),.int .i64 a0_1] 35 (0,0)))∧Aside0 (w'.heap[gb257]? = some (.cells #[.string a1_0,.int .i64 a1_1] 51 (0,0)))∧Aside0 (Below w.heap.size w w'))
 case atStart=>exact ⟨(0),(0),jE,jE,H',⟨ye _⟩,⟨jS⟩,⟨je⟩,⟨jAP⟩⟩
 case round =>
  clear H'
  try clear p2
  try clear c3 c5
  try clear hcz6_0 hcz6_1 hfz6_0 hfz6_1
  obtain ⟨x5_1,x11_1,rfl,rfl,HA,HK1,BK256,BK257,HB⟩:=hrel
  cases gk with
  | zero=>exact absurd HA.out (by simp [Fc.l0])
  | succ k1 =>
   have H:=HA.out;clear HA;simp only [Fc.l0] at H
   by_cases c7 : x11_1<(l0_0.length : Int)
   ·
    rw [if_pos c7] at H
    have c7b0 : decide (x11_1<(l0_0.length : Int))=true:=decide_eq_true c7;clear c7
    by_cases c8 : 0≤x11_1
    ·
     rw [if_pos c8] at H
     have c8b0 : decide (0≤x11_1)=true:=decide_eq_true c8;clear c8
     by_cases c9 : x11_1<(l0_0.length : Int)
     ·
      rw [if_pos c9] at H
      have c9b0 : decide (x11_1<(l0_0.length : Int))=true:=decide_eq_true c9;clear c9
      by_cases c10 : (((rd_T67 l0_0 x11_1).f1).length : Int) > 0
      ·
       rw [if_pos c10] at H
       have c10b0 : decide (0<(((rd_T67 l0_0 x11_1).f1).length : Int))=true:=decide_eq_true c10;have c10b1 : decide (0<((rd_T67 l0_0 x11_1).f1).length)=true:=decide_eq_true jD;clear c10
       by_cases c11 : 0<(((rd_T67 l0_0 x11_1).f1).length : Int)
       ·
        rw [if_pos c11] at H
        have c11b0 : decide (0<(((rd_T67 l0_0 x11_1).f1).length : Int))=true:=decide_eq_true c11;have c11b1 : decide (0<((rd_T67 l0_0 x11_1).f1).length)=true:=decide_eq_true jD;clear c11;replace H:=zT.mp H;obtain ⟨t261,A120,H⟩:=H;have A12:=zh A120;clear A120
        by_cases c13 : t261≤0
        ·
         rw [if_pos c13] at H
         have c13b0 : decide (t261≤0)=true:=decide_eq_true c13;clear c13;have H':=zh H;clear H;have p258 : 0≤(x11_1 : Int):=zy jC;have q258 : x11_1<(l0_0.length : Int):=zy jC;obtain ⟨ad258,A258_1,c258_1,e258,hx258_0,hx258_1,hl258_1,hi258_1⟩:=at_T67 HR0_0.out x11_1 p258 q258
         cases e258
         replace hx258_0:=(HB.out.cell (zl w _ hx258_0)).trans hx258_0;replace hx258_1:=(HB.out.cell (zl w _ hx258_1)).trans hx258_1;have HR258_1:=zh hi258_1;have HC258_1:=zh hl258_1;clear hi258_1 hl258_1;replace p258:=eq_true p258;replace q258:=eq_true q258
         try go_wp2_with (first|((with_reducible refine zK (N:=7) rfl ?_);refine zI ?hg (N:=7) ?hd (cs:=#[.int .i64 0,.slice none 0 0]) (t:=67) ?hr ?_;(case hd=>rfl);(case hg=>rfl);(case hr=>go_simp <;> rfl);intro gb259 hg w14 hbox hb;have BK259:=zh (hbox);have hH_:=cH jAP hb hg;have GW259:=zh hH_.1;have GE259:=GW259;replace HB:=zh hH_.2;have NB256_259:=zh ((jBF : gb256≠gb259));have NB259_256:=zh NB256_259.out.symm;replace BK256:=zh (cD BK256.out jS hb);have NB257_259:=zh ((jBG : gb257≠gb259));have NB259_257:=zh NB257_259.out.symm;replace BK257:=zh (cD BK257.out je hb);clear hb hbox hg hH_;have hnb15:=NB259_256.out;have hnc15:=NB256_259.out;have hnb16:=NB259_257.out;have hnc16:=NB257_259.out;obtain ⟨hcz17_0,hcz17_1,hfz17_0,hfz17_1⟩:=cB2 BK259.out))
         have n0_ : Aside0 (((w14.setCell ⟨gb259,0,none⟩ (.int .i64 ((rd_T67 l0_0 x11_1).f0))).setCell ⟨gb259,1,none⟩ (.slice A258_1 ((rd_T67 l0_0 x11_1).f1).length c258_1)).heap[gb256]? = some (.cells #[.slice (some ad258) l0_0.length c0_0,.int .i64 a0_1] 35 (0,0))):=⟨jBH⟩;have n1_ : Aside0 (((w14.setCell ⟨gb259,0,none⟩ (.int .i64 ((rd_T67 l0_0 x11_1).f0))).setCell ⟨gb259,1,none⟩ (.slice A258_1 ((rd_T67 l0_0 x11_1).f1).length c258_1)).heap[gb257]? = some (.cells #[.string a1_0,.int .i64 a1_1] 51 (0,0))):=⟨jBI⟩;have n2_ : Aside0 (((w14.setCell ⟨gb259,0,none⟩ (.int .i64 ((rd_T67 l0_0 x11_1).f0))).setCell ⟨gb259,1,none⟩ (.slice A258_1 ((rd_T67 l0_0 x11_1).f1).length c258_1)).heap[gb259]? = some (.cells #[.int .i64 ((rd_T67 l0_0 x11_1).f0),.slice A258_1 ((rd_T67 l0_0 x11_1).f1).length c258_1] 67 (0,0))):=⟨jBJ⟩;have n3_ : Aside0 (Below w.heap.size w ((w14.setCell ⟨gb259,0,none⟩ (.int .i64 ((rd_T67 l0_0 x11_1).f0))).setCell ⟨gb259,1,none⟩ (.slice A258_1 ((rd_T67 l0_0 x11_1).f1).length c258_1))):=⟨jm⟩;(try clear BK256);(try clear BK257);(try clear BK259);(try clear HB);generalize ((w14.setCell ⟨gb259,0,none⟩ (.int .i64 ((rd_T67 l0_0 x11_1).f0))).setCell ⟨gb259,1,none⟩ (.slice A258_1 ((rd_T67 l0_0 x11_1).f1).length c258_1))=w18 at n0_ n1_ n2_ n3_ ⊢;have BK256:=n0_;have BK257:=n1_;have BK259:=n2_;have HB:=n3_;clear n0_ n1_ n2_ n3_;replace BK256:=zh (zf BK256.out);replace BK257:=zh (zf BK257.out);replace BK259:=zh (zf BK259.out);replace HB:=zh (zc HB.out);have p260 : 0≤(0 : Int):=jD;have q260 : 0<(((rd_T67 l0_0 x11_1).f1).length : Int):=zy jC;obtain ⟨ad260,e260,hx260_0,hx260_1⟩:=at_T51 HR258_1.out 0 p260 q260;have hw260_1:=hx260_1;(try rw [show ((0 : Int)).toNat=0 from rfl] at hw260_1);(try rw [show 0*2=0 from rfl] at hw260_1);(try rw [Addr.add_zero'] at hw260_1);have hw260_0:=hx260_0;(try rw [show ((0 : Int)).toNat=0 from rfl] at hw260_0);(try rw [show 0*2=0 from rfl] at hw260_0);(try rw [Addr.add_zero'] at hw260_0)
         cases e260
         have qi260 : (0<((rd_T67 l0_0 x11_1).f1).length)=True:=eq_true jD;(try rw [show ((0 : Int)).toNat=0 from rfl] at hx260_0);(try rw [show 0*2=0 from rfl] at hx260_0);(try rw [Addr.add_zero'] at hx260_0);(try rw [show ((0 : Int)).toNat=0 from rfl] at hx260_1);(try rw [show 0*2=0 from rfl] at hx260_1);(try rw [Addr.add_zero'] at hx260_1);replace hx260_0:=(HB.out.cell (zl w _ hx260_0)).trans hx260_0;replace hx260_1:=(HB.out.cell (zl w _ hx260_1)).trans hx260_1;replace p260:=eq_true p260;replace q260:=eq_true q260;refine start_ (n:=13) (S:=fun w' => w'.cell? ⟨gb259,0,none⟩=some (.int .i64 ((rd_T67 l0_0 x11_1).f0))∧w'.cell? ⟨gb259,1,none⟩=some (.slice (some ad260) ((rd_T67 l0_0 x11_1).f1).length c258_1)∧w'.cell? ⟨gb257,0,none⟩=some (.string a1_0)∧w'.cell? ⟨gb257,1,none⟩=some (.int .i64 a1_1)∧w'.cell? ad260=some (.string ((rd_T51 ((rd_T67 l0_0 x11_1).f1) 0).f0))∧w'.cell? ⟨ad260.block,ad260.off+1,none⟩=some (.int .i64 ((rd_T51 ((rd_T67 l0_0 x11_1).f1) 0).f1))) (ds:=[]) (bm_ 0 13) jA rfl rfl ⟨(zz BK259.out 0).trans rfl,(zz BK259.out 1).trans rfl,(zz BK257.out 0).trans rfl,(zz BK257.out 1).trans rfl,((HB.out.cell (zl w _ hw260_0)).trans hw260_0),((HB.out.cell (zl w _ hw260_1)).trans hw260_1)⟩ (fun hHeld=>?_);refine with_tabW Fc.tab5 Fc.bits5 (fun HT_ HW_=>?_);generalize w18.drew=w19 at BK256 BK257 BK259 HB hx260_0 hx260_1 hHeld ⊢;refine pure_ (i:=0) (N:=some 16) (v:=?_) (a':=?_) (bm_ 1 13) rfl rfl (any_of HT_.out jA) (fun _ _ _ h=>h) (Or.inl ⟨by rfl,?_⟩) ?_ ?_;rotate_left;exact jb;rotate_left;exact jc
         refine take_ (i:=1) (N:=some 17) (v:=?_) (a':=?_) (bm_ 2 13) rfl rfl (yo HT_.out HW_.out jA) (fun _ _ _ h=>h) (Or.inl ⟨by rfl,?_⟩) hHeld ?_ ?_;rotate_left
         ·
          rintro w' ⟨s0,s1,s2,s3,s4,s5⟩
          go_simp
          with_reducible rfl
         rotate_left
         exact jc
         refine pure_ (i:=2) (N:=some 18) (v:=?_) (a':=?_) (bm_ 3 13) rfl rfl (any_of HT_.out jA) (fun _ _ _ h=>h) (Or.inl ⟨by rfl,?_⟩) ?_ ?_;rotate_left;exact jb;rotate_left;exact jc
         refine pure_ (i:=3) (N:=some 19) (v:=?_) (a':=?_) (bm_ 4 13) rfl rfl (any_of HT_.out jA) (fun _ _ _ h=>h) (Or.inl ⟨by rfl,?_⟩) ?_ ?_;rotate_left;exact jb;rotate_left;exact jc
         refine pure_ (i:=4) (N:=some 20) (v:=?_) (a':=?_) (bm_ 5 13) rfl rfl (any_of HT_.out jA) (fun _ _ _ h=>h) (Or.inl ⟨by rfl,?_⟩) ?_ ?_;rotate_left;exact jb;rotate_left;exact jc
         refine pure_ (i:=5) (N:=some 21) (v:=?_) (a':=?_) (bm_ 6 13) rfl rfl (any_of HT_.out jA) (fun _ _ _ h=>h) (Or.inl ⟨by rfl,?_⟩) ?_ ?_;rotate_left;exact jb;rotate_left;exact jc
         refine take_ (i:=6) (N:=some 22) (v:=?_) (a':=?_) (bm_ 7 13) rfl rfl (yo HT_.out HW_.out jA) (fun _ _ _ h=>h) (Or.inl ⟨by rfl,?_⟩) hHeld ?_ ?_;rotate_left
         ·
          rintro w' ⟨s0,s1,s2,s3,s4,s5⟩
          go_simp
          with_reducible rfl
         rotate_left
         exact jc
         refine pure_ (i:=7) (N:=some 23) (v:=?_) (a':=?_) (bm_ 8 13) rfl rfl (any_of HT_.out jA) (fun _ _ _ h=>h) (Or.inl ⟨by rfl,?_⟩) ?_ ?_;rotate_left;exact jb;rotate_left;exact jc
         refine take_ (i:=8) (N:=some 24) (v:=?_) (a':=?_) (bm_ 9 13) rfl rfl (yo HT_.out HW_.out jA) (fun _ _ _ h=>h) (Or.inl ⟨by rfl,?_⟩) hHeld ?_ ?_;rotate_left
         ·
          rintro w' ⟨s0,s1,s2,s3,s4,s5⟩
          go_simp
          with_reducible rfl
         rotate_left
         exact jc
         refine take_ (i:=9) (N:=some 25) (v:=?_) (a':=?_) (bm_ 10 13) rfl rfl (yo HT_.out HW_.out jA) (fun _ _ _ h=>h) (Or.inl ⟨by rfl,?_⟩) hHeld ?_ ?_;rotate_left
         ·
          rintro w' ⟨s0,s1,s2,s3,s4,s5⟩
          go_simp
          with_reducible rfl
         rotate_left
         exact jc
         refine one_ (i:=10) (N:=some 26) (bm_ 11 13) rfl rfl (one_of HT_.out jA) jB (fun K hK=>?_);refine goes_ Try.func58 jA rfl #[.agg #[.string ((rd_T51 ((rd_T67 l0_0 x11_1).f1) 0).f0),.int .i64 ((rd_T51 ((rd_T67 l0_0 x11_1).f1) 0).f1)],.agg #[.string a1_0,.int .i64 a1_1]] (by rfl) rfl rfl jG ?_
         with_reducible refine (Fi.calls k1  ((rd_T51 ((rd_T67 l0_0 x11_1).f1) 0).f0) ((rd_T51 ((rd_T67 l0_0 x11_1).f1) 0).f1) a1_0 a1_1 t261 _ A12.out).mono ?_
         rintro e w20 ⟨rfl,hb⟩;refine ⟨_,rfl,?_⟩;replace BK256:=zh (cD BK256.out jS hb);replace BK257:=zh (cD BK257.out je hb);replace BK259:=zh (cD BK259.out jBq hb);replace HB:=zh (zC jm hb);(try clear hb);(try clear hb2);(try clear hk);(try clear hi);refine hK.out _ _ ⟨(zz BK259.out 0).trans rfl,(zz BK259.out 1).trans rfl,(zz BK257.out 0).trans rfl,(zz BK257.out 1).trans rfl,((HB.out.cell (zl w _ hw260_0)).trans hw260_0),((HB.out.cell (zl w _ hw260_1)).trans hw260_1)⟩ (fun hHeld=>?_);clear hK K;refine norm_ (a':=?_) ?_ ?_;rotate_left
         ·
          show Act.put _ (some 26) _=_
          simp only [Act.put,zi,zj,zk,zG,zH]
          rfl
         refine pure_ (i:=11) (N:=some 27) (v:=?_) (a':=?_) (bm_ 12 13) rfl rfl (any_of HT_.out jA) (fun _ _ _ h=>h) (Or.inl ⟨by rfl,?_⟩) ?_ ?_;rotate_left;exact jb;rotate_left;exact jc
         refine pure_ (i:=12) (N:=some 28) (v:=?_) (a':=?_) (bm_ 13 13) rfl rfl (any_of HT_.out jA) (fun _ _ _ h=>h) (Or.inl ⟨by rfl,?_⟩) ?_ ?_;rotate_left;exact jb;rotate_left;exact jc
         refine done_ (done_of HT_.out jA) ?_
         try go_wp2
         go_roundg k1
         case measure=>have:=HK1.out;omega
         case rel=>exact ⟨(x11_1),(wrap64 (x11_1+1)),jE,jE,H',⟨jL⟩,⟨jS⟩,⟨je⟩,⟨jm⟩⟩
        rw [if_neg c13] at H;have c13b0 : decide (t261≤0)=false:=decide_eq_false c13;clear c13;have H':=zh H;clear H;have p258 : 0≤(x11_1 : Int):=zy jC;have q258 : x11_1<(l0_0.length : Int):=zy jC;obtain ⟨ad258,A258_1,c258_1,e258,hx258_0,hx258_1,hl258_1,hi258_1⟩:=at_T67 HR0_0.out x11_1 p258 q258
        cases e258
        replace hx258_0:=(HB.out.cell (zl w _ hx258_0)).trans hx258_0;replace hx258_1:=(HB.out.cell (zl w _ hx258_1)).trans hx258_1;have HR258_1:=zh hi258_1;have HC258_1:=zh hl258_1;clear hi258_1 hl258_1;replace p258:=eq_true p258;replace q258:=eq_true q258
        try go_wp2_with (first|((with_reducible refine zK (N:=7) rfl ?_);refine zI ?hg (N:=7) ?hd (cs:=#[.int .i64 0,.slice none 0 0]) (t:=67) ?hr ?_;(case hd=>rfl);(case hg=>rfl);(case hr=>go_simp <;> rfl);intro gb259 hg w21 hbox hb;have BK259:=zh (hbox);have hH_:=cH jAP hb hg;have GW259:=zh hH_.1;have GE259:=GW259;replace HB:=zh hH_.2;have NB256_259:=zh ((jBF : gb256≠gb259));have NB259_256:=zh NB256_259.out.symm;replace BK256:=zh (cD BK256.out jS hb);have NB257_259:=zh ((jBG : gb257≠gb259));have NB259_257:=zh NB257_259.out.symm;replace BK257:=zh (cD BK257.out je hb);clear hb hbox hg hH_;have hnb22:=NB259_256.out;have hnc22:=NB256_259.out;have hnb23:=NB259_257.out;have hnc23:=NB257_259.out;obtain ⟨hcz24_0,hcz24_1,hfz24_0,hfz24_1⟩:=cB2 BK259.out))
        have n0_ : Aside0 (((w21.setCell ⟨gb259,0,none⟩ (.int .i64 ((rd_T67 l0_0 x11_1).f0))).setCell ⟨gb259,1,none⟩ (.slice A258_1 ((rd_T67 l0_0 x11_1).f1).length c258_1)).heap[gb256]? = some (.cells #[.slice (some ad258) l0_0.length c0_0,.int .i64 a0_1] 35 (0,0))):=⟨jBH⟩;have n1_ : Aside0 (((w21.setCell ⟨gb259,0,none⟩ (.int .i64 ((rd_T67 l0_0 x11_1).f0))).setCell ⟨gb259,1,none⟩ (.slice A258_1 ((rd_T67 l0_0 x11_1).f1).length c258_1)).heap[gb257]? = some (.cells #[.string a1_0,.int .i64 a1_1] 51 (0,0))):=⟨jBI⟩;have n2_ : Aside0 (((w21.setCell ⟨gb259,0,none⟩ (.int .i64 ((rd_T67 l0_0 x11_1).f0))).setCell ⟨gb259,1,none⟩ (.slice A258_1 ((rd_T67 l0_0 x11_1).f1).length c258_1)).heap[gb259]? = some (.cells #[.int .i64 ((rd_T67 l0_0 x11_1).f0),.slice A258_1 ((rd_T67 l0_0 x11_1).f1).length c258_1] 67 (0,0))):=⟨jBJ⟩;have n3_ : Aside0 (Below w.heap.size w ((w21.setCell ⟨gb259,0,none⟩ (.int .i64 ((rd_T67 l0_0 x11_1).f0))).setCell ⟨gb259,1,none⟩ (.slice A258_1 ((rd_T67 l0_0 x11_1).f1).length c258_1))):=⟨jm⟩;(try clear BK256);(try clear BK257);(try clear BK259);(try clear HB);generalize ((w21.setCell ⟨gb259,0,none⟩ (.int .i64 ((rd_T67 l0_0 x11_1).f0))).setCell ⟨gb259,1,none⟩ (.slice A258_1 ((rd_T67 l0_0 x11_1).f1).length c258_1))=w25 at n0_ n1_ n2_ n3_ ⊢;have BK256:=n0_;have BK257:=n1_;have BK259:=n2_;have HB:=n3_;clear n0_ n1_ n2_ n3_;replace BK256:=zh (zf BK256.out);replace BK257:=zh (zf BK257.out);replace BK259:=zh (zf BK259.out);replace HB:=zh (zc HB.out);have p260 : 0≤(0 : Int):=jD;have q260 : 0<(((rd_T67 l0_0 x11_1).f1).length : Int):=zy jC;obtain ⟨ad260,e260,hx260_0,hx260_1⟩:=at_T51 HR258_1.out 0 p260 q260;have hw260_1:=hx260_1;(try rw [show ((0 : Int)).toNat=0 from rfl] at hw260_1);(try rw [show 0*2=0 from rfl] at hw260_1);(try rw [Addr.add_zero'] at hw260_1);have hw260_0:=hx260_0;(try rw [show ((0 : Int)).toNat=0 from rfl] at hw260_0);(try rw [show 0*2=0 from rfl] at hw260_0);(try rw [Addr.add_zero'] at hw260_0)
        cases e260
        have qi260 : (0<((rd_T67 l0_0 x11_1).f1).length)=True:=eq_true jD;(try rw [show ((0 : Int)).toNat=0 from rfl] at hx260_0);(try rw [show 0*2=0 from rfl] at hx260_0);(try rw [Addr.add_zero'] at hx260_0);(try rw [show ((0 : Int)).toNat=0 from rfl] at hx260_1);(try rw [show 0*2=0 from rfl] at hx260_1);(try rw [Addr.add_zero'] at hx260_1);replace hx260_0:=(HB.out.cell (zl w _ hx260_0)).trans hx260_0;replace hx260_1:=(HB.out.cell (zl w _ hx260_1)).trans hx260_1;replace p260:=eq_true p260;replace q260:=eq_true q260;refine start_ (n:=13) (S:=fun w' => w'.cell? ⟨gb259,0,none⟩=some (.int .i64 ((rd_T67 l0_0 x11_1).f0))∧w'.cell? ⟨gb259,1,none⟩=some (.slice (some ad260) ((rd_T67 l0_0 x11_1).f1).length c258_1)∧w'.cell? ⟨gb257,0,none⟩=some (.string a1_0)∧w'.cell? ⟨gb257,1,none⟩=some (.int .i64 a1_1)∧w'.cell? ad260=some (.string ((rd_T51 ((rd_T67 l0_0 x11_1).f1) 0).f0))∧w'.cell? ⟨ad260.block,ad260.off+1,none⟩=some (.int .i64 ((rd_T51 ((rd_T67 l0_0 x11_1).f1) 0).f1))) (ds:=[]) (bm_ 0 13) jA rfl rfl ⟨(zz BK259.out 0).trans rfl,(zz BK259.out 1).trans rfl,(zz BK257.out 0).trans rfl,(zz BK257.out 1).trans rfl,((HB.out.cell (zl w _ hw260_0)).trans hw260_0),((HB.out.cell (zl w _ hw260_1)).trans hw260_1)⟩ (fun hHeld=>?_);refine with_tabW Fc.tab5 Fc.bits5 (fun HT_ HW_=>?_);generalize w25.drew=w26 at BK256 BK257 BK259 HB hx260_0 hx260_1 hHeld ⊢;refine pure_ (i:=0) (N:=some 16) (v:=?_) (a':=?_) (bm_ 1 13) rfl rfl (any_of HT_.out jA) (fun _ _ _ h=>h) (Or.inl ⟨by rfl,?_⟩) ?_ ?_;rotate_left;exact jb;rotate_left;exact jc
        refine take_ (i:=1) (N:=some 17) (v:=?_) (a':=?_) (bm_ 2 13) rfl rfl (yo HT_.out HW_.out jA) (fun _ _ _ h=>h) (Or.inl ⟨by rfl,?_⟩) hHeld ?_ ?_;rotate_left
        ·
         rintro w' ⟨s0,s1,s2,s3,s4,s5⟩
         go_simp
         with_reducible rfl
        rotate_left
        exact jc
        refine pure_ (i:=2) (N:=some 18) (v:=?_) (a':=?_) (bm_ 3 13) rfl rfl (any_of HT_.out jA) (fun _ _ _ h=>h) (Or.inl ⟨by rfl,?_⟩) ?_ ?_;rotate_left;exact jb;rotate_left;exact jc
        refine pure_ (i:=3) (N:=some 19) (v:=?_) (a':=?_) (bm_ 4 13) rfl rfl (any_of HT_.out jA) (fun _ _ _ h=>h) (Or.inl ⟨by rfl,?_⟩) ?_ ?_;rotate_left;exact jb;rotate_left;exact jc
        refine pure_ (i:=4) (N:=some 20) (v:=?_) (a':=?_) (bm_ 5 13) rfl rfl (any_of HT_.out jA) (fun _ _ _ h=>h) (Or.inl ⟨by rfl,?_⟩) ?_ ?_;rotate_left;exact jb;rotate_left;exact jc
        refine pure_ (i:=5) (N:=some 21) (v:=?_) (a':=?_) (bm_ 6 13) rfl rfl (any_of HT_.out jA) (fun _ _ _ h=>h) (Or.inl ⟨by rfl,?_⟩) ?_ ?_;rotate_left;exact jb;rotate_left;exact jc
        refine take_ (i:=6) (N:=some 22) (v:=?_) (a':=?_) (bm_ 7 13) rfl rfl (yo HT_.out HW_.out jA) (fun _ _ _ h=>h) (Or.inl ⟨by rfl,?_⟩) hHeld ?_ ?_;rotate_left
        ·
         rintro w' ⟨s0,s1,s2,s3,s4,s5⟩
         go_simp
         with_reducible rfl
        rotate_left
        exact jc
        refine pure_ (i:=7) (N:=some 23) (v:=?_) (a':=?_) (bm_ 8 13) rfl rfl (any_of HT_.out jA) (fun _ _ _ h=>h) (Or.inl ⟨by rfl,?_⟩) ?_ ?_;rotate_left;exact jb;rotate_left;exact jc
        refine take_ (i:=8) (N:=some 24) (v:=?_) (a':=?_) (bm_ 9 13) rfl rfl (yo HT_.out HW_.out jA) (fun _ _ _ h=>h) (Or.inl ⟨by rfl,?_⟩) hHeld ?_ ?_;rotate_left
        ·
         rintro w' ⟨s0,s1,s2,s3,s4,s5⟩
         go_simp
         with_reducible rfl
        rotate_left
        exact jc
        refine take_ (i:=9) (N:=some 25) (v:=?_) (a':=?_) (bm_ 10 13) rfl rfl (yo HT_.out HW_.out jA) (fun _ _ _ h=>h) (Or.inl ⟨by rfl,?_⟩) hHeld ?_ ?_;rotate_left
        ·
         rintro w' ⟨s0,s1,s2,s3,s4,s5⟩
         go_simp
         with_reducible rfl
        rotate_left
        exact jc
        refine one_ (i:=10) (N:=some 26) (bm_ 11 13) rfl rfl (one_of HT_.out jA) jB (fun K hK=>?_);refine goes_ Try.func58 jA rfl #[.agg #[.string ((rd_T51 ((rd_T67 l0_0 x11_1).f1) 0).f0),.int .i64 ((rd_T51 ((rd_T67 l0_0 x11_1).f1) 0).f1)],.agg #[.string a1_0,.int .i64 a1_1]] (by rfl) rfl rfl jG ?_
        with_reducible refine (Fi.calls k1  ((rd_T51 ((rd_T67 l0_0 x11_1).f1) 0).f0) ((rd_T51 ((rd_T67 l0_0 x11_1).f1) 0).f1) a1_0 a1_1 t261 _ A12.out).mono ?_
        rintro e w27 ⟨rfl,hb⟩;refine ⟨_,rfl,?_⟩;replace BK256:=zh (cD BK256.out jS hb);replace BK257:=zh (cD BK257.out je hb);replace BK259:=zh (cD BK259.out jBq hb);replace HB:=zh (zC jm hb);(try clear hb);(try clear hb2);(try clear hk);(try clear hi);refine hK.out _ _ ⟨(zz BK259.out 0).trans rfl,(zz BK259.out 1).trans rfl,(zz BK257.out 0).trans rfl,(zz BK257.out 1).trans rfl,((HB.out.cell (zl w _ hw260_0)).trans hw260_0),((HB.out.cell (zl w _ hw260_1)).trans hw260_1)⟩ (fun hHeld=>?_);clear hK K;refine norm_ (a':=?_) ?_ ?_;rotate_left
        ·
         show Act.put _ (some 26) _=_
         simp only [Act.put,zi,zj,zk,zG,zH]
         rfl
        refine pure_ (i:=11) (N:=some 27) (v:=?_) (a':=?_) (bm_ 12 13) rfl rfl (any_of HT_.out jA) (fun _ _ _ h=>h) (Or.inl ⟨by rfl,?_⟩) ?_ ?_;rotate_left;exact jb;rotate_left;exact jc
        refine pure_ (i:=12) (N:=some 28) (v:=?_) (a':=?_) (bm_ 13 13) rfl rfl (any_of HT_.out jA) (fun _ _ _ h=>h) (Or.inl ⟨by rfl,?_⟩) ?_ ?_;rotate_left;exact jb;rotate_left;exact jc
        refine done_ (done_of HT_.out jA) ?_
        try go_wp2
        go_roundg k1
        case measure=>have:=HK1.out;omega
        case rel=>exact ⟨(x5_1),(wrap64 (x11_1+1)),jE,jE,H',⟨jL⟩,⟨jS⟩,⟨je⟩,⟨jm⟩⟩
       rw [if_neg c11] at H;exact absurd H (by simp)
      rw [if_neg c10] at H;have c10b0 : decide (0<(((rd_T67 l0_0 x11_1).f1).length : Int))=false:=decide_eq_false c10;have c10b1 : decide (0<((rd_T67 l0_0 x11_1).f1).length)=false:=decide_eq_false jD;clear c10;have H':=zh H;clear H;have p258 : 0≤(x11_1 : Int):=zy jC;have q258 : x11_1<(l0_0.length : Int):=zy jC;obtain ⟨ad258,A258_1,c258_1,e258,hx258_0,hx258_1,hl258_1,hi258_1⟩:=at_T67 HR0_0.out x11_1 p258 q258
      cases e258
      replace hx258_0:=(HB.out.cell (zl w _ hx258_0)).trans hx258_0;replace hx258_1:=(HB.out.cell (zl w _ hx258_1)).trans hx258_1;have HR258_1:=zh hi258_1;have HC258_1:=zh hl258_1;clear hi258_1 hl258_1;replace p258:=eq_true p258;replace q258:=eq_true q258
      try go_wp2_with (first|((with_reducible refine zK (N:=7) rfl ?_);refine zI ?hg (N:=7) ?hd (cs:=#[.int .i64 0,.slice none 0 0]) (t:=67) ?hr ?_;(case hd=>rfl);(case hg=>rfl);(case hr=>go_simp <;> rfl);intro gb259 hg w28 hbox hb;have BK259:=zh (hbox);have hH_:=cH jAP hb hg;have GW259:=zh hH_.1;have GE259:=GW259;replace HB:=zh hH_.2;have NB256_259:=zh ((jBF : gb256≠gb259));have NB259_256:=zh NB256_259.out.symm;replace BK256:=zh (cD BK256.out jS hb);have NB257_259:=zh ((jBG : gb257≠gb259));have NB259_257:=zh NB257_259.out.symm;replace BK257:=zh (cD BK257.out je hb);clear hb hbox hg hH_;have hnb29:=NB259_256.out;have hnc29:=NB256_259.out;have hnb30:=NB259_257.out;have hnc30:=NB257_259.out;obtain ⟨hcz31_0,hcz31_1,hfz31_0,hfz31_1⟩:=cB2 BK259.out))
      have n0_ : Aside0 (((w28.setCell ⟨gb259,0,none⟩ (.int .i64 ((rd_T67 l0_0 x11_1).f0))).setCell ⟨gb259,1,none⟩ (.slice A258_1 ((rd_T67 l0_0 x11_1).f1).length c258_1)).heap[gb256]? = some (.cells #[.slice (some ad258) l0_0.length c0_0,.int .i64 a0_1] 35 (0,0))):=⟨jBH⟩;have n1_ : Aside0 (((w28.setCell ⟨gb259,0,none⟩ (.int .i64 ((rd_T67 l0_0 x11_1).f0))).setCell ⟨gb259,1,none⟩ (.slice A258_1 ((rd_T67 l0_0 x11_1).f1).length c258_1)).heap[gb257]? = some (.cells #[.string a1_0,.int .i64 a1_1] 51 (0,0))):=⟨jBI⟩;have n2_ : Aside0 (((w28.setCell ⟨gb259,0,none⟩ (.int .i64 ((rd_T67 l0_0 x11_1).f0))).setCell ⟨gb259,1,none⟩ (.slice A258_1 ((rd_T67 l0_0 x11_1).f1).length c258_1)).heap[gb259]? = some (.cells #[.int .i64 ((rd_T67 l0_0 x11_1).f0),.slice A258_1 ((rd_T67 l0_0 x11_1).f1).length c258_1] 67 (0,0))):=⟨jBJ⟩;have n3_ : Aside0 (Below w.heap.size w ((w28.setCell ⟨gb259,0,none⟩ (.int .i64 ((rd_T67 l0_0 x11_1).f0))).setCell ⟨gb259,1,none⟩ (.slice A258_1 ((rd_T67 l0_0 x11_1).f1).length c258_1))):=⟨jm⟩;(try clear BK256);(try clear BK257);(try clear BK259);(try clear HB);generalize ((w28.setCell ⟨gb259,0,none⟩ (.int .i64 ((rd_T67 l0_0 x11_1).f0))).setCell ⟨gb259,1,none⟩ (.slice A258_1 ((rd_T67 l0_0 x11_1).f1).length c258_1))=w32 at n0_ n1_ n2_ n3_ ⊢;have BK256:=n0_;have BK257:=n1_;have BK259:=n2_;have HB:=n3_;clear n0_ n1_ n2_ n3_;replace BK256:=zh (zf BK256.out);replace BK257:=zh (zf BK257.out);replace BK259:=zh (zf BK259.out);replace HB:=zh (zc HB.out);refine start_ (n:=13) (S:=fun w' => w'.cell? ⟨gb259,0,none⟩=some (.int .i64 ((rd_T67 l0_0 x11_1).f0))∧w'.cell? ⟨gb259,1,none⟩=some (.slice A258_1 ((rd_T67 l0_0 x11_1).f1).length c258_1)) (ds:=[]) (bm_ 0 13) jA rfl rfl ⟨(zz BK259.out 0).trans rfl,(zz BK259.out 1).trans rfl⟩ (fun hHeld=>?_);refine with_tabW Fc.tab5 Fc.bits5 (fun HT_ HW_=>?_);generalize w32.drew=w33 at BK256 BK257 BK259 HB hHeld ⊢;refine pure_ (i:=0) (N:=some 16) (v:=?_) (a':=?_) (bm_ 1 13) rfl rfl (any_of HT_.out jA) (fun _ _ _ h=>h) (Or.inl ⟨by rfl,?_⟩) ?_ ?_;rotate_left;exact jb;rotate_left;exact jc
      refine take_ (i:=1) (N:=some 17) (v:=?_) (a':=?_) (bm_ 2 13) rfl rfl (yo HT_.out HW_.out jA) (fun _ _ _ h=>h) (Or.inl ⟨by rfl,?_⟩) hHeld ?_ ?_;rotate_left
      ·
       rintro w' ⟨s0,s1⟩
       go_simp
       with_reducible rfl
      rotate_left
      exact jc
      refine pure_ (i:=2) (N:=some 18) (v:=?_) (a':=?_) (bm_ 3 13) rfl rfl (any_of HT_.out jA) (fun _ _ _ h=>h) (Or.inl ⟨by rfl,?_⟩) ?_ ?_;rotate_left;exact jb;rotate_left;exact jc
      refine pure_ (i:=3) (N:=some 19) (v:=?_) (a':=?_) (bm_ 4 13) rfl rfl (any_of HT_.out jA) (fun _ _ _ h=>h) (Or.inl ⟨by rfl,?_⟩) ?_ ?_;rotate_left;exact jb;rotate_left;exact jc
      refine pure_ (i:=4) (N:=some 20) (v:=?_) (a':=?_) (bm_ 5 13) rfl rfl (any_of HT_.out jA) (fun _ _ _ h=>h) (Or.inl ⟨by rfl,?_⟩) ?_ ?_;rotate_left;exact jb;rotate_left;exact jc
      refine pure_ (i:=5) (N:=some 21) (v:=undef) (a':=?_) (bm_ 6 13) rfl rfl (any_of HT_.out jA) (fun _ _ _ h=>h) (Or.inr ⟨by rfl,rfl⟩) ?_ ?_;rotate_left
      exact jc
      refine pure_ (i:=6) (N:=some 22) (v:=undef) (a':=?_) (bm_ 7 13) rfl rfl (any_of HT_.out jA) (fun _ _ _ h=>h) (Or.inr ⟨by rfl,rfl⟩) ?_ ?_;rotate_left
      exact jc
      refine pure_ (i:=7) (N:=some 23) (v:=undef) (a':=?_) (bm_ 8 13) rfl rfl (any_of HT_.out jA) (fun _ _ _ h=>h) (Or.inr ⟨by rfl,rfl⟩) ?_ ?_;rotate_left
      exact jc
      refine pure_ (i:=8) (N:=some 24) (v:=undef) (a':=?_) (bm_ 9 13) rfl rfl (any_of HT_.out jA) (fun _ _ _ h=>h) (Or.inr ⟨by rfl,rfl⟩) ?_ ?_;rotate_left
      exact jc
      refine pure_ (i:=9) (N:=some 25) (v:=undef) (a':=?_) (bm_ 10 13) rfl rfl (any_of HT_.out jA) (fun _ _ _ h=>h) (Or.inr ⟨by rfl,rfl⟩) ?_ ?_;rotate_left
      exact jc
      refine pure_ (i:=10) (N:=some 26) (v:=undef) (a':=?_) (bm_ 11 13) rfl rfl (any_of HT_.out jA) (fun _ _ _ h=>h) (Or.inr ⟨by rfl,rfl⟩) ?_ ?_;rotate_left
      exact jc
      refine pure_ (i:=11) (N:=some 27) (v:=undef) (a':=?_) (bm_ 12 13) rfl rfl (any_of HT_.out jA) (fun _ _ _ h=>h) (Or.inr ⟨by rfl,rfl⟩) ?_ ?_;rotate_left
      exact jc
      refine pure_ (i:=12) (N:=some 28) (v:=?_) (a':=?_) (bm_ 13 13) rfl rfl (any_of HT_.out jA) (fun _ _ _ h=>h) (Or.inl ⟨by rfl,?_⟩) ?_ ?_;rotate_left;exact jb;rotate_left;exact jc
      refine done_ (done_of HT_.out jA) ?_
      try go_wp2
      go_roundg k1
      case measure=>have:=HK1.out;omega
      case rel=>exact ⟨(x5_1),(wrap64 (x11_1+1)),jE,jE,H',⟨jL⟩,⟨jS⟩,⟨je⟩,⟨jm⟩⟩
     rw [if_neg c9] at H;exact absurd H (by simp)
    rw [if_neg c8] at H;exact absurd H (by simp)
   rw [if_neg c7] at H;have c7b0 : decide (x11_1<(l0_0.length : Int))=false:=decide_eq_false c7;clear c7;obtain rfl:=zU H
   go_wp2
   go_ret
   exact ⟨jH,jAP⟩


def F6.l0 : Nat→List (S51)→Int→Int→Int→ByteArray→Int→Option (Int×Bool)
 | 0,_,_,_,_,_,_=>none
 | k+1,x0,x8,x9,x10,x477000,x477001=>if x9<x10 then (if 0≤(wrap64 ((IntKind.u64.wrap (wrap64 (x9+x10))) / 2)) then (if (wrap64 ((IntKind.u64.wrap (wrap64 (x9+x10))) / 2))<(x0.length : Int) then ((Fi.f k ((rd_T51 x0 (wrap64 ((IntKind.u64.wrap (wrap64 (x9+x10))) / 2))).f0) ((rd_T51 x0 (wrap64 ((IntKind.u64.wrap (wrap64 (x9+x10))) / 2))).f1) x477000 x477001).bind fun t478=>(if t478<0 then (F6.l0 k x0 x8 (wrap64 ((wrap64 ((IntKind.u64.wrap (wrap64 (x9+x10))) / 2))+1)) x10 x477000 x477001) else (F6.l0 k x0 x8 x9 (wrap64 ((IntKind.u64.wrap (wrap64 (x9+x10))) / 2)) x477000 x477001))) else (none)) else (none)) else (if x9<x8 then (if 0≤x9 then (if x9<(x0.length : Int) then ((Fi.f k ((rd_T51 x0 x9).f0) ((rd_T51 x0 x9).f1) x477000 x477001).bind fun t480=>(some (x9,(t480 == 0)))) else (none)) else (none)) else (some (x9,false)))
def F6.f (k : Nat) (l0 : List (S51)) (a1_0 : ByteArray) (a1_1 : Int)  : Option (Int×Bool):=F6.l0 k l0 (l0.length : Int) 0 (l0.length : Int) a1_0 a1_1
theorem F6.mono_l : ∀ k,(∀ y0 y1 y2 y3 y4 y5,LeO (F6.l0 k y0 y1 y2 y3 y4 y5) (F6.l0 (k+1) y0 y1 y2 y3 y4 y5))
 | 0=>fun _ _ _ _ _ _ r h=>by simp [F6.l0] at h
 | k+1=>by
  have ih0:=F6.mono_l k;intro y0 y1 y2 y3 y4 y5;unfold F6.l0
  repeat' first|(with_reducible first|exact ih0 _ _ _ _ _ _|exact Fi.mono _ _ _ _ _|exact zQ _|exact zN _|refine zP ?_ ?_|refine zO ?_ (fun _=>?_))|refine zP ?_ ?_|refine zO ?_ (fun _=>?_)
theorem F6.mono : ∀ a0 a1 a2 k,LeO (F6.f k a0 a1 a2) (F6.f (k+1) a0 a1 a2):=by
 intro a0 a1 a2 k;have ih0:=F6.mono_l k;unfold F6.f
 repeat' first|(with_reducible first|exact ih0 _ _ _ _ _ _|exact Fi.mono _ _ _ _ _|exact zQ _|exact zN _|refine zP ?_ ?_|refine zO ?_ (fun _=>?_))|refine zP ?_ ?_|refine zO ?_ (fun _=>?_)
def F6.T5 : Bool×List (List Nat×List Nat):=(true,[([],[]),([],[]),([],[]),([1,2],[1,2]),([3],[3]),([],[]),([0,4,5],[0,4,5]),([6],[6])])
def F6.B5 : List Nat:=[0,0,0,6,14,0,63,127]
theorem F6.tab5 : rtab .any (opsOf Try.f73 5)=F6.T5:=by kernel_rfl
theorem F6.bits5 : waitsOk F6.T5.2 F6.B5=true:=by kernel_rfl
def F6.T8 : Bool×List (List Nat×List Nat):=(true,[([],[]),([],[]),([],[]),([1,2],[1,2]),([3],[3]),([4],[4]),([4],[4]),([4],[4]),([6,7,4],[4,6,7]),([8,4],[4,8]),([4],[4]),([5,9,10,4,4],[4,5,9,10]),([11,4],[4,11]),([4,12],[4,12]),([0,11,0],[0]),([13,14,0,1,2,3,4,5,6,7,8,9,10,11,12,13,14],[13])])
def F6.B8 : List Nat:=[0,0,0,6,14,30,30,30,222,478,30,2046,4094,8190,4095,32767]
theorem F6.tab8 : rtab .any (opsOf Try.f73 8)=F6.T8:=by kernel_rfl
theorem F6.bits8 : waitsOk F6.T8.2 F6.B8=true:=by kernel_rfl
theorem goesv_ {P : Program} {ops : Array Oper} {Q : Exit → Act → World → Prop} {oi : Oper} {N : Option Tmp} {a : Act} {w : World} {K : Act → World → Prop} {f : FuncId} {fn : Func} {as_ : Array Operand} {ts : Array TypeId} (fo : Operand) (hf : P.funcs[f]? = some fn) (hname : (fn.name == "runtime.NumGoroutine") = false) (hb : fn.body.isSome = true) (args : Array Value)
  (hw : Region.wanted oi (yielded ops a.tmps)=true) (hN : oi.dst=N) (hop : oi.op = .call { callee:=.value fo,args:=as_,argTypes:=ts }) (hfo : a.eval fo = .func (.func f) #[] #[]) (hargs : as_.map a.eval=args)
  (h : Calls P f args w fun e w' => ∃ v,e = .returned v∧K (a.put N v) w') : if Region.wanted oi (yielded ops a.tmps)=true then Oper.wp P oi a w K Q else K (a.put N undef) w:=by
 refine call_ f args hw hN ?_ h;have he:=enters_ hf hname hb args w;unfold execOp;simp [hop,resolve,Deferred.ofValue,invoke,hfo,hargs,he]
set_option maxHeartbeats 8000000 in
set_option maxRecDepth 100000 in
theorem F6.calls (k : Nat) (A0 : Option Addr) (c0 : Nat) (l0 : List (S51)) (a1_0 : ByteArray) (a1_1 : Int)  (r1 : Int) (r2 : Bool) (w : World) (hr0 : Kd.C k51 w A0 l0.length l0) (hc0 : l0.length≤c0) (h : F6.f k l0 a1_0 a1_1=some (r1,r2)) :
  Calls Try.prog 73 #[.slice A0 l0.length c0,.agg #[.string a1_0,.int .i64 a1_1],.func (.func 58) #[] #[]] w fun e w' => e = .returned (.tuple #[.int .i64 r1,.bool r2])∧Below w.heap.size w w':=by
 have hu51:=Try.underlying51;have HR0:=zh hr0;have HC0:=zh hc0;clear hr0 hc0;have HB:=zh (Below.refl w.heap.size w);have H : (F6.l0 k l0 (l0.length : Int) 0 (l0.length : Int) a1_0 a1_1)=some (r1,r2):=h;clear h;have H':=zh H;clear H
 go_enter Try.func73,Try.ntmps73
 go_wp2_with (first|((with_reducible refine zK (N:=4) rfl ?_);refine zI ?hg (N:=4) ?hd (cs:=#[.string a1_0,.int .i64 a1_1]) (t:=51) ?hr ?_;(case hd=>rfl);(case hg=>rfl);(case hr=>go_simp <;> rfl);intro gb476 hg w4 hbox hb;have BK476:=zh (hbox);have hH_:=cH jF hb hg;have GW476:=zh hH_.1;have GE476:=GW476;replace HB:=zh hH_.2;clear hb hbox hg hH_))
 go_loopg [9,10] k (fun kq v9 v10 w' => ∃ (x9_1 : Int) (x10_1 : Int),v9 = .int .i64 x9_1∧v10 = .int .i64 x10_1∧Aside0 (F6.l0 kq l0 (l0.length : Int) x9_1 x10_1 a1_0 a1_1=some (r1,r2))∧Aside0 (kq≤k)∧Aside0 (w'.heap[gb476]? = some (.cells #[.string a1_0,.int .i64 a1_1] 51 (0,0)))∧Aside0 (Below w.heap.size w w'))
 case atStart=>exact ⟨(0),((l0.length : Int)),jE,jE,H',⟨ye _⟩,⟨jAC⟩,⟨jn⟩⟩
 case round =>
  clear H'
  try clear p2
  obtain ⟨x9_1,x10_1,rfl,rfl,HA,HK1,BK476,HB⟩:=hrel
  cases gk with
  | zero=>exact absurd HA.out (by simp [F6.l0])
  | succ k1 =>
   have H:=HA.out;clear HA;simp only [F6.l0] at H
   by_cases c5 : x9_1<x10_1
   ·
    rw [if_pos c5] at H
    have c5b0 : decide (x9_1<x10_1)=true:=decide_eq_true c5;clear c5;obtain ⟨ji6,hji6⟩ : ∃ j_ : Int,(wrap64 ((IntKind.u64.wrap (wrap64 (x9_1+x10_1))) / 2))=j_:=⟨_,rfl⟩;replace H : (if 0≤(ji6) then (if (ji6)<(l0.length : Int) then ((Fi.f k1 ((rd_T51 l0 (ji6)).f0) ((rd_T51 l0 (ji6)).f1) a1_0 a1_1).bind fun t478=>(if t478<0 then (F6.l0 k1 l0 (l0.length : Int) (wrap64 ((ji6)+1)) x10_1 a1_0 a1_1) else (F6.l0 k1 l0 (l0.length : Int) x9_1 ji6 a1_0 a1_1))) else (none)) else (none))=some (r1,r2):=by first|(rw [hji6] at H;exact H)|(simp only [hji6] at H ⊢;exact H)
    have hji6w : (IntKind.i64.wrap ((IntKind.u64.wrap (wrap64 (x9_1+x10_1))) / 2))=ji6:=(zG _).trans hji6
    by_cases c7 : 0≤(ji6)
    ·
     rw [if_pos c7] at H
     have c7b0 : decide (0≤(ji6))=true:=decide_eq_true c7;clear c7
     by_cases c8 : (ji6)<(l0.length : Int)
     ·
      rw [if_pos c8] at H
      have c8b0 : decide ((ji6)<(l0.length : Int))=true:=decide_eq_true c8;clear c8;replace H:=zT.mp H;obtain ⟨t478,A90,H⟩:=H;have A9:=zh A90;clear A90
      by_cases c10 : t478<0
      ·
       rw [if_pos c10] at H
       have c10b0 : decide (t478<0)=true:=decide_eq_true c10;clear c10;have H':=zh H;clear H
       try go_wp2
       replace BK476:=zh (zf BK476.out);replace HB:=zh (zc HB.out);have p477 : 0≤((ji6) : Int):=zy jC;have q477 : (ji6)<(l0.length : Int):=zy jC;obtain ⟨ad477,e477,hx477_0,hx477_1⟩:=at_T51 HR0.out (ji6) p477 q477;have hw477_1:=hx477_1;have hw477_0:=hx477_0
       cases e477
       replace hx477_0:=(HB.out.cell (zl w _ hx477_0)).trans hx477_0;replace hx477_1:=(HB.out.cell (zl w _ hx477_1)).trans hx477_1;replace p477:=eq_true p477;replace q477:=eq_true q477;refine start_ (n:=8) (S:=fun w' => w'.cell? ⟨gb476,0,none⟩=some (.string a1_0)∧w'.cell? ⟨gb476,1,none⟩=some (.int .i64 a1_1)∧w'.cell? (ad477.add (((ji6)).toNat*2))=some (.string ((rd_T51 l0 (ji6)).f0))∧w'.cell? ⟨(ad477.add (((ji6)).toNat*2)).block,(ad477.add (((ji6)).toNat*2)).off+1,none⟩=some (.int .i64 ((rd_T51 l0 (ji6)).f1))) (ds:=[]) (bm_ 0 8) jA rfl rfl ⟨(zz BK476.out 0).trans rfl,(zz BK476.out 1).trans rfl,((HB.out.cell (zl w _ hw477_0)).trans hw477_0),((HB.out.cell (zl w _ hw477_1)).trans hw477_1)⟩ (fun hHeld=>?_);refine with_tabW F6.tab5 F6.bits5 (fun HT_ HW_=>?_);generalize wr.drew=w11 at BK476 HB hx477_0 hx477_1 hHeld ⊢;refine pure_ (i:=0) (N:=some 24) (v:=?_) (a':=?_) (bm_ 1 8) rfl rfl (any_of HT_.out jA) (fun _ _ _ h=>h) (Or.inl ⟨by rfl,?_⟩) ?_ ?_;rotate_left;exact jb;rotate_left;exact jc
       refine pure_ (i:=1) (N:=some 25) (v:=?_) (a':=?_) (bm_ 2 8) rfl rfl (any_of HT_.out jA) (fun _ _ _ h=>h) (Or.inl ⟨by rfl,?_⟩) ?_ ?_;rotate_left;exact jb;rotate_left;exact jc
       refine pure_ (i:=2) (N:=some 26) (v:=?_) (a':=?_) (bm_ 3 8) rfl rfl (any_of HT_.out jA) (fun _ _ _ h=>h) (Or.inl ⟨by rfl,?_⟩) ?_ ?_;rotate_left;exact jb;rotate_left;exact jc
       refine pure_ (i:=3) (N:=some 27) (v:=?_) (a':=?_) (bm_ 4 8) rfl rfl (any_of HT_.out jA) (fun _ _ _ h=>h) (Or.inl ⟨by rfl,?_⟩) ?_ ?_;rotate_left;exact jb;rotate_left;exact jc
       refine take_ (i:=4) (N:=some 28) (v:=?_) (a':=?_) (bm_ 5 8) rfl rfl (yo HT_.out HW_.out jA) (fun _ _ _ h=>h) (Or.inl ⟨by rfl,?_⟩) hHeld ?_ ?_;rotate_left
       ·
        rintro w' ⟨s0,s1,s2,s3⟩
        go_simp
        with_reducible rfl
       rotate_left
       exact jc
       refine take_ (i:=5) (N:=some 29) (v:=?_) (a':=?_) (bm_ 6 8) rfl rfl (yo HT_.out HW_.out jA) (fun _ _ _ h=>h) (Or.inl ⟨by rfl,?_⟩) hHeld ?_ ?_;rotate_left
       ·
        rintro w' ⟨s0,s1,s2,s3⟩
        go_simp
        with_reducible rfl
       rotate_left
       exact jc
       refine one_ (i:=6) (N:=some 30) (bm_ 7 8) rfl rfl (one_of HT_.out jA) jB (fun K hK=>?_);refine goesv_ (.tmp 24) Try.func58 jA rfl #[.agg #[.string ((rd_T51 l0 (ji6)).f0),.int .i64 ((rd_T51 l0 (ji6)).f1)],.agg #[.string a1_0,.int .i64 a1_1]] (by rfl) rfl rfl (by rfl) jBr ?_
       with_reducible refine (Fi.calls k1  ((rd_T51 l0 (ji6)).f0) ((rd_T51 l0 (ji6)).f1) a1_0 a1_1 t478 _ A9.out).mono ?_
       rintro e w12 ⟨rfl,hb⟩;refine ⟨_,rfl,?_⟩;replace BK476:=zh (cD BK476.out jAC hb);replace HB:=zh (zC jn hb);(try clear hb);(try clear hb2);(try clear hk);(try clear hi);refine hK.out _ _ ⟨(zz BK476.out 0).trans rfl,(zz BK476.out 1).trans rfl,((HB.out.cell (zl w _ hw477_0)).trans hw477_0),((HB.out.cell (zl w _ hw477_1)).trans hw477_1)⟩ (fun hHeld=>?_);clear hK K;refine norm_ (a':=?_) ?_ ?_;rotate_left
       ·
        show Act.put _ (some 30) _=_
        simp only [Act.put,zi,zj,zk,zG,zH]
        rfl
       refine pure_ (i:=7) (N:=some 31) (v:=?_) (a':=?_) (bm_ 8 8) rfl rfl (any_of HT_.out jA) (fun _ _ _ h=>h) (Or.inl ⟨by rfl,?_⟩) ?_ ?_;rotate_left;exact jb;rotate_left;exact jc
       refine done_ (done_of HT_.out jA) ?_
       try go_wp2
       go_roundg k1
       case measure=>have:=HK1.out;omega
       case rel=>exact ⟨(wrap64 ((ji6)+1)),(x10_1),jBs,jE,H',⟨jL⟩,⟨jAC⟩,⟨jn⟩⟩
      rw [if_neg c10] at H;have c10b0 : decide (t478<0)=false:=decide_eq_false c10;clear c10;have H':=zh H;clear H
      try go_wp2
      replace BK476:=zh (zf BK476.out);replace HB:=zh (zc HB.out);have p477 : 0≤((ji6) : Int):=zy jC;have q477 : (ji6)<(l0.length : Int):=zy jC;obtain ⟨ad477,e477,hx477_0,hx477_1⟩:=at_T51 HR0.out (ji6) p477 q477;have hw477_1:=hx477_1;have hw477_0:=hx477_0
      cases e477
      replace hx477_0:=(HB.out.cell (zl w _ hx477_0)).trans hx477_0;replace hx477_1:=(HB.out.cell (zl w _ hx477_1)).trans hx477_1;replace p477:=eq_true p477;replace q477:=eq_true q477;refine start_ (n:=8) (S:=fun w' => w'.cell? ⟨gb476,0,none⟩=some (.string a1_0)∧w'.cell? ⟨gb476,1,none⟩=some (.int .i64 a1_1)∧w'.cell? (ad477.add (((ji6)).toNat*2))=some (.string ((rd_T51 l0 (ji6)).f0))∧w'.cell? ⟨(ad477.add (((ji6)).toNat*2)).block,(ad477.add (((ji6)).toNat*2)).off+1,none⟩=some (.int .i64 ((rd_T51 l0 (ji6)).f1))) (ds:=[]) (bm_ 0 8) jA rfl rfl ⟨(zz BK476.out 0).trans rfl,(zz BK476.out 1).trans rfl,((HB.out.cell (zl w _ hw477_0)).trans hw477_0),((HB.out.cell (zl w _ hw477_1)).trans hw477_1)⟩ (fun hHeld=>?_);refine with_tabW F6.tab5 F6.bits5 (fun HT_ HW_=>?_);generalize wr.drew=w13 at BK476 HB hx477_0 hx477_1 hHeld ⊢;refine pure_ (i:=0) (N:=some 24) (v:=?_) (a':=?_) (bm_ 1 8) rfl rfl (any_of HT_.out jA) (fun _ _ _ h=>h) (Or.inl ⟨by rfl,?_⟩) ?_ ?_;rotate_left;exact jb;rotate_left;exact jc
      refine pure_ (i:=1) (N:=some 25) (v:=?_) (a':=?_) (bm_ 2 8) rfl rfl (any_of HT_.out jA) (fun _ _ _ h=>h) (Or.inl ⟨by rfl,?_⟩) ?_ ?_;rotate_left;exact jb;rotate_left;exact jc
      refine pure_ (i:=2) (N:=some 26) (v:=?_) (a':=?_) (bm_ 3 8) rfl rfl (any_of HT_.out jA) (fun _ _ _ h=>h) (Or.inl ⟨by rfl,?_⟩) ?_ ?_;rotate_left;exact jb;rotate_left;exact jc
      refine pure_ (i:=3) (N:=some 27) (v:=?_) (a':=?_) (bm_ 4 8) rfl rfl (any_of HT_.out jA) (fun _ _ _ h=>h) (Or.inl ⟨by rfl,?_⟩) ?_ ?_;rotate_left;exact jb;rotate_left;exact jc
      refine take_ (i:=4) (N:=some 28) (v:=?_) (a':=?_) (bm_ 5 8) rfl rfl (yo HT_.out HW_.out jA) (fun _ _ _ h=>h) (Or.inl ⟨by rfl,?_⟩) hHeld ?_ ?_;rotate_left
      ·
       rintro w' ⟨s0,s1,s2,s3⟩
       go_simp
       with_reducible rfl
      rotate_left
      exact jc
      refine take_ (i:=5) (N:=some 29) (v:=?_) (a':=?_) (bm_ 6 8) rfl rfl (yo HT_.out HW_.out jA) (fun _ _ _ h=>h) (Or.inl ⟨by rfl,?_⟩) hHeld ?_ ?_;rotate_left
      ·
       rintro w' ⟨s0,s1,s2,s3⟩
       go_simp
       with_reducible rfl
      rotate_left
      exact jc
      refine one_ (i:=6) (N:=some 30) (bm_ 7 8) rfl rfl (one_of HT_.out jA) jB (fun K hK=>?_);refine goesv_ (.tmp 24) Try.func58 jA rfl #[.agg #[.string ((rd_T51 l0 (ji6)).f0),.int .i64 ((rd_T51 l0 (ji6)).f1)],.agg #[.string a1_0,.int .i64 a1_1]] (by rfl) rfl rfl (by rfl) jBr ?_
      with_reducible refine (Fi.calls k1  ((rd_T51 l0 (ji6)).f0) ((rd_T51 l0 (ji6)).f1) a1_0 a1_1 t478 _ A9.out).mono ?_
      rintro e w14 ⟨rfl,hb⟩;refine ⟨_,rfl,?_⟩;replace BK476:=zh (cD BK476.out jAC hb);replace HB:=zh (zC jn hb);(try clear hb);(try clear hb2);(try clear hk);(try clear hi);refine hK.out _ _ ⟨(zz BK476.out 0).trans rfl,(zz BK476.out 1).trans rfl,((HB.out.cell (zl w _ hw477_0)).trans hw477_0),((HB.out.cell (zl w _ hw477_1)).trans hw477_1)⟩ (fun hHeld=>?_);clear hK K;refine norm_ (a':=?_) ?_ ?_;rotate_left
      ·
       show Act.put _ (some 30) _=_
       simp only [Act.put,zi,zj,zk,zG,zH]
       rfl
      refine pure_ (i:=7) (N:=some 31) (v:=?_) (a':=?_) (bm_ 8 8) rfl rfl (any_of HT_.out jA) (fun _ _ _ h=>h) (Or.inl ⟨by rfl,?_⟩) ?_ ?_;rotate_left;exact jb;rotate_left;exact jc
      refine done_ (done_of HT_.out jA) ?_
      try go_wp2
      go_roundg k1
      case measure=>have:=HK1.out;omega
      case rel=>exact ⟨(x9_1),(ji6),jE,jBs,H',⟨jL⟩,⟨jAC⟩,⟨jn⟩⟩
     rw [if_neg c8] at H;exact absurd H (by simp)
    rw [if_neg c7] at H;exact absurd H (by simp)
   rw [if_neg c5] at H;have c5b0 : decide (x9_1<x10_1)=false:=decide_eq_false c5;clear c5
   by_cases c15 : x9_1<(l0.length : Int)
   ·
    rw [if_pos c15] at H
    have c15b0 : decide (x9_1<(l0.length : Int))=true:=decide_eq_true c15;clear c15
    by_cases c16 : 0≤x9_1
    ·
     rw [if_pos c16] at H
     have c16b0 : decide (0≤x9_1)=true:=decide_eq_true c16;clear c16
     by_cases c17 : x9_1<(l0.length : Int)
     ·
      rw [if_pos c17] at H
      have c17b0 : decide (x9_1<(l0.length : Int))=true:=decide_eq_true c17;clear c17;replace H:=zT.mp H;obtain ⟨t480,A180,H⟩:=H;have A18:=zh A180;clear A180;simp only [Option.some.injEq,Prod.mk.injEq] at H;obtain ⟨rfl,rfl⟩:=H
      try go_wp2
      replace BK476:=zh (zf BK476.out);replace HB:=zh (zc HB.out);have p479 : 0≤(x9_1 : Int):=zy jC;have q479 : x9_1<(l0.length : Int):=zy jC;obtain ⟨ad479,e479,hx479_0,hx479_1⟩:=at_T51 HR0.out x9_1 p479 q479;have hw479_1:=hx479_1;have hw479_0:=hx479_0
      cases e479
      replace hx479_0:=(HB.out.cell (zl w _ hx479_0)).trans hx479_0;replace hx479_1:=(HB.out.cell (zl w _ hx479_1)).trans hx479_1;replace p479:=eq_true p479;replace q479:=eq_true q479;refine start_ (n:=16) (S:=fun w' => w'.cell? ⟨gb476,0,none⟩=some (.string a1_0)∧w'.cell? ⟨gb476,1,none⟩=some (.int .i64 a1_1)∧w'.cell? (ad479.add ((x9_1).toNat*2))=some (.string ((rd_T51 l0 x9_1).f0))∧w'.cell? ⟨(ad479.add ((x9_1).toNat*2)).block,(ad479.add ((x9_1).toNat*2)).off+1,none⟩=some (.int .i64 ((rd_T51 l0 x9_1).f1))) (ds:=[]) (bm_ 0 16) jA rfl rfl ⟨(zz BK476.out 0).trans rfl,(zz BK476.out 1).trans rfl,((HB.out.cell (zl w _ hw479_0)).trans hw479_0),((HB.out.cell (zl w _ hw479_1)).trans hw479_1)⟩ (fun hHeld=>?_);refine with_tabW F6.tab8 F6.bits8 (fun HT_ HW_=>?_);generalize wr.drew=w19 at BK476 HB hx479_0 hx479_1 hHeld ⊢;refine pure_ (i:=0) (N:=some 35) (v:=?_) (a':=?_) (bm_ 1 16) rfl rfl (any_of HT_.out jA) (fun _ _ _ h=>h) (Or.inl ⟨by rfl,?_⟩) ?_ ?_;rotate_left;exact jb;rotate_left;exact jc
      refine pure_ (i:=1) (N:=some 36) (v:=?_) (a':=?_) (bm_ 2 16) rfl rfl (any_of HT_.out jA) (fun _ _ _ h=>h) (Or.inl ⟨by rfl,?_⟩) ?_ ?_;rotate_left;exact jb;rotate_left;exact jc
      refine pure_ (i:=2) (N:=some 37) (v:=?_) (a':=?_) (bm_ 3 16) rfl rfl (any_of HT_.out jA) (fun _ _ _ h=>h) (Or.inl ⟨by rfl,?_⟩) ?_ ?_;rotate_left;exact jb;rotate_left;exact jc
      refine pure_ (i:=3) (N:=some 38) (v:=?_) (a':=?_) (bm_ 4 16) rfl rfl (any_of HT_.out jA) (fun _ _ _ h=>h) (Or.inl ⟨by rfl,?_⟩) ?_ ?_;rotate_left;exact jb;rotate_left;exact jc
      refine pure_ (i:=4) (N:=some 39) (v:=?_) (a':=?_) (bm_ 5 16) rfl rfl (any_of HT_.out jA) (fun _ _ _ h=>h) (Or.inl ⟨by rfl,?_⟩) ?_ ?_;rotate_left;exact jb;rotate_left;exact jc
      refine pure_ (i:=5) (N:=some 40) (v:=?_) (a':=?_) (bm_ 6 16) rfl rfl (any_of HT_.out jA) (fun _ _ _ h=>h) (Or.inl ⟨by rfl,?_⟩) ?_ ?_;rotate_left;exact jb;rotate_left;exact jc
      refine pure_ (i:=6) (N:=some 41) (v:=?_) (a':=?_) (bm_ 7 16) rfl rfl (any_of HT_.out jA) (fun _ _ _ h=>h) (Or.inl ⟨by rfl,?_⟩) ?_ ?_;rotate_left;exact jb;rotate_left;exact jc
      refine pure_ (i:=7) (N:=some 42) (v:=?_) (a':=?_) (bm_ 8 16) rfl rfl (any_of HT_.out jA) (fun _ _ _ h=>h) (Or.inl ⟨by rfl,?_⟩) ?_ ?_;rotate_left;exact jb;rotate_left;exact jc
      refine pure_ (i:=8) (N:=some 43) (v:=?_) (a':=?_) (bm_ 9 16) rfl rfl (any_of HT_.out jA) (fun _ _ _ h=>h) (Or.inl ⟨by rfl,?_⟩) ?_ ?_;rotate_left;exact jb;rotate_left;exact jc
      refine take_ (i:=9) (N:=some 44) (v:=?_) (a':=?_) (bm_ 10 16) rfl rfl (yo HT_.out HW_.out jA) (fun _ _ _ h=>h) (Or.inl ⟨by rfl,?_⟩) hHeld ?_ ?_;rotate_left
      ·
       rintro w' ⟨s0,s1,s2,s3⟩
       go_simp
       with_reducible rfl
      rotate_left
      exact jc
      refine take_ (i:=10) (N:=some 45) (v:=?_) (a':=?_) (bm_ 11 16) rfl rfl (yo HT_.out HW_.out jA) (fun _ _ _ h=>h) (Or.inl ⟨by rfl,?_⟩) hHeld ?_ ?_;rotate_left
      ·
       rintro w' ⟨s0,s1,s2,s3⟩
       go_simp
       with_reducible rfl
      rotate_left
      exact jc
      refine one_ (i:=11) (N:=some 46) (bm_ 12 16) rfl rfl (one_of HT_.out jA) jB (fun K hK=>?_);refine goesv_ (.tmp 40) Try.func58 jA rfl #[.agg #[.string ((rd_T51 l0 x9_1).f0),.int .i64 ((rd_T51 l0 x9_1).f1)],.agg #[.string a1_0,.int .i64 a1_1]] (by rfl) rfl rfl (by rfl) jG ?_
      with_reducible refine (Fi.calls k1  ((rd_T51 l0 x9_1).f0) ((rd_T51 l0 x9_1).f1) a1_0 a1_1 t480 _ A18.out).mono ?_
      rintro e w20 ⟨rfl,hb⟩;refine ⟨_,rfl,?_⟩;replace BK476:=zh (cD BK476.out jAC hb);replace HB:=zh (zC jn hb);(try clear hb);(try clear hb2);(try clear hk);(try clear hi);refine hK.out _ _ ⟨(zz BK476.out 0).trans rfl,(zz BK476.out 1).trans rfl,((HB.out.cell (zl w _ hw479_0)).trans hw479_0),((HB.out.cell (zl w _ hw479_1)).trans hw479_1)⟩ (fun hHeld=>?_);clear hK K;refine norm_ (a':=?_) ?_ ?_;rotate_left
      ·
       show Act.put _ (some 46) _=_
       simp only [Act.put,zi,zj,zk,zG,zH]
       rfl
      refine pure_ (i:=12) (N:=some 47) (v:=?_) (a':=?_) (bm_ 13 16) rfl rfl (any_of HT_.out jA) (fun _ _ _ h=>h) (Or.inl ⟨by rfl,?_⟩) ?_ ?_;rotate_left;exact jb;rotate_left;exact jc
      refine pure_ (i:=13) (N:=some 48) (v:=?_) (a':=?_) (bm_ 14 16) rfl rfl (any_of HT_.out jA) (fun _ _ _ h=>h) (Or.inl ⟨by rfl,?_⟩) ?_ ?_;rotate_left;exact jb;rotate_left;exact jc
      refine pure_ (i:=14) (N:=some 6) (v:=?_) (a':=?_) (bm_ 15 16) rfl rfl (any_of HT_.out jA) (fun _ _ _ h=>h) (Or.inl ⟨by rfl,?_⟩) ?_ ?_;rotate_left;exact jb;rotate_left;exact jc
      refine pure_ (i:=15) (N:=some 7) (v:=?_) (a':=?_) (bm_ 16 16) rfl rfl (any_of HT_.out jA) (fun _ _ _ h=>h) (Or.inl ⟨by rfl,?_⟩) ?_ ?_;rotate_left;exact jb;rotate_left;exact jc
      refine done_ (done_of HT_.out jA) ?_
      try go_wp2
      go_ret2
      exact ⟨jH,jn⟩
     rw [if_neg c17] at H;exact absurd H (by simp)
    rw [if_neg c16] at H;exact absurd H (by simp)
   rw [if_neg c15] at H;have c15b0 : decide (x9_1<(l0.length : Int))=false:=decide_eq_false c15;clear c15;simp only [Option.some.injEq,Prod.mk.injEq] at H;obtain ⟨rfl,rfl⟩:=H
   try go_wp2
   replace BK476:=zh (zf BK476.out);replace HB:=zh (zc HB.out);refine start_ (n:=16) (S:=fun w' => True) (ds:=[]) (bm_ 0 16) jA rfl rfl trivial (fun hHeld=>?_);refine with_tabW F6.tab8 F6.bits8 (fun HT_ HW_=>?_);generalize wr.drew=w21 at BK476 HB hHeld ⊢;refine pure_ (i:=0) (N:=some 35) (v:=?_) (a':=?_) (bm_ 1 16) rfl rfl (any_of HT_.out jA) (fun _ _ _ h=>h) (Or.inl ⟨by rfl,?_⟩) ?_ ?_;rotate_left;exact jb;rotate_left;exact jc
   refine pure_ (i:=1) (N:=some 36) (v:=?_) (a':=?_) (bm_ 2 16) rfl rfl (any_of HT_.out jA) (fun _ _ _ h=>h) (Or.inl ⟨by rfl,?_⟩) ?_ ?_;rotate_left;exact jb;rotate_left;exact jc
   refine pure_ (i:=2) (N:=some 37) (v:=?_) (a':=?_) (bm_ 3 16) rfl rfl (any_of HT_.out jA) (fun _ _ _ h=>h) (Or.inl ⟨by rfl,?_⟩) ?_ ?_;rotate_left;exact jb;rotate_left;exact jc
   refine pure_ (i:=3) (N:=some 38) (v:=?_) (a':=?_) (bm_ 4 16) rfl rfl (any_of HT_.out jA) (fun _ _ _ h=>h) (Or.inl ⟨by rfl,?_⟩) ?_ ?_;rotate_left;exact jb;rotate_left;exact jc
   refine pure_ (i:=4) (N:=some 39) (v:=?_) (a':=?_) (bm_ 5 16) rfl rfl (any_of HT_.out jA) (fun _ _ _ h=>h) (Or.inl ⟨by rfl,?_⟩) ?_ ?_;rotate_left;exact jb;rotate_left;exact jc
   refine pure_ (i:=5) (N:=some 40) (v:=undef) (a':=?_) (bm_ 6 16) rfl rfl (any_of HT_.out jA) (fun _ _ _ h=>h) (Or.inr ⟨by rfl,rfl⟩) ?_ ?_;rotate_left
   exact jc
   refine pure_ (i:=6) (N:=some 41) (v:=undef) (a':=?_) (bm_ 7 16) rfl rfl (any_of HT_.out jA) (fun _ _ _ h=>h) (Or.inr ⟨by rfl,rfl⟩) ?_ ?_;rotate_left
   exact jc
   refine pure_ (i:=7) (N:=some 42) (v:=undef) (a':=?_) (bm_ 8 16) rfl rfl (any_of HT_.out jA) (fun _ _ _ h=>h) (Or.inr ⟨by rfl,rfl⟩) ?_ ?_;rotate_left
   exact jc
   refine pure_ (i:=8) (N:=some 43) (v:=undef) (a':=?_) (bm_ 9 16) rfl rfl (any_of HT_.out jA) (fun _ _ _ h=>h) (Or.inr ⟨by rfl,rfl⟩) ?_ ?_;rotate_left
   exact jc
   refine pure_ (i:=9) (N:=some 44) (v:=undef) (a':=?_) (bm_ 10 16) rfl rfl (any_of HT_.out jA) (fun _ _ _ h=>h) (Or.inr ⟨by rfl,rfl⟩) ?_ ?_;rotate_left
   exact jc
   refine pure_ (i:=10) (N:=some 45) (v:=undef) (a':=?_) (bm_ 11 16) rfl rfl (any_of HT_.out jA) (fun _ _ _ h=>h) (Or.inr ⟨by rfl,rfl⟩) ?_ ?_;rotate_left
   exact jc
   refine pure_ (i:=11) (N:=some 46) (v:=undef) (a':=?_) (bm_ 12 16) rfl rfl (any_of HT_.out jA) (fun _ _ _ h=>h) (Or.inr ⟨by rfl,rfl⟩) ?_ ?_;rotate_left
   exact jc
   refine pure_ (i:=12) (N:=some 47) (v:=undef) (a':=?_) (bm_ 13 16) rfl rfl (any_of HT_.out jA) (fun _ _ _ h=>h) (Or.inr ⟨by rfl,rfl⟩) ?_ ?_;rotate_left
   exact jc
   refine pure_ (i:=13) (N:=some 48) (v:=?_) (a':=?_) (bm_ 14 16) rfl rfl (any_of HT_.out jA) (fun _ _ _ h=>h) (Or.inl ⟨by rfl,?_⟩) ?_ ?_;rotate_left;exact jb;rotate_left;exact jc
   refine pure_ (i:=14) (N:=some 6) (v:=?_) (a':=?_) (bm_ 15 16) rfl rfl (any_of HT_.out jA) (fun _ _ _ h=>h) (Or.inl ⟨by rfl,?_⟩) ?_ ?_;rotate_left;exact jb;rotate_left;exact jc
   refine pure_ (i:=15) (N:=some 7) (v:=?_) (a':=?_) (bm_ 16 16) rfl rfl (any_of HT_.out jA) (fun _ _ _ h=>h) (Or.inl ⟨by rfl,?_⟩) ?_ ?_;rotate_left;exact jb;rotate_left;exact jc
   refine done_ (done_of HT_.out jA) ?_
   try go_wp2
   go_ret2
   exact ⟨jH,jn⟩


def F00.f (k : Nat) (l0_0 : List (S67)) (a0_1 : Int) (a1_0 : ByteArray) (a1_1 : Int) : Option (Int×Int×Bool):=(Fc.f k l0_0 a0_1 a1_0 a1_1).bind fun t483=>(if 0≤t483 then (if t483<(l0_0.length : Int) then ((F6.f k ((rd_T67 l0_0 t483).f1) a1_0 a1_1).bind fun bt485=>(some (t483,bt485.1,bt485.2))) else (none)) else (none))
theorem F00.mono : ∀ a0 a1 a2 a3 k,LeO (F00.f k a0 a1 a2 a3) (F00.f (k+1) a0 a1 a2 a3):=by
 intro a0 a1 a2 a3 k;unfold F00.f
 repeat' first|(with_reducible first|exact Fc.mono _ _ _ _ _|exact F6.mono _ _ _ _|exact zQ _|exact zN _|refine zP ?_ ?_|refine zO ?_ (fun _=>?_))|refine zP ?_ ?_|refine zO ?_ (fun _=>?_)
def F00.T2 : Bool×List (List Nat×List Nat):=(true,[([],[]),([0],[0]),([],[]),([1,2],[1,2]),([3],[3]),([4],[4]),([],[]),([5,6],[5,6]),([7],[7]),([8],[8]),([8],[8]),([9,7,0,1,2,3,4,5,6,7,8,9],[9]),([10,11,0,1,2,3,4,5,6,7,8,9,10,11],[10])])
def F00.B2 : List Nat:=[0,1,0,7,15,31,0,127,255,511,511,1023,4095]
theorem F00.tab2 : rtab .any (opsOf Try.f62 2)=F00.T2:=by kernel_rfl
theorem F00.bits2 : waitsOk F00.T2.2 F00.B2=true:=by kernel_rfl
set_option maxHeartbeats 8000000 in
set_option maxRecDepth 100000 in
theorem F00.calls (k : Nat) (A0_0 : Option Addr) (c0_0 : Nat) (l0_0 : List (S67)) (a0_1 : Int) (a1_0 : ByteArray) (a1_1 : Int) (r1 : Int) (r2 : Int) (r3 : Bool) (w : World) (hr0_0 : Kd.C k67 w A0_0 l0_0.length l0_0) (hc0_0 : l0_0.length≤c0_0) (h : F00.f k l0_0 a0_1 a1_0 a1_1=some (r1,r2,r3)) :
  Calls Try.prog 62 #[.agg #[.slice A0_0 l0_0.length c0_0,.int .i64 a0_1],.agg #[.string a1_0,.int .i64 a1_1]] w fun e w' => e = .returned (.tuple #[.int .i64 r1,.int .i64 r2,.bool r3])∧Below w.heap.size w w':=by
 have hu35:=Try.underlying35;have hu51:=Try.underlying51;have HR0_0:=zh hr0_0;have HC0_0:=zh hc0_0;clear hr0_0 hc0_0;have HB:=zh (Below.refl w.heap.size w);have H : ((Fc.f k l0_0 a0_1 a1_0 a1_1).bind fun t483=>(if 0≤t483 then (if t483<(l0_0.length : Int) then ((F6.f k ((rd_T67 l0_0 t483).f1) a1_0 a1_1).bind fun bt485=>(some (t483,bt485.1,bt485.2))) else (none)) else (none)))=some (r1,r2,r3):=h;clear h;replace H:=zT.mp H;obtain ⟨t483,A30,H⟩:=H;have A3:=zh A30;clear A30
 by_cases c4 : 0≤t483
 ·
  rw [if_pos c4] at H
  have c4b0 : decide (0≤t483)=true:=decide_eq_true c4;clear c4
  by_cases c5 : t483<(l0_0.length : Int)
  ·
   rw [if_pos c5] at H
   have c5b0 : decide (t483<(l0_0.length : Int))=true:=decide_eq_true c5;clear c5;replace H:=zT.mp H;obtain ⟨⟨t485,t486⟩,A60,H⟩:=H;have A6:=zh A60;clear A60;simp only [Option.some.injEq,Prod.mk.injEq] at H;obtain ⟨rfl,rfl,rfl⟩:=H
   go_enter Try.func62,Try.ntmps62
   try go_wp2_with (first|((with_reducible refine zK (N:=2) rfl ?_);refine zI ?hg (N:=2) ?hd (cs:=#[.slice A0_0 l0_0.length c0_0,.int .i64 a0_1]) (t:=35) ?hr ?_;(case hd=>rfl);(case hg=>rfl);(case hr=>go_simp <;> rfl);intro gb481 hg w7 hbox hb;have BK481:=zh (hbox);have hH_:=cH jF hb hg;have GW481:=zh hH_.1;have GE481:=GW481;replace HB:=zh hH_.2;clear hb hbox hg hH_)|((with_reducible refine zK (N:=3) rfl ?_);refine zI ?hg (N:=3) ?hd (cs:=#[.string a1_0,.int .i64 a1_1]) (t:=51) ?hr ?_;(case hd=>rfl);(case hg=>rfl);(case hr=>go_simp <;> rfl);intro gb482 hg w8 hbox hb;have BK482:=zh (hbox);have hH_:=cH (by repeat (with_reducible first|exact HB.out|apply za|apply zb|apply zc|refine zd ?_ GE481.out)) hb hg;have GW482:=zh hH_.1;have GE482:=GW482;replace HB:=zh hH_.2;have NB481_482:=zh ((by rw [hg];exact yc (yi (g:=gb481) (o:=.cells #[.slice A0_0 l0_0.length c0_0,.int .i64 a0_1] 35 (0,0)) jAn) : gb481≠gb482));have NB482_481:=zh NB481_482.out.symm;replace BK481:=zh (cD BK481.out jAn hb);clear hb hbox hg hH_;have hnb9:=NB481_482.out;have hnc9:=NB482_481.out;obtain ⟨hcz10_0,hcz10_1,hfz10_0,hfz10_1⟩:=cB2 BK481.out;obtain ⟨hcz11_0,hcz11_1,hfz11_0,hfz11_1⟩:=cB2 BK482.out)|((with_reducible refine zJ (f:=36) rfl ?_);refine yj (some 12) rfl rfl Try.func36 jA rfl #[.agg #[.slice A0_0 l0_0.length c0_0,.int .i64 a0_1],.agg #[.string a1_0,.int .i64 a1_1]] rfl jG ?_;(with_reducible refine (Fc.calls k  _ _ l0_0 a0_1 a1_0 a1_1 t483 _ ?side1 ?side2 A3.out).mono ?_);(case side1=>repeat (first|exact (Kd.C_below HR0_0.out HB.out)|(with_reducible refine Kd.C_alloc ?_ _)|(with_reducible refine Kd.C_drewN ?_ _)|(with_reducible refine Kd.C_drew ?_)));(case side2=>exact HC0_0.out);rintro e w12 ⟨rfl,hb⟩;refine ⟨_,rfl,?_⟩;replace BK481:=zh (cD BK481.out jAn hb);replace BK482:=zh (cD BK482.out jBt hb);replace HB:=zh (zC jBK hb);(try clear hb);(try clear hb2);(try clear hk);(try clear hi)))
   replace BK481:=zh (zf BK481.out);replace BK482:=zh (zf BK482.out);replace HB:=zh (zc HB.out);have p484 : 0≤(t483 : Int):=zy jC;have q484 : t483<(l0_0.length : Int):=zy jC;obtain ⟨ad484,A484_1,c484_1,e484,hx484_0,hx484_1,hl484_1,hi484_1⟩:=at_T67 HR0_0.out t483 p484 q484;have hw484_1:=hx484_1;have hw484_0:=hx484_0
   cases e484
   replace hx484_0:=(HB.out.cell (zl w _ hx484_0)).trans hx484_0;replace hx484_1:=(HB.out.cell (zl w _ hx484_1)).trans hx484_1;have HR484_1:=zh hi484_1;have HC484_1:=zh hl484_1;clear hi484_1 hl484_1;replace p484:=eq_true p484;replace q484:=eq_true q484;refine start_ (n:=13) (S:=fun w' => w'.cell? ⟨gb481,0,none⟩=some (.slice (some ad484) l0_0.length c0_0)∧w'.cell? ⟨gb481,1,none⟩=some (.int .i64 a0_1)∧w'.cell? ⟨gb482,0,none⟩=some (.string a1_0)∧w'.cell? ⟨gb482,1,none⟩=some (.int .i64 a1_1)∧w'.cell? (ad484.add ((t483).toNat*2))=some (.int .i64 ((rd_T67 l0_0 t483).f0))∧w'.cell? ⟨(ad484.add ((t483).toNat*2)).block,(ad484.add ((t483).toNat*2)).off+1,none⟩=some (.slice A484_1 ((rd_T67 l0_0 t483).f1).length c484_1)) (ds:=[]) (bm_ 0 13) jA rfl rfl ⟨(zz BK481.out 0).trans rfl,(zz BK481.out 1).trans rfl,(zz BK482.out 0).trans rfl,(zz BK482.out 1).trans rfl,((HB.out.cell (zl w _ hw484_0)).trans hw484_0),((HB.out.cell (zl w _ hw484_1)).trans hw484_1)⟩ (fun hHeld=>?_);refine with_tabW F00.tab2 F00.bits2 (fun HT_ HW_=>?_);generalize w12.drew=w13 at BK481 BK482 HB HR484_1 hx484_0 hx484_1 hHeld ⊢;refine pure_ (i:=0) (N:=some 14) (v:=?_) (a':=?_) (bm_ 1 13) rfl rfl (any_of HT_.out jA) (fun _ _ _ h=>h) (Or.inl ⟨by rfl,?_⟩) ?_ ?_;rotate_left;exact jb;rotate_left;exact jc
   refine pure_ (i:=2) (N:=some 16) (v:=?_) (a':=?_) #[true,false,true,false,false,false,false,false,false,false,false,false,false] rfl rfl (any_of HT_.out jA) (fun _ _ _ h=>h) (Or.inl ⟨by rfl,?_⟩) ?_ ?_;rotate_left;exact jb;rotate_left;exact jc
   refine take_ (i:=1) (N:=some 15) (v:=?_) (a':=?_) (bm_ 3 13) rfl rfl (yo HT_.out HW_.out jA) (fun _ _ _ h=>h) (Or.inl ⟨by rfl,?_⟩) hHeld ?_ ?_;rotate_left
   ·
    rintro w' ⟨s0,s1,s2,s3,s4,s5⟩
    go_simp
    with_reducible rfl
   rotate_left
   exact jc
   refine pure_ (i:=3) (N:=some 17) (v:=?_) (a':=?_) (bm_ 4 13) rfl rfl (any_of HT_.out jA) (fun _ _ _ h=>h) (Or.inl ⟨by rfl,?_⟩) ?_ ?_;rotate_left;exact jb;rotate_left;exact jc
   refine pure_ (i:=4) (N:=some 18) (v:=?_) (a':=?_) (bm_ 5 13) rfl rfl (any_of HT_.out jA) (fun _ _ _ h=>h) (Or.inl ⟨by rfl,?_⟩) ?_ ?_;rotate_left;exact jb;rotate_left;exact jc
   refine take_ (i:=5) (N:=some 19) (v:=?_) (a':=?_) (bm_ 6 13) rfl rfl (yo HT_.out HW_.out jA) (fun _ _ _ h=>h) (Or.inl ⟨by rfl,?_⟩) hHeld ?_ ?_;rotate_left
   ·
    rintro w' ⟨s0,s1,s2,s3,s4,s5⟩
    go_simp
    with_reducible rfl
   rotate_left
   exact jc
   refine take_ (i:=6) (N:=some 20) (v:=?_) (a':=?_) (bm_ 7 13) rfl rfl (yo HT_.out HW_.out jA) (fun _ _ _ h=>h) (Or.inl ⟨by rfl,?_⟩) hHeld ?_ ?_;rotate_left
   ·
    rintro w' ⟨s0,s1,s2,s3,s4,s5⟩
    go_simp
    with_reducible rfl
   rotate_left
   exact jc
   refine one_ (i:=7) (N:=some 21) (bm_ 8 13) rfl rfl (one_of HT_.out jA) jB (fun K hK=>?_);refine goes_ Try.func73 jA rfl #[.slice A484_1 ((rd_T67 l0_0 t483).f1).length c484_1,.agg #[.string a1_0,.int .i64 a1_1],.func (.func 58) #[] #[]] (by rfl) rfl rfl jG ?_
   with_reducible refine (F6.calls k  _ _ ((rd_T67 l0_0 t483).f1) a1_0 a1_1  t485 t486 _ ?side1 ?side2 A6.out).mono ?_
   (case side1=>repeat (first|exact (Kd.C_below HR484_1.out HB.out)|(with_reducible refine Kd.C_alloc ?_ _)|(with_reducible refine Kd.C_drewN ?_ _)|(with_reducible refine Kd.C_drew ?_)))
   (case side2=>exact HC484_1.out)
   rintro e w14 ⟨rfl,hb⟩;refine ⟨_,rfl,?_⟩;replace BK481:=zh (cD BK481.out jAn hb);replace BK482:=zh (cD BK482.out jBt hb);replace HB:=zh (zC jBK hb);(try clear hb);(try clear hb2);(try clear hk);(try clear hi);refine hK.out _ _ ⟨(zz BK481.out 0).trans rfl,(zz BK481.out 1).trans rfl,(zz BK482.out 0).trans rfl,(zz BK482.out 1).trans rfl,((HB.out.cell (zl w _ hw484_0)).trans hw484_0),((HB.out.cell (zl w _ hw484_1)).trans hw484_1)⟩ (fun hHeld=>?_);clear hK K;refine norm_ (a':=?_) ?_ ?_;rotate_left
   ·
    show Act.put _ (some 21) _=_
    simp only [Act.put,zi,zj,zk,zG,zH]
    rfl
   refine pure_ (i:=8) (N:=some 13) (v:=?_) (a':=?_) (bm_ 9 13) rfl rfl (any_of HT_.out jA) (fun _ _ _ h=>h) (Or.inl ⟨by rfl,?_⟩) ?_ ?_;rotate_left;exact jb;rotate_left;exact jc
   refine pure_ (i:=9) (N:=some 22) (v:=?_) (a':=?_) (bm_ 10 13) rfl rfl (any_of HT_.out jA) (fun _ _ _ h=>h) (Or.inl ⟨by rfl,?_⟩) ?_ ?_;rotate_left;exact jb;rotate_left;exact jc
   refine pure_ (i:=10) (N:=some 23) (v:=?_) (a':=?_) (bm_ 11 13) rfl rfl (any_of HT_.out jA) (fun _ _ _ h=>h) (Or.inl ⟨by rfl,?_⟩) ?_ ?_;rotate_left;exact jb;rotate_left;exact jc
   refine pure_ (i:=11) (N:=some 8) (v:=?_) (a':=?_) (bm_ 12 13) rfl rfl (any_of HT_.out jA) (fun _ _ _ h=>h) (Or.inl ⟨by rfl,?_⟩) ?_ ?_;rotate_left;exact jb;rotate_left;exact jc
   refine pure_ (i:=12) (N:=some 9) (v:=?_) (a':=?_) (bm_ 13 13) rfl rfl (any_of HT_.out jA) (fun _ _ _ h=>h) (Or.inl ⟨by rfl,?_⟩) ?_ ?_;rotate_left;exact jb;rotate_left;exact jc
   refine done_ (done_of HT_.out jA) ?_
   try go_wp2
   go_ret3
   exact ⟨jH,jBK⟩
  rw [if_neg c5] at H;exact absurd H (by simp)
 rw [if_neg c4] at H;exact absurd H (by simp)

end Go.Proofs.Ytamikhmpfmgofaa.Q
end
section
namespace Go.Proofs.Ytamikhmpfmgofaa.Q
open Go.RowKit Go.Proofs.YtamikhmpfmgofaaW.PrintWords Go.Proofs.YtamikhmpfmgofaaW.PrintLast Go.Proofs.YtamikhmpfmgofaaW.PrintMore
attribute [local go_sem] max2_int min2_int max_two min_two max_three min_three max_four min_four max2_str min2_str str_geq str_gtr str_leq
set_option linter.unusedVariables false
set_option linter.unusedSimpArgs false
set_option maxHeartbeats 4000000 in
set_option maxRecDepth 100000 in
theorem slices_Insert_entries.ins2 (ok okp : Nat→Prop) (base : Nat) (v : Value) (xs : List S51) (p : S51) (cs : List Value) (gl i : Nat) (w0 W : World) (hi : i≤xs.length)
  (HO : Kd.R k51 51 W base ok v xs) (hvb : W.heap[gl]? = some (.cells cs.toArray 51 (0,0))) (hgl : some gl≠v.ownBlock) (hp : Kd.M k51 W base okp p cs) (hKM : ∀ x c,Kd.K k51 W x c→Kd.M k51 W base okp x c) (hokp : ∀ q,okp q→ok q∧some q≠v.ownBlock) (hfresh : ∀ q,W.heap.size≤q→ok q) (HB : Below base w0 W) (hbase : base≤W.heap.size) (hl : (xs.length+1)*24≤140737488355328) :
  Calls Try.prog 65 #[v,.int .i64 i,.slice (some ⟨gl,0,none⟩) 1 1] W fun ex w' => ∃ v1,ex = .returned v1∧Kd.R k51 51 w' base ok v1 (xs.take i ++ [p]++xs.drop i)∧Below base w0 w' ∧ W.grownBy w' v.ownBlock∧(v1.ownBlock=v.ownBlock ∨ ∃ b,v1.ownBlock=some b∧W.heap.size≤b):=by
 have hcl : cs.length=2:=Kd.K_len k51 (Kd.K_of_M k51 hp);have h1c : ∀ u ∈ cs,u.oneCell' = true:=Kd.K_one k51 (Kd.K_of_M k51 hp)
 have hCone : Kd.C k51 W (some ⟨gl,0,none⟩) 1 [p] :=
  ⟨rfl,jD,fun _=>⟨_,rfl,fun j q hj=>by
   cases j with
   | succ j=>simp at hj
   | zero =>
    obtain rfl : p=q:=by simpa using hj
    refine ⟨cs,hcl,Kd.K_of_M k51 hp,fun i u hi=>?_⟩;rw [add_plain,zz hvb]
    simpa using hi⟩⟩
 by_cases hin : i=xs.length
 ·
  subst hin
  have e0 : xs.take xs.length ++ [p]++xs.drop xs.length=xs ++ [p]:=by simp
  rw [e0];obtain ⟨A,c,rfl⟩:=yk HO;have hlx : ¬ ((1 : Int)=0):=by decide
  by_cases hcn : c=xs.length
  ·
   subst hcn
   go_enter Try.func65,Try.ntmps65
   go_wp2_with (at_builtin;refine Kd.R_append_rows k51 base (by rfl) (.tmp 23) (.tmp 24) 29 51 (.agg #[(.string ⟨#[]⟩),(.int .i64 0)]) 24 rfl Try.underlying29 info51 rfl jB jB (.slice A xs.length xs.length) xs [p] (some ⟨gl,0,none⟩) 1 1 ok okp rfl rfl HO hCone hKM hokp hfresh HB hbase hl ?_;intro v1 w1 hR hb hg hat)
   go_ret
   exact ⟨v1,rfl,hR,hb,hg,hat⟩
  have hcn2 : ¬ xs.length=c:=fun h=>hcn h.symm
  go_enter Try.func65,Try.ntmps65
  go_wp2_with (at_builtin;refine Kd.R_append_rows k51 base (by rfl) (.tmp 23) (.tmp 24) 29 51 (.agg #[(.string ⟨#[]⟩),(.int .i64 0)]) 24 rfl Try.underlying29 info51 rfl jB jB (.slice A xs.length c) xs [p] (some ⟨gl,0,none⟩) 1 1 ok okp rfl rfl HO hCone hKM hokp hfresh HB hbase hl ?_;intro v1 w1 hR hb hg hat)
  go_ret
  exact ⟨v1,rfl,hR,hb,hg,hat⟩
 have hlt : i<xs.length:=by omega
 obtain ⟨hok,inner,hown,hreps⟩:=HO;obtain ⟨hil,⟨rfl,h0⟩|⟨g,cap,cur,rfl,hbg,hh,hnc,hcm,hcs,ht⟩⟩:=hown
 ·
  rw [h0] at hlt;exact absurd hlt (Nat.not_lt_zero _)
 have hsz0 : k51.sz=2:=rfl;rw [hsz0] at hil hcs ht hreps;have hglt : g<W.heap.size:=yi hh;have hh1 : W.heap[g]? = some (.cells cur 51 (0,0)):=hh;have hgo : (Value.slice (some ⟨g,0,none⟩) xs.length cap).ownBlock=some g:=by simp [Value.ownBlock]
 have hcm' : cap≤9223372036854775807:=hcm;have hnb : xs.length≤140737488355328:=by omega
 have hcells : ∀ j u,inner[j]? = some u→W.cell? ⟨g,j,none⟩=some u:=fun j u hj=>by
  rw [zz hh];rw [← ht,List.getElem?_take] at hj
  split at hj
  ·
   rw [← Array.getElem?_toList];exact hj
  cases hj
 have h1i : ∀ u ∈ inner,u.oneCell' = true:=by
  obtain ⟨A',c',he,_,hC⟩:=Kd.R_reads (d:=k51) (e:=51) (w:=W) (base:=base) (ok:=ok) (xs:=xs) (v:=.slice (some ⟨g,0,none⟩) xs.length cap) ⟨hok,inner,⟨hil,.inr ⟨g,cap,cur,rfl,hbg,hh,hnc,hcm,hcs,ht⟩⟩,hreps⟩;intro u hu;obtain ⟨q,hq,rfl⟩:=List.getElem_of_mem hu;have hq2 : q / 2<xs.length:=by rw [hil] at hq;omega
  have h3:=hreps.2 (q / 2) _ (List.getElem?_eq_getElem hq2);refine Kd.K_one k51 (Kd.K_of_M k51 h3) _ ?_;have e3 : q=q / 2*2+q % 2:=by omega
  rw [List.mem_take_iff_getElem];refine ⟨q % 2,jBu,?_⟩;rw [List.getElem_drop]
  congr 1
  omega
 have hRE : ∀ w1 v1,w1.ownsRow base 51 2 v1 (xs.take i ++ [p]++xs.drop i).length (inner.take (i*2)++cs++inner.drop (i*2))→W.grownBy w1 (some g)→(v1.ownBlock=some g ∨ ∃ b,v1.ownBlock=some b∧W.heap.size≤b)→Kd.R k51 51 w1 base ok v1 (xs.take i ++ [p]++xs.drop i):=by
  intro w1 v1 ho hg hat;refine Go.Proofs.Ytamikhmpfmgofaa.Row.R_again (v:=.slice (some ⟨g,0,none⟩) xs.length cap) hok ?_ hfresh ho (by rw [hgo];exact hg) jBv;exact Kd.reps_append (Kd.reps_append (Kd.reps_take hreps (Nat.le_of_lt hlt)) (Go.Proofs.Ytamikhmpfmgofaa.Row.reps_one (Kd.M_mono k51 (fun q hq=>hokp q hq) hp) hcl)) (Go.Proofs.Ytamikhmpfmgofaa.Row.reps_drop hreps)
 have hlen : (xs.take i ++ [p]++xs.drop i).length=xs.length+1:=by simp;omega
 have hlen2 : (inner.take (i*2)++cs++inner.drop (i*2)).length=(xs.length+1)*2:=by simp [hcl,hil];omega
 have hdl : (inner.drop (i*2)).length=(xs.length - i)*2:=by rw [zw,hil,Nat.sub_mul]
 have htl : (inner.take (i*2)).length=i*2:=by rw [zx,hil];omega
 have hsz : (Try.prog.info? 51).map (·.size)=some 2:=by have:=info51;cases hq : Try.prog.info? 51 with
  | none=>rw [hq] at this;cases this
  | some i0=>rw [hq] at this;simp at this;simp [this.2.1]
 have hw1 : IntKind.i64.wrap ((xs.length : Int)+1)=(xs.length : Int)+1:=by rw [IntKind.wrap_i64];omega
 have hw2 : IntKind.i64.wrap ((i : Int)+1)=(i : Int)+1:=by rw [IntKind.wrap_i64];omega
 have hw3 : IntKind.i64.wrap ((i : Int)+(1 : Int))=(i : Int)+1:=by rw [IntKind.wrap_i64];omega
 have hw4 : IntKind.i64.wrap ((xs.length : Int)+1 - (i : Int))=(xs.length : Int)+1 - (i : Int):=by rw [IntKind.wrap_i64];omega
 have hq1 : ¬ ((i : Int)=(xs.length : Int)):=by omega
 have hq1b : ((i : Int) == (xs.length : Int))=false:=zY.mpr hq1;have hrow1 : ∀ (C : List Value) (q : Nat) (x : List Value),q+x.length≤C.length→(C.take q++x++C.drop (q+x.length)).length=C.length:=fun C q x h=>by simp;omega
 have hu:=Try.underlying29
 have hfc : ∀ j u,cs[j]? = some u→W.cell? ⟨gl,j,none⟩=some u:=fun j u hj=>by
  rw [zz hvb];simpa using hj
 have hgv : gl≠g:=fun e=>hgl (by rw [hgo,e]);have mixed : Try.prog.follows Departure.mixedOrders=true:=by rfl
 by_cases hroom : cap<xs.length+1
 ·
  have hz3 : (cap : Int)<(xs.length : Int)+1:=by omega
  have hz3b : decide ((cap : Int)<(xs.length : Int)+1)=true:=decide_eq_true hz3
  obtain ⟨i0,hi0,hzz,hzs,hzb⟩ : ∃ i0,Try.prog.info? 51=some i0∧i0.zero=some (.agg #[(.string ⟨#[]⟩),(.int .i64 0)])∧i0.size=2∧i0.bytes=24:=by
   have:=info51
   cases hq : Try.prog.info? 51 with
   | none=>rw [hq] at this;cases this
   | some i0=>rw [hq] at this;simp at this;exact ⟨i0,rfl,this.1,this.2.1,this.2.2⟩
  obtain ⟨V,hV⟩ : ∃ V,V=W:=⟨_,rfl⟩;have hvb0:=hvb;rw [← hV] at hvb hh1 hfc ⊢;have hVs : V.heap.size=W.heap.size:=by rw [hV]
  have hcellsV : ∀ j u,inner[j]? = some u→V.cell? ⟨g,j,none⟩=some u:=fun j u hj=>by
   have:=hcells j u hj;rw [zz hh] at this;rw [zz hh1];exact this
  have hold : (Builtin.firstCells i0.size i (.slice (some ⟨g,0,none⟩) i cap)).run Try.prog V.drew = .ok (inner.take (i*2)).toArray V.drew:=by
   rw [hzs]
   exact run_firstCells_some V.drew 2 i ⟨g,0,none⟩ i cap (inner.take (i*2)) (by rw [htl]) (fun j v hj=>by
    rw [add_plain];rw [List.getElem?_take] at hj
    split at hj
    ·
     exact hcellsV j v hj
    cases hj)
  have hik : i+(xs.length+1 - i)=xs.length+1:=by omega
  have hrz : ∀ ty,(Builtin.append_ #[29,3] ty #[.slice (some ⟨g,0,none⟩) i cap,.int .i64 ((xs.length : Int)+1 - (i : Int))]).run Try.prog V =
    .ok (.slice (some ⟨V.heap.size,0,none⟩) (xs.length+1) (grownCap V (xs.length+1) cap 51)) (V.drew.alloc (.cells ((inner.take (i*2)).toArray++Builtin.zeroCells ((.agg #[(.string ⟨#[]⟩),(.int .i64 0)]) : Value).cells (xs.length+1 - i)++Builtin.zeroCells ((.agg #[(.string ⟨#[]⟩),(.int .i64 0)]) : Value).cells (grownCap V (xs.length+1) cap 51 - (xs.length+1))) 51)):=fun ty=>by
   have h:=Lib.run_append_grow_zeros V 29 3 ty 51 i0 _ .i64 .i64 hu Try.underlying3 hi0 hzz (some ⟨g,0,none⟩) i cap (inner.take (i*2)) hold (xs.length+1 - i) jD (by rw [hzs];decide) jD jD (by rw [hzb];omega) (by rw [hzb,hik];exact growslice_fits hroom hl);rw [hik,show ((xs.length+1 - i : Nat) : Int)=(xs.length : Int)+1 - (i : Int) by omega] at h;exact h
  obtain ⟨G,hG⟩ : ∃ G,G=grownCap V (xs.length+1) cap 51:=⟨_,rfl⟩;have hGn : xs.length+1≤G:=by rw [hG];exact grownCap_ge _ _ _ _
  have hGm : G≤maxLen:=by rw [hG];exact grownCap_le_maxLen _ _ _ _ (by unfold maxLen;omega)
  obtain ⟨ROW,hROW⟩ : ∃ ROW : Array Value,ROW=(inner.take (i*2)).toArray++Builtin.zeroCells ((.agg #[(.string ⟨#[]⟩),(.int .i64 0)]) : Value).cells (xs.length+1 - i)++Builtin.zeroCells ((.agg #[(.string ⟨#[]⟩),(.int .i64 0)]) : Value).cells (G - (xs.length+1)):=⟨_,rfl⟩;rw [← hG,← hROW] at hrz
  have hRs : ROW.size=G*2:=by
   rw [hROW];have hz9 : ((.agg #[(.string ⟨#[]⟩),(.int .i64 0)]) : Value).cells.size=2:=by rfl
   simp only [Array.size_append,List.size_toArray,htl,Builtin.zeroCells,Array.size_map,Array.size_range,hz9]
   omega
  have hRl : ROW.toList.length=G*2:=(Array.length_toList (xs:=ROW)).trans hRs
  have hRt : ROW.toList.take (i*2)=inner.take (i*2):=by
   rw [hROW];simp only [Array.toList_append,List.append_assoc];rw [List.take_append_of_le_length jAo,List.take_of_length_le jAo]
  clear hROW;obtain ⟨W1,hW1⟩ : ∃ W1,W1=V.drew.alloc (.cells ROW 51):=⟨_,rfl⟩;rw [← hW1] at hrz;have hN1 : W1.heap[V.heap.size]? = some (.cells ROW 51 (0,0)):=by rw [hW1];exact blk_new V.drew _
  have hvb1 : W1.heap[gl]? = some (.cells cs.toArray 51 (0,0)):=by rw [hW1];exact zg (zf hvb) _
  have hg1 : W1.heap[g]? = some (.cells cur 51 (0,0)):=by rw [hW1];exact zg (zf hh1) _
  have hB1 : Below W.heap.size W W1:=by rw [hW1,hV];exact za (below_drew (Below.refl _ _)) _
  obtain ⟨R1,hR1⟩ : ∃ R1 : List Value,R1=ROW.toList.take (i*2)++cs++ROW.toList.drop (i*2+cs.length):=⟨_,rfl⟩;have hR1l : R1.length=G*2:=by rw [hR1,hrow1 _ _ _ (by rw [hRl,hcl];omega),hRl]
  have hcp1 : ∀ ty dc,(Builtin.copy_ #[29,29] ty #[.slice (some ⟨V.heap.size,i*2,none⟩) (xs.length+1 - i) dc,.slice (some ⟨gl,0,none⟩) 1 1]).run Try.prog W1 = .ok (goInt (Nat.min 1 (xs.length+1 - i))) (W1.setRow V.heap.size R1.toArray):=fun ty dc=>by
   rw [hR1];exact Go.Proofs.Ytamikhmpfmgofaa.Row.run_copy_rowk W1 _ _ ty 51 2 V.heap.size (i*2) (xs.length+1 - i) dc ⟨gl,0,none⟩ 1 1 ROW 51 cs hu hsz hN1 (by rw [hcl];have : Nat.min 1 (xs.length+1 - i)=1:=Nat.min_eq_left jD;rw [this]) (fun j v hj=>by rw [add_plain,zz hvb1];simpa using hj) (by rw [hRs,hcl];omega) h1c
  obtain ⟨W2,hW2⟩ : ∃ W2,W2=W1.setRow V.heap.size R1.toArray:=⟨_,rfl⟩;rw [← hW2] at hcp1;have hN2 : W2.heap[V.heap.size]? = some (.cells R1.toArray 51 (0,0)):=by rw [hW2];exact setRow_heap W1 _ _ _ _ _ hN1
  have hoth2 : ∀ k,k≠V.heap.size→W2.heap[k]? = W1.heap[k]?:=fun k hk=>by rw [hW2];exact setRow_other _ _ _ _ hk
  have hg2 : W2.heap[g]? = some (.cells cur 51 (0,0)):=(hoth2 g jD).trans hg1;obtain ⟨R2,hR2⟩ : ∃ R2 : List Value,R2=R1.take ((i+1)*2)++inner.drop (i*2)++R1.drop ((i+1)*2+(inner.drop (i*2)).length):=⟨_,rfl⟩;have hR2l : R2.length=G*2:=by rw [hR2,hrow1 _ _ _ (by rw [hR1l,hdl];omega),hR1l]
  have hR2t : R2.take ((xs.length+1)*2)=inner.take (i*2)++cs++inner.drop (i*2):=by
   have e1 : R1.take ((i+1)*2)=inner.take (i*2)++cs:=by
    rw [hR1,hRt,List.take_append_of_le_length jAp,List.take_of_length_le jAp]
   rw [hR2,e1,List.take_append_of_le_length jAD,List.take_of_length_le jAD]
  have hcp2 : ∀ ty dc sc,(Builtin.copy_ #[29,29] ty #[.slice (some ⟨V.heap.size,(i+1)*2,none⟩) (xs.length+1 - (i+1)) dc,.slice (some ⟨g,i*2,none⟩) (xs.length - i) sc]).run Try.prog W2.drew = .ok (goInt (Nat.min (xs.length - i) (xs.length+1 - (i+1)))) (W2.drew.setRow V.heap.size R2.toArray):=fun ty dc sc=>by
   rw [hR2]
   have:=Go.Proofs.Ytamikhmpfmgofaa.Row.run_copy_rowk W2.drew 29 29 ty 51 2 V.heap.size ((i+1)*2) (xs.length+1 - (i+1)) dc ⟨g,i*2,none⟩ (xs.length - i) sc R1.toArray 51 (inner.drop (i*2)) hu hsz (zf hN2) (by rw [hdl];have : Nat.min (xs.length - i) (xs.length+1 - (i+1))=xs.length - i:=Nat.min_eq_left jD;rw [this]) (fun j v hj=>by
    rw [add_at,zz (zf hg2)];rw [List.getElem?_drop,← ht,List.getElem?_take] at hj
    split at hj
    ·
     rw [← Array.getElem?_toList];exact hj
    cases hj) jBw (fun u hu=>h1i u (List.mem_of_mem_drop hu))
   simpa using this
  obtain ⟨W3,hW3⟩ : ∃ W3,W3=W2.drew.setRow V.heap.size R2.toArray:=⟨_,rfl⟩;rw [← hW3] at hcp2;have hN3 : W3.heap[V.heap.size]? = some (.cells R2.toArray 51 (0,0)):=by rw [hW3];exact setRow_heap W2.drew _ _ _ _ _ (zf hN2)
  have hB3 : Below W.heap.size W W3:=by
   refine ⟨by rw [hW3,hW2];exact hB1.os,by rw [hW3,hW2];exact hB1.tape,by rw [hW3,hW2];exact hB1.output,by rw [hW3,hW2];simpa using hB1.size,fun k hk=>?_⟩;rw [hW3,setRow_other _ _ _ _ jD];show W2.heap[k]? = _;rw [hoth2 k jD];exact hB1.block k hk
  have hfin : ∃ v1,(Value.slice (some ⟨V.heap.size,0,none⟩) (xs.length+1) G)=v1∧Kd.R k51 51 W3 base ok v1 (xs.take i ++ [p]++xs.drop i)∧Below base w0 W3∧W.grownBy W3 (some g)∧(v1.ownBlock=some g ∨ ∃ b,v1.ownBlock=some b∧W.heap.size≤b):=by
   refine ⟨_,rfl,hRE W3 _ ?_ (grown_of_below hB3 _) ?_,below_then HB hbase hB3,grown_of_below hB3 _,?_⟩
   ·
    refine ⟨by rw [hlen2,hlen],.inr ⟨V.heap.size,G,R2.toArray,by rw [hlen],jD,hN3,by rw [hlen];exact hGn,hGm,jAq,jAr⟩⟩
   ·
    exact .inr ⟨V.heap.size,jo,jD⟩
   exact .inr ⟨V.heap.size,jo,jD⟩
  clear hRE hreps hW3 hW2 hW1 hR1 hR2 hold hrow1 hokp hok HB hp;rw [← hV] at hfin;clear hV hVs hG;rw [hgo];have hi0 : (0 : Int)≤(i : Int):=by omega
  have hin2 : (i : Int)≤(xs.length : Int):=by omega
  have hcn : ¬ (cap=i):=by omega
  have hGi : ¬ (G=i):=by omega
  have hGi1 : ¬ (G=i+1):=by omega
  have htn : ((i : Int)+1).toNat=i+1:=by omega
  have hb1 : (0 : Int)≤(i : Int)+1:=by omega
  have hb3 : (i : Int)≤(xs.length : Int):=by omega
  have hb4 : i≤xs.length:=hi;have hb5 : (i : Int)+1≤(xs.length : Int)+1:=by omega
  have hb6 : (i : Int)<(xs.length : Int):=by omega
  go_enter Try.func65,Try.ntmps65
  go_wp2_with (first
   | (at_builtin;refine Lib.wpList_append_run _ rfl _ _ _ _ rfl _ _ rfl rfl _ _ (hrz _) ?_)
   | (at_builtin;(refine Go.Proofs.Ytamikhmpfmgofaa.Row.copy_run rfl _ _ 29 29 rfl _ _ rfl rfl (hcp1 _ _) ?_)))
  go_region_law_o (refine Go.Proofs.Ytamikhmpfmgofaa.Row.copy_step rfl _ _ 29 29 rfl (.slice (some ⟨V.heap.size,(i+1)*2,none⟩) (xs.length+1 - (i+1)) (G - (i+1))) (.slice (some ⟨g,i*2,none⟩) (xs.length - i) (cap - i)) jT jT (hcp2 3 (G - (i+1)) (cap - i)) ?_)
  go_wp2
  go_ret
  obtain ⟨v1,rfl,h1,h2,h3,h4⟩:=hfin;exact ⟨_,rfl,h1,h2,h3,h4⟩
 have hr : xs.length+1≤cap:=by omega
 have hz3b : decide ((cap : Int)<(xs.length : Int)+1)=false:=decide_eq_false jD;have hz3 : ¬ ((cap : Int)<(xs.length : Int)+1):=by omega
 obtain ⟨V,hV⟩ : ∃ V,V=W:=⟨_,rfl⟩;have hvb0:=hvb;rw [← hV] at hvb hh1 hfc ⊢;have hVs : V.heap.size=W.heap.size:=by rw [hV]
 have hov : ∀ lb cb,(callFunc 74 #[.slice (some ⟨gl,0,none⟩) 1 1,.slice (some ⟨g,(i+1)*2,none⟩) lb cb]).run Try.prog V = .ok (.value (.bool false)) V:=fun lb cb=>by
  rw [run_callFunc_extern Try.func74 jA jA jA (e:=Extern.SlicesOverlaps.overlaps #[29,29] #[4]) jA,
   Lib.run_overlaps_apart V 29 4 51 hu 2 (fun w=>by
    cases hq : Try.prog.info? 51 with
    | none=>rw [hq] at hsz;cases hsz
    | some i0=>rw [hq] at hsz;simp at hsz;simp [sizeOf,typeInfo,hq,hsz]) ⟨gl,0,none⟩ ⟨g,(i+1)*2,none⟩ 1 1 lb cb hgv 51 51 cs.toArray.size cur.size (by simp [World.shape?,hvb]) (by simp [World.shape?,hh1]) (by rw [hcs];omega) (zA hvb 0) (zA hvb _)]
  rfl
 obtain ⟨R1,hR1⟩ : ∃ R1 : List Value,R1=cur.toList.take ((i+1)*2)++inner.drop (i*2)++cur.toList.drop ((i+1)*2+(inner.drop (i*2)).length):=⟨_,rfl⟩;have hcl2 : cur.toList.length=cap*2:=(Array.length_toList (xs:=cur)).trans hcs;have hR1l : R1.length=cap*2:=by rw [hR1,hrow1 _ _ _ (by rw [hcl2,hdl];omega),hcl2]
 have hcp1 : ∀ ty dc sc,(Builtin.copy_ #[29,29] ty #[.slice (some ⟨g,(i+1)*2,none⟩) (xs.length+1 - (i+1)) dc,.slice (some ⟨g,i*2,none⟩) (xs.length+1 - i) sc]).run Try.prog V.drew = .ok (goInt (Nat.min (xs.length+1 - i) (xs.length+1 - (i+1)))) (V.drew.setRow g R1.toArray):=fun ty dc sc=>by
  rw [hR1]
  exact Go.Proofs.Ytamikhmpfmgofaa.Row.run_copy_rowk V.drew 29 29 ty 51 2 g ((i+1)*2) (xs.length+1 - (i+1)) dc ⟨g,i*2,none⟩ (xs.length+1 - i) sc cur 51 (inner.drop (i*2)) hu hsz (zf hh1) (by rw [hdl];have : Nat.min (xs.length+1 - i) (xs.length+1 - (i+1))=xs.length - i:=(Nat.min_eq_right jD).trans jD;rw [this]) (fun j v hj=>by
   rw [add_at,zz (zf hh1)];rw [List.getElem?_drop,← ht,List.getElem?_take] at hj
   split at hj
   ·
    rw [← Array.getElem?_toList];exact hj
   cases hj) (by rw [hcs,hdl];omega) (fun u hu=>h1i u (List.mem_of_mem_drop hu))
 obtain ⟨W1,hW1⟩ : ∃ W1,W1=V.drew.setRow g R1.toArray:=⟨_,rfl⟩;rw [← hW1] at hcp1;have hg1 : W1.heap[g]? = some (.cells R1.toArray 51 (0,0)):=by rw [hW1];exact setRow_heap V.drew _ _ _ _ _ (zf hh1)
 have hoth1 : ∀ k,k≠g→W1.heap[k]? = V.heap[k]?:=fun k hk=>by rw [hW1];exact setRow_other _ _ _ _ hk
 have hvb1 : W1.heap[gl]? = some (.cells cs.toArray 51 (0,0)):=(hoth1 _ hgv).trans hvb;obtain ⟨R2,hR2⟩ : ∃ R2 : List Value,R2=R1.take (i*2)++cs++R1.drop (i*2+cs.length):=⟨_,rfl⟩;have hR2l : R2.length=cap*2:=by rw [hR2,hrow1 _ _ _ (by rw [hR1l,hcl];omega),hR1l]
 have hct : cur.toList.take (i*2)=inner.take (i*2):=by rw [← ht,List.take_take,Nat.min_eq_left jD]
 have hR2t : R2.take ((xs.length+1)*2)=inner.take (i*2)++cs++inner.drop (i*2):=by
  have e1 : R1.take (i*2)=inner.take (i*2):=by
   rw [hR1,List.append_assoc,List.take_append_of_le_length (by simp [hcl2,hcs];omega),List.take_take,Nat.min_eq_left jD,hct]
  have e2 : (R1.drop (i*2+cs.length)).take ((xs.length - i)*2)=inner.drop (i*2):=by
   have e3 : (cur.toList.take ((i+1)*2)).length=i*2+cs.length:=by rw [zx,hcl2,hcl];omega
   rw [hR1,List.append_assoc,← e3,List.drop_left,← hdl,List.take_left]
  rw [hR2,e1,List.take_append,List.take_of_length_le jAD]
  congr 1
  rw [← e2]
  congr 1
  simp [hcl,hil];omega
 have hcp2 : ∀ ty dc,(Builtin.copy_ #[29,29] ty #[.slice (some ⟨g,i*2,none⟩) (xs.length+1 - i) dc,.slice (some ⟨gl,0,none⟩) 1 1]).run Try.prog W1 = .ok (goInt (Nat.min 1 (xs.length+1 - i))) (W1.setRow g R2.toArray):=fun ty dc=>by
  rw [hR2];exact Go.Proofs.Ytamikhmpfmgofaa.Row.run_copy_rowk W1 29 29 ty 51 2 g (i*2) (xs.length+1 - i) dc ⟨gl,0,none⟩ 1 1 R1.toArray 51 cs hu hsz hg1 (by rw [hcl];have : Nat.min 1 (xs.length+1 - i)=1:=Nat.min_eq_left jD;rw [this]) (fun j v hj=>by rw [add_plain,zz hvb1];simpa using hj) jBx h1c
 obtain ⟨W2,hW2⟩ : ∃ W2,W2=W1.setRow g R2.toArray:=⟨_,rfl⟩;rw [← hW2] at hcp2;have hg2 : W2.heap[g]? = some (.cells R2.toArray 51 (0,0)):=by rw [hW2];exact setRow_heap W1 _ _ _ _ _ hg1
 have hgr : W.grownBy W2 (some g):=by
  have hsz2 : W2.heap.size=W.heap.size:=by rw [hW2,hW1];simp only [setRow_size];exact hVs
  refine ⟨jAE,jAE,jAE,by rw [hsz2];omega,fun k hk hkg=>?_⟩;have hkg' : k≠g:=fun e=>hkg (by rw [e]);rw [hW2,setRow_other _ _ _ _ hkg',hoth1 k hkg',hV]
 have hfin : ∃ v1,(Value.slice (some ⟨g,0,none⟩) (xs.length+1) cap)=v1∧Kd.R k51 51 W2 base ok v1 (xs.take i ++ [p]++xs.drop i)∧Below base w0 W2∧W.grownBy W2 (some g)∧(v1.ownBlock=some g ∨ ∃ b,v1.ownBlock=some b∧W.heap.size≤b):=by
  refine ⟨_,rfl,hRE W2 _ ?_ hgr (.inl jo),pw_below_grown HB (some g) hbase hgr (fun k hk=>by injection hk with hk;omega),hgr,.inl jo⟩;refine ⟨by rw [hlen2,hlen],.inr ⟨g,cap,R2.toArray,by rw [hlen],hbg,hg2,by rw [hlen];exact hr,hcm,jAq,jAr⟩⟩
 clear hRE hreps hW2 hW1 hR1 hR2 hrow1 hokp hok HB hp hgr;rw [← hV] at hfin;clear hV hVs;rw [hgo];have hi0 : (0 : Int)≤(i : Int):=by omega
 have hin2 : (i : Int)≤(xs.length : Int):=by omega
 have hcn : ¬ (cap=i):=by omega
 have hcn1 : ¬ (cap=i+1):=by omega
 have htn : ((i : Int)+1).toNat=i+1:=by omega
 have htn2 : ((xs.length : Int)+1).toNat=xs.length+1:=by omega
 have hb0 : (0 : Int)≤(xs.length : Int)+1:=by omega
 have hb1 : (0 : Int)≤(i : Int)+1:=by omega
 have hb5 : (i : Int)+1≤(xs.length : Int)+1:=by omega
 have hb6 : (i : Int)<(xs.length : Int):=by omega
 have hb7 : (xs.length : Int)+1≤(cap : Int):=by omega
 have hb8 : (i : Int)≤(xs.length : Int)+1:=by omega
 go_enter Try.func65,Try.ntmps65
 go_wp2_with (simp only [hov])
 go_region_law_o (refine Go.Proofs.Ytamikhmpfmgofaa.Row.copy_step rfl _ _ 29 29 rfl (.slice (some ⟨g,(i+1)*2,none⟩) (xs.length+1 - (i+1)) (cap - (i+1))) (.slice (some ⟨g,i*2,none⟩) (xs.length+1 - i) (cap - i)) jT jT (hcp1 3 (cap - (i+1)) (cap - i)) ?_)
 go_wp2_with (at_builtin;(refine Go.Proofs.Ytamikhmpfmgofaa.Row.copy_run rfl _ _ 29 29 rfl _ _ rfl rfl (hcp2 _ _) ?_))
 go_ret
 obtain ⟨v1,rfl,h1,h2,h3,h4⟩:=hfin;exact ⟨_,rfl,h1,h2,h3,h4⟩

end Go.Proofs.Ytamikhmpfmgofaa.Q
end

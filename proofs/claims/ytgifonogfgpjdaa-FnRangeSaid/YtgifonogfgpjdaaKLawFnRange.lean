/- FnRange: for all arguments the law answers true, and they read behind the call as they read before. No condition. -/
import Derived.Test.YtgifonogfgpjdaaKLawFnRangep26
import Derived.ProofKit
import Derived.OpenShut
import Derived.ShutString
import Derived.ChangeOld
import Derived.SizedLaws
import Derived.Deep.Slices
import Derived.Lib.SmallJoins
import Derived.Test.YtgifonogfgpjdaaRows
import Derived.Carry
section
namespace Go.Proofs.Ytgifonogfgpjdaa.Q
open Go.RowKit Go.Proofs.YtgifonogfgpjdaaW.PrintWords Go.Proofs.YtgifonogfgpjdaaW.PrintLast Go.Proofs.YtgifonogfgpjdaaW.PrintMore
attribute [local go_sem] max2_int min2_int max_two min_two max_three min_three max_four min_four max2_str min2_str str_geq str_gtr str_leq   -- for this text's walks alone
set_option linter.unusedVariables false
set_option linter.unusedSimpArgs false

attribute [local go_sem high] eqA28
attribute [local go_sem] Instr.field asAgg
mutual
def F0.j0 : Nat→List Int→List Int→Bool→Option (Bool)
 | 0,_,_,_=>none
 | k+1,x0,x1,x29=>if x29=true then (some true) else ((Fw.f k x0).bind fun bt428=>((Fz.f x1).bind fun bt433=>((some (([4] : List Int) : List Int)).bind fun y435=>(if y435.length+x1.length<140737488355328 then ((Fz.f (y435++x1)).bind fun bt441=>((F02.f x1 0 3).bind fun t443=>((F7.f k bt428.1 bt428.2 bt433.1 bt441.1 (t443 == 0)).bind fun bt445=>((Fo.f k bt428.1 bt428.2 bt433.1 bt441.1 (t443 == 0)).bind fun bt452=>((F7.f k bt428.1 bt428.2 (⟨#[]⟩ : ByteArray) (⟨#[]⟩ : ByteArray) true).bind fun bt459=>(if bt445.2.2=0 then ((Ff.f k bt445.1 bt452.1).bind fun t466=>(if t466=true then ((Fe.f k bt445.2.1 bt452.2.1).bind fun t467=>(if t467=true then (F0.j1 k bt445.1 bt445.2.1 bt459.1 (bt459.2.2 != 0) bt428.1 bt428.2 bt433.1 bt441.1 (t443 == 0)) else (F0.j1 k bt445.1 bt445.2.1 bt459.1 true bt428.1 bt428.2 bt433.1 bt441.1 (t443 == 0)))) else (F0.j1 k bt445.1 bt445.2.1 bt459.1 true bt428.1 bt428.2 bt433.1 bt441.1 (t443 == 0)))) else (F0.j1 k bt445.1 bt445.2.1 bt459.1 true bt428.1 bt428.2 bt433.1 bt441.1 (t443 == 0)))))))) else (none)))))
def F0.j1 : Nat→List (S28)→List Int→List (S28)→Bool→List (S60)→Int→ByteArray→ByteArray→Bool→Option (Bool)
 | 0,_,_,_,_,_,_,_,_,_=>none
 | k+1,x7,x8,x13,x82,x433000,x433001,x445000,x445001,x445002=>if x82=true then (some false) else (F0.l0 k x7 x8 x13 0 0 x433000 x433001 x445000 x445001 x445002)
def F0.l0 : Nat→List (S28)→List Int→List (S28)→Int→Int→List (S60)→Int→ByteArray→ByteArray→Bool→Option (Bool)
 | 0,_,_,_,_,_,_,_,_,_,_=>none
 | k+1,x7,x8,x13,x16,x17,x433000,x433001,x445000,x445001,x445002=>if x17<(x13.length : Int) then (if 0≤x17 then ((Fv.f k x445000 x445001 x445002 ((rd_T28 x13 x17).f0)).bind fun t469=>(if t469=true then (if x16 ≥ (x7.length : Int) then (F0.j3 k x7 x8 x13 x16 x17 true x433000 x433001 x445000 x445001 x445002) else (if 0≤x16 then (if x16<(x7.length : Int) then (F0.j3 k x7 x8 x13 x16 x17 (!((((rd_T28 x7 x16).f0).toList) == (((rd_T28 x13 x17).f0).toList)) || (!(((rd_T28 x7 x16).f1) == ((rd_T28 x13 x17).f1)))) x433000 x433001 x445000 x445001 x445002) else (none)) else (none))) else (F0.l0 k x7 x8 x13 x16 (wrap64 (x17+1)) x433000 x433001 x445000 x445001 x445002))) else (none)) else (some (x16 == (x7.length : Int)))
def F0.j3 : Nat→List (S28)→List Int→List (S28)→Int→Int→Bool→List (S60)→Int→ByteArray→ByteArray→Bool→Option (Bool)
 | 0,_,_,_,_,_,_,_,_,_,_,_=>none
 | k+1,x7,x8,x13,x16,x17,x111,x433000,x433001,x445000,x445001,x445002=>if x111=true then (some false) else (if 0≤x17 then (if x17<(x13.length : Int) then ((Fn.f k x433000 x433001 ((rd_T28 x13 x17).f0) ((rd_T28 x13 x17).f1)).bind fun bt473=>(F0.l1 k x7 x8 x13 (wrap64 (x16+1)) x17 bt473.1 bt473.2 false 0 x433000 x433001 x445000 x445001 x445002)) else (none)) else (none))
def F0.l1 : Nat→List (S28)→List Int→List (S28)→Int→Int→Int→Int→Bool→Int→List (S60)→Int→ByteArray→ByteArray→Bool→Option (Bool)
 | 0,_,_,_,_,_,_,_,_,_,_,_,_,_,_=>none
 | k+1,x7,x8,x13,x16,x17,x18,x19,x20,x21,x433000,x433001,x445000,x445001,x445002=>if x21<(x8.length : Int) then (if x20=true then (F0.l1 k x7 x8 x13 x16 x17 x18 x19 true (wrap64 (x21+1)) x433000 x433001 x445000 x445001 x445002) else (if 0≤x21 then (F0.l1 k x7 x8 x13 x16 x17 x18 x19 ((rd x8 x21) == x18) (wrap64 (x21+1)) x433000 x433001 x445000 x445001 x445002) else (none))) else (if x19=0 then (if x20=true then (F0.l0 k x7 x8 x13 x16 (wrap64 (x17+1)) x433000 x433001 x445000 x445001 x445002) else (some false)) else (some false))
end
def F0.f (k : Nat) (l0 : List Int) (l1 : List Int) : Option (Bool):=if (l0.length : Int) > 1048576 then (F0.j0 k l0 l1 true) else (F0.j0 k l0 l1 (decide ((l1.length : Int) > 1048576)))
theorem F0.mono_l : ∀ k,(∀ y0 y1 y2,LeO (F0.j0 k y0 y1 y2) (F0.j0 (k+1) y0 y1 y2))∧(∀ y0 y1 y2 y3 y4 y5 y6 y7 y8,LeO (F0.j1 k y0 y1 y2 y3 y4 y5 y6 y7 y8) (F0.j1 (k+1) y0 y1 y2 y3 y4 y5 y6 y7 y8))∧(∀ y0 y1 y2 y3 y4 y5 y6 y7 y8 y9,LeO (F0.l0 k y0 y1 y2 y3 y4 y5 y6 y7 y8 y9) (F0.l0 (k+1) y0 y1 y2 y3 y4 y5 y6 y7 y8 y9))∧(∀ y0 y1 y2 y3 y4 y5 y6 y7 y8 y9 y10,LeO (F0.j3 k y0 y1 y2 y3 y4 y5 y6 y7 y8 y9 y10) (F0.j3 (k+1) y0 y1 y2 y3 y4 y5 y6 y7 y8 y9 y10))∧(∀ y0 y1 y2 y3 y4 y5 y6 y7 y8 y9 y10 y11 y12 y13,LeO (F0.l1 k y0 y1 y2 y3 y4 y5 y6 y7 y8 y9 y10 y11 y12 y13) (F0.l1 (k+1) y0 y1 y2 y3 y4 y5 y6 y7 y8 y9 y10 y11 y12 y13))
 | 0=>⟨fun _ _ _ r h=>by simp [F0.j0] at h,fun _ _ _ _ _ _ _ _ _ r h=>by simp [F0.j1] at h,fun _ _ _ _ _ _ _ _ _ _ r h=>by simp [F0.l0] at h,fun _ _ _ _ _ _ _ _ _ _ _ r h=>by simp [F0.j3] at h,fun _ _ _ _ _ _ _ _ _ _ _ _ _ _ r h=>by simp [F0.l1] at h⟩
 | k+1=>by
  obtain ⟨ih0,ih1,ih2,ih3,ih4⟩:=F0.mono_l k;refine ⟨?_,?_,?_,?_,?_⟩
  ·
   intro y0 y1 y2
   unfold F0.j0
   repeat' first|(with_reducible first|exact ih0 _ _ _|exact ih1 _ _ _ _ _ _ _ _ _|exact ih2 _ _ _ _ _ _ _ _ _ _|exact ih3 _ _ _ _ _ _ _ _ _ _ _|exact ih4 _ _ _ _ _ _ _ _ _ _ _ _ _ _|exact Fw.mono _ _|exact F7.mono _ _ _ _ _ _|exact Fo.mono _ _ _ _ _ _|exact Ff.mono _ _ _|exact Fe.mono _ _ _|exact Fv.mono _ _ _ _ _|exact Fn.mono _ _ _ _ _|exact zQ _|exact zN _|refine zP ?_ ?_|refine zO ?_ (fun _=>?_))|refine zP ?_ ?_|refine zO ?_ (fun _=>?_)
  ·
   intro y0 y1 y2 y3 y4 y5 y6 y7 y8
   unfold F0.j1
   repeat' first|(with_reducible first|exact ih0 _ _ _|exact ih1 _ _ _ _ _ _ _ _ _|exact ih2 _ _ _ _ _ _ _ _ _ _|exact ih3 _ _ _ _ _ _ _ _ _ _ _|exact ih4 _ _ _ _ _ _ _ _ _ _ _ _ _ _|exact Fw.mono _ _|exact F7.mono _ _ _ _ _ _|exact Fo.mono _ _ _ _ _ _|exact Ff.mono _ _ _|exact Fe.mono _ _ _|exact Fv.mono _ _ _ _ _|exact Fn.mono _ _ _ _ _|exact zQ _|exact zN _|refine zP ?_ ?_|refine zO ?_ (fun _=>?_))|refine zP ?_ ?_|refine zO ?_ (fun _=>?_)
  ·
   intro y0 y1 y2 y3 y4 y5 y6 y7 y8 y9
   unfold F0.l0
   repeat' first|(with_reducible first|exact ih0 _ _ _|exact ih1 _ _ _ _ _ _ _ _ _|exact ih2 _ _ _ _ _ _ _ _ _ _|exact ih3 _ _ _ _ _ _ _ _ _ _ _|exact ih4 _ _ _ _ _ _ _ _ _ _ _ _ _ _|exact Fw.mono _ _|exact F7.mono _ _ _ _ _ _|exact Fo.mono _ _ _ _ _ _|exact Ff.mono _ _ _|exact Fe.mono _ _ _|exact Fv.mono _ _ _ _ _|exact Fn.mono _ _ _ _ _|exact zQ _|exact zN _|refine zP ?_ ?_|refine zO ?_ (fun _=>?_))|refine zP ?_ ?_|refine zO ?_ (fun _=>?_)
  ·
   intro y0 y1 y2 y3 y4 y5 y6 y7 y8 y9 y10
   unfold F0.j3
   repeat' first|(with_reducible first|exact ih0 _ _ _|exact ih1 _ _ _ _ _ _ _ _ _|exact ih2 _ _ _ _ _ _ _ _ _ _|exact ih3 _ _ _ _ _ _ _ _ _ _ _|exact ih4 _ _ _ _ _ _ _ _ _ _ _ _ _ _|exact Fw.mono _ _|exact F7.mono _ _ _ _ _ _|exact Fo.mono _ _ _ _ _ _|exact Ff.mono _ _ _|exact Fe.mono _ _ _|exact Fv.mono _ _ _ _ _|exact Fn.mono _ _ _ _ _|exact zQ _|exact zN _|refine zP ?_ ?_|refine zO ?_ (fun _=>?_))|refine zP ?_ ?_|refine zO ?_ (fun _=>?_)
  intro y0 y1 y2 y3 y4 y5 y6 y7 y8 y9 y10 y11 y12 y13;unfold F0.l1
  repeat' first|(with_reducible first|exact ih0 _ _ _|exact ih1 _ _ _ _ _ _ _ _ _|exact ih2 _ _ _ _ _ _ _ _ _ _|exact ih3 _ _ _ _ _ _ _ _ _ _ _|exact ih4 _ _ _ _ _ _ _ _ _ _ _ _ _ _|exact Fw.mono _ _|exact F7.mono _ _ _ _ _ _|exact Fo.mono _ _ _ _ _ _|exact Ff.mono _ _ _|exact Fe.mono _ _ _|exact Fv.mono _ _ _ _ _|exact Fn.mono _ _ _ _ _|exact zQ _|exact zN _|refine zP ?_ ?_|refine zO ?_ (fun _=>?_))|refine zP ?_ ?_|refine zO ?_ (fun _=>?_)
theorem F0.mono : ∀ a0 a1 k,LeO (F0.f k a0 a1) (F0.f (k+1) a0 a1):=by
 intro a0 a1 k;obtain ⟨ih0,ih1,ih2,ih3,ih4⟩:=F0.mono_l k;unfold F0.f
 repeat' first|(with_reducible first|exact ih0 _ _ _|exact ih1 _ _ _ _ _ _ _ _ _|exact ih2 _ _ _ _ _ _ _ _ _ _|exact ih3 _ _ _ _ _ _ _ _ _ _ _|exact ih4 _ _ _ _ _ _ _ _ _ _ _ _ _ _|exact Fw.mono _ _|exact F7.mono _ _ _ _ _ _|exact Fo.mono _ _ _ _ _ _|exact Ff.mono _ _ _|exact Fe.mono _ _ _|exact Fv.mono _ _ _ _ _|exact Fn.mono _ _ _ _ _|exact zQ _|exact zN _|refine zP ?_ ?_|refine zO ?_ (fun _=>?_))|refine zP ?_ ?_|refine zO ?_ (fun _=>?_)
def F0.T14 : Bool×List (List Nat×List Nat):=(true,[([],[]),([],[]),([],[]),([1,2],[1,2]),([3],[3]),([4],[4]),([0,5],[0,5]),([6],[6])])
def F0.B14 : List Nat:=[0,0,0,6,14,30,63,127]
theorem F0.tab14 : rtab .any (opsOf Try.f3 14)=F0.T14:=by kernel_rfl
theorem F0.bits14 : waitsOk F0.T14.2 F0.B14=true:=by kernel_rfl
def F0.T15 : Bool×List (List Nat×List Nat):=(true,[([],[]),([],[]),([1],[1]),([0,2],[0,2]),([3],[3]),([4],[4]),([4],[4]),([5,6,4],[4,5,6]),([7,4],[4,7]),([4],[4]),([4],[4]),([9,10,4],[4,9,10]),([11,4],[4,11]),([8,12,4],[4,8,12]),([4,13],[4,13])])
def F0.B15 : List Nat:=[0,0,2,7,15,31,31,127,255,31,31,1567,3615,8191,16383]
theorem F0.tab15 : rtab .any (opsOf Try.f3 15)=F0.T15:=by kernel_rfl
theorem F0.bits15 : waitsOk F0.T15.2 F0.B15=true:=by kernel_rfl
def F0.T18 : Bool×List (List Nat×List Nat):=(true,[([],[]),([],[]),([],[]),([1,2],[1,2]),([3],[3]),([0,4],[0,4]),([5],[5]),([6],[6]),([6],[6]),([7,5,0,1,2,3,4,5,6,7],[7]),([8,9,0,1,2,3,4,5,6,7,8,9],[8])])
def F0.B18 : List Nat:=[0,0,0,6,14,31,63,127,127,255,1023]
theorem F0.tab18 : rtab .any (opsOf Try.f3 18)=F0.T18:=by kernel_rfl
theorem F0.bits18 : waitsOk F0.T18.2 F0.B18=true:=by kernel_rfl
set_option maxHeartbeats 8000000 in
set_option maxRecDepth 100000 in
theorem F0.calls (k : Nat) (A0 : Option Addr) (c0 : Nat) (l0 : List Int) (A1 : Option Addr) (c1 : Nat) (l1 : List Int) (r : Bool) (w : World) (hr0 : Kd.C (Kd.int .u8) w A0 l0.length l0) (hc0 : l0.length≤c0) (hr1 : Kd.C (Kd.int .u8) w A1 l1.length l1) (hc1 : l1.length≤c1) (h : F0.f k l0 l1=some r) :
  Calls Try.prog 3 #[.slice A0 l0.length c0,.slice A1 l1.length c1] w fun e w' => e = .returned (.bool r)∧Below w.heap.size w w':=by
 have hu25:=Try.underlying25;have hu32:=Try.underlying32;have hu28:=Try.underlying28;have HR0:=zh hr0;have HC0:=zh hc0;clear hr0 hc0;have HR1:=zh hr1;have HC1:=zh hc1;clear hr1 hc1;have HB:=zh (Below.refl w.heap.size w);have H : (if (l0.length : Int) > 1048576 then (F0.j0 k l0 l1 true) else (F0.j0 k l0 l1 (decide ((l1.length : Int) > 1048576))))=some r:=h;clear h;have HC3:=zh H;clear H
 go_enter Try.func3,Try.ntmps3
 go_upto_region 1 with (fail)
 go_cut [29] (fun v29 wc => ∃ (kq : Nat) (x29_2 : Bool),v29 = .bool x29_2∧Aside0 (F0.j0 kq l0 l1 x29_2=some r)∧Aside0 (kq≤k)∧Aside0 (Below w.heap.size w wc))
 case first =>
  have H:=HC3.out;clear HC3
  by_cases c4 : (l0.length : Int) > 1048576
  ·
   rw [if_pos c4] at H
   have c4b0 : decide (1048576<(l0.length : Int))=true:=decide_eq_true c4;have c4b1 : decide (1048576<l0.length)=true:=decide_eq_true jE;clear c4;(first|rw [c4b0]|(simp only [zG,zH];rw [c4b0])|skip);have H':=zh H;clear H
   go_wp2
   go_meet
   case rel=>exact ⟨_,(true),jD,H',⟨jAX⟩,⟨jH⟩⟩
  rw [if_neg c4] at H;have c4b0 : decide (1048576<(l0.length : Int))=false:=decide_eq_false c4;have c4b1 : decide (1048576<l0.length)=false:=decide_eq_false jE;clear c4;(first|rw [c4b0]|(simp only [zG,zH];rw [c4b0])|skip);have H':=zh H;clear H
  go_wp2
  go_meet
  case rel=>exact ⟨_,(decide ((l1.length : Int) > 1048576)),jD,H',⟨jAX⟩,⟨jH⟩⟩
 case rest =>
  clear HC3
  try clear c1
  try clear p2
  try clear c3 c4 c4b0 c4b1
  obtain ⟨kq,x29_2,rfl,HA,HJ2,HB⟩:=hcut
  cases kq with
  | zero=>exact absurd HA.out (by simp [F0.j0])
  | succ kj2 =>
   have H:=HA.out;clear HA;simp only [F0.j0] at H
   by_cases c5 : x29_2=true
   ·
    subst c5
    rw [if_pos rfl] at H;obtain rfl:=zU H
    go_wp2
    go_ret
    exact ⟨jG,jH⟩
   replace c5:=yb.mpr c5;subst c5;rw [if_neg (show ¬ (false=true) by decide)] at H;replace H:=zT.mp H;obtain ⟨⟨t428,t431⟩,A60,H⟩:=H;have A6:=zh A60;clear A60;replace H:=zT.mp H;obtain ⟨⟨t433,t434⟩,A70,H⟩:=H;have A7:=zh A70;clear A70;obtain ⟨y435,hy435⟩ : ∃ y_ : List Int,y_=(([4] : List Int)):=⟨_,rfl⟩;replace H : (if y435.length+l1.length<140737488355328 then ((Fz.f (y435++l1)).bind fun bt441=>((F02.f l1 0 3).bind fun t443=>((F7.f kj2 t428 t431 t433 bt441.1 (t443 == 0)).bind fun bt445=>((Fo.f kj2 t428 t431 t433 bt441.1 (t443 == 0)).bind fun bt452=>((F7.f kj2 t428 t431 (⟨#[]⟩ : ByteArray) (⟨#[]⟩ : ByteArray) true).bind fun bt459=>(if bt445.2.2=0 then ((Ff.f kj2 bt445.1 bt452.1).bind fun t466=>(if t466=true then ((Fe.f kj2 bt445.2.1 bt452.2.1).bind fun t467=>(if t467=true then (F0.j1 kj2 bt445.1 bt445.2.1 bt459.1 (bt459.2.2 != 0) t428 t431 t433 bt441.1 (t443 == 0)) else (F0.j1 kj2 bt445.1 bt445.2.1 bt459.1 true t428 t431 t433 bt441.1 (t443 == 0)))) else (F0.j1 kj2 bt445.1 bt445.2.1 bt459.1 true t428 t431 t433 bt441.1 (t443 == 0)))) else (F0.j1 kj2 bt445.1 bt445.2.1 bt459.1 true t428 t431 t433 bt441.1 (t443 == 0)))))))) else (none))=some r:=by first|(rw [hy435];with_reducible exact H)|(have H2_:=(Option.bind_some _ _).symm.trans H;rw [hy435];with_reducible exact H2_)|(have H2_:=(Option.bind_some _ _).symm.trans H;with_reducible exact H2_)|with_reducible exact H|(rw [hy435];exact H)|exact H
   have Ny435:=zh hy435;clear hy435
   by_cases c8 : y435.length+l1.length<140737488355328
   ·
    rw [if_pos c8] at H
    have LMc8:=zh c8;clear c8;obtain ⟨y438,hy438⟩ : ∃ y_ : List Int,y_=(y435++l1):=⟨_,rfl⟩;replace H : ((Fz.f y438).bind fun bt441=>((F02.f l1 0 3).bind fun t443=>((F7.f kj2 t428 t431 t433 bt441.1 (t443 == 0)).bind fun bt445=>((Fo.f kj2 t428 t431 t433 bt441.1 (t443 == 0)).bind fun bt452=>((F7.f kj2 t428 t431 (⟨#[]⟩ : ByteArray) (⟨#[]⟩ : ByteArray) true).bind fun bt459=>(if bt445.2.2=0 then ((Ff.f kj2 bt445.1 bt452.1).bind fun t466=>(if t466=true then ((Fe.f kj2 bt445.2.1 bt452.2.1).bind fun t467=>(if t467=true then (F0.j1 kj2 bt445.1 bt445.2.1 bt459.1 (bt459.2.2 != 0) t428 t431 t433 bt441.1 (t443 == 0)) else (F0.j1 kj2 bt445.1 bt445.2.1 bt459.1 true t428 t431 t433 bt441.1 (t443 == 0)))) else (F0.j1 kj2 bt445.1 bt445.2.1 bt459.1 true t428 t431 t433 bt441.1 (t443 == 0)))) else (F0.j1 kj2 bt445.1 bt445.2.1 bt459.1 true t428 t431 t433 bt441.1 (t443 == 0))))))))=some r:=by first|(rw [hy438];with_reducible exact H)|(have H2_:=(Option.bind_some _ _).symm.trans H;rw [hy438];with_reducible exact H2_)|(have H2_:=(Option.bind_some _ _).symm.trans H;with_reducible exact H2_)|with_reducible exact H|(rw [hy438];exact H)|exact H
    have Ny438:=zh hy438;clear hy438;replace H:=zT.mp H;obtain ⟨⟨t441,t442⟩,A90,H⟩:=H;have A9:=zh A90;clear A90;replace H:=zT.mp H;obtain ⟨t443,A100,H⟩:=H;have A10:=zh A100;clear A100;replace H:=zT.mp H;obtain ⟨⟨t445,t448,t451⟩,A110,H⟩:=H;have A11:=zh A110;clear A110;replace H:=zT.mp H;obtain ⟨⟨t452,t455,t458⟩,A120,H⟩:=H;have A12:=zh A120;clear A120;replace H:=zT.mp H;obtain ⟨⟨t459,t462,t465⟩,A130,H⟩:=H;have A13:=zh A130;clear A130;have HC14:=zh H;clear H
    go_upto_region 8 with (first|((with_reducible refine zJ (f:=5) rfl ?_);refine yj (some 31) rfl rfl Try.func5 jA rfl #[.slice A0 l0.length c0] rfl jF ?_;(with_reducible refine (Fw.calls kj2  _ _ l0 t428 t431 _ ?side1 ?side2 A6.out).mono ?_);(case side1=>repeat (first|exact (Kd.C_below HR0.out HB.out)|(with_reducible refine Kd.C_alloc ?_ _)|(with_reducible refine Kd.C_drewN ?_ _)|(with_reducible refine Kd.C_drew ?_)));(case side2=>exact HC0.out);rintro e w15 ⟨v429,rfl,ho0,hb⟩;refine ⟨_,rfl,?_⟩;have HO430:=zh (Kd.N_lower (Kd.N_mono (ok':=fun k_=>True) ho0 (fun k_ hk_=>trivial)) (zB jH));replace HB:=zh (zC jH hb);(try clear hb);(try clear hb2);(try clear hk);(try clear hi);(try clear ho0))|((with_reducible refine zK (N:=5) rfl ?_);(try (refine yy (by rfl) ?_;dsimp only));refine zI ?hg (N:=5) ?hd (cs:=#[.slice none 0 0,.int .i64 0]) (t:=25) ?hr ?_;(case hd=>rfl);(case hg=>rfl);(case hr=>go_simp <;> rfl);intro gb432 hg w16 hbox hb;replace HO430:=zh (Kd.N_below (Kd.N_elderB jAk gb432 (Nat.le_of_eq hg.symm)) hb);have BK432:=zh (hbox);have hH_:=cH jH hb hg;have GW432:=zh hH_.1;have GE432:=GW432;replace HB:=zh hH_.2;clear hb hbox hg hH_;obtain ⟨Ao17,co17,eo17⟩:=Kd.N_slice HO430.out;subst eo17;obtain ⟨hcz18_0,hcz18_1,hfz18_0,hfz18_1⟩:=cB2 BK432.out)|((with_reducible refine zJ (f:=6) rfl ?_);refine yj (some 33) rfl rfl Try.func6 jA rfl #[.slice A1 l1.length c1] rfl jF ?_;(with_reducible refine (Fz.calls  _ _ l1 t433 t434 _ ?side1 ?side2 A7.out).mono ?_);(case side1=>exact Kd.C_below HR1.out jAK);(case side2=>exact HC1.out);rintro e w19 ⟨rfl,hb⟩;refine ⟨_,rfl,?_⟩;replace HO430:=zh (Kd.N_below (by (with_reducible repeat (first|apply Kd.N_alloc|apply Kd.N_drewN|apply Kd.N_drew));exact (Kd.N_mono (Kd.N_far (p:=⟨gb432,1,none⟩) (Kd.N_far (p:=⟨gb432,0,none⟩) (Kd.N_mono HO430.out (fun k_ hk=>(⟨hk,hk.2⟩ : _∧k_≠gb432))) (fun _ hk=>hk.2) (.slice Ao17 t428.length co17)) (fun _ hk=>hk.2) (.int .i64 t431)) (fun _ h_=>h_.1))) hb);replace BK432:=zh (zD (g:=gb432) (o:=.cells #[.slice Ao17 t428.length co17,.int .i64 t431] 25 (0,0)) (by (with_reducible repeat first|apply ze|apply zf|apply zg);refine zL (cs:=#[.slice Ao17 t428.length co17,.int .i64 0]) ?_ 1 _ rfl;(with_reducible repeat first|apply ze|apply zf|apply zg);refine zL (cs:=#[.slice none 0 0,.int .i64 0]) ?_ 0 _ rfl;(with_reducible repeat first|apply ze|apply zf|apply zg);exact BK432.out) hb);replace HB:=zh (zC jAK hb);(try clear hb);(try clear hb2);(try clear hk);(try clear hi))|((with_reducible refine zK (N:=35) rfl ?_);(try (refine yy (by rfl) ?_;dsimp only));refine Kd.R_lit (Kd.int .u8) _ 5 ?hg (N:=35) ?hd (xs:=([4] : List Int)) (inner:=[.int .u8 4]) (ok:=fun _=>True) (okp:=fun _=>True) ?hr ?hp (fun _ hk=>hk) trivial (Below.refl _ _) (ye _) (by simp) ?_;(case hd=>rfl);(case hg=>rfl);(case hr=>go_simp <;> rfl);(case hp=>exact (Reps.one (show Kd.M (Kd.int .u8) _ _ _ 4 [.int .u8 4] from rfl) (Reps.none _ _)));intro v436 w20 ho21 hb hg_ hnew_;clear hg_ hnew_;(first|rw [← Ny435.out] at ho21|(simp only [Int.reduceToNat] at ho21;rw [← Ny435.out] at ho21));replace HO430:=zh (Kd.N_elder' jAk (Kd.R_base ho21) hb);have HO437:=zh (yx ho21 (zB jAK));replace BK432:=zh (cD BK432.out jQ hb);replace HB:=zh (zC jAK hb);clear hb ho21)|((with_reducible refine yA (b:=.append) (xs:=#[.tmp 35,.tmp 36]) rfl ?_);(try (refine yy (by rfl) ?_;dsimp only));at_builtin;refine Kd.R_append_rows (Kd.int .u8) (w0:=w) w.heap.size rfl (.tmp 35) (.tmp 36) 22 5 (.int .u8 0) 1 rfl Try.underlying22 info5 rfl jB jE v436 y435 l1 _ _ _ (fun _=>True) (fun _=>False) rfl rfl ?aO ?aR (fun _ _ h=>h) (fun _ h=>h.elim) ?aF ?aB ?aS ?aL ?_;(case aR=>repeat (first|exact (Kd.C_below HR1.out HB.out)|(with_reducible refine Kd.C_alloc ?_ _)|(with_reducible refine Kd.C_drewN ?_ _)|(with_reducible refine Kd.C_drew ?_)));(case aB=>exact jAK);(case aF=>exact (fun _ _=>trivial));(case aO=>exact (by (with_reducible repeat (first|apply zm|apply zn|apply zo));exact HO437.out));(case aS=>exact (zB jAK));(case aL=>have:=LMc8.out;omega);intro v439 w22 ho hb hg hat;rw [← Ny438.out] at ho;replace HO430:=zh (Kd.N_afterv (ok:=(fun k_=>k_≠gb432)) (by (with_reducible repeat (first|apply Kd.N_alloc|apply Kd.N_drewN|apply Kd.N_drew));exact Kd.N_mono HO430.out (fun _ hk=>⟨hk.1.2,hk.2⟩)) hg hat);replace BK432:=zh (yv (g:=gb432) (o:=.cells #[.slice Ao17 t428.length co17,.int .i64 t431] 25 (0,0)) jQ hg (Kd.R_ne HO437.out BK432.out jB));replace HB:=zh (hb);have HO440:=zh (ho);clear HO437 ho hb hg hat;obtain ⟨Ao23,co23,eo23⟩:=yk HO440.out;subst eo23)|((with_reducible refine zJ (f:=6) rfl ?_);refine yj (some 38) rfl rfl Try.func6 jA rfl #[.slice Ao23 y438.length co23] rfl jF ?_;(with_reducible refine (Fz.calls  _ _ y438 t441 t442 _ ?side1 ?side2 A9.out).mono ?_);(case side1=>repeat (first|exact (yh HO440.out).2.2|(with_reducible refine Kd.C_alloc ?_ _)|(with_reducible refine Kd.C_drewN ?_ _)|(with_reducible refine Kd.C_drew ?_)));(case side2=>exact (yh HO440.out).2.1);rintro e w24 ⟨rfl,hb⟩;refine ⟨_,rfl,?_⟩;replace HO430:=zh (Kd.N_below jAk hb);replace HO440:=zh (yg jAw hb);replace BK432:=zh (cD BK432.out jQ hb);replace HB:=zh (zC jAK hb);(try clear hb);(try clear hb2);(try clear hk);(try clear hi))|((with_reducible refine zJ (f:=7) rfl ?_);refine yj (some 41) rfl rfl Try.func7 jA rfl #[.slice A1 l1.length c1,.int .i64 0,.int .i64 3] rfl jF ?_;(with_reducible refine (F02.calls  _ _ l1 0 3 t443 _ ?side1 ?side2 A10.out).mono ?_);(case side1=>repeat (first|exact (Kd.C_below HR1.out HB.out)|(with_reducible refine Kd.C_alloc ?_ _)|(with_reducible refine Kd.C_drewN ?_ _)|(with_reducible refine Kd.C_drew ?_)));(case side2=>exact HC1.out);rintro e w' ⟨rfl,⟨nd,rfl⟩⟩;refine ⟨_,rfl,?_⟩;(try (rw [drewN_self w24];generalize hq_ : World.drewN w24 _=w24;replace HO430 : Aside0 (Kd.N k60 60 w24 w.heap.size (fun k_=>some k_≠(.slice Ao23 y438.length co23 : Value).ownBlock∧k_≠gb432) (.slice Ao17 t428.length co17) t428):=⟨by rw [← hq_];exact (by (with_reducible repeat (first|apply Kd.N_alloc|apply Kd.N_drewN|apply Kd.N_drew));exact Kd.N_mono HO430.out (fun _ hk=>⟨hk.2,hk.1⟩))⟩;replace HO440 : Aside0 (Kd.R (Kd.int .u8) 5 w24 w.heap.size (fun _=>True) (.slice Ao23 y438.length co23) y438):=⟨by rw [← hq_];exact jAw⟩;replace BK432 : Aside0 (w24.heap[gb432]? = some (.cells #[.slice Ao17 t428.length co17,.int .i64 t431] 25 (0,0))):=⟨by rw [← hq_];exact jQ⟩;replace HB : Aside0 (Below w.heap.size w w24):=⟨by rw [← hq_];exact jAK⟩;clear hq_)))|((with_reducible refine zK (N:=6) rfl ?_);(try (refine yy (by rfl) ?_;dsimp only));refine zI ?hg (N:=6) ?hd (cs:=#[.string (⟨#[]⟩ : ByteArray),.string (⟨#[]⟩ : ByteArray),.bool false]) (t:=32) ?hr ?_;(case hd=>rfl);(case hg=>rfl);(case hr=>go_simp <;> rfl);intro gb444 hg w25 hbox hb;replace HO430:=zh (Kd.N_below (Kd.N_elderB jAk gb444 (Nat.le_of_eq hg.symm)) hb);replace HO440:=zh (yg jAw hb);have BK444:=zh (hbox);have hH_:=cH jAK hb hg;have GW444:=zh hH_.1;have GE444:=GW444;replace HB:=zh hH_.2;have NB432_444:=zh ((by rw [hg];exact yc (yi (g:=gb432) (o:=.cells #[.slice Ao17 t428.length co17,.int .i64 t431] 25 (0,0)) jQ) : gb432≠gb444));have NB444_432:=zh NB432_444.out.symm;replace BK432:=zh (cD BK432.out jQ hb);clear hb hbox hg hH_;have hnb26:=NB444_432.out;have hnc26:=NB432_444.out;obtain ⟨hcz27_0,hcz27_1,hcz27_2,hfz27_0,hfz27_1,hfz27_2⟩:=cB3 BK444.out;obtain ⟨hcz28_0,hcz28_1,hfz28_0,hfz28_1⟩:=cB2 BK432.out)|((with_reducible refine zJ (f:=8) rfl ?_);refine yj (some 47) rfl rfl Try.func8 jA rfl #[.agg #[.slice Ao17 t428.length co17,.int .i64 t431],.agg #[.string t433,.string t441,.bool (t443 == 0)]] rfl jF ?_;(with_reducible refine (F7.calls kj2  _ _ t428 t431 t433 t441 (t443 == 0) t445 t448 t451 _ ?side1 ?side2 A11.out).mono ?_);(case side1=>refine (Kd.N_reads' (e:=60) (base:=w.heap.size) (ok:=fun k_=>((some k_≠(.slice Ao23 y438.length co23 : Value).ownBlock∧k_≠gb432)∧k_≠gb444)) (n:=t428.length) (c:=co17) ?_).2.2;exact jCK);(case side2=>exact (Kd.N_reads' HO430.out).2.1);rintro e w29 ⟨v446,v449,rfl,ho0,ho1,hb⟩;refine ⟨_,rfl,?_⟩;replace HO430:=zh (Kd.N_mono (Kd.N_told (Kd.N_told (Kd.N_old jCK hb) (Kd.R_base ho0)) (Kd.R_base ho1)) (fun _ h_=>h_.1));replace HO440:=zh (yg (by (with_reducible repeat (first|apply zm|apply zn|apply zo));exact (zM (zE (p:=⟨gb444,2,none⟩) (zE (p:=⟨gb444,1,none⟩) (zE (p:=⟨gb444,0,none⟩) (yf HO440.out BK444.out jB) (fun _ hk=>hk.2) (.string t433)) (fun _ hk=>hk.2) (.string t441)) (fun _ hk=>hk.2) (.bool (t443 == 0))) (fun _ h_=>h_.1))) hb);have HO447:=zh (yx ho0 (zB jN));have HO450:=zh (yx ho1 (zB jN));replace BK432:=zh (cD BK432.out (by (with_reducible repeat first|apply ze|apply zf|apply zg);refine cS3 ?_ NB432_444.out;(with_reducible repeat first|apply ze|apply zf|apply zg);exact BK432.out) hb);replace BK444:=zh (zD (g:=gb444) (o:=.cells #[.string t433,.string t441,.bool (t443 == 0)] 32 (0,0)) (by (with_reducible repeat first|apply ze|apply zf|apply zg);refine zL (cs:=#[.string t433,.string t441,.bool false]) ?_ 2 _ rfl;(with_reducible repeat first|apply ze|apply zf|apply zg);refine zL (cs:=#[.string t433,.string (⟨#[]⟩ : ByteArray),.bool false]) ?_ 1 _ rfl;(with_reducible repeat first|apply ze|apply zf|apply zg);refine zL (cs:=#[.string (⟨#[]⟩ : ByteArray),.string (⟨#[]⟩ : ByteArray),.bool false]) ?_ 0 _ rfl;(with_reducible repeat first|apply ze|apply zf|apply zg);exact BK444.out) hb);replace HB:=zh (zC jN hb);(try clear hb);(try clear hb2);(try clear hk);(try clear hi);(try clear ho0);(try clear ho1);obtain ⟨hcz30_0,hcz30_1,hfz30_0,hfz30_1⟩:=cB2 BK432.out;obtain ⟨hcz31_0,hcz31_1,hcz31_2,hfz31_0,hfz31_1,hfz31_2⟩:=cB3 BK444.out)|((with_reducible refine zJ (f:=9) rfl ?_);refine yj (some 54) rfl rfl Try.func9 jA rfl #[.agg #[.slice Ao17 t428.length co17,.int .i64 t431],.agg #[.string t433,.string t441,.bool (t443 == 0)]] rfl jF ?_;(with_reducible refine (Fo.calls kj2  _ _ t428 t431 t433 t441 (t443 == 0) t452 t455 t458 _ ?side1 ?side2 A12.out).mono ?_);(case side1=>repeat (first|exact (Kd.N_reads' HO430.out).2.2|(with_reducible refine Kd.C_alloc ?_ _)|(with_reducible refine Kd.C_drewN ?_ _)|(with_reducible refine Kd.C_drew ?_)));(case side2=>exact (Kd.N_reads' HO430.out).2.1);rintro e w32 ⟨v453,v456,rfl,ho0,ho1,hb⟩;refine ⟨_,rfl,?_⟩;replace HO430:=zh (Kd.N_mono (Kd.N_told (Kd.N_told (Kd.N_old jAk hb) (Kd.R_base ho0)) (Kd.R_base ho1)) (fun _ h_=>h_.1));replace HO440:=zh (yg jAw hb);have HO454:=zh (yx (Kd.R_new' ho0 (Kd.R_lt jBF)) (zB jN));replace HO447:=zh (Kd.R_elder' jBF (Kd.R_base ho0) hb);have HO457:=zh (yx (Kd.R_new' ho1 (Kd.R_lt jBG)) (zB jN));replace HO450:=zh (Kd.R_elder' jBG (Kd.R_base ho1) hb);replace BK432:=zh (cD BK432.out jQ hb);replace BK444:=zh (cD BK444.out jd hb);replace HB:=zh (zC jN hb);(try clear hb);(try clear hb2);(try clear hk);(try clear hi);(try clear ho0);(try clear ho1);obtain ⟨hcz33_0,hcz33_1,hfz33_0,hfz33_1⟩:=cB2 BK432.out)|((with_reducible refine zJ (f:=8) rfl ?_);refine yj (some 61) rfl rfl Try.func8 jA rfl #[.agg #[.slice Ao17 t428.length co17,.int .i64 t431],.agg #[.string (⟨#[]⟩ : ByteArray),.string (⟨#[]⟩ : ByteArray),.bool true]] rfl jF ?_;(with_reducible refine (F7.calls kj2  _ _ t428 t431 (⟨#[]⟩ : ByteArray) (⟨#[]⟩ : ByteArray) true t459 t462 t465 _ ?side1 ?side2 A13.out).mono ?_);(case side1=>repeat (first|exact (Kd.N_reads' HO430.out).2.2|(with_reducible refine Kd.C_alloc ?_ _)|(with_reducible refine Kd.C_drewN ?_ _)|(with_reducible refine Kd.C_drew ?_)));(case side2=>exact (Kd.N_reads' HO430.out).2.1);rintro e w34 ⟨v460,v463,rfl,ho0,ho1,hb⟩;refine ⟨_,rfl,?_⟩;replace HO430:=zh (Kd.N_mono (Kd.N_told (Kd.N_told (Kd.N_old jAk hb) (Kd.R_base ho0)) (Kd.R_base ho1)) (fun _ h_=>h_.1));replace HO440:=zh (yg jAw hb);have HO461:=zh (yx (Kd.R_new' (Kd.R_new' ho0 (Kd.R_lt jBF)) (Kd.R_lt jCL)) (zB jN));replace HO447:=zh (Kd.R_elder' jBF (Kd.R_base ho0) hb);replace HO454:=zh (Kd.R_elder' jCL (Kd.R_base ho0) hb);have HO464:=zh (yx (Kd.R_new' (Kd.R_new' ho1 (Kd.R_lt jBG)) (Kd.R_lt jCM)) (zB jN));replace HO450:=zh (Kd.R_elder' jBG (Kd.R_base ho1) hb);replace HO457:=zh (Kd.R_elder' jCM (Kd.R_base ho1) hb);replace BK432:=zh (cD BK432.out jQ hb);replace BK444:=zh (cD BK444.out jd hb);replace HB:=zh (zC jN hb);(try clear hb);(try clear hb2);(try clear hk);(try clear hi);(try clear ho0);(try clear ho1)))
    (try simp only [Act.put,zi,zj,zk])
    go_cut [82] (fun v82 wc => ∃ (kq : Nat) (x82_13 : Bool),v82 = .bool x82_13∧Aside0 (F0.j1 kq t445 t448 t459 x82_13 t428 t431 t433 t441 (t443 == 0)=some r)∧Aside0 (kq≤kj2)∧Aside0 (Kd.R k28 28 wc w.heap.size (fun k_=>some k_≠(v460 : Value).ownBlock) v446 t445)∧Aside0 (Kd.R (Kd.int .i64) 3 wc w.heap.size (fun _=>True) v449 t448)∧Aside0 (Kd.R k28 28 wc w.heap.size (fun k_=>some k_≠(v446 : Value).ownBlock) v460 t459)∧Aside0 (Kd.N k60 60 wc w.heap.size (fun k_=>some k_≠(v446 : Value).ownBlock∧some k_≠(v449 : Value).ownBlock∧some k_≠(v460 : Value).ownBlock∧k_≠gb432∧k_≠gb444) (.slice Ao17 t428.length co17) t428)∧Aside0 (wc.heap[gb432]? = some (.cells #[(.slice Ao17 t428.length co17),.int .i64 t431] 25 (0,0)))∧Aside0 (wc.heap[gb444]? = some (.cells #[.string t433,.string t441,.bool (t443 == 0)] 32 (0,0)))∧Aside0 (Below w.heap.size w wc))
    case first =>
     have H:=HC14.out;clear HC14
     by_cases c35 : t451=0
     ·
      rw [if_pos c35] at H
      have c35b0 : (t451 == 0)=true:=ya.mpr c35;have c35b1 : (t451 != 0)=false:=zX.mpr c35;clear c35;(first|rw [c35b0]|(simp only [zG,zH];rw [c35b0])|skip);replace H:=zT.mp H;obtain ⟨t466,A360,H⟩:=H;have A36:=zh A360;clear A360
      by_cases c37 : t466=true
      ·
       subst c37
       rw [if_pos rfl] at H;replace H:=zT.mp H;obtain ⟨t467,A380,H⟩:=H;have A38:=zh A380;clear A380
       by_cases c39 : t467=true
       ·
        subst c39
        rw [if_pos rfl] at H;have H':=zh H;clear H;obtain ⟨Ao40,co40,eo40⟩:=yk HO447.out;subst eo40;obtain ⟨Ao41,co41,eo41⟩:=yk HO454.out;subst eo41
        go_wp2_with (first|(go_at_call 10;(with_reducible refine (Ff.calls kj2  _ _ t445 _ _ t452 true _ ?side1 ?side2 ?side3 ?side4 A36.out).mono ?_);(case side1=>repeat (first|exact (yh HO447.out).2.2|(with_reducible refine Kd.C_alloc ?_ _)|(with_reducible refine Kd.C_drewN ?_ _)|(with_reducible refine Kd.C_drew ?_)));(case side2=>exact (yh HO447.out).2.1);(case side3=>repeat (first|exact (yh HO454.out).2.2|(with_reducible refine Kd.C_alloc ?_ _)|(with_reducible refine Kd.C_drewN ?_ _)|(with_reducible refine Kd.C_drew ?_)));(case side4=>exact (yh HO454.out).2.1);rintro e w' ⟨rfl,⟨nd,rfl⟩⟩;obtain ⟨Ao42,co42,eo42⟩:=yk HO450.out;subst eo42;obtain ⟨Ao43,co43,eo43⟩:=yk HO457.out;subst eo43)|(go_at_call 11;(with_reducible refine (Fe.calls kj2  _ _ t448 _ _ t455 true _ ?side1 ?side2 ?side3 ?side4 A38.out).mono ?_);(case side1=>repeat (first|exact (yh HO450.out).2.2|(with_reducible refine Kd.C_alloc ?_ _)|(with_reducible refine Kd.C_drewN ?_ _)|(with_reducible refine Kd.C_drew ?_)));(case side2=>exact (yh HO450.out).2.1);(case side3=>repeat (first|exact (yh HO457.out).2.2|(with_reducible refine Kd.C_alloc ?_ _)|(with_reducible refine Kd.C_drewN ?_ _)|(with_reducible refine Kd.C_drew ?_)));(case side4=>exact (yh HO457.out).2.1);rintro e w' ⟨rfl,⟨nd,rfl⟩⟩))
        go_meet
        case rel=>exact ⟨_,((t465 != 0)),jD,H',⟨jBH⟩,⟨jBI⟩,⟨jBJ⟩,⟨jBK⟩,⟨jBL⟩,⟨jQ⟩,⟨jd⟩,⟨jN⟩⟩
       replace c39:=yb.mpr c39;subst c39;rw [if_neg (show ¬ (false=true) by decide)] at H;have H':=zh H;clear H;obtain ⟨Ao44,co44,eo44⟩:=yk HO447.out;subst eo44;obtain ⟨Ao45,co45,eo45⟩:=yk HO454.out;subst eo45
       go_wp2_with (first|(go_at_call 10;(with_reducible refine (Ff.calls kj2  _ _ t445 _ _ t452 true _ ?side1 ?side2 ?side3 ?side4 A36.out).mono ?_);(case side1=>repeat (first|exact (yh HO447.out).2.2|(with_reducible refine Kd.C_alloc ?_ _)|(with_reducible refine Kd.C_drewN ?_ _)|(with_reducible refine Kd.C_drew ?_)));(case side2=>exact (yh HO447.out).2.1);(case side3=>repeat (first|exact (yh HO454.out).2.2|(with_reducible refine Kd.C_alloc ?_ _)|(with_reducible refine Kd.C_drewN ?_ _)|(with_reducible refine Kd.C_drew ?_)));(case side4=>exact (yh HO454.out).2.1);rintro e w' ⟨rfl,⟨nd,rfl⟩⟩;obtain ⟨Ao46,co46,eo46⟩:=yk HO450.out;subst eo46;obtain ⟨Ao47,co47,eo47⟩:=yk HO457.out;subst eo47)|(go_at_call 11;(with_reducible refine (Fe.calls kj2  _ _ t448 _ _ t455 false _ ?side1 ?side2 ?side3 ?side4 A38.out).mono ?_);(case side1=>repeat (first|exact (yh HO450.out).2.2|(with_reducible refine Kd.C_alloc ?_ _)|(with_reducible refine Kd.C_drewN ?_ _)|(with_reducible refine Kd.C_drew ?_)));(case side2=>exact (yh HO450.out).2.1);(case side3=>repeat (first|exact (yh HO457.out).2.2|(with_reducible refine Kd.C_alloc ?_ _)|(with_reducible refine Kd.C_drewN ?_ _)|(with_reducible refine Kd.C_drew ?_)));(case side4=>exact (yh HO457.out).2.1);rintro e w' ⟨rfl,⟨nd,rfl⟩⟩))
       go_meet
       case rel=>exact ⟨_,(true),jD,H',⟨jBH⟩,⟨jBI⟩,⟨jBJ⟩,⟨jBK⟩,⟨jBL⟩,⟨jQ⟩,⟨jd⟩,⟨jN⟩⟩
      replace c37:=yb.mpr c37;subst c37;rw [if_neg (show ¬ (false=true) by decide)] at H;have H':=zh H;clear H;obtain ⟨Ao48,co48,eo48⟩:=yk HO447.out;subst eo48;obtain ⟨Ao49,co49,eo49⟩:=yk HO454.out;subst eo49
      go_wp2_with (first|(go_at_call 10;(with_reducible refine (Ff.calls kj2  _ _ t445 _ _ t452 false _ ?side1 ?side2 ?side3 ?side4 A36.out).mono ?_);(case side1=>repeat (first|exact (yh HO447.out).2.2|(with_reducible refine Kd.C_alloc ?_ _)|(with_reducible refine Kd.C_drewN ?_ _)|(with_reducible refine Kd.C_drew ?_)));(case side2=>exact (yh HO447.out).2.1);(case side3=>repeat (first|exact (yh HO454.out).2.2|(with_reducible refine Kd.C_alloc ?_ _)|(with_reducible refine Kd.C_drewN ?_ _)|(with_reducible refine Kd.C_drew ?_)));(case side4=>exact (yh HO454.out).2.1);rintro e w' ⟨rfl,⟨nd,rfl⟩⟩))
      go_meet
      case rel=>exact ⟨_,(true),jD,H',⟨jBH⟩,⟨jBI⟩,⟨jBJ⟩,⟨jBK⟩,⟨jBL⟩,⟨jQ⟩,⟨jd⟩,⟨jN⟩⟩
     rw [if_neg c35] at H;have c35b0 : (t451 == 0)=false:=zY.mpr c35;have c35b1 : (t451 != 0)=true:=zZ.mpr c35;(first|rw [c35b0]|(simp only [zG,zH];rw [c35b0])|skip);have H':=zh H;clear H
     go_wp2
     go_meet
     case rel=>exact ⟨_,(true),jD,H',⟨jBH⟩,⟨jBI⟩,⟨jBJ⟩,⟨jBK⟩,⟨jBL⟩,⟨jQ⟩,⟨jd⟩,⟨jN⟩⟩
    case rest =>
     clear HC14
     try clear c1 c2
     try clear p2
     try clear c3 c4 c4b0 c4b1 c5 c6 c7 c8 c9 c26 c35 c35b0 c35b1 c37 c39
     try clear hcz18_0 hcz18_1
     try clear hcz27_0 hcz27_1 hcz27_2
     try clear hcz28_0 hcz28_1
     try clear hcz30_0 hcz30_1
     try clear hcz31_0 hcz31_1 hcz31_2
     try clear hcz33_0 hcz33_1
     try clear hfz18_0 hfz18_1
     try clear hfz27_0 hfz27_1 hfz27_2
     try clear hfz28_0 hfz28_1
     try clear hfz30_0 hfz30_1
     try clear hfz31_0 hfz31_1 hfz31_2
     try clear hfz33_0 hfz33_1
     try clear p2
     obtain ⟨kq,x82_13,rfl,HA,HJ13,HO_7,HO_8,HO_13,HO_433000,BK432,BK444,HB⟩:=hcut
     cases kq with
     | zero=>exact absurd HA.out (by simp [F0.j1])
     | succ kj13 =>
      have H:=HA.out;clear HA;simp only [F0.j1] at H
      by_cases c50 : x82_13=true
      ·
       subst c50
       rw [if_pos rfl] at H;obtain rfl:=zU H
       go_wp2
       go_ret
       exact ⟨jG,jN⟩
      replace c50:=yb.mpr c50;subst c50;rw [if_neg (show ¬ (false=true) by decide)] at H;have H':=zh H;clear H
      go_wp2
      go_loopg [16,17] kj13 (fun kq v16 v17 w' => ∃ (x16_3 : Int) (x17_3 : Int),v16 = .int .i64 x16_3∧v17 = .int .i64 x17_3∧Aside0 (F0.l0 kq t445 t448 t459 x16_3 x17_3 t428 t431 t433 t441 (t443 == 0)=some r)∧Aside0 (kq≤kj13)∧Aside0 (Kd.R k28 28 w' w.heap.size (fun k_=>some k_≠(v460 : Value).ownBlock) v446 t445)∧Aside0 (Kd.R (Kd.int .i64) 3 w' w.heap.size (fun _=>True) v449 t448)∧Aside0 (Kd.R k28 28 w' w.heap.size (fun k_=>some k_≠(v446 : Value).ownBlock) v460 t459)∧Aside0 (Kd.N k60 60 w' w.heap.size (fun k_=>some k_≠(v446 : Value).ownBlock∧some k_≠(v449 : Value).ownBlock∧some k_≠(v460 : Value).ownBlock∧k_≠gb432∧k_≠gb444) (.slice Ao17 t428.length co17) t428)∧Aside0 (w'.heap[gb432]? = some (.cells #[(.slice Ao17 t428.length co17),.int .i64 t431] 25 (0,0)))∧Aside0 (w'.heap[gb444]? = some (.cells #[.string t433,.string t441,.bool (t443 == 0)] 32 (0,0)))∧Aside0 (Below w.heap.size w w'))
      case atStart=>exact ⟨(0),(0),jD,jD,H',⟨ye _⟩,⟨jJ⟩,⟨jv⟩,⟨jw⟩,⟨jx⟩,⟨jQ⟩,⟨jd⟩,⟨jN⟩⟩
      case round =>
       clear H'
       try clear c1 c2
       try clear p2
       try clear c3 c4 c4b0 c4b1 c5 c6 c7 c8 c9 c26 c35 c35b0 c35b1 c37 c39 c50
       try clear hcz18_0 hcz18_1
       try clear hcz27_0 hcz27_1 hcz27_2
       try clear hcz28_0 hcz28_1
       try clear hcz30_0 hcz30_1
       try clear hcz31_0 hcz31_1 hcz31_2
       try clear hcz33_0 hcz33_1
       try clear hfz18_0 hfz18_1
       try clear hfz27_0 hfz27_1 hfz27_2
       try clear hfz28_0 hfz28_1
       try clear hfz30_0 hfz30_1
       try clear hfz31_0 hfz31_1 hfz31_2
       try clear hfz33_0 hfz33_1
       try clear p2
       obtain ⟨x16_3,x17_3,rfl,rfl,HA,HK3,HO_7,HO_8,HO_13,HO_433000,BK432,BK444,HB⟩:=hrel
       cases gk with
       | zero=>exact absurd HA.out (by simp [F0.l0])
       | succ k3 =>
        have H:=HA.out;clear HA;simp only [F0.l0] at H
        by_cases c51 : x17_3<(t459.length : Int)
        ·
         rw [if_pos c51] at H
         have c51b0 : decide (x17_3<(t459.length : Int))=true:=decide_eq_true c51;clear c51
         by_cases c52 : 0≤x17_3
         ·
          rw [if_pos c52] at H
          have c52b0 : decide (0≤x17_3)=true:=decide_eq_true c52;clear c52;replace H:=zT.mp H;obtain ⟨t469,A530,H⟩:=H;have A53:=zh A530;clear A530
          by_cases c54 : t469=true
          ·
           subst c54
           rw [if_pos rfl] at H;have HC55:=zh H;clear H;obtain ⟨Ao56,co56,eo56⟩:=yk HO_13.out;subst eo56
           try go_wp2
           replace HO_7:=zh (zo HO_7.out);replace HO_8:=zh (zo HO_8.out);replace HO_13:=zh (zo HO_13.out);replace HO_433000:=zh (Kd.N_drew HO_433000.out);replace BK432:=zh (zf BK432.out);replace BK444:=zh (zf BK444.out);replace HB:=zh (zc HB.out);have p468 : 0≤(x17_3 : Int):=zy jC;have q468 : x17_3<(t459.length : Int):=zy jC;obtain ⟨ad468,e468,hx468_0,hx468_1⟩:=at_T28 (yh HO_13.out).2.2 x17_3 p468 q468
           cases e468
           replace p468:=eq_true p468;replace q468:=eq_true q468;refine start_ (n:=8) (S:=fun w' => w'.cell? ⟨gb444,0,none⟩=some (.string t433)∧w'.cell? ⟨gb444,1,none⟩=some (.string t441)∧w'.cell? ⟨gb444,2,none⟩=some (.bool (t443 == 0))∧w'.cell? (ad468.add ((x17_3).toNat*2))=some (.string ((rd_T28 t459 x17_3).f0))∧w'.cell? ⟨(ad468.add ((x17_3).toNat*2)).block,(ad468.add ((x17_3).toNat*2)).off+1,none⟩=some (.int .i64 ((rd_T28 t459 x17_3).f1))) (ds:=[]) (bm_ 0 8) jA rfl rfl ⟨(zz BK444.out 0).trans rfl,(zz BK444.out 1).trans rfl,(zz BK444.out 2).trans rfl,hx468_0,hx468_1⟩ (fun hHeld=>?_);refine with_tabW F0.tab14 F0.bits14 (fun HT_ HW_=>?_);generalize wr.drew=w57 at HO_7 HO_8 HO_13 HO_433000 BK432 BK444 HB hx468_0 hx468_1 hHeld ⊢;refine pure_ (i:=1) (N:=some 90) (v:=?_) (a':=?_) #[false,true,false,false,false,false,false,false] rfl rfl (any_of HT_.out jA) (fun _ _ _ h=>h) (Or.inl ⟨by rfl,?_⟩) ?_ ?_;rotate_left;exact jb;rotate_left;exact jc
           refine pure_ (i:=2) (N:=some 91) (v:=?_) (a':=?_) #[false,true,true,false,false,false,false,false] rfl rfl (any_of HT_.out jA) (fun _ _ _ h=>h) (Or.inl ⟨by rfl,?_⟩) ?_ ?_;rotate_left;exact jb;rotate_left;exact jc
           refine pure_ (i:=3) (N:=some 92) (v:=?_) (a':=?_) #[false,true,true,true,false,false,false,false] rfl rfl (any_of HT_.out jA) (fun _ _ _ h=>h) (Or.inl ⟨by rfl,?_⟩) ?_ ?_;rotate_left;exact jb;rotate_left;exact jc
           refine pure_ (i:=4) (N:=some 93) (v:=?_) (a':=?_) #[false,true,true,true,true,false,false,false] rfl rfl (any_of HT_.out jA) (fun _ _ _ h=>h) (Or.inl ⟨by rfl,?_⟩) ?_ ?_;rotate_left;exact jb;rotate_left;exact jc
           refine take_ (i:=0) (N:=some 89) (v:=?_) (a':=?_) (bm_ 5 8) rfl rfl (yo HT_.out HW_.out jA) (fun _ _ _ h=>h) (Or.inl ⟨by rfl,?_⟩) hHeld ?_ ?_;rotate_left
           ·
            rintro w' ⟨s0,s1,s2,s3,s4⟩
            go_simp
            with_reducible rfl
           rotate_left
           exact jc
           refine take_ (i:=5) (N:=some 94) (v:=?_) (a':=?_) (bm_ 6 8) rfl rfl (yo HT_.out HW_.out jA) (fun _ _ _ h=>h) (Or.inl ⟨by rfl,?_⟩) hHeld ?_ ?_;rotate_left
           ·
            rintro w' ⟨s0,s1,s2,s3,s4⟩
            go_simp
            with_reducible rfl
           rotate_left
           exact jc
           refine one_ (i:=6) (N:=some 95) (bm_ 7 8) rfl rfl (one_of HT_.out jA) jB (fun K hK=>?_);refine goes_ Try.func12 jA rfl #[.agg #[.string t433,.string t441,.bool (t443 == 0)],.string ((rd_T28 t459 x17_3).f0)] (by rfl) rfl rfl jF ?_
           with_reducible refine (Fv.calls k3  t433 t441 (t443 == 0) ((rd_T28 t459 x17_3).f0) true _ A53.out).mono ?_
           rintro e w58 ⟨rfl,hb⟩;have HS3_:=(hb.cell (zl _ _ (hHeld.2.2.2.1))).trans (hHeld.2.2.2.1);have HS4_:=(hb.cell (zl _ _ (hHeld.2.2.2.2))).trans (hHeld.2.2.2.2);refine ⟨_,rfl,?_⟩;replace HO_7:=zh (yg jJ hb);replace HO_8:=zh (yg jv hb);replace HO_13:=zh (yg jw hb);replace HO_433000:=zh (Kd.N_below jx hb);replace BK432:=zh (cD BK432.out jQ hb);replace BK444:=zh (cD BK444.out jd hb);replace HB:=zh (zC jN hb);(try clear hb);(try clear hb2);(try clear hk);(try clear hi);refine hK.out _ _ ⟨(zz BK444.out 0).trans rfl,(zz BK444.out 1).trans rfl,(zz BK444.out 2).trans rfl,HS3_,HS4_⟩ (fun hHeld=>?_);clear hK K;refine norm_ (a':=?_) ?_ ?_;rotate_left
           ·
            show Act.put _ (some 95) _=_
            simp only [Act.put,zi,zj,zk,zG,zH]
            rfl
           refine pure_ (i:=7) (N:=some 96) (v:=?_) (a':=?_) (bm_ 8 8) rfl rfl (any_of HT_.out jA) (fun _ _ _ h=>h) (Or.inl ⟨by rfl,?_⟩) ?_ ?_;rotate_left;exact jb;rotate_left;exact jc
           refine done_ (done_of HT_.out jA) ?_
           go_upto_region 15 with (fail)
           go_cut [111] (fun v111 wc => ∃ (kq : Nat) (x111_54 : Bool),v111 = .bool x111_54∧Aside0 (F0.j3 kq t445 t448 t459 x16_3 x17_3 x111_54 t428 t431 t433 t441 (t443 == 0)=some r)∧Aside0 (kq≤k3)∧Aside0 (Kd.R k28 28 wc w.heap.size (fun k_=>some k_≠((.slice (some ad468) t459.length co56) : Value).ownBlock) v446 t445)∧Aside0 (Kd.R (Kd.int .i64) 3 wc w.heap.size (fun _=>True) v449 t448)∧Aside0 (Kd.R k28 28 wc w.heap.size (fun k_=>some k_≠(v446 : Value).ownBlock) (.slice (some ad468) t459.length co56) t459)∧Aside0 (Kd.N k60 60 wc w.heap.size (fun k_=>some k_≠(v446 : Value).ownBlock∧some k_≠(v449 : Value).ownBlock∧some k_≠((.slice (some ad468) t459.length co56) : Value).ownBlock∧k_≠gb432∧k_≠gb444) (.slice Ao17 t428.length co17) t428)∧Aside0 (wc.heap[gb432]? = some (.cells #[(.slice Ao17 t428.length co17),.int .i64 t431] 25 (0,0)))∧Aside0 (wc.heap[gb444]? = some (.cells #[.string t433,.string t441,.bool (t443 == 0)] 32 (0,0)))∧Aside0 (Below w.heap.size w wc))
           case first =>
            have H:=HC55.out;clear HC55
            by_cases c59 : x16_3 ≥ (t445.length : Int)
            ·
             rw [if_pos c59] at H
             have c59b0 : decide ((t445.length : Int)≤x16_3)=true:=decide_eq_true c59;clear c59;(first|rw [c59b0]|(simp only [zG,zH];rw [c59b0])|skip);have H':=zh H;clear H
             try go_wp2
             replace HO_7:=zh (zo HO_7.out);replace HO_8:=zh (zo HO_8.out);replace HO_13:=zh (zo HO_13.out);replace HO_433000:=zh (Kd.N_drew HO_433000.out);replace BK432:=zh (zf BK432.out);replace BK444:=zh (zf BK444.out);replace HB:=zh (zc HB.out);obtain ⟨Ao61,co61,eo61⟩:=yk HO_7.out;(first|subst eo61|(injection eo61 with f1_ f2_ f3_;have f4_:=f1_.symm;have f5_:=f3_.symm;clear f1_ f2_ f3_;subst f4_;subst f5_));refine start_ (n:=15) (S:=fun w' => True) (ds:=[]) (bm_ 0 15) jA rfl rfl trivial (fun hHeld=>?_);refine with_tabW F0.tab15 F0.bits15 (fun HT_ HW_=>?_);generalize w58.drew=w60 at HO_7 HO_8 HO_13 HO_433000 BK432 BK444 HB hHeld ⊢;refine pure_ (i:=0) (N:=some 97) (v:=?_) (a':=?_) (bm_ 1 15) rfl rfl (any_of HT_.out jA) (fun _ _ _ h=>h) (Or.inl ⟨by rfl,?_⟩) ?_ ?_;rotate_left;exact jb;rotate_left;exact jc
             refine pure_ (i:=1) (N:=some 98) (v:=?_) (a':=?_) (bm_ 2 15) rfl rfl (any_of HT_.out jA) (fun _ _ _ h=>h) (Or.inl ⟨by rfl,?_⟩) ?_ ?_;rotate_left;exact jb;rotate_left;exact jc
             refine pure_ (i:=2) (N:=some 99) (v:=?_) (a':=?_) (bm_ 3 15) rfl rfl (any_of HT_.out jA) (fun _ _ _ h=>h) (Or.inl ⟨by rfl,?_⟩) ?_ ?_;rotate_left;exact jb;rotate_left;exact jc
             refine pure_ (i:=3) (N:=some 100) (v:=?_) (a':=?_) (bm_ 4 15) rfl rfl (any_of HT_.out jA) (fun _ _ _ h=>h) (Or.inl ⟨by rfl,?_⟩) ?_ ?_;rotate_left;exact jb;rotate_left;exact jc
             refine pure_ (i:=4) (N:=some 101) (v:=?_) (a':=?_) (bm_ 5 15) rfl rfl (any_of HT_.out jA) (fun _ _ _ h=>h) (Or.inl ⟨by rfl,?_⟩) ?_ ?_;rotate_left;exact jb;rotate_left;exact jc
             refine pure_ (i:=5) (N:=some 102) (v:=undef) (a':=?_) (bm_ 6 15) rfl rfl (any_of HT_.out jA) (fun _ _ _ h=>h) (Or.inr ⟨by rfl,rfl⟩) ?_ ?_;rotate_left
             exact jc
             refine pure_ (i:=6) (N:=some 103) (v:=undef) (a':=?_) (bm_ 7 15) rfl rfl (any_of HT_.out jA) (fun _ _ _ h=>h) (Or.inr ⟨by rfl,rfl⟩) ?_ ?_;rotate_left
             exact jc
             refine pure_ (i:=7) (N:=some 104) (v:=undef) (a':=?_) (bm_ 8 15) rfl rfl (any_of HT_.out jA) (fun _ _ _ h=>h) (Or.inr ⟨by rfl,rfl⟩) ?_ ?_;rotate_left
             exact jc
             refine pure_ (i:=8) (N:=some 105) (v:=undef) (a':=?_) (bm_ 9 15) rfl rfl (any_of HT_.out jA) (fun _ _ _ h=>h) (Or.inr ⟨by rfl,rfl⟩) ?_ ?_;rotate_left
             exact jc
             refine pure_ (i:=9) (N:=some 106) (v:=undef) (a':=?_) (bm_ 10 15) rfl rfl (any_of HT_.out jA) (fun _ _ _ h=>h) (Or.inr ⟨by rfl,rfl⟩) ?_ ?_;rotate_left
             exact jc
             refine pure_ (i:=10) (N:=some 107) (v:=undef) (a':=?_) (bm_ 11 15) rfl rfl (any_of HT_.out jA) (fun _ _ _ h=>h) (Or.inr ⟨by rfl,rfl⟩) ?_ ?_;rotate_left
             exact jc
             refine pure_ (i:=11) (N:=some 108) (v:=undef) (a':=?_) (bm_ 12 15) rfl rfl (any_of HT_.out jA) (fun _ _ _ h=>h) (Or.inr ⟨by rfl,rfl⟩) ?_ ?_;rotate_left
             exact jc
             refine pure_ (i:=12) (N:=some 109) (v:=undef) (a':=?_) (bm_ 13 15) rfl rfl (any_of HT_.out jA) (fun _ _ _ h=>h) (Or.inr ⟨by rfl,rfl⟩) ?_ ?_;rotate_left
             exact jc
             refine pure_ (i:=13) (N:=some 110) (v:=undef) (a':=?_) (bm_ 14 15) rfl rfl (any_of HT_.out jA) (fun _ _ _ h=>h) (Or.inr ⟨by rfl,rfl⟩) ?_ ?_;rotate_left
             exact jc
             refine pure_ (i:=14) (N:=some 111) (v:=?_) (a':=?_) (bm_ 15 15) rfl rfl (any_of HT_.out jA) (fun _ _ _ h=>h) (Or.inl ⟨by rfl,?_⟩) ?_ ?_;rotate_left;exact jb;rotate_left;exact jc
             refine done_ (done_of HT_.out jA) ?_
             try go_wp2
             go_meet
             case rel=>exact ⟨_,(true),jD,H',⟨jCN⟩,⟨jJ⟩,⟨jv⟩,⟨jw⟩,⟨jx⟩,⟨jQ⟩,⟨jd⟩,⟨jN⟩⟩
            rw [if_neg c59] at H;have c59b0 : decide ((t445.length : Int)≤x16_3)=false:=decide_eq_false c59;clear c59;(first|rw [c59b0]|(simp only [zG,zH];rw [c59b0])|skip)
            by_cases c62 : 0≤x16_3
            ·
             rw [if_pos c62] at H
             have c62b0 : decide (0≤x16_3)=true:=decide_eq_true c62;clear c62
             by_cases c63 : x16_3<(t445.length : Int)
             ·
              rw [if_pos c63] at H
              have c63b0 : decide (x16_3<(t445.length : Int))=true:=decide_eq_true c63;clear c63;have H':=zh H;clear H
              try go_wp2
              replace HO_7:=zh (zo HO_7.out);replace HO_8:=zh (zo HO_8.out);replace HO_13:=zh (zo HO_13.out);replace HO_433000:=zh (Kd.N_drew HO_433000.out);replace BK432:=zh (zf BK432.out);replace BK444:=zh (zf BK444.out);replace HB:=zh (zc HB.out);obtain ⟨Ao65,co65,eo65⟩:=yk HO_7.out;(first|subst eo65|(injection eo65 with f1_ f2_ f3_;have f4_:=f1_.symm;have f5_:=f3_.symm;clear f1_ f2_ f3_;subst f4_;subst f5_));have p470 : 0≤(x16_3 : Int):=zy jC;have q470 : x16_3<(t445.length : Int):=zy jC;obtain ⟨ad470,e470,hx470_0,hx470_1⟩:=at_T28 (yh HO_7.out).2.2 x16_3 p470 q470
              cases e470
              replace p470:=eq_true p470;replace q470:=eq_true q470;have p471 : 0≤(x17_3 : Int):=zy jC;have q471 : x17_3<(t459.length : Int):=zy jC;obtain ⟨ad471,e471,hx471_0,hx471_1⟩:=at_T28 (yh HO_13.out).2.2 x17_3 p471 q471;obtain rfl : ad468=ad471:=(by injection e471);replace p471:=eq_true p471;replace q471:=eq_true q471;refine start_ (n:=15) (S:=fun w' => w'.cell? (ad470.add ((x16_3).toNat*2))=some (.string ((rd_T28 t445 x16_3).f0))∧w'.cell? ⟨(ad470.add ((x16_3).toNat*2)).block,(ad470.add ((x16_3).toNat*2)).off+1,none⟩=some (.int .i64 ((rd_T28 t445 x16_3).f1))∧w'.cell? (ad468.add ((x17_3).toNat*2))=some (.string ((rd_T28 t459 x17_3).f0))∧w'.cell? ⟨(ad468.add ((x17_3).toNat*2)).block,(ad468.add ((x17_3).toNat*2)).off+1,none⟩=some (.int .i64 ((rd_T28 t459 x17_3).f1))) (ds:=[]) (bm_ 0 15) jA rfl rfl ⟨hx470_0,hx470_1,hx471_0,hx471_1⟩ (fun hHeld=>?_);refine with_tabW F0.tab15 F0.bits15 (fun HT_ HW_=>?_);generalize w58.drew=w64 at HO_7 HO_8 HO_13 HO_433000 BK432 BK444 HB hx470_0 hx470_1 hx471_0 hx471_1 hHeld ⊢;refine pure_ (i:=0) (N:=some 97) (v:=?_) (a':=?_) (bm_ 1 15) rfl rfl (any_of HT_.out jA) (fun _ _ _ h=>h) (Or.inl ⟨by rfl,?_⟩) ?_ ?_;rotate_left;exact jb;rotate_left;exact jc
              refine pure_ (i:=1) (N:=some 98) (v:=?_) (a':=?_) (bm_ 2 15) rfl rfl (any_of HT_.out jA) (fun _ _ _ h=>h) (Or.inl ⟨by rfl,?_⟩) ?_ ?_;rotate_left;exact jb;rotate_left;exact jc
              refine pure_ (i:=2) (N:=some 99) (v:=?_) (a':=?_) (bm_ 3 15) rfl rfl (any_of HT_.out jA) (fun _ _ _ h=>h) (Or.inl ⟨by rfl,?_⟩) ?_ ?_;rotate_left;exact jb;rotate_left;exact jc
              refine pure_ (i:=3) (N:=some 100) (v:=?_) (a':=?_) (bm_ 4 15) rfl rfl (any_of HT_.out jA) (fun _ _ _ h=>h) (Or.inl ⟨by rfl,?_⟩) ?_ ?_;rotate_left;exact jb;rotate_left;exact jc
              refine pure_ (i:=4) (N:=some 101) (v:=?_) (a':=?_) (bm_ 5 15) rfl rfl (any_of HT_.out jA) (fun _ _ _ h=>h) (Or.inl ⟨by rfl,?_⟩) ?_ ?_;rotate_left;exact jb;rotate_left;exact jc
              refine pure_ (i:=5) (N:=some 102) (v:=?_) (a':=?_) (bm_ 6 15) rfl rfl (any_of HT_.out jA) (fun _ _ _ h=>h) (Or.inl ⟨by rfl,?_⟩) ?_ ?_;rotate_left;exact jb;rotate_left;exact jc
              refine pure_ (i:=6) (N:=some 103) (v:=?_) (a':=?_) (bm_ 7 15) rfl rfl (any_of HT_.out jA) (fun _ _ _ h=>h) (Or.inl ⟨by rfl,?_⟩) ?_ ?_;rotate_left;exact jb;rotate_left;exact jc
              refine pure_ (i:=7) (N:=some 104) (v:=?_) (a':=?_) (bm_ 8 15) rfl rfl (any_of HT_.out jA) (fun _ _ _ h=>h) (Or.inl ⟨by rfl,?_⟩) ?_ ?_;rotate_left;exact jb;rotate_left;exact jc
              refine pure_ (i:=9) (N:=some 106) (v:=?_) (a':=?_) #[true,true,true,true,true,true,true,true,false,true,false,false,false,false,false] rfl rfl (any_of HT_.out jA) (fun _ _ _ h=>h) (Or.inl ⟨by rfl,?_⟩) ?_ ?_;rotate_left;exact jb;rotate_left;exact jc
              refine pure_ (i:=10) (N:=some 107) (v:=?_) (a':=?_) #[true,true,true,true,true,true,true,true,false,true,true,false,false,false,false] rfl rfl (any_of HT_.out jA) (fun _ _ _ h=>h) (Or.inl ⟨by rfl,?_⟩) ?_ ?_;rotate_left;exact jb;rotate_left;exact jc
              refine pure_ (i:=11) (N:=some 108) (v:=?_) (a':=?_) #[true,true,true,true,true,true,true,true,false,true,true,true,false,false,false] rfl rfl (any_of HT_.out jA) (fun _ _ _ h=>h) (Or.inl ⟨by rfl,?_⟩) ?_ ?_;rotate_left;exact jb;rotate_left;exact jc
              refine take_ (i:=8) (N:=some 105) (v:=?_) (a':=?_) (bm_ 12 15) rfl rfl (yo HT_.out HW_.out jA) (fun _ _ _ h=>h) (Or.inl ⟨by rfl,?_⟩) hHeld ?_ ?_;rotate_left
              ·
               rintro w' ⟨s0,s1,s2,s3⟩
               go_simp
               with_reducible rfl
              rotate_left
              exact jc
              refine take_ (i:=12) (N:=some 109) (v:=?_) (a':=?_) (bm_ 13 15) rfl rfl (yo HT_.out HW_.out jA) (fun _ _ _ h=>h) (Or.inl ⟨by rfl,?_⟩) hHeld ?_ ?_;rotate_left
              ·
               rintro w' ⟨s0,s1,s2,s3⟩
               go_simp
               with_reducible rfl
              rotate_left
              exact jc
              refine pure_ (i:=13) (N:=some 110) (v:=?_) (a':=?_) (bm_ 14 15) rfl rfl (any_of HT_.out jA) (fun _ _ _ h=>h) (Or.inl ⟨by rfl,?_⟩) ?_ ?_;rotate_left;exact jb;rotate_left;exact jc
              refine pure_ (i:=14) (N:=some 111) (v:=?_) (a':=?_) (bm_ 15 15) rfl rfl (any_of HT_.out jA) (fun _ _ _ h=>h) (Or.inl ⟨by rfl,?_⟩) ?_ ?_;rotate_left;exact jb;rotate_left;exact jc
              refine done_ (done_of HT_.out jA) ?_
              try go_wp2
              go_meet
              case rel=>exact ⟨_,((!((((rd_T28 t445 x16_3).f0).toList) == (((rd_T28 t459 x17_3).f0).toList)) || (!(((rd_T28 t445 x16_3).f1) == ((rd_T28 t459 x17_3).f1))))),jD,H',⟨jCN⟩,⟨jJ⟩,⟨jv⟩,⟨jw⟩,⟨jx⟩,⟨jQ⟩,⟨jd⟩,⟨jN⟩⟩
             rw [if_neg c63] at H;exact absurd H (by simp)
            rw [if_neg c62] at H;exact absurd H (by simp)
           case rest =>
            clear HC55
            try clear c1 c2
            try clear p2
            try clear c3 c4 c4b0 c4b1
            try clear p4
            try clear q4
            try clear hx4
            try clear c5 c6
            try clear p6
            try clear c7 c8 c9 c12 c26 c35 c35b0 c35b1 c37 c39
            try clear p46
            try clear q46
            try clear hx46
            try clear p47
            try clear q47
            try clear hx47
            try clear c50 c51 c51b0 c52 c52b0 c54 c59 c59b0 c62 c62b0 c63 c63b0
            try clear p64
            try clear hcz18_0 hcz18_1
            try clear hcz27_0 hcz27_1 hcz27_2
            try clear hcz28_0 hcz28_1
            try clear hcz30_0 hcz30_1
            try clear hcz31_0 hcz31_1 hcz31_2
            try clear hcz33_0 hcz33_1
            try clear hfz18_0 hfz18_1
            try clear hfz27_0 hfz27_1 hfz27_2
            try clear hfz28_0 hfz28_1
            try clear hfz30_0 hfz30_1
            try clear hfz31_0 hfz31_1 hfz31_2
            try clear hfz33_0 hfz33_1
            try clear hx468_0
            try clear hx468_1
            try clear hx470_0
            try clear hx470_1
            try clear hx471_0
            try clear hx471_1
            try clear p2
            try clear p468
            try clear p470
            try clear p471
            try clear q468
            try clear q470
            try clear q471
            obtain ⟨kq,x111_54,rfl,HA,HJ54,HO_7,HO_8,HO_13,HO_433000,BK432,BK444,HB⟩:=hcut
            cases kq with
            | zero=>exact absurd HA.out (by simp [F0.j3])
            | succ kj54 =>
             have H:=HA.out;clear HA;simp only [F0.j3] at H
             by_cases c66 : x111_54=true
             ·
              subst c66
              rw [if_pos rfl] at H;obtain rfl:=zU H
              go_wp2
              go_ret
              exact ⟨jG,jN⟩
             replace c66:=yb.mpr c66;subst c66;rw [if_neg (show ¬ (false=true) by decide)] at H
             by_cases c67 : 0≤x17_3
             ·
              rw [if_pos c67] at H
              have c67b0 : decide (0≤x17_3)=true:=decide_eq_true c67;clear c67
              by_cases c68 : x17_3<(t459.length : Int)
              ·
               rw [if_pos c68] at H
               have c68b0 : decide (x17_3<(t459.length : Int))=true:=decide_eq_true c68;clear c68;replace H:=zT.mp H;obtain ⟨⟨t473,t474⟩,A690,H⟩:=H;have A69:=zh A690;clear A690;have H':=zh H;clear H
               try go_wp2
               replace HO_7:=zh (zo HO_7.out);replace HO_8:=zh (zo HO_8.out);replace HO_13:=zh (zo HO_13.out);replace HO_433000:=zh (Kd.N_drew HO_433000.out);replace BK432:=zh (zf BK432.out);replace BK444:=zh (zf BK444.out);replace HB:=zh (zc HB.out);have p472 : 0≤(x17_3 : Int):=zy jC;have q472 : x17_3<(t459.length : Int):=zy jC;obtain ⟨ad472,e472,hx472_0,hx472_1⟩:=at_T28 (yh HO_13.out).2.2 x17_3 p472 q472;obtain rfl : ad468=ad472:=(by injection e472);replace p472:=eq_true p472;replace q472:=eq_true q472;refine start_ (n:=11) (S:=fun w' => w'.cell? ⟨gb432,0,none⟩=some (.slice Ao17 t428.length co17)∧w'.cell? ⟨gb432,1,none⟩=some (.int .i64 t431)∧w'.cell? (ad468.add ((x17_3).toNat*2))=some (.string ((rd_T28 t459 x17_3).f0))∧w'.cell? ⟨(ad468.add ((x17_3).toNat*2)).block,(ad468.add ((x17_3).toNat*2)).off+1,none⟩=some (.int .i64 ((rd_T28 t459 x17_3).f1))) (ds:=[]) (bm_ 0 11) jA rfl rfl ⟨(zz BK432.out 0).trans rfl,(zz BK432.out 1).trans rfl,hx472_0,hx472_1⟩ (fun hHeld=>?_);refine with_tabW F0.tab18 F0.bits18 (fun HT_ HW_=>?_);generalize wc.drew=w70 at HO_7 HO_8 HO_13 HO_433000 BK432 BK444 HB hx472_0 hx472_1 hHeld ⊢;refine pure_ (i:=1) (N:=some 116) (v:=?_) (a':=?_) #[false,true,false,false,false,false,false,false,false,false,false] rfl rfl (any_of HT_.out jA) (fun _ _ _ h=>h) (Or.inl ⟨by rfl,?_⟩) ?_ ?_;rotate_left;exact jb;rotate_left;exact jc
               refine pure_ (i:=2) (N:=some 117) (v:=?_) (a':=?_) #[false,true,true,false,false,false,false,false,false,false,false] rfl rfl (any_of HT_.out jA) (fun _ _ _ h=>h) (Or.inl ⟨by rfl,?_⟩) ?_ ?_;rotate_left;exact jb;rotate_left;exact jc
               refine pure_ (i:=3) (N:=some 118) (v:=?_) (a':=?_) #[false,true,true,true,false,false,false,false,false,false,false] rfl rfl (any_of HT_.out jA) (fun _ _ _ h=>h) (Or.inl ⟨by rfl,?_⟩) ?_ ?_;rotate_left;exact jb;rotate_left;exact jc
               refine take_ (i:=0) (N:=some 115) (v:=?_) (a':=?_) (bm_ 4 11) rfl rfl (yo HT_.out HW_.out jA) (fun _ _ _ h=>h) (Or.inl ⟨by rfl,?_⟩) hHeld ?_ ?_;rotate_left
               ·
                rintro w' ⟨s0,s1,s2,s3⟩
                go_simp
                with_reducible rfl
               rotate_left
               exact jc
               refine take_ (i:=4) (N:=some 119) (v:=?_) (a':=?_) (bm_ 5 11) rfl rfl (yo HT_.out HW_.out jA) (fun _ _ _ h=>h) (Or.inl ⟨by rfl,?_⟩) hHeld ?_ ?_;rotate_left
               ·
                rintro w' ⟨s0,s1,s2,s3⟩
                go_simp
                with_reducible rfl
               rotate_left
               exact jc
               refine one_ (i:=5) (N:=some 120) (bm_ 6 11) rfl rfl (one_of HT_.out jA) jB (fun K hK=>?_);refine goes_ Try.func13 jA rfl #[.agg #[.slice Ao17 t428.length co17,.int .i64 t431],.agg #[.string ((rd_T28 t459 x17_3).f0),.int .i64 ((rd_T28 t459 x17_3).f1)]] (by rfl) rfl rfl jF ?_
               with_reducible refine (Fn.calls kj54  _ _ t428 t431 ((rd_T28 t459 x17_3).f0) ((rd_T28 t459 x17_3).f1) t473 t474 _ ?side1 ?side2 A69.out).mono ?_
               (case side1=>repeat (first|exact (Kd.N_reads' HO_433000.out).2.2|(with_reducible refine Kd.C_alloc ?_ _)|(with_reducible refine Kd.C_drewN ?_ _)|(with_reducible refine Kd.C_drew ?_)))
               (case side2=>exact (Kd.N_reads' HO_433000.out).2.1)
               rintro e w71 ⟨rfl,hb⟩;have HS2_:=(hb.cell (zl _ _ (hHeld.2.2.1))).trans (hHeld.2.2.1);have HS3_:=(hb.cell (zl _ _ (hHeld.2.2.2))).trans (hHeld.2.2.2);refine ⟨_,rfl,?_⟩;replace HO_7:=zh (yg jJ hb);replace HO_8:=zh (yg jv hb);replace HO_13:=zh (yg jw hb);replace HO_433000:=zh (Kd.N_below jx hb);replace BK432:=zh (cD BK432.out jQ hb);replace BK444:=zh (cD BK444.out jd hb);replace HB:=zh (zC jN hb);(try clear hb);(try clear hb2);(try clear hk);(try clear hi);refine hK.out _ _ ⟨(zz BK432.out 0).trans rfl,(zz BK432.out 1).trans rfl,HS2_,HS3_⟩ (fun hHeld=>?_);clear hK K;refine norm_ (a':=?_) ?_ ?_;rotate_left
               ·
                show Act.put _ (some 120) _=_
                simp only [Act.put,zi,zj,zk,zG,zH]
                rfl
               refine pure_ (i:=6) (N:=some 114) (v:=?_) (a':=?_) (bm_ 7 11) rfl rfl (any_of HT_.out jA) (fun _ _ _ h=>h) (Or.inl ⟨by rfl,?_⟩) ?_ ?_;rotate_left;exact jb;rotate_left;exact jc
               refine pure_ (i:=7) (N:=some 121) (v:=?_) (a':=?_) (bm_ 8 11) rfl rfl (any_of HT_.out jA) (fun _ _ _ h=>h) (Or.inl ⟨by rfl,?_⟩) ?_ ?_;rotate_left;exact jb;rotate_left;exact jc
               refine pure_ (i:=8) (N:=some 122) (v:=?_) (a':=?_) (bm_ 9 11) rfl rfl (any_of HT_.out jA) (fun _ _ _ h=>h) (Or.inl ⟨by rfl,?_⟩) ?_ ?_;rotate_left;exact jb;rotate_left;exact jc
               refine pure_ (i:=9) (N:=some 18) (v:=?_) (a':=?_) (bm_ 10 11) rfl rfl (any_of HT_.out jA) (fun _ _ _ h=>h) (Or.inl ⟨by rfl,?_⟩) ?_ ?_;rotate_left;exact jb;rotate_left;exact jc
               refine pure_ (i:=10) (N:=some 19) (v:=?_) (a':=?_) (bm_ 11 11) rfl rfl (any_of HT_.out jA) (fun _ _ _ h=>h) (Or.inl ⟨by rfl,?_⟩) ?_ ?_;rotate_left;exact jb;rotate_left;exact jc
               refine done_ (done_of HT_.out jA) ?_
               try go_wp2
               go_loopg [20,21] kj54 (fun kq v20 v21 w' => ∃ (x20_5 : Bool) (x21_5 : Int),v20 = .bool x20_5∧v21 = .int .i64 x21_5∧Aside0 (F0.l1 kq t445 t448 t459 (wrap64 (x16_3+1)) x17_3 t473 t474 x20_5 x21_5 t428 t431 t433 t441 (t443 == 0)=some r)∧Aside0 (kq≤kj54)∧Aside0 (Kd.R k28 28 w' w.heap.size (fun k_=>some k_≠((.slice (some ad468) t459.length co56) : Value).ownBlock) v446 t445)∧Aside0 (Kd.R (Kd.int .i64) 3 w' w.heap.size (fun _=>True) v449 t448)∧Aside0 (Kd.R k28 28 w' w.heap.size (fun k_=>some k_≠(v446 : Value).ownBlock) (.slice (some ad468) t459.length co56) t459)∧Aside0 (Kd.N k60 60 w' w.heap.size (fun k_=>some k_≠(v446 : Value).ownBlock∧some k_≠(v449 : Value).ownBlock∧some k_≠((.slice (some ad468) t459.length co56) : Value).ownBlock∧k_≠gb432∧k_≠gb444) (.slice Ao17 t428.length co17) t428)∧Aside0 (w'.heap[gb432]? = some (.cells #[(.slice Ao17 t428.length co17),.int .i64 t431] 25 (0,0)))∧Aside0 (w'.heap[gb444]? = some (.cells #[.string t433,.string t441,.bool (t443 == 0)] 32 (0,0)))∧Aside0 (Below w.heap.size w w'))
               case atStart=>exact ⟨(false),(0),jD,jD,H',⟨ye _⟩,⟨jJ⟩,⟨jv⟩,⟨jw⟩,⟨jx⟩,⟨jQ⟩,⟨jd⟩,⟨jN⟩⟩
               case round =>
                clear H'
                try clear c1 c2
                try clear p2
                try clear c3 c4 c4b0 c4b1
                try clear p4
                try clear q4
                try clear hx4
                try clear c5 c6
                try clear p6
                try clear c7 c8 c9 c12 c13 c26 c35 c35b0 c35b1 c37 c39
                try clear p46
                try clear q46
                try clear hx46
                try clear p47
                try clear q47
                try clear hx47
                try clear c50 c51 c51b0 c52 c52b0 c54 c59 c59b0 c62 c62b0 c63 c63b0
                try clear p64
                try clear c66 c67 c67b0 c68 c68b0
                try clear hcz18_0 hcz18_1
                try clear hcz27_0 hcz27_1 hcz27_2
                try clear hcz28_0 hcz28_1
                try clear hcz30_0 hcz30_1
                try clear hcz31_0 hcz31_1 hcz31_2
                try clear hcz33_0 hcz33_1
                try clear hfz18_0 hfz18_1
                try clear hfz27_0 hfz27_1 hfz27_2
                try clear hfz28_0 hfz28_1
                try clear hfz30_0 hfz30_1
                try clear hfz31_0 hfz31_1 hfz31_2
                try clear hfz33_0 hfz33_1
                try clear hx468_0
                try clear hx468_1
                try clear hx470_0
                try clear hx470_1
                try clear hx471_0
                try clear hx471_1
                try clear hx472_0
                try clear hx472_1
                try clear p2
                try clear p4
                try clear p46
                try clear p468
                try clear p47
                try clear p470
                try clear p471
                try clear p472
                try clear p6
                try clear p64
                try clear q4
                try clear q46
                try clear q468
                try clear q47
                try clear q470
                try clear q471
                try clear q472
                obtain ⟨x20_5,x21_5,rfl,rfl,HA,HK5,HO_7,HO_8,HO_13,HO_433000,BK432,BK444,HB⟩:=hrel
                cases gk with
                | zero=>exact absurd HA.out (by simp [F0.l1])
                | succ k5 =>
                 have H:=HA.out;clear HA;simp only [F0.l1] at H
                 by_cases c72 : x21_5<(t448.length : Int)
                 ·
                  rw [if_pos c72] at H
                  have c72b0 : decide (x21_5<(t448.length : Int))=true:=decide_eq_true c72;clear c72
                  by_cases c73 : x20_5=true
                  ·
                   subst c73
                   rw [if_pos rfl] at H;have H':=zh H;clear H;obtain ⟨Ao74,co74,eo74⟩:=yk HO_8.out;subst eo74
                   go_wp2
                   go_roundg k5
                   case measure=>have:=HJ2.out;have:=HJ13.out;have:=HK3.out;have:=HJ54.out;have:=HK5.out;omega
                   case rel=>exact ⟨(true),(wrap64 (x21_5+1)),jD,jD,H',⟨jBr⟩,⟨jJ⟩,⟨jv⟩,⟨jw⟩,⟨jx⟩,⟨jQ⟩,⟨jd⟩,⟨jN⟩⟩
                  replace c73:=yb.mpr c73;subst c73;rw [if_neg (show ¬ (false=true) by decide)] at H
                  by_cases c75 : 0≤x21_5
                  ·
                   rw [if_pos c75] at H
                   have c75b0 : decide (0≤x21_5)=true:=decide_eq_true c75;clear c75;have H':=zh H;clear H;obtain ⟨Ao76,co76,eo76⟩:=yk HO_8.out;subst eo76;have p475 : 0≤(x21_5 : Int):=zy jC;have q475 : x21_5<(t448.length : Int):=zy jC;obtain ⟨ad475,e475,hx475_0⟩:=Kd.at_int (yh HO_8.out).2.2 x21_5 p475 q475
                   cases e475
                   replace p475:=eq_true p475;replace q475:=eq_true q475
                   go_wp2
                   go_roundg k5
                   case measure=>have:=HJ2.out;have:=HJ13.out;have:=HK3.out;have:=HJ54.out;have:=HK5.out;omega
                   case rel=>exact ⟨(((rd t448 x21_5) == t473)),(wrap64 (x21_5+1)),jD,jD,H',⟨jBr⟩,⟨jJ⟩,⟨jv⟩,⟨jw⟩,⟨jx⟩,⟨jQ⟩,⟨jd⟩,⟨jN⟩⟩
                  rw [if_neg c75] at H;exact absurd H (by simp)
                 rw [if_neg c72] at H;have c72b0 : decide (x21_5<(t448.length : Int))=false:=decide_eq_false c72;clear c72
                 by_cases c77 : t474=0
                 ·
                  rw [if_pos c77] at H
                  have c77b0 : (t474 == 0)=true:=ya.mpr c77;have c77b1 : (t474 != 0)=false:=zX.mpr c77;clear c77
                  by_cases c78 : x20_5=true
                  ·
                   subst c78
                   rw [if_pos rfl] at H;have H':=zh H;clear H;obtain ⟨Ao79,co79,eo79⟩:=yk HO_8.out;subst eo79
                   go_wp2
                   go_roundg k5
                   case measure=>have:=HJ2.out;have:=HJ13.out;have:=HK3.out;have:=HJ54.out;have:=HK5.out;omega
                   case rel=>exact ⟨((wrap64 (x16_3+1))),(wrap64 (x17_3+1)),jD,jD,H',⟨jBr⟩,⟨jJ⟩,⟨jv⟩,⟨jw⟩,⟨jx⟩,⟨jQ⟩,⟨jd⟩,⟨jN⟩⟩
                  replace c78:=yb.mpr c78;subst c78;rw [if_neg (show ¬ (false=true) by decide)] at H;obtain rfl:=zU H;obtain ⟨Ao80,co80,eo80⟩:=yk HO_8.out;subst eo80
                  go_wp2
                  go_ret
                  exact ⟨jG,jN⟩
                 rw [if_neg c77] at H;have c77b0 : (t474 == 0)=false:=zY.mpr c77;have c77b1 : (t474 != 0)=true:=zZ.mpr c77;obtain rfl:=zU H;obtain ⟨Ao81,co81,eo81⟩:=yk HO_8.out;subst eo81
                 go_wp2
                 go_ret
                 exact ⟨jG,jN⟩
              rw [if_neg c68] at H;exact absurd H (by simp)
             rw [if_neg c67] at H;exact absurd H (by simp)
          replace c54:=yb.mpr c54;subst c54;rw [if_neg (show ¬ (false=true) by decide)] at H;have H':=zh H;clear H;obtain ⟨Ao82,co82,eo82⟩:=yk HO_13.out;subst eo82
          try go_wp2
          replace HO_7:=zh (zo HO_7.out);replace HO_8:=zh (zo HO_8.out);replace HO_13:=zh (zo HO_13.out);replace HO_433000:=zh (Kd.N_drew HO_433000.out);replace BK432:=zh (zf BK432.out);replace BK444:=zh (zf BK444.out);replace HB:=zh (zc HB.out);have p468 : 0≤(x17_3 : Int):=zy jC;have q468 : x17_3<(t459.length : Int):=zy jC;obtain ⟨ad468,e468,hx468_0,hx468_1⟩:=at_T28 (yh HO_13.out).2.2 x17_3 p468 q468
          cases e468
          replace p468:=eq_true p468;replace q468:=eq_true q468;refine start_ (n:=8) (S:=fun w' => w'.cell? ⟨gb444,0,none⟩=some (.string t433)∧w'.cell? ⟨gb444,1,none⟩=some (.string t441)∧w'.cell? ⟨gb444,2,none⟩=some (.bool (t443 == 0))∧w'.cell? (ad468.add ((x17_3).toNat*2))=some (.string ((rd_T28 t459 x17_3).f0))∧w'.cell? ⟨(ad468.add ((x17_3).toNat*2)).block,(ad468.add ((x17_3).toNat*2)).off+1,none⟩=some (.int .i64 ((rd_T28 t459 x17_3).f1))) (ds:=[]) (bm_ 0 8) jA rfl rfl ⟨(zz BK444.out 0).trans rfl,(zz BK444.out 1).trans rfl,(zz BK444.out 2).trans rfl,hx468_0,hx468_1⟩ (fun hHeld=>?_);refine with_tabW F0.tab14 F0.bits14 (fun HT_ HW_=>?_);generalize wr.drew=w83 at HO_7 HO_8 HO_13 HO_433000 BK432 BK444 HB hx468_0 hx468_1 hHeld ⊢;refine pure_ (i:=1) (N:=some 90) (v:=?_) (a':=?_) #[false,true,false,false,false,false,false,false] rfl rfl (any_of HT_.out jA) (fun _ _ _ h=>h) (Or.inl ⟨by rfl,?_⟩) ?_ ?_;rotate_left;exact jb;rotate_left;exact jc
          refine pure_ (i:=2) (N:=some 91) (v:=?_) (a':=?_) #[false,true,true,false,false,false,false,false] rfl rfl (any_of HT_.out jA) (fun _ _ _ h=>h) (Or.inl ⟨by rfl,?_⟩) ?_ ?_;rotate_left;exact jb;rotate_left;exact jc
          refine pure_ (i:=3) (N:=some 92) (v:=?_) (a':=?_) #[false,true,true,true,false,false,false,false] rfl rfl (any_of HT_.out jA) (fun _ _ _ h=>h) (Or.inl ⟨by rfl,?_⟩) ?_ ?_;rotate_left;exact jb;rotate_left;exact jc
          refine pure_ (i:=4) (N:=some 93) (v:=?_) (a':=?_) #[false,true,true,true,true,false,false,false] rfl rfl (any_of HT_.out jA) (fun _ _ _ h=>h) (Or.inl ⟨by rfl,?_⟩) ?_ ?_;rotate_left;exact jb;rotate_left;exact jc
          refine take_ (i:=0) (N:=some 89) (v:=?_) (a':=?_) (bm_ 5 8) rfl rfl (yo HT_.out HW_.out jA) (fun _ _ _ h=>h) (Or.inl ⟨by rfl,?_⟩) hHeld ?_ ?_;rotate_left
          ·
           rintro w' ⟨s0,s1,s2,s3,s4⟩
           go_simp
           with_reducible rfl
          rotate_left
          exact jc
          refine take_ (i:=5) (N:=some 94) (v:=?_) (a':=?_) (bm_ 6 8) rfl rfl (yo HT_.out HW_.out jA) (fun _ _ _ h=>h) (Or.inl ⟨by rfl,?_⟩) hHeld ?_ ?_;rotate_left
          ·
           rintro w' ⟨s0,s1,s2,s3,s4⟩
           go_simp
           with_reducible rfl
          rotate_left
          exact jc
          refine one_ (i:=6) (N:=some 95) (bm_ 7 8) rfl rfl (one_of HT_.out jA) jB (fun K hK=>?_);refine goes_ Try.func12 jA rfl #[.agg #[.string t433,.string t441,.bool (t443 == 0)],.string ((rd_T28 t459 x17_3).f0)] (by rfl) rfl rfl jF ?_
          with_reducible refine (Fv.calls k3  t433 t441 (t443 == 0) ((rd_T28 t459 x17_3).f0) false _ A53.out).mono ?_
          rintro e w84 ⟨rfl,hb⟩;have HS3_:=(hb.cell (zl _ _ (hHeld.2.2.2.1))).trans (hHeld.2.2.2.1);have HS4_:=(hb.cell (zl _ _ (hHeld.2.2.2.2))).trans (hHeld.2.2.2.2);refine ⟨_,rfl,?_⟩;replace HO_7:=zh (yg jJ hb);replace HO_8:=zh (yg jv hb);replace HO_13:=zh (yg jw hb);replace HO_433000:=zh (Kd.N_below jx hb);replace BK432:=zh (cD BK432.out jQ hb);replace BK444:=zh (cD BK444.out jd hb);replace HB:=zh (zC jN hb);(try clear hb);(try clear hb2);(try clear hk);(try clear hi);refine hK.out _ _ ⟨(zz BK444.out 0).trans rfl,(zz BK444.out 1).trans rfl,(zz BK444.out 2).trans rfl,HS3_,HS4_⟩ (fun hHeld=>?_);clear hK K;refine norm_ (a':=?_) ?_ ?_;rotate_left
          ·
           show Act.put _ (some 95) _=_
           simp only [Act.put,zi,zj,zk,zG,zH]
           rfl
          refine pure_ (i:=7) (N:=some 96) (v:=?_) (a':=?_) (bm_ 8 8) rfl rfl (any_of HT_.out jA) (fun _ _ _ h=>h) (Or.inl ⟨by rfl,?_⟩) ?_ ?_;rotate_left;exact jb;rotate_left;exact jc
          refine done_ (done_of HT_.out jA) ?_
          try go_wp2
          go_roundg k3
          case measure=>have:=HJ2.out;have:=HJ13.out;have:=HK3.out;omega
          case rel=>exact ⟨(x16_3),(wrap64 (x17_3+1)),jD,jD,H',⟨by have:=HJ2.out;have:=HJ13.out;have:=HK3.out;omega⟩,⟨jJ⟩,⟨jv⟩,⟨jw⟩,⟨jx⟩,⟨jQ⟩,⟨jd⟩,⟨jN⟩⟩
         rw [if_neg c52] at H;exact absurd H (by simp)
        rw [if_neg c51] at H;have c51b0 : decide (x17_3<(t459.length : Int))=false:=decide_eq_false c51;clear c51;obtain rfl:=zU H;obtain ⟨Ao85,co85,eo85⟩:=yk HO_13.out;subst eo85;obtain ⟨Ao86,co86,eo86⟩:=yk HO_7.out;subst eo86
        go_wp2
        go_ret
        exact ⟨jG,jN⟩
   rw [if_neg c8] at H;exact absurd H (by simp)

end Go.Proofs.Ytgifonogfgpjdaa.Q
end
section
namespace Go.Proofs.YtgifonogfgpjdaaW.PrintOpen
open Go.RowKit Go.ChangeShapes Go.WideShapes Go.ChangeAt Go.Proofs.YtgifonogfgpjdaaW.PrintWords
def Opens {α : Type} (P : Program) (d : Kd α) (t : TypeId) (good : α→Prop) : Prop :=
 ∀ (H : Type) (enc : TypeId×Value→H) (w : World) (base : Nat) (spare : Nat→Bool) (held : Bool) (fuel : Nat) (cs : List Value) (x : DataW H×List MemPlace),
  DataW.trod enc P w base spare held fuel t cs=some x → ∃ a,d.K w a cs∧good a
variable {P : Program}
theorem opens_int {t : TypeId} {k : IntKind} (ht : P.underlying t=some (.int k)) : Opens P (Kd.int k) t (fun n=>(Lit.int k n).wf=true):=by
 intro H enc w base spare held fuel cs x h;obtain ⟨n,hcs,_,hw⟩:=DataW.trod_int ht h;exact ⟨n,hcs,hw⟩
theorem opens_slice {α : Type} {t e : TypeId} {d : Kd α} {g : α→Prop} (ht : P.underlying t=some (.slice e)) (hc : P.cellsOf e=d.sz) (he : Opens P d e g) :
  Opens P (Kd.slice e d) t (fun l=>l.length≤9223372036854775807 ∧ ∀ x ∈ l,g x):=by
 intro H enc w base spare held fuel cs x h;rcases Deep.open_slice ht h with ⟨rfl,_⟩|⟨a,len,cap,m,n,D,Pl,rfl,_,hl,hm,hmm,_,hx⟩
 ·
  exact ⟨[],⟨none,0,rfl,Nat.le_refl _,rfl,by simp,fun h0=>absurd h0 (by simp)⟩,by simp,by simp⟩
 have hlm : len≤m:=by rw [hmm];split <;> omega
 have hall : ∀ i : Fin len,∃ v : α×List Value,w.cells? base (a.add (i.1*P.cellsOf e)) (P.cellsOf e)=some v.2∧d.K w v.1 v.2∧g v.1:=fun i=>by
  obtain ⟨cs',h1,h2⟩:=hx i.1 (by have:=i.2;omega);obtain ⟨a',hk,hg⟩:=he H enc w base spare held n cs' _ h2;exact ⟨(a',cs'),h1,hk,hg⟩
 obtain ⟨V,hV⟩:=Classical.axiomOfChoice hall;have hmax : len≤9223372036854775807:=by unfold maxLen at hm;omega
 have hlen : (List.ofFn fun i=>(V i).1).length=len:=List.length_ofFn;refine ⟨List.ofFn fun i=>(V i).1,⟨some a,cap,by rw [hlen],by rw [hlen];exact hl,rfl,by rw [hlen];exact hmax,fun _=>⟨a,rfl,?_⟩⟩,by rw [hlen];exact hmax,?_⟩
 ·
  intro j p hj
  have hjl : j<len:=by
   have:=(List.getElem?_eq_some_iff.1 hj).1
   omega
  rw [List.getElem?_ofFn,dif_pos hjl] at hj;obtain rfl:=Option.some.inj hj;obtain ⟨h1,h2,_⟩:=hV ⟨j,hjl⟩;obtain ⟨_,hlen2,hcell⟩:=World.cells?_some h1;refine ⟨(V ⟨j,hjl⟩).2,by rw [← hc];exact hlen2,h2,fun q u hu=>?_⟩
  have hq : q<P.cellsOf e:=by
   have:=(List.getElem?_eq_some_iff.1 hu).1
   omega
  have h3:=hcell q hq;rw [Deep.add_add,hu,hc] at h3;exact h3
 intro x hx;obtain ⟨i,rfl⟩:=List.mem_ofFn.1 hx;exact (hV i).2.2
def OpensF {α : Type} (P : Program) (d : Kd α) (fs : List Field) (off : Nat) (good : α→Prop) : Prop :=
 ∀ (H : Type) (enc : TypeId×Value→H) (w : World) (base : Nat) (spare : Nat→Bool) (held : Bool) (fuel : Nat) (cs : List Value),off+d.sz≤cs.length →
  (∀ f ∈ fs,∃ x,DataW.trod enc P w base spare held fuel f.type ((cs.drop f.offset).take (P.cellsOf f.type))=some x) → ∃ a,d.K w a ((cs.drop off).take d.sz)∧good a
theorem arg_slice {α : Type} {d : Kd α} {t e : TypeId} {g : List α→Prop} {H : Type} {enc : TypeId×Value→H} {w : World} {base b0 : Nat} {spare : Nat→Bool} {held : Bool} {r : Reach} {v : Value} {dd : DataW H} {p : List MemPlace}
  (ht : P.underlying t=some (.slice e)) (h : Opens P (Kd.slice e d) t g) (hv : Value.okWide P w r b0 t v) (hd : DataW.Trod enc P w base spare held t v dd p) :
  ∃ (l : List α) (A : Option Addr) (c : Nat),v = .slice A l.length c∧l.length≤c∧Kd.C d w A l.length l∧g l:=by
 obtain ⟨a,len,cap,rfl⟩:=okWide_slice ht hv;obtain ⟨fuel,hf⟩:=hd;obtain ⟨l,⟨A,c,he,hl,hc⟩,hg⟩:=h H enc w base spare held fuel _ _ hf;simp [Value.cells] at he;obtain ⟨rfl,rfl,rfl⟩:=he;exact ⟨l,a,cap,rfl,hl,hc,hg⟩
end Go.Proofs.YtgifonogfgpjdaaW.PrintOpen
end
section
namespace Go.Proofs.Ytgifonogfgpjdaa.Q
open Go.RowKit Go.Proofs.YtgifonogfgpjdaaW.PrintWords Go.Proofs.YtgifonogfgpjdaaW.PrintLast Go.Proofs.YtgifonogfgpjdaaW.PrintMore Go.Proofs.YtgifonogfgpjdaaW.PrintOpen

end Go.Proofs.Ytgifonogfgpjdaa.Q
end
section
namespace Go.Proofs.Ytgifonogfgpjdaa.Q
def F0.Pure : Prop:=∀ (x0 : List Int) (x1 : List Int),((x0.length≤9223372036854775807 ∧ ∀ y0_ ∈ x0,(Lit.int .u8 y0_).wf=true))→((x1.length≤9223372036854775807 ∧ ∀ y0_ ∈ x1,(Lit.int .u8 y0_).wf=true)) → ∃ k,F0.f k x0 x1=some true
end Go.Proofs.Ytgifonogfgpjdaa.Q
end
section
namespace Go.Proofs.YtgifonogfgpjdaaW.Pl
open Go Go.RowKit Go.Proofs.YtgifonogfgpjdaaW.PrintWords Go.Proofs.YtgifonogfgpjdaaW.PrintMore
theorem w64 {i : Int} (h0 : -9223372036854775808≤i) (h1 : i≤9223372036854775807) : wrap64 i=i:=by unfold wrap64;omega
theorem fuel {k d : Nat} (h : d<k) : ∃ m,k=m+1∧d≤m:=⟨k - 1,by omega,by omega⟩
theorem rdOf_at {α : Type} (d : α) (xs : List α) (i : Nat) (h : i<xs.length) : rdOf d xs (i : Int)=xs[i]:=by
 unfold rdOf;simp [List.getD,h]
theorem rd_at (xs : List Int) (i : Nat) (h : i<xs.length) : rd xs (i : Int)=xs[i]:=by
 unfold rd;simp [List.getD,h]
theorem getD_at {α : Type} (d : α) (xs : List α) (i : Nat) (h : i<xs.length) : xs.getD (i : Int).toNat d=xs[i]:=by
 simp [List.getD,h]
theorem drop_at {α : Type} (xs : List α) (i : Nat) (h : i<xs.length) : xs.drop i=xs[i] :: xs.drop (i+1):=List.drop_eq_getElem_cons h
theorem ba_toList (a : ByteArray) : a.toList=a.data.toList:=ByteArray.toList_eq a
theorem ba_ext {a b : ByteArray} (h : a.toList=b.toList) : a=b:=by
 rw [ba_toList,ba_toList] at h
 cases a;cases b
 simp at h;rw [h]
def all2 {α β : Type} (e : α→β→Bool) : List α→List β→Bool
 | [],_=>true
 | _ :: _,[]=>true
 | x :: xs,y :: ys=>e x y && all2 e xs ys
def first {α : Type} (p : α→Bool) : List α→Nat→Int
 | [],_ => -1
 | x :: xs,i=>if p x=true then i else first p xs (i+1)
theorem first_any {α : Type} (p : α→Bool) : ∀ (xs : List α) (i : Nat),decide (first p xs i ≥ 0)=xs.any p
 | [],i=>rfl
 | x :: xs,i=>by
  by_cases h : p x=true
  ·
   simp [first,h]
  simp only [first,if_neg h,List.any_cons,first_any p xs (i+1)];simp [h]
def total {α : Type} (s : α→Nat) : List α→Nat
 | []=>0
 | x :: xs=>s x+total s xs
def less {α : Type} (s : α→Nat) : List α→Int→Int
 | [],l=>l
 | x :: xs,l=>if l - s x<0 then -1 else less s xs (l - s x)
def Eve {α : Type} (g : Nat→Option α) (v : α) : Prop:=∃ K,∀ k,K≤k→g k=some v
theorem Eve.one {α : Type} {v : α} : Eve (fun _=>some v) v:=⟨0,fun _ _=>rfl⟩
theorem Eve.all {α : Type} {g : Nat→Option α} {v : α} (h : ∀ k,g k=some v) : Eve g v:=⟨0,fun k _=>h k⟩
theorem Eve.of {α : Type} {g : Nat→Option α} {v : α} {n : Nat} (h : ∀ k,n<k→g k=some v) : Eve g v:=⟨n+1,fun k hk=>h k (by omega)⟩
theorem Eve.succ {α : Type} {g : Nat→Option α} {v : α} (h : Eve (fun k=>g (k+1)) v) : Eve g v:=by
 obtain ⟨K,h⟩:=h;refine ⟨K+1,fun k hk=>?_⟩;obtain ⟨k,rfl⟩ : ∃ m,k=m+1:=⟨k - 1,by omega⟩;exact h k (by omega)
theorem Eve.bind {α β : Type} {g : Nat→Option α} {f : Nat→α→Option β} {v : α} {u : β} (h : Eve g v) (h2 : Eve (fun k=>f k v) u) : Eve (fun k=>(g k).bind (f k)) u:=by
 obtain ⟨K,h⟩:=h;obtain ⟨K2,h2⟩:=h2;refine ⟨max K K2,fun k hk=>?_⟩;show (g k).bind (f k)=some u;rw [h k (by omega),Option.bind_some];exact h2 k (by omega)
theorem Eve.ite {α : Type} {c : Prop} [Decidable c] {a b : Nat→Option α} {v : α} (h1 : c→Eve a v) (h2 : ¬ c→Eve b v) : Eve (fun k=>if c then a k else b k) v:=by
 by_cases h : c
 ·
  simp only [if_pos h];exact h1 h
 simp only [if_neg h];exact h2 h
theorem Eve.get {α : Type} {g : Nat→Option α} {v : α} (h : Eve g v) : ∃ k,g k=some v:=by
 obtain ⟨K,h⟩:=h;exact ⟨K,h K (by omega)⟩
theorem Eve.eq {α : Type} {g : Nat→Option α} {v u : α} (h : Eve g v) (e : v=u) : Eve g u:=e ▸ h
theorem Eve.congr {α : Type} {g f : Nat→Option α} {v : α} (h : Eve g v) (e : ∀ k,f k=g k) : Eve f v:=by
 obtain ⟨K,h⟩:=h;exact ⟨K,fun k hk=>by rw [e,h k hk]⟩
theorem ev_loop {σ α β : Type} (xs : List α) (g : Nat→σ→Int→Option β) (R : Nat→σ→List α→β) (I : Nat→σ→Prop)
  (hend : ∀ s,I xs.length s→Eve (fun k=>g (k+1) s (xs.length : Int)) (R xs.length s []))
  (hstep : ∀ (i : Nat) (h : i<xs.length) (s : σ),I i s→(∀ s',I (i+1) s' → Eve (fun k=>g k s' ((i+1 : Nat) : Int)) (R (i+1) s' (xs.drop (i+1)))) →
   Eve (fun k=>g (k+1) s (i : Int)) (R i s (xs[i] :: xs.drop (i+1)))) :
  ∀ (d i : Nat) (s : σ),i+d=xs.length→I i s→Eve (fun k=>g k s (i : Int)) (R i s (xs.drop i)):=by
 intro d
 induction d with
 | zero =>
  intro i s hi hI;obtain rfl : i=xs.length:=by omega
  rw [List.drop_length];exact Eve.succ (hend s hI)
 | succ d ih =>
  intro i s hi hI;have hlt : i<xs.length:=by omega
  rw [drop_at xs i hlt];exact Eve.succ (hstep i hlt s hI (fun s' h' => ih (i+1) s' (by omega) h'))
theorem ev_loop0 {σ α β : Type} (xs : List α) (g : Nat→σ→Int→Option β) (R : Nat→σ→List α→β) (I : Nat→σ→Prop)
  (hend : ∀ s,I xs.length s→Eve (fun k=>g (k+1) s (xs.length : Int)) (R xs.length s []))
  (hstep : ∀ (i : Nat) (h : i<xs.length) (s : σ),I i s→(∀ s',I (i+1) s' → Eve (fun k=>g k s' ((i+1 : Nat) : Int)) (R (i+1) s' (xs.drop (i+1)))) →
   Eve (fun k=>g (k+1) s (i : Int)) (R i s (xs[i] :: xs.drop (i+1)))) (s : σ) (h0 : I 0 s) : Eve (fun k=>g k s 0) (R 0 s xs):=by
 have:=ev_loop xs g R I hend hstep xs.length 0 s (by omega) h0
 simpa using this
end Go.Proofs.YtgifonogfgpjdaaW.Pl
end
section
namespace Go.Proofs.Ytgifonogfgpjdaa.Pure
open Go.RowKit Go.Proofs.Ytgifonogfgpjdaa.Q Go.Proofs.YtgifonogfgpjdaaW.PrintWords Go.Proofs.YtgifonogfgpjdaaW.PrintLast Go.Proofs.YtgifonogfgpjdaaW.Pl
abbrev IEnt:=S28
abbrev IPag:=S60
theorem wi {i : Nat} (h : i≤9223372036854775806) : wrap64 ((i : Int)+1)=((i+1 : Nat) : Int):=w64 (by omega) (by omega)
theorem rdIE (l : List IEnt) (i : Nat) (h : i<l.length) : rd_T28 l (i : Int)=l[i]:=getD_at _ l i h
theorem rdIP (l : List IPag) (i : Nat) (h : i<l.length) : rd_T60 l (i : Int)=l[i]:=getD_at _ l i h
end Go.Proofs.Ytgifonogfgpjdaa.Pure
end
section
namespace Go.Proofs.Ytgifonogfgpjdaa.Pure
open Go.RowKit Go.Proofs.Ytgifonogfgpjdaa.Q Go.Proofs.YtgifonogfgpjdaaW.PrintWords Go.Proofs.YtgifonogfgpjdaaW.PrintLast Go.Proofs.YtgifonogfgpjdaaW.PrintMore Go.Proofs.YtgifonogfgpjdaaW.Pl
theorem cb_is : ∀ x y : List UInt8,Lib.compareBytes x y=if Op.bytesLess x y=true then -1 else if x=y then 0 else 1
 | [],[]=>by simp [Lib.compareBytes,Op.bytesLess]
 | [],_ :: _=>by simp [Lib.compareBytes,Op.bytesLess]
 | _ :: _,[]=>by simp [Lib.compareBytes,Op.bytesLess]
 | a :: x,b :: y=>by
  simp only [Lib.compareBytes,Op.bytesLess];rw [cb_is x y]
  by_cases h : a<b
  ·
   simp [h]
  by_cases h2 : b<a
  ·
   have h3 : ¬ a=b:=by rintro rfl;exact h h2
   simp [h,h2,h3]
  have h3 : a=b:=by
   apply UInt8.toNat_inj.mp;rw [UInt8.lt_iff_toNat_lt] at h h2
   omega
  subst h3;simp [h]
def el (a b : IEnt) : Bool:=Op.bytesLess a.f0.toList b.f0.toList || (decide (a.f0.toList=b.f0.toList) && decide (a.f1<b.f1))
theorem less_tells (a b : IEnt) : F01.f a.f0 a.f1 b.f0 b.f1=some (el a b):=by
 unfold F01.f el
 by_cases h : Op.bytesLess a.f0.toList b.f0.toList=true
 ·
  rw [if_pos h,h];rfl
 rw [if_neg h]
 by_cases h2 : a.f0.toList=b.f0.toList
 ·
  rw [if_pos h2];simp [h2] at *;simp [h]
 rw [if_neg h2];simp [h,h2]
def ce (a b : IEnt) : Int:=if Op.bytesLess a.f0.toList b.f0.toList=true then -1 else if a.f0.toList=b.f0.toList then (if a.f1<b.f1 then -1 else if a.f1 > b.f1 then 1 else 0) else 1
theorem compare_tells (a b : IEnt) : Eve (fun k=>Fi.f k a.f0 a.f1 b.f0 b.f1) (ce a b):=by
 refine ⟨4,fun k hk=>?_⟩;obtain ⟨k,rfl⟩ : ∃ m,k=m+3:=⟨k - 3,by omega⟩;have w1 : wrap64 (0+1)=1:=w64 (by omega) (by omega);have w2 : wrap64 (1+1)=2:=w64 (by omega) (by omega)
 have hor : ∀ p q : Int,Fj.f (k+3) [p,q]=some (if p=0 then q else p):=by
  intro p q;have r0 : rd [p,q] 0=p:=rfl;have r1 : rd [p,q] 1=q:=rfl;simp only [Fj.f,Fj.l0,List.length_cons,List.length_nil,w1,w2,r0,r1]
  by_cases hp : p=0
  ·
   by_cases hq : q=0
   ·
    simp [hp,hq]
   simp [hp,hq]
  simp [hp]
 have hc : F05.f a.f1 b.f1=some (if a.f1<b.f1 then -1 else if a.f1 > b.f1 then 1 else 0):=by
  simp only [F05.f,Fs.f,Option.bind_some,bne_self_eq_false,Bool.false_eq_true,if_false]
  repeat' split
  all_goals rfl
 unfold Fi.f strings_Compare.f;rw [hc];simp only [Option.bind_some,hor,← ba_toList,cb_is];unfold ce
 by_cases h : Op.bytesLess a.f0.toList b.f0.toList=true
 ·
  simp [h]
 by_cases h2 : a.f0.toList=b.f0.toList
 ·
  simp only [if_neg h,if_pos h2,if_true]
 simp [h,h2]
theorem less_irrefl (x : List UInt8) : Op.bytesLess x x=false:=by
 rw [← bytesLess_total x x];simp
theorem ce_lt (a b : IEnt) : ce a b ≥ 0 ↔ ¬ el a b=true:=by
 unfold ce el
 by_cases h : Op.bytesLess a.f0.toList b.f0.toList=true
 ·
  simp [h]
 by_cases h2 : a.f0.toList=b.f0.toList
 ·
  rw [h2,less_irrefl]
  by_cases h3 : a.f1<b.f1
  ·
   simp [h3]
  by_cases h4 : a.f1 > b.f1
  ·
   simp [h3,h4]
  simp [h3,h4]
 simp [h,h2]
theorem ce_le (a b : IEnt) : ce a b≤0 ↔ ¬ el b a=true:=by
 unfold ce el;have ht:=bytesLess_total a.f0.toList b.f0.toList;rw [← ht]
 by_cases h : Op.bytesLess a.f0.toList b.f0.toList=true
 ·
  have : ¬ b.f0.toList=a.f0.toList:=by intro e;rw [e,less_irrefl] at h;simp at h
  simp [h,this]
 by_cases h2 : a.f0.toList=b.f0.toList
 ·
  rw [h2,less_irrefl]
  by_cases h3 : a.f1<b.f1
  ·
   have : ¬ b.f1<a.f1:=by omega
   simp [h3,this]
  by_cases h4 : a.f1 > b.f1
  ·
   have : b.f1<a.f1:=by omega
   simp [h3,h4]
  have : ¬ b.f1<a.f1:=by omega
  simp [h3,h4]
 simp [h,h2]
def inr (a b c : Int) : Bool:=decide (b≤a) && decide (a≤c)
theorem in_spec (a b c : Int) : Fr.f a b c=some (inr a b c):=by
 unfold Fr.f inr
 by_cases h : b≤a
 ·
  rw [if_pos h];simp [h]
 rw [if_neg h];simp [h]
theorem in_impl (a b c : Int) : Fp.f a b c=some (inr a b c):=in_spec a b c
def eok (e : IEnt) : Bool:=decide ((e.f0.size : Int)≤2000) && inr e.f1 0 9999
theorem eok_spec (e : IEnt) : F08.f e.f0 e.f1=some (eok e):=by
 unfold F08.f eok
 by_cases h : (e.f0.size : Int)≤2000
 ·
  rw [if_pos h,in_spec];simp [h]
 rw [if_neg h];simp [h]
theorem eok_impl (e : IEnt) : F00.f e.f0 e.f1=some (eok e):=eok_spec e
def ens : IEnt→List IEnt→Bool
 | _,[]=>true
 | p,e :: es=>eok e && (el p e && ens e es)
def lastE : IEnt→List IEnt→IEnt
 | p,[]=>p
 | _,e :: es=>lastE e es
theorem ens_append : ∀ (p : IEnt) (xs ys : List IEnt),ens p (xs++ys)=(ens p xs && ens (lastE p xs) ys)
 | p,[],ys=>by simp [ens,lastE]
 | p,e :: xs,ys=>by simp only [List.cons_append,ens,lastE,ens_append e xs ys,Bool.and_assoc]
def noE : IEnt:=⟨(⟨#[]⟩ : ByteArray),-1⟩
theorem noE_less (e : IEnt) (h : eok e=true) : el noE e=true:=by
 unfold eok inr at h;simp only [Bool.and_eq_true,decide_eq_true_eq] at h;have h0 : noE.f0.toList=[]:=by rw [ba_toList];rfl
 have h1 : noE.f1 = -1:=rfl;unfold el;rw [h0,h1]
 cases e.f0.toList with
 | nil=>simp [Op.bytesLess];omega
 | cons a x=>simp [Op.bytesLess]
def pok (T : List IPag) (n : Int) (seen : List Int) (p : IPag) : Bool:=inr p.f0 1 (n - 1) && (!seen.contains p.f0 && (decide ((p.f1.length : Int)≤4) && !(decide ((p.f1.length : Int)=0) && decide ((T.length : Int) > 1))))
def poks (T : List IPag) (n : Int) : List Int→List IPag→Bool
 | _,[]=>true
 | seen,p :: ps=>pok T n seen p && poks T n (seen ++ [p.f0]) ps
def tok (T : List IPag) (n : Int) : Bool:=inr T.length 1 60 && (inr n 2 100000 && (poks T n [] T && ens noE (T.flatMap (·.f1))))
theorem entries_tells (T : List IPag) (n : Int) (hT : T.length≤1048576) (hf : (T.flatMap (·.f1)).length≤1048576) : Eve (fun k=>Fg.f k T n) (T.flatMap (·.f1)):=by
 simp only [Fg.f]
 have:=ev_loop0 T (fun k ys i=>Fg.l0 k ys T (T.length : Int) i) (fun _ ys r=>ys++r.flatMap (·.f1)) (fun i ys=>ys++(T.drop i).flatMap (·.f1)=T.flatMap (·.f1)) (fun ys _=>by
  simp only [Fg.l0]
  exact Eve.ite (fun h=>absurd h (by omega)) (fun _=>Eve.one.eq (by simp))) (fun i hi ys hI ih=>by
  rw [drop_at T i hi,List.flatMap_cons] at hI;simp only [Fg.l0];refine Eve.ite (fun _=>?_) (fun h=>absurd (by omega) h);refine Eve.ite (fun _=>?_) (fun h=>absurd (by omega) h);refine Eve.ite (fun _=>?_) (fun h=>absurd (by omega) h);simp only [rdIP _ _ hi,wi (show i≤9223372036854775806 by omega)];refine Eve.ite (fun _=>?_) (fun h=>absurd ?_ h)
  ·
   exact (ih (ys++T[i].f1) (by rw [← hI,List.append_assoc])).eq (by rw [List.append_assoc,List.flatMap_cons])
  have:=congrArg List.length hI;simp only [List.length_append] at this
  omega) [] (by simp)
 simpa using this
theorem contains_tells (xs : List Int) (a : Int) (h : xs.length≤1048576) : Eve (fun k=>Ft.f k xs a) (xs.contains a):=by
 simp only [Ft.f,Fl.f];refine Eve.bind (v:=first (fun x=>decide (a=x)) xs 0) ?_ (Eve.one.eq ?_)
 ·
  refine ev_loop0 xs (fun k (_ : Unit) i=>Fl.l0 k xs a (xs.length : Int) i) (fun i _ r=>first (fun x=>decide (a=x)) r i) (fun _ _=>True) (fun _ _=>?_) (fun i hi s _ ih=>?_) () trivial
  ·
   simp only [Fl.l0]
   exact Eve.ite (fun h=>absurd h (by omega)) (fun _=>Eve.one)
  simp only [Fl.l0];refine Eve.ite (fun _=>?_) (fun h=>absurd (by omega) h);refine Eve.ite (fun _=>?_) (fun h=>absurd (by omega) h);refine Eve.ite (fun _=>?_) (fun h=>absurd (by omega) h);simp only [rd_at _ _ hi,wi (show i≤9223372036854775806 by omega)];refine Eve.ite (fun h=>Eve.one.eq ?_) (fun h=>(ih () trivial).eq ?_)
  ·
   simp [first,h]
  simp [first,h]
 rw [first_any]
 induction xs with
 | nil=>rfl
 | cons x xs ih =>
  rw [List.any_cons,ih (by simp at h;omega),List.contains_cons]
  by_cases e : a=x <;> simp [e]
theorem implOK_tells (T : List IPag) (n : Int) (hT : T.length≤1048576) (hf : (T.flatMap (·.f1)).length≤1048576) : Eve (fun k=>F4.f k T n) (tok T n):=by
 have hj1 : Eve (fun k=>F4.j0 k true T n) false:=Eve.succ (by simp only [F4.j0,if_true];exact Eve.one);simp only [F4.f,in_impl,Option.bind_some];refine Eve.ite (fun h1=>?_) (fun h1=>hj1.eq (by simp [tok,h1]))
 cases h2 : inr n 2 100000
 ·
  exact hj1.eq (by simp [tok,h2])
 refine Eve.succ ?_;simp only [F4.j0,Bool.not_true,Bool.false_eq_true,if_false]
 have hn : wrap64 (n - 1)=n - 1:=by
  unfold inr at h2;simp only [Bool.and_eq_true,decide_eq_true_eq] at h2;exact w64 (by omega) (by omega)
 have:=ev_loop0 T (fun k ys i=>F4.l0 k ys T (T.length : Int) i T n) (fun _ ys r=>poks T n ys r && ens noE (T.flatMap (·.f1))) (fun i ys=>ys.length=i) (fun ys hy=>by
  simp only [F4.l0];refine Eve.ite (fun h=>absurd h (by omega)) (fun _=>?_);refine Eve.bind (entries_tells T n hT hf) ?_;generalize hE : T.flatMap (·.f1)=E at hf ⊢
  have hl:=ev_loop0 E (fun k (_ : Unit) i=>F4.l1 k E E (E.length : Int) i) (fun i _ r=>ens (if i=0 then noE else E.getD (i - 1) noE) r) (fun _ _=>True) (fun _ _=>by
   simp only [F4.l1]
   exact Eve.ite (fun h=>absurd h (by omega)) (fun _=>Eve.one)) (fun i hi s _ ih=>by
   simp only [F4.l1];refine Eve.ite (fun _=>?_) (fun h=>absurd (by omega) h);refine Eve.ite (fun _=>?_) (fun h=>absurd (by omega) h);refine Eve.ite (fun _=>?_) (fun h=>absurd (by omega) h);simp only [rdIE _ _ hi,eok_impl,Option.bind_some,wi (show i≤9223372036854775806 by omega)];have hnx:=ih () trivial;simp only [Nat.add_one_ne_zero,if_false,Nat.add_sub_cancel,List.getD_eq_getElem?_getD,List.getElem?_eq_getElem hi,Option.getD_some] at hnx;refine Eve.ite (fun h1=>?_) (fun h1=>Eve.one.eq (by simp [ens,h1]));refine Eve.ite (fun h2=>?_) (fun h2=>hnx.eq ?_)
   ·
    have hw : wrap64 ((i : Int) - 1)=((i - 1 : Nat) : Int):=by rw [w64 (by omega) (by omega)];omega
    simp only [hw];refine Eve.ite (fun _=>?_) (fun h=>absurd (by omega) h);refine Eve.ite (fun _=>?_) (fun h=>absurd (by omega) h);rw [if_neg (by omega),List.getD_eq_getElem?_getD,List.getElem?_eq_getElem (show i - 1<E.length by omega),Option.getD_some];simp only [rdIE _ _ (show i - 1<E.length by omega)];refine Eve.bind (compare_tells _ _) ?_;refine Eve.ite (fun h3=>Eve.one.eq ?_) (fun h3=>hnx.eq ?_)
    ·
     have:=(ce_lt _ _).1 h3
     simp [ens,this]
    have : el (E[i - 1]) E[i]=true:=by
     by_cases h4 : el (E[i - 1]) E[i]=true
     ·
      exact h4
     exact absurd ((ce_lt _ _).2 h4) h3
    simp [ens,this,h1]
   obtain rfl : i=0:=by omega
   rw [if_pos rfl]
   simp [ens,h1,noE_less _ h1]) () trivial
  rw [if_pos rfl] at hl
  exact hl.eq (by simp [poks])) (fun i hi ys hI ih=>by
  simp only [F4.l0];refine Eve.ite (fun _=>?_) (fun h=>absurd (by omega) h);refine Eve.ite (fun _=>?_) (fun h=>absurd (by omega) h);refine Eve.ite (fun _=>?_) (fun h=>absurd (by omega) h);simp only [rdIP _ _ hi,hn,in_impl,Option.bind_some,wi (show i≤9223372036854775806 by omega)];refine Eve.ite (fun h1=>?_) (fun h1=>Eve.one.eq (by simp [poks,pok,h1]));refine Eve.bind (contains_tells ys _ (by omega)) ?_;refine Eve.ite (fun h2=>Eve.one.eq (by simp only [poks,pok,h2];simp)) (fun h2=>?_);refine Eve.ite (fun h3=>Eve.one.eq ?_) (fun h3=>?_)
  ·
   have : ¬ ((T[i].f1.length : Int)≤4):=by omega
   simp only [poks,pok,this];simp
  have h3' : ((T[i].f1.length : Int)≤4):=by omega
  have hnx:=ih (ys ++ [T[i].f0]) (by simp [hI]);refine Eve.ite (fun h4=>?_) (fun h4=>?_)
  ·
   refine Eve.ite (fun h5=>Eve.one.eq ?_) (fun h5=>?_)
   ·
    simp only [poks,pok,h4,h5];simp
   refine Eve.ite (fun _=>hnx.eq ?_) (fun h=>absurd (by omega) h);simp only [poks,pok,h1,h2,h4,h5];simp
  refine Eve.ite (fun _=>hnx.eq ?_) (fun h=>absurd (by omega) h)
  simp only [poks,pok,h1,h2,h3',h4];simp) [] rfl
 exact this.eq (by simp [tok,h1,h2])
theorem specOK_tells (T : List IPag) (n : Int) (hT : T.length≤1048576) (hf : ∀ p ∈ T,p.f1.length≤1048576) : Eve (fun k=>F3.f k T n) (tok T n):=by
 have hj1 : Eve (fun k=>F3.j0 k true T n) false:=Eve.succ (by simp only [F3.j0,if_true];exact Eve.one);simp only [F3.f,in_spec,Option.bind_some];refine Eve.ite (fun h1=>?_) (fun h1=>hj1.eq (by simp [tok,h1]))
 cases h2 : inr n 2 100000
 ·
  exact hj1.eq (by simp [tok,h2])
 refine Eve.succ ?_;simp only [F3.j0,Bool.not_true,Bool.false_eq_true,if_false]
 have hn : wrap64 (n - 1)=n - 1:=by
  unfold inr at h2;simp only [Bool.and_eq_true,decide_eq_true_eq] at h2;exact w64 (by omega) (by omega)
 have:=ev_loop0 T (fun k (e : IEnt) i=>F3.l0 k i T n e.f0 e.f1) (fun i e r=>poks T n ((T.take i).map (·.f0)) r && ens e (r.flatMap (·.f1))) (fun _ _=>True) (fun e _=>by
  simp only [F3.l0]
  exact Eve.ite (fun h=>absurd h (by omega)) (fun _=>Eve.one)) (fun i hi e _ ih=>by
  have htk : (T.take (i+1)).map (·.f0)=(T.take i).map (·.f0) ++ [T[i].f0]:=by
   rw [List.take_succ_eq_append_getElem hi,List.map_append];rfl
  simp only [htk] at ih;simp only [F3.l0];refine Eve.ite (fun _=>?_) (fun h=>absurd (by omega) h);refine Eve.ite (fun _=>?_) (fun h=>absurd (by omega) h);simp only [rdIP _ _ hi,hn,in_spec,Option.bind_some];generalize hp : T[i]=p at ih ⊢;have hpl : p.f1.length≤1048576:=by rw [← hp];exact hf _ (List.getElem_mem hi)
  have hjt : ∀ v,v=false→Eve (fun k=>F3.j2 k (i : Int) true T n e.f0 e.f1 p.f0 p.f1) v:=fun v hv=>Eve.succ (by simp only [F3.j2,if_true];exact Eve.one.eq hv.symm);have hjf : ∀ v,Eve (fun k=>F3.l1 k (i : Int) 0 T n e.f0 e.f1 p.f0 p.f1) v→Eve (fun k=>F3.j2 k (i : Int) false T n e.f0 e.f1 p.f0 p.f1) v:=fun v hv=>Eve.succ (by simp only [F3.j2,Bool.false_eq_true,if_false];exact hv)
  have hl2 : Eve (fun k=>F3.l2 k (i : Int) 0 T n e.f0 e.f1 p.f0 p.f1) (ens e p.f1 && (poks T n ((T.take i).map (·.f0) ++ [p.f0]) (T.drop (i+1)) && ens (lastE e p.f1) ((T.drop (i+1)).flatMap (·.f1)))):=by
   refine ev_loop0 p.f1 (fun k (e : IEnt) j=>F3.l2 k (i : Int) j T n e.f0 e.f1 p.f0 p.f1) (fun _ e r=>ens e r && (poks T n ((T.take i).map (·.f0) ++ [p.f0]) (T.drop (i+1)) && ens (lastE e r) ((T.drop (i+1)).flatMap (·.f1)))) (fun _ _=>True) (fun e' _=>?_) (fun j hj e' _ ih2=>?_) e trivial
   ·
    simp only [F3.l2]
    refine Eve.ite (fun h=>absurd h (by omega)) (fun _=>?_);simp only [wi (show i≤9223372036854775806 by omega)];exact (ih e' trivial).eq (by simp [ens,lastE])
   simp only [F3.l2];refine Eve.ite (fun _=>?_) (fun h=>absurd (by omega) h);refine Eve.ite (fun _=>?_) (fun h=>absurd (by omega) h);simp only [rdIE _ _ hj,eok_spec,less_tells,Option.bind_some,wi (show j≤9223372036854775806 by omega)];refine Eve.ite (fun h1=>?_) (fun h1=>Eve.one.eq (by simp [ens,h1]));refine Eve.ite (fun h2=>(ih2 p.f1[j] trivial).eq ?_) (fun h2=>Eve.one.eq (by simp [ens,h2]));simp only [ens,h1,h2,lastE,Bool.true_and]
  have hl1 : Eve (fun k=>F3.l1 k (i : Int) 0 T n e.f0 e.f1 p.f0 p.f1) (!((T.take i).map (·.f0)).contains p.f0 && (ens e p.f1 && (poks T n ((T.take i).map (·.f0) ++ [p.f0]) (T.drop (i+1)) && ens (lastE e p.f1) ((T.drop (i+1)).flatMap (·.f1))))):=by
   have hx : (T.take i).length=i:=by simp;omega
   refine ev_loop0 (T.take i) (fun k (_ : Unit) j=>F3.l1 k (i : Int) j T n e.f0 e.f1 p.f0 p.f1) (fun _ _ r => !(r.map (·.f0)).contains p.f0 && (ens e p.f1 && (poks T n ((T.take i).map (·.f0) ++ [p.f0]) (T.drop (i+1)) && ens (lastE e p.f1) ((T.drop (i+1)).flatMap (·.f1))))) (fun _ _=>True) (fun _ _=>?_) (fun j hj s _ ih2=>?_) () trivial
   ·
    simp only [F3.l1,hx]
    exact Eve.ite (fun h=>absurd h (by omega)) (fun _=>hl2.eq (by simp))
   have hjT : j<T.length:=by omega
   simp only [F3.l1];refine Eve.ite (fun _=>?_) (fun h=>absurd (by omega) h);refine Eve.ite (fun _=>?_) (fun h=>absurd (by omega) h);refine Eve.ite (fun _=>?_) (fun h=>absurd (by omega) h);simp only [rdIP _ _ hjT,wi (show j≤9223372036854775806 by omega),List.getElem_take];refine Eve.ite (fun h=>Eve.one.eq ?_) (fun h=>(ih2 () trivial).eq ?_)
   ·
    simp [h]
   simp [Ne.symm h]
  have happ : ∀ b : Bool,(b && poks T n ((T.take i).map (·.f0) ++ [p.f0]) (T.drop (i+1)) && ens e ((p :: T.drop (i+1)).flatMap (·.f1)))=(b && (ens e p.f1 && (poks T n ((T.take i).map (·.f0) ++ [p.f0]) (T.drop (i+1)) && ens (lastE e p.f1) ((T.drop (i+1)).flatMap (·.f1))))):=by
   intro b;rw [List.flatMap_cons,ens_append];generalize poks T n ((T.take i).map (·.f0) ++ [p.f0]) (T.drop (i+1))=u
   cases b <;> cases u <;> simp
  simp only [poks,happ];refine Eve.ite (fun h1=>?_) (fun h1=>hjt _ (by simp [pok,h1]));refine Eve.ite (fun h3=>hjt _ ?_) (fun h3=>?_)
  ·
   have : ¬ ((p.f1.length : Int)≤4):=by omega
   simp only [pok,this];simp
  have h3' : ((p.f1.length : Int)≤4):=by omega
  refine Eve.ite (fun h4=>?_) (fun h4=>?_)
  ·
   by_cases h5 : (T.length : Int) > 1
   ·
    simp only [h5,decide_true]
    refine hjt _ ?_;simp only [pok,h4,h5];simp
   simp only [h5,decide_false];refine (hjf _ hl1).eq ?_;simp only [pok,h1,h4,h5];simp
  refine (hjf _ hl1).eq ?_
  simp only [pok,h1,h3',h4];simp) noE trivial
 exact this.eq (by simp [tok,h1,h2])
def ihas (lo hi : ByteArray) (op : Bool) (key : ByteArray) : Bool:=if Op.bytesLess key.toList lo.toList=true then false else if op=true then true else Op.bytesLess key.toList hi.toList
def place (e : IEnt) : Nat→Int→List IPag→Int
 | _,at_,[]=>at_
 | i,at_,p :: ps=>place e (i+1) (match p.f1 with|[]=>at_|f :: _=>if el e f=true then at_ else (i : Int)) ps
theorem bl_trans : ∀ {x y z : List UInt8},Op.bytesLess x y=true→Op.bytesLess y z=true→Op.bytesLess x z=true
 | [],_,[],_,h=>by rename_i y _;cases y <;> simp [Op.bytesLess] at h
 | [],_,_ :: _,_,_=>by simp [Op.bytesLess]
 | _ :: _,[],_,h,_=>by simp [Op.bytesLess] at h
 | _ :: _,_ :: _,[],_,h=>by simp [Op.bytesLess] at h
 | a :: x,b :: y,c :: z,h1,h2=>by
  simp only [Op.bytesLess,Bool.or_eq_true,Bool.and_eq_true,decide_eq_true_eq,beq_iff_eq] at h1 h2 ⊢;rcases h1 with h1|⟨rfl,h1⟩ <;> rcases h2 with h2|⟨rfl,h2⟩
  ·
   left;rw [UInt8.lt_iff_toNat_lt] at *;omega
  ·
   exact .inl h1
  ·
   exact .inl h2
  exact .inr ⟨rfl,bl_trans h1 h2⟩
theorem bl_total {x y : List UInt8} (h1 : ¬ Op.bytesLess x y=true) (h2 : ¬ x=y) : Op.bytesLess y x=true:=by
 have:=bytesLess_total x y;rw [← this];simp [h1,h2]
theorem el_trans {a b c : IEnt} (h1 : el a b=true) (h2 : el b c=true) : el a c=true:=by
 unfold el at *;simp only [Bool.or_eq_true,Bool.and_eq_true,decide_eq_true_eq] at *;rcases h1 with h1|⟨h1,h1'⟩ <;> rcases h2 with h2|⟨h2,h2'⟩
 ·
  exact .inl (bl_trans h1 h2)
 ·
  exact .inl (h2 ▸ h1)
 ·
  exact .inl (h1 ▸ h2)
 exact .inr ⟨h1.trans h2,by omega⟩
theorem ens_ahead : ∀ (p : IEnt) (xs : List IEnt),ens p xs=true → ∀ x ∈ xs,el p x=true∧eok x=true
 | _,[],_,x,hx=>by simp at hx
 | p,e :: xs,h,x,hx=>by
  simp only [ens,Bool.and_eq_true] at h;rcases List.mem_cons.1 hx with rfl|hx
  ·
   exact ⟨h.2.1,h.1⟩
  have:=ens_ahead e xs h.2.2 x hx;exact ⟨el_trans h.2.1 this.1,this.2⟩
theorem ens_right : ∀ (p : IEnt) (xs ys : List IEnt),ens p (xs++ys)=true→ens (lastE p xs) ys=true:=fun p xs ys h=>by
 rw [ens_append,Bool.and_eq_true] at h;exact h.2
theorem ens_left : ∀ (p : IEnt) (xs ys : List IEnt),ens p (xs++ys)=true→ens p xs=true:=fun p xs ys h=>by
 rw [ens_append,Bool.and_eq_true] at h;exact h.1
theorem ens_behind : ∀ (p : IEnt) (xs : List IEnt) (f : IEnt) (ys : List IEnt),ens p (xs++f :: ys)=true → ∀ x ∈ xs,el x f=true
 | _,[],_,_,_,x,hx=>by simp at hx
 | p,e :: xs,f,ys,h,x,hx=>by
  simp only [List.cons_append,ens,Bool.and_eq_true] at h;rcases List.mem_cons.1 hx with rfl|hx
  ·
   exact (ens_ahead _ _ h.2.2 f (by simp)).1
  exact ens_behind e xs f ys h.2.2 x hx
theorem low_out {lo hi : ByteArray} {op : Bool} {x f : IEnt} (hx : eok x=true) (h1 : el x f=true) (h2 : ¬ el ⟨lo,-1⟩ f=true) : ihas lo hi op x.f0=false:=by
 have h3 : Op.bytesLess x.f0.toList lo.toList=true:=by
  by_cases h : Op.bytesLess x.f0.toList lo.toList=true
  ·
   exact h
  exfalso;apply h2
  by_cases e : x.f0.toList=lo.toList
  ·
   have : el ⟨lo,-1⟩ x=true:=by
    unfold eok inr at hx;simp only [Bool.and_eq_true,decide_eq_true_eq] at hx;unfold el;simp only [Bool.or_eq_true,Bool.and_eq_true,decide_eq_true_eq];exact .inr ⟨e.symm,by omega⟩
   exact el_trans this h1
  have : el ⟨lo,-1⟩ x=true:=by
   unfold el;simp only [Bool.or_eq_true];exact .inl (bl_total h e)
  exact el_trans this h1
 unfold ihas;rw [if_pos h3]
theorem high_out {lo hi : ByteArray} {x f : IEnt} (h1 : x=f∨el f x=true) (h2 : ¬ Op.bytesLess f.f0.toList hi.toList=true) : ihas lo hi false x.f0=false:=by
 have h3 : Op.bytesLess x.f0.toList hi.toList=false:=by
  cases h : Op.bytesLess x.f0.toList hi.toList with
  | false=>rfl
  | true =>
   exfalso;rcases h1 with rfl|h1
   ·
    exact h2 h
   unfold el at h1;simp only [Bool.or_eq_true,Bool.and_eq_true,decide_eq_true_eq] at h1;rcases h1 with h1|⟨h1,_⟩
   ·
    exact h2 (bl_trans h1 h)
   exact h2 (by rw [h1];exact h)
 unfold ihas;rw [h3]
 split
 ·
  rfl
 split
 ·
  contradiction
 rfl
def stop (hi : ByteArray) (op : Bool) (p : IPag) : Bool:=!op && match p.f1 with|[]=>false|f :: _ => !Op.bytesLess f.f0.toList hi.toList
def taken (hi : ByteArray) (op : Bool) : List IPag→List IPag
 | [] => []
 | p :: ps=>if stop hi op p=true then [] else p :: taken hi op ps
def ranged (hi : ByteArray) (op : Bool) : List IPag→List IPag
 | [] => []
 | p :: ps=>p :: taken hi op ps
theorem taken_all {lo hi : ByteArray} {op : Bool} : ∀ (q : IEnt) (ps : List IPag),ens q (ps.flatMap (·.f1))=true→((taken hi op ps).flatMap (·.f1)).filter (fun e=>ihas lo hi op e.f0)=(ps.flatMap (·.f1)).filter (fun e=>ihas lo hi op e.f0)
 | _,[],_=>rfl
 | q,p :: ps,h=>by
  unfold taken
  by_cases hs : stop hi op p=true
  ·
   rw [if_pos hs]
   symm
   show _=List.filter _ [];rw [List.filter_nil,List.filter_eq_nil_iff];intro x hx;unfold stop at hs;rw [Bool.and_eq_true] at hs;obtain ⟨h1,h2⟩:=hs
   cases hp : p.f1 with
   | nil=>rw [hp] at h2;simp at h2
   | cons f fs =>
    rw [hp] at h2;simp only at h2;have hop : op=false:=by simpa using h1
    subst hop;rw [List.flatMap_cons,hp,List.cons_append] at h hx;simp only [ens,Bool.and_eq_true] at h;rw [high_out (f:=f) ?_ (by simpa using h2)]
    ·
     simp
    rcases List.mem_cons.1 hx with rfl|hx
    ·
     exact .inl rfl
    exact .inr (ens_ahead _ _ h.2.2 x hx).1
  rw [if_neg hs,List.flatMap_cons,List.flatMap_cons,List.filter_append,List.filter_append];rw [List.flatMap_cons] at h;rw [taken_all _ ps (ens_right _ _ _ h)]
theorem ranged_all {lo hi : ByteArray} {op : Bool} (q : IEnt) (ps : List IPag) (h : ens q (ps.flatMap (·.f1))=true) : ((ranged hi op ps).flatMap (·.f1)).filter (fun e=>ihas lo hi op e.f0)=(ps.flatMap (·.f1)).filter (fun e=>ihas lo hi op e.f0):=by
 cases ps with
 | nil=>rfl
 | cons p ps =>
  rw [List.flatMap_cons] at h;unfold ranged;rw [List.flatMap_cons,List.flatMap_cons,List.filter_append,List.filter_append,taken_all _ ps (ens_right _ _ _ h)]
theorem place_at (e : IEnt) : ∀ (T : List IPag) (i : Nat) (c : Int),place e i c T=c ∨ ∃ j f fs,∃ h : j<T.length,place e i c T=((i+j : Nat) : Int)∧T[j].f1=f :: fs ∧ ¬ el e f=true
 | [],_,_ => .inl rfl
 | p :: ps,i,c=>by
  simp only [place];rcases place_at e ps (i+1) (match p.f1 with|[]=>c|f :: _=>if el e f=true then c else (i : Int)) with h|⟨j,f,fs,hj,h,h1,h2⟩
  ·
   rw [h]
   cases hp : p.f1 with
   | nil=>exact .inl rfl
   | cons f fs =>
    simp only
    by_cases hl : el e f=true
    ·
     rw [if_pos hl];exact .inl rfl
    rw [if_neg hl];exact .inr ⟨0,f,fs,by simp,by simp,hp,hl⟩
  exact .inr ⟨j+1,f,fs,by simpa using hj,by rw [h];congr 1;omega,h1,h2⟩
theorem drop_all {lo hi : ByteArray} {op : Bool} (T : List IPag) (h : ens noE (T.flatMap (·.f1))=true) : ((T.drop (place ⟨lo,-1⟩ 0 0 T).toNat).flatMap (·.f1)).filter (fun e=>ihas lo hi op e.f0)=(T.flatMap (·.f1)).filter (fun e=>ihas lo hi op e.f0):=by
 rcases place_at ⟨lo,-1⟩ T 0 0 with e|⟨j,f,fs,hj,e,h1,h2⟩
 ·
  rw [e];rfl
 rw [e];have e0 : ((0+j : Nat) : Int).toNat=j:=by omega
 rw [e0];have hT : T=T.take j++T.drop j:=(List.take_append_drop j T).symm
 have hF : T.flatMap (·.f1)=(T.take j).flatMap (·.f1)++(T.drop j).flatMap (·.f1):=by
  conv=>lhs;rw [hT]
  rw [List.flatMap_append]
 have hD : (T.drop j).flatMap (·.f1)=f :: (fs++(T.drop (j+1)).flatMap (·.f1)):=by
  rw [drop_at T j hj,List.flatMap_cons,h1];rfl
 rw [hF,List.filter_append]
 have : ((T.take j).flatMap (·.f1)).filter (fun e=>ihas lo hi op e.f0)=[]:=by
  rw [List.filter_eq_nil_iff];intro x hx;rw [hF] at h;have ha:=(ens_ahead _ _ (ens_left _ _ _ h) x hx).2;rw [hD] at h;have hb:=ens_behind _ _ _ _ h x hx;rw [low_out ha hb h2];simp
 rw [this,List.nil_append]
theorem ens_drop (T : List IPag) (j : Nat) (h : ens noE (T.flatMap (·.f1))=true) : ∃ q,ens q ((T.drop j).flatMap (·.f1))=true:=by
 have hF : T.flatMap (·.f1)=(T.take j).flatMap (·.f1)++(T.drop j).flatMap (·.f1):=by
  conv=>lhs;rw [← List.take_append_drop j T]
  rw [List.flatMap_append]
 rw [hF] at h;exact ⟨_,ens_right _ _ _ h⟩
theorem range_all {lo hi : ByteArray} {op : Bool} (T : List IPag) (h : ens noE (T.flatMap (·.f1))=true) :
  ((ranged hi op (T.drop (place ⟨lo,-1⟩ 0 0 T).toNat)).flatMap (·.f1)).filter (fun e=>ihas lo hi op e.f0)=(T.flatMap (·.f1)).filter (fun e=>ihas lo hi op e.f0):=by
 obtain ⟨q,hq⟩:=ens_drop T (place ⟨lo,-1⟩ 0 0 T).toNat h;rw [ranged_all q _ hq,drop_all T h]
end Go.Proofs.Ytgifonogfgpjdaa.Pure
end
section
namespace Go.Proofs.Ytgifonogfgpjdaa.Pure
open Go Go.RowKit Go.Proofs.Ytgifonogfgpjdaa.Q Go.Proofs.YtgifonogfgpjdaaW.PrintWords Go.Proofs.YtgifonogfgpjdaaW.PrintLast Go.Proofs.YtgifonogfgpjdaaW.PrintMore Go.Proofs.YtgifonogfgpjdaaW.Pl
theorem place_spec (T : List IPag) (n : Int) (e : IEnt) (hT : T.length≤1048576) (h0 : 0<T.length) : Eve (fun k=>Fb.f k T n e.f0 e.f1) (place e 1 0 (T.drop 1)):=by
 simp only [Fb.f]
 have:=ev_loop T (fun k (c : Int) i=>Fb.l0 k c i T n e.f0 e.f1) (fun i c r=>place e i c r) (fun _ _=>True) (fun c _=>by
  simp only [Fb.l0]
  exact Eve.ite (fun h=>absurd h (by omega)) (fun _=>Eve.one)) (fun i hi c hI ih=>by
  simp only [Fb.l0];refine Eve.ite (fun _=>?_) (fun h=>absurd (by omega) h);refine Eve.ite (fun _=>?_) (fun h=>absurd (by omega) h);simp only [rdIP _ _ hi,wi (show i≤9223372036854775806 by omega)];refine Eve.ite (fun h=>?_) (fun h=>?_)
  ·
   refine Eve.ite (fun _=>?_) (fun h=>absurd (by omega) h)
   have hl : 0<T[i].f1.length:=by omega
   have hr:=rdIE T[i].f1 0 hl;simp only [show ((0 : Nat) : Int)=0 from rfl] at hr;simp only [hr,less_tells,Option.bind_some];have hc : T[i].f1=T[i].f1[0] :: T[i].f1.drop 1:=drop_at T[i].f1 0 hl;refine Eve.ite (fun h1=>(ih c trivial).eq ?_) (fun h1=>(ih (i : Int) trivial).eq ?_)
   ·
    rw [place,hc];simp only [h1,if_true]
   rw [place,hc];simp only [if_neg h1]
  have hc : T[i].f1=[]:=List.length_eq_zero_iff.1 (by omega)
  exact (ih c trivial).eq (by rw [place,hc])) (T.length - 1) 1 0 (by omega) trivial
 exact this
theorem place_impl (T : List IPag) (n : Int) (e : IEnt) (hT : T.length≤1048576) : Eve (fun k=>F9.f k T n e.f0 e.f1) (place e 0 0 T):=by
 simp only [F9.f];refine ev_loop0 T (fun k (c : Int) i=>F9.l0 k c T (T.length : Int) i e.f0 e.f1) (fun i c r=>place e i c r) (fun _ _=>True) (fun c _=>?_) (fun i hi c hI ih=>?_) 0 trivial
 ·
  simp only [F9.l0]
  exact Eve.ite (fun h=>absurd h (by omega)) (fun _=>Eve.one)
 simp only [F9.l0];refine Eve.ite (fun _=>?_) (fun h=>absurd (by omega) h);refine Eve.ite (fun _=>?_) (fun h=>absurd (by omega) h);refine Eve.ite (fun _=>?_) (fun h=>absurd (by omega) h);simp only [rdIP _ _ hi,wi (show i≤9223372036854775806 by omega)];refine Eve.ite (fun h=>?_) (fun h=>?_)
 ·
  refine Eve.ite (fun _=>?_) (fun h=>absurd (by omega) h)
  have hl : 0<T[i].f1.length:=by omega
  have hr:=rdIE T[i].f1 0 hl;simp only [show ((0 : Nat) : Int)=0 from rfl] at hr;simp only [hr];have hc : T[i].f1=T[i].f1[0] :: T[i].f1.drop 1:=drop_at T[i].f1 0 hl;refine Eve.bind (compare_tells _ _) ?_;refine Eve.ite (fun h1=>(ih (i : Int) trivial).eq ?_) (fun h1=>(ih c trivial).eq ?_)
  ·
   rw [place,hc];simp only [if_neg ((ce_le _ _).1 h1)]
  have h2 : el e T[i].f1[0]=true:=by
   by_cases h4 : el e T[i].f1[0]=true
   ·
    exact h4
   exact absurd ((ce_le _ _).2 h4) h1
  rw [place,hc];simp only [h2,if_true]
 have hc : T[i].f1=[]:=List.length_eq_zero_iff.1 (by omega);exact (ih c trivial).eq (by rw [place,hc])
theorem place_from (T : List IPag) (e : IEnt) (h0 : 0<T.length) : place e 0 0 T=place e 1 0 (T.drop 1):=by
 cases T with
 | nil=>simp at h0
 | cons p ps =>
  simp only [place,List.drop_one,List.tail_cons]
  cases p.f1 with
  | nil=>rfl
  | cons f fs=>simp
theorem place_in (e : IEnt) : ∀ (T : List IPag) (i : Nat) (c : Int),0≤c→c<(i+T.length : Nat)→0≤place e i c T∧place e i c T<(i+T.length : Nat)
 | [],i,c,h0,h1=>by simp only [place];exact ⟨h0,h1⟩
 | p :: ps,i,c,h0,h1=>by
  simp only [place,List.length_cons] at *;have e1 : i+1+ps.length=i+(ps.length+1):=by omega
  rw [← e1] at h1 ⊢;apply place_in e ps (i+1)
  ·
   repeat' split
   all_goals omega
  repeat' split
  all_goals omega
def rg (hi : ByteArray) (op : Bool) (first : Bool) (ps : List IPag) : List IPag:=if first=true then ranged hi op ps else taken hi op ps
theorem rg_next (hi : ByteArray) (op : Bool) (first : Bool) (p : IPag) (ps : List IPag) (h : first=true∨stop hi op p=false) : rg hi op first (p :: ps)=p :: taken hi op ps:=by
 unfold rg
 cases first with
 | true=>rfl
 | false =>
  rcases h with h|h
  ·
   simp at h
  simp [taken,h]
theorem flat_drop (T : List IPag) (i : Nat) (hi : i<T.length) : ((T.drop i).flatMap (·.f1)).length=T[i].f1.length+((T.drop (i+1)).flatMap (·.f1)).length:=by
 rw [drop_at T i hi,List.flatMap_cons,List.length_append]
def fl (lo hi : ByteArray) (op : Bool) (l : List IEnt) : List IEnt:=l.filter (fun e=>ihas lo hi op e.f0)
theorem range_spec (T : List IPag) (n : Int) (lo hi : ByteArray) (op : Bool) (hT : T.length≤1048576) (hf : (T.flatMap (·.f1)).length≤1048576) (h0 : 0<T.length) :
  Eve (fun k=>F5.f k T n lo hi op) (fl lo hi op ((ranged hi op (T.drop (place ⟨lo,-1⟩ 0 0 T).toNat)).flatMap (·.f1)),(ranged hi op (T.drop (place ⟨lo,-1⟩ 0 0 T).toNat)).map (·.f0)):=by
 simp only [F5.f];have hpl:=place_spec T n ⟨lo,-1⟩ hT h0;rw [← place_from _ _ h0] at hpl;refine Eve.bind hpl ?_;have hin:=place_in ⟨lo,-1⟩ T 0 0 (by omega) (by omega);obtain ⟨b,hb⟩ : ∃ b : Nat,place ⟨lo,-1⟩ 0 0 T=(b : Int):=⟨(place ⟨lo,-1⟩ 0 0 T).toNat,by omega⟩;rw [hb] at hin ⊢;rw [Int.toNat_natCast];have hbl : b<T.length:=by omega
 have hfT : ∀ i,((T.drop i).flatMap (·.f1)).length≤1048576:=fun i=>by
  have : T.flatMap (·.f1)=(T.take i).flatMap (·.f1)++(T.drop i).flatMap (·.f1):=by
   conv=>lhs;rw [← List.take_append_drop i T]
   rw [List.flatMap_append]
  rw [this,List.length_append] at hf
  omega
 have:=ev_loop T (fun k (s : List IEnt×List Int) i=>F5.l0 k s.1 s.2 (b : Int) i T n lo hi op)
  (fun i s r=>(s.1++fl lo hi op ((rg hi op (decide (i=b)) r).flatMap (·.f1)),s.2++(rg hi op (decide (i=b)) r).map (·.f0)))
  (fun i s=>b≤i∧s.1.length+((T.drop i).flatMap (·.f1)).length≤1048576∧s.2.length≤i) (fun s hs=>by
   simp only [F5.l0];refine Eve.ite (fun h=>absurd h (by omega)) (fun _=>Eve.one.eq ?_);have : rg hi op (decide (T.length=b)) ([] : List IPag)=[]:=by unfold rg;split <;> rfl
   rw [this];simp [fl]) (fun i hi_ s hs ih=>by
   obtain ⟨out,pg⟩:=s;obtain ⟨hbi,hs1,hs2⟩:=hs;simp only at hs1 hs2 ih ⊢;rw [flat_drop T i hi_] at hs1
   have hjf : (decide (i=b)=true∨stop hi op T[i]=false)→Eve (fun k=>F5.j1 k out pg (b : Int) (i : Int) T[i].f1 false T n lo hi op) (out++fl lo hi op ((rg hi op (decide (i=b)) (T[i] :: T.drop (i+1))).flatMap (·.f1)),pg++(rg hi op (decide (i=b)) (T[i] :: T.drop (i+1))).map (·.f0)):=fun hst=>by
    rw [rg_next hi op _ _ _ hst];refine Eve.succ ?_;simp only [F5.j1,rdIP _ _ hi_];refine Eve.ite (fun h=>absurd h (by simp)) (fun _=>?_);refine Eve.ite (fun _=>?_) (fun h=>absurd (by omega) h);refine Eve.ite (fun _=>?_) (fun h=>absurd (by omega) h);refine Eve.ite (fun _=>?_) (fun h=>absurd (by omega) h);have hl:=ev_loop0 T[i].f1 (fun k (o : List IEnt) j=>F5.l1 k o (pg ++ [T[i].f0]) (b : Int) (i : Int) T[i].f1 j T n lo hi op)
     (fun _ o r=>(o++fl lo hi op r++fl lo hi op ((taken hi op (T.drop (i+1))).flatMap (·.f1)),pg ++ [T[i].f0]++(taken hi op (T.drop (i+1))).map (·.f0)))
     (fun j o=>o.length+(T[i].f1.length - j)+((T.drop (i+1)).flatMap (·.f1)).length≤1048576) (fun o ho=>by
      simp only [F5.l1,wi (show i≤9223372036854775806 by omega)];refine Eve.ite (fun h=>absurd h (by omega)) (fun _=>?_);have hx:=ih (o,pg ++ [T[i].f0]) ⟨by omega,by simp only;omega,by simp only [List.length_append,List.length_singleton];omega⟩;have hne : decide (i+1=b)=false:=decide_eq_false (by omega);simp only [hne] at hx;refine hx.eq ?_
      simp [rg,fl]) (fun j hj o ho ihj=>by
      simp only [F5.l1,rdIE _ _ hj,wi (show j≤9223372036854775806 by have:=hs1;omega)];refine Eve.ite (fun _=>?_) (fun h=>absurd (by omega) h);refine Eve.ite (fun _=>?_) (fun h=>absurd (by omega) h)
      have hh : F0a.f lo hi op T[i].f1[j].f0=some (ihas lo hi op T[i].f1[j].f0):=by
       unfold F0a.f ihas
       split
       ·
        rfl
       split <;> rfl
      rw [hh];simp only [Option.bind_some];refine Eve.ite (fun h=>?_) (fun h=>?_)
      ·
       refine Eve.ite (fun _=>?_) (fun h=>absurd (by omega) h)
       refine (ihj (o ++ [⟨T[i].f1[j].f0,T[i].f1[j].f1⟩]) (by simp only [List.length_append,List.length_singleton];omega)).eq ?_;have e9 : fl lo hi op (T[i].f1[j] :: T[i].f1.drop (j+1))=T[i].f1[j] :: fl lo hi op (T[i].f1.drop (j+1)):=by unfold fl;rw [List.filter_cons,if_pos h]
       rw [e9];simp only [List.append_assoc,List.cons_append,List.nil_append]
      refine (ihj o (by omega)).eq ?_;have e9 : fl lo hi op (T[i].f1[j] :: T[i].f1.drop (j+1))=fl lo hi op (T[i].f1.drop (j+1)):=by unfold fl;rw [List.filter_cons,if_neg h]
      rw [e9]) out (by omega)
    refine hl.eq ?_;rw [List.flatMap_cons];simp [fl,List.filter_append]
   simp only [F5.l0,rdIP _ _ hi_];refine Eve.ite (fun _=>?_) (fun h=>absurd (by omega) h);refine Eve.ite (fun _=>?_) (fun h=>absurd (by omega) h);refine Eve.ite (fun hgt=>?_) (fun hgt=>hjf (.inl (decide_eq_true (by omega))));have hnb : decide (i=b)=false:=decide_eq_false (by omega);refine Eve.ite (fun ho=>hjf (.inr (by unfold stop;rw [ho];rfl))) (fun ho=>?_);have ho' : op=false:=by simpa using ho
   refine Eve.ite (fun hl=>?_) (fun hl=>hjf (.inr ?_))
   ·
    refine Eve.ite (fun _=>?_) (fun h=>absurd (by omega) h)
    have hl' : 0<T[i].f1.length:=by omega
    have hr:=rdIE T[i].f1 0 hl';simp only [show ((0 : Nat) : Int)=0 from rfl] at hr;simp only [hr];have hc : T[i].f1=T[i].f1[0] :: T[i].f1.drop 1:=drop_at T[i].f1 0 hl'
    have hst : stop hi op T[i] = !Op.bytesLess T[i].f1[0].f0.toList hi.toList:=by
     unfold stop;rw [ho'];generalize hg : T[i].f1[0]=f at hc ⊢;rw [hc];rfl
    rw [← hst]
    cases hq : stop hi op T[i] with
    | false=>exact hjf (.inr hq)
    | true =>
     refine Eve.succ ?_;simp only [F5.j1,if_true];refine Eve.one.eq ?_;rw [hnb];simp [rg,taken,hq,fl]
   have hc : T[i].f1=[]:=List.length_eq_zero_iff.1 (by omega)
   unfold stop;rw [hc];simp) (T.length - b) b ([],[]) (by omega) ⟨Nat.le_refl _,by simpa using hfT b,Nat.zero_le _⟩
 refine this.eq ?_;simp [rg]
theorem poks_in (T : List IPag) (n : Int) : ∀ (seen : List Int) (ps : List IPag),poks T n seen ps=true → ∀ p ∈ ps,T.length > 1→0<p.f1.length
 | _,[],_,p,hp,_=>by simp at hp
 | seen,q :: ps,h,p,hp,hl=>by
  simp only [poks,Bool.and_eq_true] at h;rcases List.mem_cons.1 hp with rfl|hp
  ·
   have h1:=h.1
   simp only [pok,Bool.and_eq_true,Bool.not_eq_true',Bool.and_eq_false_iff,decide_eq_true_eq,decide_eq_false_iff_not] at h1;have:=h1.2.2.2
   omega
  exact poks_in T n _ ps h.2 p hp hl
theorem range_impl (E : List IEnt) (Y : List IPag) (lo hi : ByteArray) (op : Bool) (hY : Y.length≤1048576) (hne : ∀ j,(h : j<Y.length)→0<j→0<Y[j].f1.length) :
  Eve (fun k=>F7.l0 k E ([] : List Int) Y (Y.length : Int) 0 lo hi op) (E,(ranged hi op Y).map (·.f0),0):=by
 have:=ev_loop0 Y (fun k (s : List Int) i=>F7.l0 k E s Y (Y.length : Int) i lo hi op) (fun i s r=>(E,s++(rg hi op (decide (i=0)) r).map (·.f0),(0 : Int))) (fun i s=>s.length=i) (fun s hs=>by
  simp only [F7.l0];refine Eve.ite (fun h=>absurd h (by omega)) (fun _=>Eve.one.eq ?_);have : rg hi op (decide (Y.length=0)) ([] : List IPag)=[]:=by unfold rg;split <;> rfl
  rw [this];simp) (fun i hi_ s hs ih=>by
  have hnx : (decide (i=0)=true∨stop hi op Y[i]=false)→Eve (fun k=>F7.l0 k E (s ++ [Y[i].f0]) Y (Y.length : Int) ((i+1 : Nat) : Int) lo hi op) (E,s++(rg hi op (decide (i=0)) (Y[i] :: Y.drop (i+1))).map (·.f0),0):=fun hst=>by
   rw [rg_next hi op _ _ _ hst];have hx:=ih (s ++ [Y[i].f0]) (by simp [hs]);have hne0 : decide (i+1=0)=false:=decide_eq_false (by omega);simp only [hne0] at hx;refine hx.eq ?_;simp [rg]
  simp only [F7.l0,rdIP _ _ hi_,wi (show i≤9223372036854775806 by omega)];refine Eve.ite (fun _=>?_) (fun h=>absurd (by omega) h);refine Eve.ite (fun _=>?_) (fun h=>absurd (by omega) h);refine Eve.ite (fun _=>?_) (fun h=>absurd (by omega) h);refine Eve.ite (fun hgt=>?_) (fun hgt=>?_)
  ·
   refine Eve.ite (fun ho=>?_) (fun ho=>?_)
   ·
    refine Eve.ite (fun _=>?_) (fun h=>absurd (by omega) h)
    exact hnx (.inr (by unfold stop;rw [ho];rfl))
   have ho' : op=false:=by simpa using ho
   have hl' : 0<Y[i].f1.length:=hne i hi_ (by omega);refine Eve.ite (fun _=>?_) (fun h=>absurd (by omega) h);have hr:=rdIE Y[i].f1 0 hl';simp only [show ((0 : Nat) : Int)=0 from rfl] at hr;simp only [hr];have hc : Y[i].f1=Y[i].f1[0] :: Y[i].f1.drop 1:=drop_at Y[i].f1 0 hl'
   have hst : stop hi op Y[i] = !Op.bytesLess Y[i].f1[0].f0.toList hi.toList:=by
    unfold stop;rw [ho'];generalize hg : Y[i].f1[0]=f at hc ⊢;rw [hc];rfl
   refine Eve.ite (fun hb=>?_) (fun hb=>Eve.one.eq ?_)
   ·
    refine Eve.ite (fun _=>?_) (fun h=>absurd (by omega) h)
    exact hnx (.inr (by rw [hst,hb];rfl))
   have hs1 : stop hi op Y[i]=true:=by rw [hst];simpa using hb
   have hn0 : decide (i=0)=false:=decide_eq_false (by omega);rw [hn0];simp [rg,taken,hs1]
  refine Eve.ite (fun _=>?_) (fun h=>absurd (by omega) h)
  exact hnx (.inl (decide_eq_true (by omega)))) [] rfl
 refine this.eq ?_;simp [rg]
theorem el_irrefl (a : IEnt) : el a a=false:=by
 unfold el;rw [less_irrefl];simp
theorem el_total {a b : IEnt} (h1 : ¬ el a b=true) (h2 : ¬ el b a=true) : a=b:=by
 unfold el at h1 h2;simp only [Bool.or_eq_true,Bool.and_eq_true,decide_eq_true_eq,not_or,not_and] at h1 h2
 by_cases e : a.f0.toList=b.f0.toList
 ·
  have:=h1.2 e
  have:=h2.2 e.symm;have h3 : a.f1=b.f1:=by omega
  have h4 : a.f0=b.f0:=ba_ext e
  cases a;cases b;simp_all
 exact absurd (bl_total h1.1 e) h2.1
theorem el_asym {a b : IEnt} (h1 : el a b=true) (h2 : el b a=true) : False:=by
 have:=el_trans h1 h2;rw [el_irrefl] at this;cases this
def Rise (l : List IEnt) : Prop:=l.Pairwise (fun a b=>el a b=true)
def up (e : IEnt) : List IEnt→Nat
 | []=>0
 | x :: xs=>if el x e=true then up e xs+1 else 0
theorem up_le (e : IEnt) : ∀ l : List IEnt,up e l≤l.length
 | []=>Nat.le_refl _
 | x :: xs=>by
  unfold up;have:=up_le e xs
  split
  ·
   simp only [List.length_cons];omega
  exact Nat.zero_le _
theorem up_before (e : IEnt) : ∀ (l : List IEnt) (j : Nat) (hj : j<l.length),j<up e l→el l[j] e=true
 | [],_,hj,_=>by simp at hj
 | x :: xs,j,hj,h=>by
  unfold up at h
  by_cases c : el x e=true
  ·
   rw [if_pos c] at h
   cases j with
   | zero=>exact c
   | succ j=>exact up_before e xs j (by simpa using hj) (by omega)
  rw [if_neg c] at h;omega
theorem up_at (e : IEnt) : ∀ (l : List IEnt) (h : up e l<l.length),¬ el l[up e l] e=true
 | [],h=>by simp at h
 | x :: xs,h=>by
  by_cases c : el x e=true
  ·
   have hu : up e (x :: xs)=up e xs+1:=by simp only [up,if_pos c]
   have h2 : up e xs<xs.length:=by rw [hu] at h;simpa using h
   have:=up_at e xs h2;simp only [hu,List.getElem_cons_succ];exact this
  have hu : up e (x :: xs)=0:=by simp only [up,if_neg c]
  simp only [hu,List.getElem_cons_zero];exact c
theorem rise_at {l : List IEnt} (hr : Rise l) (i j : Nat) (hi : i<l.length) (hj : j<l.length) (h : i<j) : el l[i] l[j]=true:=List.pairwise_iff_getElem.1 hr i j hi hj h
theorem up_after {l : List IEnt} (e : IEnt) (hr : Rise l) (j : Nat) (hj : j<l.length) (h : up e l≤j) : ¬ el l[j] e=true:=by
 have hu : up e l<l.length:=by omega
 by_cases c : j=up e l
 ·
  subst c;exact up_at e l hu
 intro h2;exact up_at e l hu (el_trans (rise_at hr _ _ hu hj (by omega)) h2)
theorem up_is {l : List IEnt} (e : IEnt) (p : Nat) (hp : p≤l.length) (h1 : ∀ j (hj : j<l.length),j<p→el l[j] e=true) (h2 : ∀ j (hj : j<l.length),p≤j → ¬ el l[j] e=true) : up e l=p:=by
 have hl:=up_le e l;rcases Nat.lt_trichotomy (up e l) p with h|h|h
 ·
  exact absurd (h1 _ (by omega) h) (up_at e l (by omega))
 ·
  exact h
 exact absurd (up_before e l p (by omega) h) (h2 p (by omega) (Nat.le_refl _))
def th (e : IEnt) (l : List IEnt) : Bool:=if h : up e l<l.length then (decide (l[up e l].f0.toList=e.f0.toList) && decide (l[up e l].f1=e.f1)) else false
theorem ent_eq {a b : IEnt} (h0 : a.f0.toList=b.f0.toList) (h1 : a.f1=b.f1) : a=b:=by
 have:=ba_ext h0
 cases a;cases b;simp_all
theorem th_iff (e : IEnt) (l : List IEnt) : th e l=true ↔ ∃ h : up e l<l.length,l[up e l]=e:=by
 unfold th
 by_cases h : up e l<l.length
 ·
  rw [dif_pos h]
  simp only [Bool.and_eq_true,decide_eq_true_eq];exact ⟨fun h2=>⟨h,ent_eq h2.1 h2.2⟩,fun ⟨_,h2⟩=>by rw [h2];exact ⟨rfl,rfl⟩⟩
 rw [dif_neg h];exact ⟨fun h2=>absurd h2 (by decide),fun ⟨h2,_⟩=>absurd h2 h⟩
theorem th_mem (e : IEnt) (l : List IEnt) (hr : Rise l) : th e l=true↔e ∈ l:=by
 rw [th_iff]
 constructor
 ·
  rintro ⟨h,h2⟩;rw [← h2];exact List.getElem_mem _
 intro hm;obtain ⟨j,hj,hje⟩:=List.getElem_of_mem hm
 have : up e l=j:=by
  refine up_is e j (Nat.le_of_lt hj) (fun q hq hqj=>by rw [← hje];exact rise_at hr q j hq hj hqj) (fun q hq hjq h2=>?_);rcases Nat.lt_or_eq_of_le hjq with h3|h3
  ·
   have:=rise_at hr j q hj hq h3
   rw [hje] at this;exact el_asym this h2
  subst h3;rw [hje,el_irrefl] at h2;cases h2
 exact ⟨by omega,by simp only [this];exact hje⟩
theorem at_none (e : IEnt) : ∀ (l : List IEnt) (i : Nat),(∀ x ∈ l,x≠e)→Fh.at l e.f0 e.f1 i=none
 | [],_,_=>rfl
 | x :: xs,i,h=>by
  have hx:=h x (by simp)
  have hc : (!(x.f0.toList == e.f0.toList) || (!(x.f1 == e.f1)))=true:=by
   by_cases h0 : x.f0.toList=e.f0.toList
   ·
    have h1 : ¬ x.f1=e.f1:=fun h1=>hx (ent_eq h0 h1)
    simp [h1]
   simp [h0]
  simp only [Fh.at];rw [if_pos hc];exact at_none e xs (i+1) (fun y hy=>h y (by simp [hy]))
theorem at_drop (e : IEnt) : ∀ (l : List IEnt) (i : Nat),Rise l→Fh.at l e.f0 e.f1 i=if th e l=true then some (i+up e l) else none
 | [],i,_=>rfl
 | x :: xs,i,hr=>by
  have hr2:=List.pairwise_cons.1 hr
  by_cases c : el x e=true
  ·
   have hu : up e (x :: xs)=up e xs+1:=by simp only [up,if_pos c]
   have hc : (!(x.f0.toList == e.f0.toList) || (!(x.f1 == e.f1)))=true:=by
    by_cases h0 : x.f0.toList=e.f0.toList
    ·
     have h1 : ¬ x.f1=e.f1:=fun h1=>by
      have:=ent_eq h0 h1;subst this;rw [el_irrefl] at c;cases c
     simp [h1]
    simp [h0]
   have ht : th e (x :: xs)=th e xs:=by
    rw [Bool.eq_iff_iff,th_iff,th_iff];simp only [hu,List.length_cons,Nat.add_lt_add_iff_right,List.getElem_cons_succ]
   simp only [Fh.at];rw [if_pos hc,at_drop e xs (i+1) hr2.2,ht,hu]
   split
   ·
    congr 1;omega
   rfl
  have hu : up e (x :: xs)=0:=by simp only [up,if_neg c]
  by_cases h0 : x=e
  ·
   subst h0
   have ht : th x (x :: xs)=true:=(th_iff _ _).2 ⟨by rw [hu];simp,by simp only [hu];rfl⟩;rw [if_pos ht,hu];simp [Fh.at]
  have ht : ¬ th e (x :: xs)=true:=by
   rw [th_iff];rintro ⟨h,h2⟩;simp only [hu,List.getElem_cons_zero] at h2;exact h0 h2
  rw [if_neg ht];refine at_none e _ i (fun y hy hye=>?_);rcases List.mem_cons.1 hy with h3|h3
  ·
   exact h0 (h3.symm.trans hye)
  exact c (hye ▸ hr2.1 y h3)
theorem own_tells (T : List IPag) (n : Int) (hT : T.length≤1048576) (hp : ∀ p ∈ T,p.f1.length≤1048576) : Eve (fun k=>Fc.f k T n) (T,n):=by
 simp only [Fc.f]
 have:=ev_loop0 T (fun k (o : List IPag) i=>Fc.l0 k o i T n) (fun _ o r=>(o++r,n)) (fun i o=>o.length=i) (fun o ho=>by
  simp only [Fc.l0]
  exact Eve.ite (fun h=>absurd h (by omega)) (fun _=>Eve.one.eq (by simp))) (fun i hi o ho ih=>by
  have hpi:=hp _ (List.getElem_mem hi);simp only [Fc.l0,Option.bind_some,rdIP _ _ hi,wi (show i≤9223372036854775806 by omega),List.length_nil,List.nil_append];refine Eve.ite (fun _=>?_) (fun h=>absurd (by omega) h);refine Eve.ite (fun _=>?_) (fun h=>absurd (by omega) h);refine Eve.ite (fun _=>?_) (fun h=>absurd (by omega) h);refine Eve.ite (fun _=>?_) (fun h=>absurd (by omega) h)
  exact (ih _ (by simp [ho])).eq (by rw [List.append_assoc];rfl)) [] rfl
 simpa using this
def pgN (T : List IPag) (e : IEnt) : Nat:=(place e 0 0 T).toNat
theorem pg_lt {T : List IPag} (e : IEnt) (h : 0<T.length) : pgN T e<T.length∧place e 0 0 T=(pgN T e : Int):=by
 have:=place_in e T 0 0 (by omega) (by omega);unfold pgN
 omega
def cutP (T : List IPag) (j i : Nat) (p : IPag) : List IPag:=if p.f1.length=1∧1<T.length then ((T.set j ⟨p.f0,p.f1.take i++p.f1.drop (i+1)⟩).take j)++((T.set j ⟨p.f0,p.f1.take i++p.f1.drop (i+1)⟩).drop (j+1)) else T.set j ⟨p.f0,p.f1.take i++p.f1.drop (i+1)⟩
def pageN (T : List IPag) (e : IEnt) : IPag:=T.getD (pgN T e) ⟨0,[]⟩
def dropT (T : List IPag) (e : IEnt) : List IPag:=cutP T (pgN T e) (up e (pageN T e).f1) (pageN T e)
theorem pageN_at {T : List IPag} (e : IEnt) (h : 0<T.length) : pageN T e=T[pgN T e]'(pg_lt e h).1:=by
 unfold pageN;rw [List.getD_eq_getElem?_getD,List.getElem?_eq_getElem (pg_lt e h).1];rfl
theorem rd_page {T : List IPag} (e : IEnt) (h : 0<T.length) : rd_T60 T (place e 0 0 T)=pageN T e:=by
 rw [(pg_lt e h).2,rdIP _ _ (pg_lt e h).1,pageN_at e h]
theorem flat_page {T : List IPag} {p : IPag} (h : p ∈ T) : p.f1.Sublist (T.flatMap (·.f1)):=by
 obtain ⟨i,hi,rfl⟩:=List.getElem_of_mem h
 have : T.flatMap (·.f1)=(T.take i).flatMap (·.f1)++(T[i].f1++(T.drop (i+1)).flatMap (·.f1)):=by
  conv=>lhs;rw [← List.take_append_drop i T,drop_at T i hi,List.flatMap_append,List.flatMap_cons]
 rw [this];exact (List.sublist_append_left _ _).trans (List.sublist_append_right _ _)
theorem page_rise {T : List IPag} (hr : Rise (T.flatMap (·.f1))) {p : IPag} (h : p ∈ T) : Rise p.f1:=List.Pairwise.sublist (flat_page h) hr
theorem drop_spec (T : List IPag) (n : Int) (e : IEnt) (hT : T.length≤1000000) (hp : ∀ p ∈ T,p.f1.length≤1000000) (h0 : 0<T.length) (hr : Rise (T.flatMap (·.f1))) :
  Eve (fun k=>Fh.f k T n e.f0 e.f1) (if th e (pageN T e).f1=true then (dropT T e,n,0) else (T,n,5)):=by
 simp only [Fh.f];have hpl:=place_spec T n e (by omega) h0;rw [← place_from _ _ h0] at hpl;refine Eve.bind hpl ?_;have hin:=place_in e T 0 0 (by omega) (by omega);have hg:=pg_lt e h0;have hpm : pageN T e ∈ T:=by rw [pageN_at e h0];exact List.getElem_mem _
 rw [rd_page e h0,show (place e 0 0 T).toNat=pgN T e from rfl];refine Eve.ite (fun _=>?_) (fun h=>absurd hin.1 h);refine Eve.ite (fun _=>?_) (fun h=>absurd (by omega) h);refine Eve.ite (fun _=>?_) (fun h=>absurd ⟨by omega,hp _ hpm⟩ h);rw [at_drop e _ 0 (page_rise hr hpm)]
 by_cases ht : th e (pageN T e).f1=true
 ·
  simp only [if_pos ht,Nat.zero_add]
  refine Eve.bind (own_tells T n (by omega) (fun p hp2=>by have:=hp p hp2;omega)) ?_;refine Eve.ite (fun _=>?_) (fun h=>absurd ⟨by simp only [hg.2];omega,by simp only [];omega⟩ h);have hrd : rd_T60 T (place e 0 0 T)=pageN T e:=rd_page e h0;simp only [hrd];unfold dropT cutP;refine Eve.ite (fun h=>Eve.one.eq (by rw [if_pos h])) (fun h=>Eve.one.eq (by rw [if_neg h]))
 simp only [if_neg ht];exact Eve.one
theorem at_put (e : IEnt) : ∀ (l : List IEnt) (i : Nat),F8.at l e.f0 e.f1 i=some (i+up e l)
 | [],i=>rfl
 | x :: xs,i=>by
  simp only [F8.at,less_tells,Option.bind_some,up]
  by_cases c : el x e=true
  ·
   rw [if_pos c,if_pos c,at_put e xs (i+1)]
   congr 1;omega
  rw [if_neg c,if_neg c];rfl
theorem there_iff (e : IEnt) (l : List IEnt) : (up e l<l.length∧((rd_T28 l (up e l : Int)).f0.toList == e.f0.toList && ((rd_T28 l (up e l : Int)).f1 == e.f1))=true)↔th e l=true:=by
 rw [th_iff]
 constructor
 ·
  rintro ⟨h,h2⟩
  rw [rdIE l _ h] at h2;simp only [Bool.and_eq_true,beq_iff_eq] at h2;exact ⟨h,ent_eq h2.1 h2.2⟩
 rintro ⟨h,h2⟩;refine ⟨h,?_⟩;rw [rdIE l _ h,h2];simp
def rowP (e : IEnt) (l : List IEnt) : List IEnt:=l.take (up e l) ++ [e]++l.drop (up e l)
theorem rowP_length (e : IEnt) (l : List IEnt) : (rowP e l).length=l.length+1:=by
 have:=up_le e l;unfold rowP;simp only [List.length_append,List.length_take,List.length_drop,List.length_singleton];omega
def putT (T : List IPag) (n : Int) (e : IEnt) : List IPag×Int×Int×Int:=F8.out T n (pgN T e) (pageN T e).f0 (rowP e (pageN T e).f1)
def putB (T : List IPag) (n : Int) (e : IEnt) : List IPag×Int×Int×Int:=if th e (pageN T e).f1=true then (T,n,0,12) else (if (pageN T e).f1.length=4∧(T.length=60∨n=100000) then (T,n,0,7) else putT T n e)
theorem put_spec (T : List IPag) (n : Int) (e : IEnt) (hT : T.length≤1000000) (hp : ∀ p ∈ T,p.f1.length≤1000000) (h0 : 0<T.length) (hn : 0≤n∧n≤1000000) :
  Eve (fun k=>F8.f k T n e.f0 e.f1) (putB T n e):=by
 simp only [F8.f];have hpl:=place_spec T n e (by omega) h0;rw [← place_from _ _ h0] at hpl;refine Eve.bind hpl ?_;have hin:=place_in e T 0 0 (by omega) (by omega);have hg:=pg_lt e h0;have hpm : pageN T e ∈ T:=by rw [pageN_at e h0];exact List.getElem_mem _
 rw [rd_page e h0,show (place e 0 0 T).toNat=pgN T e from rfl];refine Eve.ite (fun _=>?_) (fun h=>absurd hin.1 h);refine Eve.ite (fun _=>?_) (fun h=>absurd (by omega) h);refine Eve.ite (fun _=>?_) (fun h=>absurd ⟨by omega,hp _ hpm⟩ h);rw [at_put e _ 0];simp only [Option.bind_some,Nat.zero_add];unfold putB;refine Eve.ite (fun ht=>Eve.one.eq (by rw [if_pos ((there_iff _ _).1 ht)])) (fun ht=>?_);rw [if_neg (fun h=>ht ((there_iff _ _).2 h))];refine Eve.ite (fun hf=>Eve.one.eq (by rw [if_pos hf])) (fun hf=>?_);rw [if_neg hf];refine Eve.bind (own_tells T n (by omega) (fun p hp2=>by have:=hp p hp2;omega)) ?_;refine Eve.ite (fun _=>?_) (fun h=>absurd ⟨by simp only [hg.2];omega,by simp only [];omega,w64 (by simp only [];omega) (by simp only [];omega)⟩ h);simp only [rd_page e h0];exact Eve.one
structure WF (T : List IPag) (n : Int) : Prop where
 len : 0<T.length∧T.length≤60
 nx : 2≤n∧n≤100000
 num : ∀ p ∈ T,1≤p.f0∧p.f0≤n - 1
 nod : (T.map (·.f0)).Nodup
 small : ∀ p ∈ T,p.f1.length≤4
 full : 1<T.length → ∀ p ∈ T,0<p.f1.length
 ok : ∀ e ∈ T.flatMap (·.f1),eok e=true
 rise : Rise (T.flatMap (·.f1))
theorem poks_of (T : List IPag) (n : Int) : ∀ (ps : List IPag) (seen : List Int),(∀ p ∈ ps,1≤p.f0∧p.f0≤n - 1)→(∀ p ∈ ps,p.f0 ∉ seen)→(ps.map (·.f0)).Nodup→(∀ p ∈ ps,p.f1.length≤4)→(1<T.length → ∀ p ∈ ps,0<p.f1.length)→poks T n seen ps=true
 | [],_,_,_,_,_,_=>rfl
 | p :: ps,seen,h1,h2,h3,h4,h5=>by
  have hp:=h1 p (by simp);have h2p:=h2 p (by simp);have h4p:=h4 p (by simp);rw [List.map_cons,List.nodup_cons] at h3
  have hc : seen.contains p.f0=false:=by
   cases h : seen.contains p.f0 with
   | false=>rfl
   | true=>exact absurd (by simpa using h) h2p
  have hz : (decide ((p.f1.length : Int)=0) && decide ((T.length : Int) > 1))=false:=by
   by_cases h : 1<T.length
   ·
    have:=h5 h p (by simp)
    rw [decide_eq_false (by omega)];rfl
   rw [decide_eq_false (show ¬ ((T.length : Int) > 1) by omega),Bool.and_false]
  have hk : pok T n seen p=true:=by
   unfold pok inr;rw [hc,hz,decide_eq_true hp.1,decide_eq_true hp.2,decide_eq_true (show (p.f1.length : Int)≤4 by omega)];rfl
  simp only [poks,hk,Bool.true_and];refine poks_of T n ps _ (fun q hq=>h1 q (by simp [hq])) (fun q hq hm=>?_) h3.2 (fun q hq=>h4 q (by simp [hq])) (fun h q hq=>h5 h q (by simp [hq]));rcases List.mem_append.1 hm with hm|hm
  ·
   exact h2 q (by simp [hq]) hm
  have:=List.mem_singleton.1 hm;exact h3.1 (by rw [← this];exact List.mem_map_of_mem hq)
theorem ens_of : ∀ (l : List IEnt) (p : IEnt),(∀ e ∈ l,eok e=true)→(∀ e ∈ l,el p e=true)→Rise l→ens p l=true
 | [],_,_,_,_=>rfl
 | e :: l,p,h1,h2,h3=>by
  have h3':=List.pairwise_cons.1 h3;simp only [ens,Bool.and_eq_true];exact ⟨h1 e (by simp),h2 e (by simp),ens_of l e (fun x hx=>h1 x (by simp [hx])) h3'.1 h3'.2⟩
theorem WF.tok {T : List IPag} {n : Int} (h : WF T n) : tok T n=true:=by
 have h1:=h.len;have h2:=h.nx;unfold Pure.tok inr;rw [decide_eq_true (show (1 : Int)≤T.length by omega),decide_eq_true (show (T.length : Int)≤60 by omega),decide_eq_true h2.1,decide_eq_true h2.2,poks_of T n T [] h.num (fun _ _ h=>by simp at h) h.nod h.small h.full,ens_of _ _ h.ok (fun e he=>noE_less e (h.ok e he)) h.rise]
 rfl
theorem place_ge (e : IEnt) (T : List IPag) (i : Nat) (c : Int) (h : c≤i) : c≤place e i c T:=by
 rcases place_at e T i c with h1|⟨j,f,fs,hj,h1,_⟩
 ·
  omega
 rw [h1];omega
theorem place_gt (e : IEnt) : ∀ (T : List IPag) (i : Nat) (c : Int),c<i → ∀ (m : Nat) (hm : m<T.length),place e i c T<((i+m : Nat) : Int) → ∀ f fs,T[m].f1=f :: fs→el e f=true
 | [],_,_,_,_,hm,_,_,_,_=>by simp at hm
 | p :: ps,i,c,hc,m,hm,h,f,fs,hf=>by
  simp only [place] at h
  cases m with
  | zero =>
   simp only [List.getElem_cons_zero] at hf;rw [hf] at h;simp only at h
   by_cases hl : el e f=true
   ·
    exact hl
   rw [if_neg hl] at h;have:=place_ge e ps (i+1) (i : Int) (by omega)
   omega
  | succ m =>
   simp only [List.getElem_cons_succ] at hf;refine place_gt e ps (i+1) _ ?_ m (by simpa using hm) (by rw [show i+1+m=i+(m+1) by omega];exact h) f fs hf
   repeat' split
   all_goals omega
theorem page_behind {T : List IPag} (e : IEnt) (h0 : 0<T.length) (m : Nat) (hm : m<T.length) (h : pgN T e<m) (f : IEnt) (fs : List IEnt) (hf : T[m].f1=f :: fs) : el e f=true:=by
 have hg:=(pg_lt e h0).2;rw [place_from _ _ h0] at hg;have hd : T.drop 1=T.drop 1:=rfl;obtain ⟨m',rfl⟩ : ∃ m',m=m' + 1:=⟨m - 1,by omega⟩;exact place_gt e (T.drop 1) 1 0 (by omega) m' (by rw [List.length_drop];omega) (by rw [hg];omega) f fs (by rw [List.getElem_drop];simpa [Nat.add_comm] using hf)
theorem page_first {T : List IPag} (e : IEnt) (h0 : 0<T.length) (h : 0<pgN T e) : ∃ f fs,(pageN T e).f1=f :: fs ∧ ¬ el e f=true:=by
 have hg:=(pg_lt e h0).2;rcases place_at e T 0 0 with h1|⟨j,f,fs,hj,h1,h2,h3⟩
 ·
  rw [h1] at hg;omega
 have : j=pgN T e:=by rw [h1] at hg;omega
 subst this;exact ⟨f,fs,by rw [pageN_at e h0];exact h2,h3⟩
theorem set_is {α : Type} (T : List α) (j : Nat) (p : α) (h : j<T.length) : T.set j p=T.take j++p :: T.drop (j+1):=by
 rw [List.set_eq_take_append_cons_drop,if_pos h]
theorem list_is {α : Type} (T : List α) (j : Nat) (h : j<T.length) : T=T.take j++T[j] :: T.drop (j+1):=by
 conv=>lhs;rw [← List.take_append_drop j T,drop_at T j h]
theorem flat_mid (T : List IPag) (j : Nat) (h : j<T.length) : T.flatMap (·.f1)=(T.take j).flatMap (·.f1)++(T[j].f1++(T.drop (j+1)).flatMap (·.f1)):=by
 conv=>lhs;rw [list_is T j h,List.flatMap_append,List.flatMap_cons]
theorem around {T : List IPag} {n : Int} (hw : WF T n) (e : IEnt) : (∀ x ∈ (T.take (pgN T e)).flatMap (·.f1),el x e=true) ∧ ∀ y ∈ (T.drop (pgN T e+1)).flatMap (·.f1),el e y=true:=by
 have h0:=hw.len.1;have hj:=(pg_lt e h0).1;have hr:=hw.rise
 constructor
 ·
  intro x hx
  have hj0 : 0<pgN T e:=by
   rcases Nat.eq_zero_or_pos (pgN T e) with h|h
   ·
    rw [h] at hx;simp at hx
   exact h
  obtain ⟨f,fs,hf,hl⟩:=page_first e h0 hj0;rw [flat_mid T _ hj,← pageN_at e h0,hf] at hr;have hxf : el x f=true:=(List.pairwise_append.1 hr).2.2 x hx f (by simp)
  by_cases h2 : el f e=true
  ·
   exact el_trans hxf h2
  rw [el_total hl h2];exact hxf
 intro y hy;obtain ⟨p,hp,hyp⟩:=List.mem_flatMap.1 hy;obtain ⟨i,hi,rfl⟩:=List.getElem_of_mem hp;rw [List.length_drop] at hi;rw [List.getElem_drop] at hyp;have hm : pgN T e+1+i<T.length:=by omega
 cases hc : T[pgN T e+1+i].f1 with
 | nil=>rw [hc] at hyp;simp at hyp
 | cons f fs =>
  have h1:=page_behind e h0 _ hm (by omega) f fs hc;have h2:=page_rise hr (List.getElem_mem hm);rw [hc] at hyp h2;rcases List.mem_cons.1 hyp with rfl|h3
  ·
   exact h1
  exact el_trans h1 ((List.pairwise_cons.1 h2).1 y h3)
theorem rowP_mem {e x : IEnt} {l : List IEnt} (h : x ∈ rowP e l) : x=e∨x ∈ l:=by
 unfold rowP at h;rcases List.mem_append.1 h with h|h
 ·
  rcases List.mem_append.1 h with h|h
  ·
   exact .inr (List.mem_of_mem_take h)
  exact .inl (List.mem_singleton.1 h)
 exact .inr (List.mem_of_mem_drop h)
theorem rowP_rise {e : IEnt} {l : List IEnt} (hr : Rise l) (ht : ¬ th e l=true) : Rise (rowP e l):=by
 rw [th_mem e l hr] at ht;unfold rowP Rise;rw [List.append_assoc];refine List.pairwise_append.2 ⟨List.Pairwise.sublist (List.take_sublist _ _) hr,List.pairwise_append.2 ⟨List.pairwise_singleton _ _,List.Pairwise.sublist (List.drop_sublist _ _) hr,fun a ha b hb=>?_⟩,fun a ha b hb=>?_⟩
 ·
  obtain rfl:=List.mem_singleton.1 ha
  obtain ⟨i,hi,rfl⟩:=List.getElem_of_mem hb;rw [List.length_drop] at hi;rw [List.getElem_drop] at hb ⊢;have h1:=up_after a hr (up a l+i) (by omega) (by omega)
  by_cases h2 : el a l[up a l+i]=true
  ·
   exact h2
  exact absurd (by rw [el_total h2 h1];exact List.getElem_mem _) ht
 have hae : el a e=true:=by
  obtain ⟨i,hi,rfl⟩:=List.getElem_of_mem ha;rw [List.length_take] at hi;rw [List.getElem_take];exact up_before e l i (by omega) (by omega)
 rcases List.mem_append.1 hb with hb|hb
 ·
  obtain rfl:=List.mem_singleton.1 hb;exact hae
 have:=List.pairwise_append.1 ((List.take_append_drop (up e l) l).symm ▸ hr : (l.take (up e l)++l.drop (up e l)).Pairwise _);exact this.2.2 a ha b hb
def flatP (T : List IPag) (e : IEnt) : List IEnt:=(T.take (pgN T e)).flatMap (·.f1)++(rowP e (pageN T e).f1++(T.drop (pgN T e+1)).flatMap (·.f1))
theorem flatP_rise {T : List IPag} {n : Int} (hw : WF T n) (e : IEnt) (ht : ¬ th e (pageN T e).f1=true) : Rise (flatP T e):=by
 have h0:=hw.len.1;have hj:=(pg_lt e h0).1;obtain ⟨ha,hb⟩:=around hw e;have hr:=hw.rise;rw [flat_mid T _ hj,← pageN_at e h0] at hr;obtain ⟨r1,r2,r3⟩:=List.pairwise_append.1 hr;obtain ⟨r4,r5,r6⟩:=List.pairwise_append.1 r2;refine List.pairwise_append.2 ⟨r1,List.pairwise_append.2 ⟨rowP_rise r4 ht,r5,fun a hA b hB=>?_⟩,fun a hA b hB=>?_⟩
 ·
  rcases rowP_mem hA with rfl|h
  ·
   exact hb b hB
  exact r6 a h b hB
 rcases List.mem_append.1 hB with h|h
 ·
  rcases rowP_mem h with rfl|h
  ·
   exact ha a hA
  exact r3 a hA b (List.mem_append.2 (.inl h))
 exact r3 a hA b (List.mem_append.2 (.inr h))
theorem flatP_ok {T : List IPag} {n : Int} (hw : WF T n) (e : IEnt) (he : eok e=true) : ∀ x ∈ flatP T e,eok x=true:=by
 intro x hx;have h0:=hw.len.1;have hj:=(pg_lt e h0).1;have hk:=hw.ok;rw [flat_mid T _ hj,← pageN_at e h0] at hk;rcases List.mem_append.1 hx with h|h
 ·
  exact hk x (List.mem_append.2 (.inl h))
 rcases List.mem_append.1 h with h|h
 ·
  rcases rowP_mem h with rfl|h
  ·
   exact he
  exact hk x (List.mem_append.2 (.inr (List.mem_append.2 (.inl h))))
 exact hk x (List.mem_append.2 (.inr (List.mem_append.2 (.inr h))))
theorem map_set {T : List IPag} (j : Nat) (h : j<T.length) (X : List IEnt) : (T.set j ⟨T[j].f0,X⟩).map (·.f0)=T.map (·.f0):=by
 have h9:=congrArg (List.map (fun p : IPag=>p.f0)) (list_is T j h);rw [set_is T j _ h,h9];simp only [List.map_append,List.map_cons]
theorem putB_WF {T : List IPag} {n : Int} (hw : WF T n) (e : IEnt) (he : eok e=true) : WF (putB T n e).1 (putB T n e).2.1:=by
 have h0:=hw.len.1;have hj:=(pg_lt e h0).1;have hpe:=pageN_at e h0;unfold putB
 by_cases ht : th e (pageN T e).f1=true
 ·
  rw [if_pos ht];exact hw
 rw [if_neg ht]
 by_cases hf : (pageN T e).f1.length=4∧(T.length=60∨n=100000)
 ·
  rw [if_pos hf];exact hw
 rw [if_neg hf];have hR:=flatP_rise hw e ht;have hO:=flatP_ok hw e he;have hl:=rowP_length e (pageN T e).f1;have hs : (pageN T e).f1.length≤4:=by rw [hpe];exact hw.small _ (List.getElem_mem _)
 unfold putT F8.out
 by_cases h4 : (rowP e (pageN T e).f1).length≤4
 ·
  rw [if_pos h4]
  have hfl : (T.set (pgN T e) ⟨(pageN T e).f0,rowP e (pageN T e).f1⟩).flatMap (·.f1)=flatP T e:=by
   rw [set_is T _ _ hj,List.flatMap_append,List.flatMap_cons];rfl
  have hm : (T.set (pgN T e) ⟨(pageN T e).f0,rowP e (pageN T e).f1⟩).map (·.f0)=T.map (·.f0):=by
   rw [hpe];exact map_set _ hj _
  refine ⟨by rw [List.length_set];exact hw.len,hw.nx,fun p hp=>?_,by rw [hm];exact hw.nod,fun p hp=>?_,fun h1 p hp=>?_,by rw [hfl];exact hO,by rw [hfl];exact hR⟩
  ·
   have : p.f0 ∈ T.map (·.f0):=by rw [← hm];exact List.mem_map_of_mem hp
   obtain ⟨q,hq,he2⟩:=List.mem_map.1 this;rw [← he2];exact hw.num q hq
  ·
   rcases List.mem_or_eq_of_mem_set hp with h|rfl
   ·
    exact hw.small p h
   exact h4
  rw [List.length_set] at h1;rcases List.mem_or_eq_of_mem_set hp with h|rfl
  ·
   exact hw.full h1 p h
  show 0<(rowP e (pageN T e).f1).length
  omega
 rw [if_neg h4,List.set_set];have h5 : (rowP e (pageN T e).f1).length=5:=by omega
 have h2 : (rowP e (pageN T e).f1).length / 2=2:=by omega
 rw [h2];generalize hX : rowP e (pageN T e).f1=X at *
 have hTl : T.length<60∧n<100000:=by
  have hl4 : (pageN T e).f1.length=4:=by omega
  have h1:=hw.len.2;have h3:=hw.nx.2;refine ⟨Nat.lt_of_le_of_ne h1 (fun h=>hf ⟨hl4,.inl h⟩),?_⟩;rcases Int.lt_or_eq_of_le h3 with h|h
  ·
   exact h
  exact absurd ⟨hl4,.inr h⟩ hf
 have hnew : ((T.set (pgN T e) ⟨(pageN T e).f0,X.take 2⟩).take (pgN T e+1) ++ [(⟨n,X.drop 2⟩ : IPag)]++(T.set (pgN T e) ⟨(pageN T e).f0,X.take 2⟩).drop (pgN T e+1))=T.take (pgN T e)++(⟨(pageN T e).f0,X.take 2⟩ : IPag) :: (⟨n,X.drop 2⟩ : IPag) :: T.drop (pgN T e+1):=by
  have hlt : (T.take (pgN T e)).length=pgN T e:=by rw [List.length_take];omega
  have e1 : (T.set (pgN T e) ⟨(pageN T e).f0,X.take 2⟩).take (pgN T e+1)=T.take (pgN T e) ++ [(⟨(pageN T e).f0,X.take 2⟩ : IPag)]:=by
   rw [set_is T _ _ hj,List.take_append,hlt,List.take_of_length_le (by omega),show pgN T e+1 - pgN T e=1 by omega];rfl
  have e2 : (T.set (pgN T e) ⟨(pageN T e).f0,X.take 2⟩).drop (pgN T e+1)=T.drop (pgN T e+1):=by
   rw [set_is T _ _ hj,List.drop_append,hlt,List.drop_of_length_le (by omega),show pgN T e+1 - pgN T e=1 by omega];rfl
  rw [e1,e2];simp
 show WF _ (n+1);simp only [];rw [hnew]
 have hfl : (T.take (pgN T e)++(⟨(pageN T e).f0,X.take 2⟩ : IPag) :: (⟨n,X.drop 2⟩ : IPag) :: T.drop (pgN T e+1)).flatMap (·.f1)=flatP T e:=by
  unfold flatP;rw [hX,List.flatMap_append,List.flatMap_cons,List.flatMap_cons];show _++(X.take 2++(X.drop 2++_))=_;rw [← List.append_assoc (X.take 2),List.take_append_drop]
 have hmem : ∀ p ∈ (T.take (pgN T e)++(⟨(pageN T e).f0,X.take 2⟩ : IPag) :: (⟨n,X.drop 2⟩ : IPag) :: T.drop (pgN T e+1)),p ∈ T∨p=⟨(pageN T e).f0,X.take 2⟩∨p=⟨n,X.drop 2⟩:=by
  intro p hp;rcases List.mem_append.1 hp with h|h
  ·
   exact .inl (List.mem_of_mem_take h)
  rcases List.mem_cons.1 h with h|h
  ·
   exact .inr (.inl h)
  rcases List.mem_cons.1 h with h|h
  ·
   exact .inr (.inr h)
  exact .inl (List.mem_of_mem_drop h)
 have hq : (pageN T e) ∈ T:=by rw [hpe];exact List.getElem_mem _
 have hnq:=hw.num _ hq;have hnx:=hw.nx
 have hlen : (T.take (pgN T e)++(⟨(pageN T e).f0,X.take 2⟩ : IPag) :: (⟨n,X.drop 2⟩ : IPag) :: T.drop (pgN T e+1)).length=T.length+1:=by
  simp only [List.length_append,List.length_cons,List.length_take,List.length_drop];omega
 refine ⟨by rw [hlen];omega,by omega,fun p hp=>?_,?_,fun p hp=>?_,fun _ p hp=>?_,by rw [hfl];exact hO,by rw [hfl];exact hR⟩
 ·
  rcases hmem p hp with h|rfl|rfl
  ·
   have:=hw.num p h;omega
  ·
   exact ⟨hnq.1,by show (pageN T e).f0≤_;omega⟩
  exact ⟨by show 1≤n;omega,by show n≤_;omega⟩
 ·
  have hmp : (T.take (pgN T e)++(⟨(pageN T e).f0,X.take 2⟩ : IPag) :: (⟨n,X.drop 2⟩ : IPag) :: T.drop (pgN T e+1)).map (·.f0)=(T.take (pgN T e)).map (·.f0)++(pageN T e).f0 :: n :: (T.drop (pgN T e+1)).map (·.f0):=by simp
  have hmT : T.map (·.f0)=(T.take (pgN T e)).map (·.f0)++(pageN T e).f0 :: (T.drop (pgN T e+1)).map (·.f0):=by
   conv=>lhs;rw [list_is T _ hj,← hpe]
   simp
  have hnn : n ∉ T.map (·.f0):=fun hm=>by
   obtain ⟨q,hq2,he2⟩:=List.mem_map.1 hm;have:=hw.num q hq2
   omega
  have hnod:=hw.nod;rw [hmT] at hnod hnn;rw [hmp]
  have hp1 : List.Perm ((T.take (pgN T e)).map (·.f0)++(pageN T e).f0 :: n :: (T.drop (pgN T e+1)).map (·.f0)) (n :: ((T.take (pgN T e)).map (·.f0)++(pageN T e).f0 :: (T.drop (pgN T e+1)).map (·.f0))):=by
   rw [show (T.take (pgN T e)).map (·.f0)++(pageN T e).f0 :: n :: (T.drop (pgN T e+1)).map (·.f0)=((T.take (pgN T e)).map (·.f0) ++ [(pageN T e).f0])++n :: (T.drop (pgN T e+1)).map (·.f0) by simp,show (T.take (pgN T e)).map (·.f0)++(pageN T e).f0 :: (T.drop (pgN T e+1)).map (·.f0)=((T.take (pgN T e)).map (·.f0) ++ [(pageN T e).f0])++(T.drop (pgN T e+1)).map (·.f0) by simp];exact List.perm_middle
  exact (List.Perm.nodup_iff hp1).2 (List.nodup_cons.2 ⟨hnn,hnod⟩)
 ·
  rcases hmem p hp with h|rfl|rfl
  ·
   exact hw.small p h
  ·
   show (X.take 2).length≤4
   rw [List.length_take];omega
  show (X.drop 2).length≤4;rw [List.length_drop];omega
 rcases hmem p hp with h|rfl|rfl
 ·
  by_cases h1 : 1<T.length
  ·
   exact hw.full h1 p h
  have hT1 : T.length=1:=by omega
  obtain ⟨i,hi,rfl⟩:=List.getElem_of_mem h;have : i=pgN T e:=by omega
  subst this;rw [← hpe];omega
 ·
  show 0<(X.take 2).length
  rw [List.length_take];omega
 show 0<(X.drop 2).length;rw [List.length_drop];omega
theorem dropT_WF {T : List IPag} {n : Int} (hw : WF T n) (e : IEnt) (ht : th e (pageN T e).f1=true) : WF (dropT T e) n:=by
 have h0:=hw.len.1;have hj:=(pg_lt e h0).1;have hpe:=pageN_at e h0;obtain ⟨hu,-⟩:=(th_iff _ _).1 ht;unfold dropT cutP;generalize hY : (pageN T e).f1.take (up e (pageN T e).f1)++(pageN T e).f1.drop (up e (pageN T e).f1+1)=Y
 have hYs : Y.Sublist (pageN T e).f1:=by
  rw [← hY,← List.eraseIdx_eq_take_drop_succ];exact List.eraseIdx_sublist _ _
 have hYl : Y.length=(pageN T e).f1.length - 1:=by
  rw [← hY];simp only [List.length_append,List.length_take,List.length_drop];omega
 have hsm : (pageN T e).f1.length≤4:=by rw [hpe];exact hw.small _ (List.getElem_mem _)
 have hfT:=flat_mid T _ hj;rw [← hpe] at hfT
 by_cases hc : (pageN T e).f1.length=1∧1<T.length
 ·
  rw [if_pos hc]
  have hlt : (T.take (pgN T e)).length=pgN T e:=by rw [List.length_take];omega
  have hnew : (T.set (pgN T e) ⟨(pageN T e).f0,Y⟩).take (pgN T e)++(T.set (pgN T e) ⟨(pageN T e).f0,Y⟩).drop (pgN T e+1)=T.eraseIdx (pgN T e):=by
   have e1 : (T.set (pgN T e) ⟨(pageN T e).f0,Y⟩).take (pgN T e)=T.take (pgN T e):=by
    rw [set_is T _ _ hj,List.take_append,hlt,List.take_of_length_le (by omega),show pgN T e - pgN T e=0 by omega,List.take_zero,List.append_nil]
   have e2 : (T.set (pgN T e) ⟨(pageN T e).f0,Y⟩).drop (pgN T e+1)=T.drop (pgN T e+1):=by
    rw [set_is T _ _ hj,List.drop_append,hlt,List.drop_of_length_le (by omega),show pgN T e+1 - pgN T e=1 by omega];rfl
   rw [e1,e2,List.eraseIdx_eq_take_drop_succ]
  rw [hnew];have hsub : (T.eraseIdx (pgN T e)).Sublist T:=List.eraseIdx_sublist _ _
  have hfs : ((T.eraseIdx (pgN T e)).flatMap (·.f1)).Sublist (T.flatMap (·.f1)):=by
   rw [hfT,List.eraseIdx_eq_take_drop_succ,List.flatMap_append];exact List.Sublist.append (List.Sublist.refl _) (List.sublist_append_right _ _)
  have hlen : (T.eraseIdx (pgN T e)).length=T.length - 1:=by rw [List.length_eraseIdx,if_pos hj]
  have hl2:=hw.len.2;exact ⟨by rw [hlen];omega,hw.nx,fun p hp=>hw.num p (hsub.subset hp),List.Nodup.sublist (hsub.map _) hw.nod,fun p hp=>hw.small p (hsub.subset hp),fun _ p hp=>hw.full hc.2 p (hsub.subset hp),fun x hx=>hw.ok x (hfs.subset hx),List.Pairwise.sublist hfs hw.rise⟩
 rw [if_neg hc]
 have hm : (T.set (pgN T e) ⟨(pageN T e).f0,Y⟩).map (·.f0)=T.map (·.f0):=by
  rw [hpe];exact map_set _ hj _
 have hfs : ((T.set (pgN T e) ⟨(pageN T e).f0,Y⟩).flatMap (·.f1)).Sublist (T.flatMap (·.f1)):=by
  rw [hfT,set_is T _ _ hj,List.flatMap_append,List.flatMap_cons];exact List.Sublist.append (List.Sublist.refl _) (List.Sublist.append hYs (List.Sublist.refl _))
 refine ⟨by rw [List.length_set];exact hw.len,hw.nx,fun p hp=>?_,by rw [hm];exact hw.nod,fun p hp=>?_,fun h1 p hp=>?_,fun x hx=>hw.ok x (hfs.subset hx),List.Pairwise.sublist hfs hw.rise⟩
 ·
  have : p.f0 ∈ T.map (·.f0):=by rw [← hm];exact List.mem_map_of_mem hp
  obtain ⟨q,hq,he2⟩:=List.mem_map.1 this;rw [← he2];exact hw.num q hq
 ·
  rcases List.mem_or_eq_of_mem_set hp with h|rfl
  ·
   exact hw.small p h
  show Y.length≤4
  omega
 rw [List.length_set] at h1;rcases List.mem_or_eq_of_mem_set hp with h|rfl
 ·
  exact hw.full h1 p h
 show 0<Y.length;have : ¬ (pageN T e).f1.length=1:=fun h=>hc ⟨h,h1⟩
 omega
theorem newT_WF : WF [(⟨1,[]⟩ : IPag)] 2:=by
 refine ⟨by simp,by omega,by simp,by simp,by simp,fun h=>by simp at h,by simp,?_⟩;exact List.Pairwise.nil
def nam (T : List IPag) (lo hi : ByteArray) (op : Bool) : List Int:=(ranged hi op (T.drop (place ⟨lo,-1⟩ 0 0 T).toNat)).map (·.f0)
theorem range_both (T : List IPag) (n : Int) (lo hi : ByteArray) (op : Bool) (hT : T.length≤1048576) (hf : (T.flatMap (·.f1)).length≤1048576) (hp : ∀ p ∈ T,p.f1.length≤1048576) (hk : tok T n=true) :
  Eve (fun k=>Fo.f k T n lo hi op) (fl lo hi op (T.flatMap (·.f1)),nam T lo hi op,0)∧Eve (fun k=>F7.f k T n lo hi op) (fl lo hi op (T.flatMap (·.f1)),nam T lo hi op,0)∧(fl lo hi op (T.flatMap (·.f1))).length≤1048576∧(nam T lo hi op).length≤1048576:=by
 have hk':=hk;simp only [tok,inr,Bool.and_eq_true,decide_eq_true_eq] at hk;have h0 : 0<T.length:=by omega
 have hin:=place_in ⟨lo,-1⟩ T 0 0 (by omega) (by omega)
 have hmr : ∀ ps : List IPag,(ranged hi op ps).length≤ps.length:=by
  have ht : ∀ ps : List IPag,(taken hi op ps).length≤ps.length:=by
   intro ps
   induction ps with
   | nil=>simp [taken]
   | cons p ps ih =>
    unfold taken
    split
    ·
     simp
    simpa using ih
  intro ps
  cases ps with
  | nil=>simp [ranged]
  | cons p ps=>simpa [ranged] using ht ps
 unfold nam;refine ⟨?_,?_,?_,?_⟩
 ·
  simp only [Fo.f]
  refine Eve.bind (specOK_tells _ n hT hp) ?_;simp only [if_pos hk'];refine Eve.bind (range_spec _ n lo hi op hT hf h0) (Eve.one.eq ?_);have:=range_all (lo:=lo) (hi:=hi) (op:=op) T hk.2.2.2;simp only [fl,this]
 ·
  simp only [F7.f]
  refine Eve.bind (implOK_tells _ n hT hf) ?_;simp only [if_pos hk'];refine Eve.bind (entries_tells _ n hT hf) ?_
  have hd : F6.f (T.flatMap (·.f1)) lo hi op=some (fl lo hi op (T.flatMap (·.f1))):=by
   unfold F6.f;rw [if_pos (by omega)]
   rfl
  rw [hd];simp only [Option.bind_some];refine Eve.bind (place_impl T n ⟨lo,-1⟩ hT) ?_;refine Eve.ite (fun _=>?_) (fun h4=>absurd hin.1 h4);refine Eve.ite (fun _=>?_) (fun h4=>absurd (by omega) h4);refine range_impl _ _ lo hi op (by rw [List.length_drop];omega) (fun j hj h5=>?_);rw [List.length_drop] at hj;rw [List.getElem_drop];exact poks_in T n [] T hk.2.2.1 _ (List.getElem_mem _) (by omega)
 ·
  exact Nat.le_trans (List.length_filter_le _ _) hf
 rw [List.length_map];refine Nat.le_trans (hmr _) ?_;rw [List.length_drop];omega
theorem cross {T : List IPag} (hr : Rise (T.flatMap (·.f1))) (x y : Nat) (hx : x<T.length) (hy : y<T.length) (h : x<y) (a b : IEnt) (ha : a ∈ T[x].f1) (hb : b ∈ T[y].f1) : el a b=true:=by
 have h1:=(List.pairwise_flatMap.1 hr).2;exact List.pairwise_iff_getElem.1 h1 x y hx hy h a ha b hb
theorem taken_in (hi : ByteArray) (op : Bool) : ∀ (ps : List IPag) (i : Nat) (h : i<ps.length),(∀ m (hm : m<ps.length),m≤i→stop hi op ps[m]=false)→ps[i] ∈ taken hi op ps
 | [],_,h,_=>by simp at h
 | p :: ps,i,h,hs=>by
  have h0:=hs 0 (by simp) (by omega);simp only [List.getElem_cons_zero] at h0;unfold taken;rw [if_neg (by rw [h0];decide)]
  cases i with
  | zero=>simp
  | succ i =>
   simp only [List.getElem_cons_succ];exact List.mem_cons_of_mem _ (taken_in hi op ps i (by simpa using h) (fun m hm hmi=>by have:=hs (m+1) (by simpa using hm) (by omega);simpa using this))
theorem not_less {e f : IEnt} {hi : ByteArray} (h1 : ¬ el e f=true) (h2 : Op.bytesLess e.f0.toList hi.toList=true) : Op.bytesLess f.f0.toList hi.toList=true:=by
 unfold el at h1;simp only [Bool.or_eq_true,not_or] at h1
 by_cases he : e.f0.toList=f.f0.toList
 ·
  rw [← he];exact h2
 exact bl_trans (bl_total h1.1 he) h2
theorem named {T : List IPag} {n : Int} (hw : WF T n) {lo hi : ByteArray} {op : Bool} (e : IEnt) (he : e ∈ T.flatMap (·.f1)) (hh : ihas lo hi op e.f0=true) : (pageN T e).f0 ∈ nam T lo hi op:=by
 have h0:=hw.len.1;have hr:=hw.rise;have hek:=hw.ok e he;have hj:=(pg_lt e h0).1;have hb:=(pg_lt ⟨lo,-1⟩ h0).1
 have hlo : el ⟨lo,-1⟩ e=true:=by
  have h1 : ¬ Op.bytesLess e.f0.toList lo.toList=true:=fun h=>by unfold ihas at hh;rw [if_pos h] at hh;cases hh
  unfold el;simp only [Bool.or_eq_true,Bool.and_eq_true,decide_eq_true_eq]
  by_cases h2 : e.f0.toList=lo.toList
  ·
   unfold eok inr at hek
   simp only [Bool.and_eq_true,decide_eq_true_eq] at hek;exact .inr ⟨h2.symm,by omega⟩
  exact .inl (bl_total h1 h2)
 have hmono : pgN T ⟨lo,-1⟩≤pgN T e:=by
  rcases Nat.lt_or_ge (pgN T e) (pgN T ⟨lo,-1⟩) with h|h
  ·
   exfalso
   obtain ⟨f,fs,hf,hl⟩:=page_first ⟨lo,-1⟩ h0 (by omega);rw [pageN_at _ h0] at hf;exact hl (el_trans hlo (page_behind e h0 _ hb h f fs hf))
  exact h
 have hstop : ∀ x (hx : x<T.length),pgN T ⟨lo,-1⟩<x→x≤pgN T e→stop hi op T[x]=false:=by
  intro x hx h1 h2;unfold stop
  cases op with
  | true=>rfl
  | false =>
   have hlt : Op.bytesLess e.f0.toList hi.toList=true:=by
    unfold ihas at hh
    split at hh
    ·
     cases hh
    simpa using hh
   cases hc : T[x].f1 with
   | nil=>rfl
   | cons f fs =>
    have hne : ¬ el e f=true:=by
     obtain ⟨f',fs',hf',hl⟩:=page_first e h0 (by omega);rw [pageN_at e h0] at hf';rcases Nat.lt_or_eq_of_le h2 with h|h
     ·
      intro h3
      exact hl (el_trans h3 (cross hr x (pgN T e) hx hj h f f' (by rw [hc];simp) (by rw [hf'];simp)))
     subst h;rw [hc] at hf';injection hf' with e1 _;rw [e1];exact hl
    simp only [not_less hne hlt];rfl
 unfold nam;rw [pageN_at e h0,show (place ⟨lo,-1⟩ 0 0 T).toNat=pgN T ⟨lo,-1⟩ from rfl,drop_at T _ hb];refine List.mem_map_of_mem (f:=fun p : IPag=>p.f0) ?_;unfold ranged;rcases Nat.lt_or_eq_of_le hmono with h|h
 ·
  refine List.mem_cons_of_mem _ ?_
  have hl : pgN T e - (pgN T ⟨lo,-1⟩+1)<(T.drop (pgN T ⟨lo,-1⟩+1)).length:=by rw [List.length_drop];omega
  have:=taken_in hi op (T.drop (pgN T ⟨lo,-1⟩+1)) (pgN T e - (pgN T ⟨lo,-1⟩+1)) hl (fun m hm hmi=>by
   rw [List.length_drop] at hm;rw [List.getElem_drop]
   exact hstop _ (by omega) (by omega) (by omega))
  rw [List.getElem_drop] at this
  simpa only [show pgN T ⟨lo,-1⟩+1+(pgN T e - (pgN T ⟨lo,-1⟩+1))=pgN T e by omega] using this
 simp only [h];exact List.mem_cons_self
theorem has_tells (lo hi : ByteArray) (op : Bool) (t : ByteArray) (ht : t.size≤65536) : Eve (fun k=>Fv.f k lo hi op t) (ihas lo hi op t):=by
 simp only [Fv.f,Fq.f,F03.f,Fk.f];refine Eve.bind (v:=false) (Eve.bind (v:=false) (Eve.bind (v:=(-1 : Int)) ?_ (Eve.one.eq (by decide))) Eve.one) ?_
 ·
  refine ev_loop0 [t] (fun k (_ : Unit) i=>Fk.l0 k [t] (([t] : List ByteArray).length : Int) i) (fun _ _ _=>(-1 : Int)) (fun _ _=>True) (fun _ _=>?_) (fun i hi s _ ih=>?_) () trivial
  ·
   simp only [Fk.l0]
   exact Eve.ite (fun h=>absurd h (by omega)) (fun _=>Eve.one)
  have hi0 : i=0:=by simp at hi;omega
  subst hi0;have hr : rdOf ByteArray.empty [t] ((0 : Nat) : Int)=t:=rdOf_at _ _ 0 hi;simp only [Fk.l0,hr,F0b.f,Option.bind_some,wi (show 0≤9223372036854775806 by omega)];refine Eve.ite (fun _=>?_) (fun h=>absurd (by simp) h);refine Eve.ite (fun _=>?_) (fun h=>absurd (by omega) h);refine Eve.ite (fun _=>?_) (fun h=>absurd (by simp) h);refine Eve.ite (fun h=>absurd (of_decide_eq_true h) (by omega)) (fun _=>ih () trivial)
 simp only [Bool.false_eq_true,if_false]
 have : Fy.f lo hi op t=some (ihas lo hi op t):=by
  unfold Fy.f ihas
  split
  ·
   rfl
  split <;> rfl
 rw [this];exact Eve.one
theorem pageAt_tells (T : List IPag) (n : Int) (e : IEnt) (hT : T.length≤1048576) (hf : (T.flatMap (·.f1)).length≤1048576) (hk : tok T n=true) (he : eok e=true) (h0 : 0<T.length) : Eve (fun k=>Fn.f k T n e.f0 e.f1) ((pageN T e).f0,0):=by
 have hin:=place_in e T 0 0 (by omega) (by omega);simp only [Fn.f];refine Eve.bind (implOK_tells T n hT hf) ?_;rw [eok_impl];simp only [if_pos hk,if_pos he,Option.bind_some];refine Eve.bind (place_impl T n e hT) ?_;refine Eve.ite (fun _=>?_) (fun h=>absurd hin.1 h);refine Eve.ite (fun _=>?_) (fun h=>absurd (by omega) h);rw [rd_page e h0];exact Eve.one
theorem sameE_self (l : List IEnt) (hl : l.length≤1048576) : Eve (fun k=>Ff.f k l l) true:=by
 simp only [Ff.f,if_true];refine ev_loop0 l (fun k (_ : Unit) i=>Ff.l0 k l l i) (fun _ _ _=>true) (fun _ _=>True) (fun _ _=>?_) (fun i hi s _ ih=>?_) () trivial
 ·
  simp only [Ff.l0]
  exact Eve.ite (fun h=>absurd h (by omega)) (fun _=>Eve.one)
 simp only [Ff.l0,wi (show i≤9223372036854775806 by omega)];refine Eve.ite (fun _=>?_) (fun h=>absurd (by omega) h);refine Eve.ite (fun _=>?_) (fun h=>absurd (by omega) h);refine Eve.ite (fun _=>?_) (fun h=>absurd (by omega) h);exact Eve.ite (fun h=>absurd h (by simp)) (fun _=>ih () trivial)
theorem sameI_self (l : List Int) (hl : l.length≤1048576) : Eve (fun k=>Fe.f k l l) true:=by
 simp only [Fe.f,if_true];refine ev_loop0 l (fun k (_ : Unit) i=>Fe.l0 k l l i) (fun _ _ _=>true) (fun _ _=>True) (fun _ _=>?_) (fun i hi s _ ih=>?_) () trivial
 ·
  simp only [Fe.l0]
  exact Eve.ite (fun h=>absurd h (by omega)) (fun _=>Eve.one)
 simp only [Fe.l0,wi (show i≤9223372036854775806 by omega),if_true];refine Eve.ite (fun _=>?_) (fun h=>absurd (by omega) h);refine Eve.ite (fun _=>?_) (fun h=>absurd (by omega) h);exact Eve.ite (fun _=>ih () trivial) (fun h=>absurd (by omega) h)
theorem rdS5 (l : List ByteArray) (i : Nat) (h : i<l.length) : rdOf ByteArray.empty l (i : Int)=l[i]:=rdOf_at _ l i h
def Okst (at_ seed : Int) : Prop:=0≤at_∧at_≤1000000000∧0≤seed∧seed<2147483648
theorem byte_draw (code : List Int) (hc : ∀ b ∈ code,0≤b∧b≤255) (at_ seed : Int) (h : Okst at_ seed) : ∃ b s,Fd.f code at_ seed=some (b,at_+1,s)∧0≤b∧b≤255∧0≤s∧s<2147483648:=by
 obtain ⟨h0,h1,h2,h3⟩:=h;have e1 : wrap64 (at_+1)=at_+1:=w64 (by omega) (by omega);have e2 : wrap64 (at_+1 - 1)=at_:=by rw [w64 (by omega) (by omega)];omega
 have tm : ∀ x : Int,0≤x→Int.tmod x 2147483648=x % 2147483648:=fun x hx=>Int.tmod_eq_emod_of_nonneg hx;unfold Fd.f;simp only [e1,e2]
 by_cases hl : at_+1≤(code.length : Int)
 ·
  rw [if_pos hl,if_pos h0,if_pos (by omega)]
  obtain ⟨i,rfl⟩ : ∃ i : Nat,at_=(i : Int):=⟨at_.toNat,by omega⟩;have hi : i<code.length:=by omega
  have hb:=hc _ (List.getElem_mem hi);rw [rd_at code i hi];have e3 : wrap64 code[i]=code[i]:=w64 (by omega) (by omega);have e4 : wrap64 (seed*31)=seed*31:=w64 (by omega) (by omega);have e5 : wrap64 (seed*31+code[i])=seed*31+code[i]:=w64 (by omega) (by omega);have e6 : wrap64 (seed*31+code[i]+7)=seed*31+code[i]+7:=w64 (by omega) (by omega);rw [e3,e4,e5,e6,tm _ (by omega)];exact ⟨_,_,rfl,hb.1,hb.2,by omega,by omega⟩
 rw [if_neg hl];have e4 : wrap64 (seed*1103515245)=seed*1103515245:=w64 (by omega) (by omega);have e5 : wrap64 (seed*1103515245+12345)=seed*1103515245+12345:=w64 (by omega) (by omega);rw [e4,e5,tm _ (by omega)];generalize hx : (seed*1103515245+12345) % 2147483648=x;have hx0 : 0≤x∧x<2147483648:=by omega
 by_cases h3k : at_+1 > 3000
 ·
  rw [if_pos h3k];exact ⟨_,_,rfl,by omega,by omega,h2,h3⟩
 rw [if_neg h3k];have e7 : Int.tdiv x 65536=x / 65536:=Int.tdiv_eq_ediv_of_nonneg hx0.1;have e8 : wrap64 (x / 65536)=x / 65536:=w64 (by omega) (by omega);have e9 : Int.tmod (x / 65536) 256=x / 65536 % 256:=Int.tmod_eq_emod_of_nonneg (by omega);rw [e7,e8,e9];exact ⟨_,_,rfl,by omega,by omega,hx0.1,hx0.2⟩
theorem next_draw (code : List Int) (hc : ∀ b ∈ code,0≤b∧b≤255) (n : Int) (hn : 1<n) (hn2 : n≤256) (at_ seed : Int) (h : Okst at_ seed) : ∃ v s,Fu.f code at_ seed n=some (v,at_+1,s)∧0≤v∧v<n∧0≤s∧s<2147483648:=by
 obtain ⟨b,s,hb,h0,h1,h2,h3⟩:=byte_draw code hc at_ seed h;unfold Fu.f;rw [if_neg (by omega),if_pos hn2,hb];simp only [Option.bind_some];rw [if_neg (by omega)];have e : Int.tmod b n=b % n:=Int.tmod_eq_emod_of_nonneg h0;rw [e];exact ⟨_,_,rfl,Int.emod_nonneg _ (by omega),Int.emod_lt_of_pos _ (by omega),h2,h3⟩
theorem pick_draw (code : List Int) (hc : ∀ b ∈ code,0≤b∧b≤255) (l : List ByteArray) (hn : 1<l.length) (hn2 : l.length≤256) (at_ seed : Int) (h : Okst at_ seed) : ∃ t s,F07.f code at_ seed l=some (t,at_+1,s)∧t ∈ l∧0≤s∧s<2147483648:=by
 obtain ⟨v,s,hv,h0,h1,h2,h3⟩:=next_draw code hc (l.length : Int) (by omega) (by omega) at_ seed h;unfold F07.f;rw [if_neg (by omega),hv];simp only [Option.bind_some];rw [if_pos h0,if_pos h1];obtain ⟨i,rfl⟩ : ∃ i : Nat,v=(i : Int):=⟨v.toNat,by omega⟩;rw [rdS5 l i (by omega)];exact ⟨_,_,rfl,List.getElem_mem _,h2,h3⟩
theorem at_tells (l : List Int) (hl : ∀ b ∈ l,0≤b∧b≤255) (hz : l.length≤1048576) (n : Int) (h1 : 1≤n) (h2 : n≤1048576) : ∃ t,F02.f l 0 n=some t∧0≤t∧t<n:=by
 unfold F02.f
 by_cases hn : n≤1
 ·
  rw [if_pos hn];exact ⟨0,rfl,by omega,by omega⟩
 rw [if_neg hn]
 by_cases h0 : (l.length : Int)=0
 ·
  rw [if_pos h0,if_neg (by omega)]
  have e : wrap64 (0*7)=0:=w64 (by omega) (by omega);rw [e];exact ⟨_,rfl,by simp,by simp;omega⟩
 rw [if_neg h0];have t0 : Int.tmod 0 (l.length : Int)=0:=Int.zero_tmod _;have e1 : wrap64 (0+1)=1:=w64 (by omega) (by omega);have t1 : Int.tmod 1 (l.length : Int)=1 % (l.length : Int):=Int.tmod_eq_emod_of_nonneg (by omega);have t2 : Int.tdiv 0 (l.length : Int)=0:=Int.zero_tdiv _;have g0 : 0≤1 % (l.length : Int):=Int.emod_nonneg _ (by omega);have g1 : 1 % (l.length : Int)<(l.length : Int):=Int.emod_lt_of_pos _ (by omega);rw [e1,t0,t1,t2,if_pos (by omega),if_pos (by omega),if_pos g0,if_pos g1,if_neg (by omega)];obtain ⟨i,hi⟩ : ∃ i : Nat,1 % (l.length : Int)=(i : Int):=⟨(1 % (l.length : Int)).toNat,by omega⟩;rw [hi] at g1 ⊢;have hil : i<l.length:=by omega
 have h0l : 0<l.length:=by omega
 have r0 : rd l 0=l[0]:=rd_at l 0 h0l;have b0:=hl _ (List.getElem_mem h0l);have b1:=hl _ (List.getElem_mem hil);rw [r0,rd_at l i hil];generalize l[0]=x at b0 ⊢;generalize l[i]=y at b1 ⊢;have w1 : wrap64 x=x:=w64 (by omega) (by omega);have w2 : wrap64 y=y:=w64 (by omega) (by omega);have w3 : wrap64 (x*31)=x*31:=w64 (by omega) (by omega);have w4 : wrap64 (x*31+y)=x*31+y:=w64 (by omega) (by omega);have w5 : wrap64 0=0:=w64 (by omega) (by omega);have w6 : wrap64 (x*31+y+0)=x*31+y:=by rw [Int.add_zero];exact w4
 rw [w1,w2,w3,w4,w5,w6];have e9 : Int.tmod (x*31+y) n=(x*31+y) % n:=Int.tmod_eq_emod_of_nonneg (by omega);rw [e9];exact ⟨_,rfl,Int.emod_nonneg _ (by omega),Int.emod_lt_of_pos _ (by omega)⟩
theorem chance_draw (code : List Int) (hc : ∀ b ∈ code,0≤b∧b≤255) (n : Int) (hn : 1<n) (hn2 : n≤256) (at_ seed : Int) (h : Okst at_ seed) : ∃ b s,F09.f code at_ seed n=some (b,at_+1,s)∧0≤s∧s<2147483648:=by
 obtain ⟨v,s,hv,-,-,h2,h3⟩:=next_draw code hc n hn hn2 at_ seed h;unfold F09.f;rw [hv];exact ⟨_,s,rfl,h2,h3⟩
theorem entry_draw (code : List Int) (hc : ∀ b ∈ code,0≤b∧b≤255) (at_ seed : Int) (h : Okst at_ seed) (h9 : at_≤900000000) : ∃ (e : IEnt) (s : Int),Fx.f code at_ seed=some (e.f0,e.f1,at_+2,s)∧eok e=true∧e.f0.size≤2∧0≤s∧s<2147483648:=by
 have hs7 : ∀ t ∈ ([(⟨#[97]⟩ : ByteArray),(⟨#[98]⟩ : ByteArray),(⟨#[99]⟩ : ByteArray),(⟨#[97,97]⟩ : ByteArray),(⟨#[]⟩ : ByteArray),(⟨#[100]⟩ : ByteArray),(⟨#[101]⟩ : ByteArray)] : List ByteArray),t.size≤2:=by
  intro t ht;simp only [List.mem_cons,List.not_mem_nil,or_false] at ht;rcases ht with rfl|rfl|rfl|rfl|rfl|rfl|rfl <;> decide
 obtain ⟨t,s1,ht,htm,h2,h3⟩:=pick_draw code hc ([(⟨#[97]⟩ : ByteArray),(⟨#[98]⟩ : ByteArray),(⟨#[99]⟩ : ByteArray),(⟨#[97,97]⟩ : ByteArray),(⟨#[]⟩ : ByteArray),(⟨#[100]⟩ : ByteArray),(⟨#[101]⟩ : ByteArray)] : List ByteArray) (by simp) (by simp) at_ seed h;obtain ⟨v,s,hv,hv0,hv1,h4,h5⟩:=next_draw code hc 4 (by omega) (by omega) (at_+1) s1 ⟨by have:=h.1;omega,by omega,h2,h3⟩;have hz:=hs7 t htm;refine ⟨⟨t,v⟩,s,?_,?_,hz,h4,h5⟩
 ·
  unfold Fx.f
  rw [ht];simp only [Option.bind_some];rw [hv];simp only [Option.bind_some];rw [show at_+1+1=at_+2 by omega]
 unfold eok inr;simp only [Bool.and_eq_true,decide_eq_true_eq]
 omega
theorem WF.facts {T : List IPag} {n : Int} (h : WF T n) : T.length≤1000000∧(∀ p ∈ T,p.f1.length≤1000000)∧0<T.length∧T.length≤60:=⟨by have:=h.len;omega,fun p hp=>by have:=h.small p hp;omega,h.len.1,h.len.2⟩
theorem tree_loop (code : List Int) (hc : ∀ b ∈ code,0≤b∧b≤255) : ∀ (m : Nat) (at_ seed : Int) (T : List IPag) (n : Int),m≤24→0≤at_→at_+3*m≤800000000→0≤seed→seed<2147483648→WF T n → ∃ T' n' a' s',Eve (fun k=>Fa.l0 k (m : Int) code at_ seed T n) (T',n',a',s')∧WF T' n'
 | 0,at_,seed,T,n,_,_,_,_,_,hw=>by
  obtain ⟨f1,f2,f3,f4⟩:=hw.facts;refine ⟨T,n,at_,seed,Eve.succ ?_,hw⟩;simp only [Fa.l0];refine Eve.ite (fun h=>absurd h (by omega)) (fun _=>?_);exact Eve.bind (own_tells T n (by omega) (fun p hp=>by have:=f2 p hp;omega)) Eve.one
 | m+1,at_,seed,T,n,hm,h0,h1,h2,h3,hw=>by
  obtain ⟨f1,f2,f3,f4⟩:=hw.facts;have hnx:=hw.nx;obtain ⟨b,s1,hb,g1,g2⟩:=chance_draw code hc 4 (by omega) (by omega) at_ seed ⟨h0,by omega,h2,h3⟩;obtain ⟨e,s2,he,hek,-,g3,g4⟩:=entry_draw code hc (at_+1) s1 ⟨by omega,by omega,g1,g2⟩ (by omega);have hwr : wrap64 (((m+1 : Nat) : Int) - 1)=(m : Int):=by rw [w64 (by omega) (by omega)];omega
  cases b with
  | true =>
   have hd:=drop_spec T n e f1 f2 f3 hw.rise
   by_cases ht : th e (pageN T e).f1=true
   ·
    rw [if_pos ht] at hd
    obtain ⟨T',n',a',s',hl,hw'⟩:=tree_loop code hc m (at_+1+2) s2 (dropT T e) n (by omega) (by omega) (by omega) g3 g4 (dropT_WF hw e ht);refine ⟨T',n',a',s',Eve.succ ?_,hw'⟩;simp only [Fa.l0,hb,he,Option.bind_some,hwr,if_true];refine Eve.ite (fun _=>?_) (fun h=>absurd (by omega) h);exact Eve.bind hd hl
   rw [if_neg ht] at hd;obtain ⟨T',n',a',s',hl,hw'⟩:=tree_loop code hc m (at_+1+2) s2 T n (by omega) (by omega) (by omega) g3 g4 hw;refine ⟨T',n',a',s',Eve.succ ?_,hw'⟩;simp only [Fa.l0,hb,he,Option.bind_some,hwr,if_true];refine Eve.ite (fun _=>?_) (fun h=>absurd (by omega) h);exact Eve.bind hd hl
  | false =>
   have hp:=put_spec T n e f1 f2 f3 (by omega);obtain ⟨T',n',a',s',hl,hw'⟩:=tree_loop code hc m (at_+1+2) s2 (putB T n e).1 (putB T n e).2.1 (by omega) (by omega) (by omega) g3 g4 (putB_WF hw e hek);refine ⟨T',n',a',s',Eve.succ ?_,hw'⟩;simp only [Fa.l0,hb,he,Option.bind_some,hwr,Bool.false_eq_true,if_false];refine Eve.ite (fun _=>?_) (fun h=>absurd (by omega) h);exact Eve.bind hp hl
theorem treeOf_draws (code : List Int) (hc : ∀ b ∈ code,0≤b∧b≤255) : ∃ T n,Eve (fun k=>Fw.f k code) (T,n)∧WF T n:=by
 have hs : 0≤(code.length : Int) % 1000∧(code.length : Int) % 1000<2147483648:=by omega
 obtain ⟨v,s,hv,hv0,hv1,h2,h3⟩:=next_draw code hc 24 (by omega) (by omega) 0 ((code.length : Int) % 1000) ⟨by omega,by omega,hs.1,hs.2⟩;obtain ⟨m,rfl⟩ : ∃ m : Nat,v=(m : Int):=⟨v.toNat,by omega⟩;obtain ⟨T',n',a',s',hl,hw⟩:=tree_loop code hc m (0+1) s [(⟨1,[]⟩ : IPag)] 2 (by omega) (by omega) (by omega) h2 h3 newT_WF;refine ⟨T',n',?_,hw⟩;simp only [Fw.f,F04.f,Option.bind_some,Fa.f,F0c.f,hv];exact Eve.bind hl Eve.one
theorem entryOf_draws (code : List Int) (hc : ∀ b ∈ code,0≤b∧b≤255) : ∃ e : IEnt,Fz.f code=some (e.f0,e.f1)∧e.f0.size≤2:=by
 have hs : 0≤(code.length : Int) % 1000∧(code.length : Int) % 1000<2147483648:=by omega
 obtain ⟨e,s,he,-,hz,-,-⟩:=entry_draw code hc 0 ((code.length : Int) % 1000) ⟨by omega,by omega,hs.1,hs.2⟩ (by omega);refine ⟨e,?_,hz⟩;simp only [Fz.f,F04.f,Option.bind_some,he]
theorem fl_all (E : List IEnt) : fl (⟨#[]⟩ : ByteArray) (⟨#[]⟩ : ByteArray) true E=E:=by
 unfold fl;refine List.filter_eq_self.2 (fun e _=>?_);unfold ihas
 have : Op.bytesLess e.f0.toList (⟨#[]⟩ : ByteArray).toList=false:=by
  have h0 : (⟨#[]⟩ : ByteArray).toList=[]:=by rw [ba_toList]
  rw [h0]
  cases e.f0.toList <;> rfl
 rw [this];rfl
theorem fl_take (lo hi : ByteArray) (op : Bool) (E : List IEnt) (i : Nat) (h : i<E.length) : fl lo hi op (E.take (i+1))=fl lo hi op (E.take i)++(if ihas lo hi op E[i].f0=true then [E[i]] else []):=by
 rw [List.take_succ_eq_append_getElem h];unfold fl;rw [List.filter_append]
 congr 1
 rw [List.filter_cons,List.filter_nil]
theorem fl_split (lo hi : ByteArray) (op : Bool) (E : List IEnt) (i : Nat) (h : i<E.length) (hh : ihas lo hi op E[i].f0=true) : fl lo hi op E=fl lo hi op (E.take i)++E[i] :: fl lo hi op (E.drop (i+1)):=by
 conv=>lhs;rw [← List.take_append_drop i E,drop_at E i h]
 unfold fl;rw [List.filter_append,List.filter_cons,if_pos hh]
theorem range_loop (T : List IPag) (n : Int) (lo hi : ByteArray) (op : Bool) (hw : WF T n) (hT : T.length≤1048576) (hf : (T.flatMap (·.f1)).length≤1048576) (hN : (nam T lo hi op).length≤1048576) :
  Eve (fun k=>F0.l0 k (fl lo hi op (T.flatMap (·.f1))) (nam T lo hi op) (T.flatMap (·.f1)) 0 0 T n lo hi op) true:=by
 have hk:=hw.tok;have h0:=hw.len.1;obtain ⟨E,hE⟩ : ∃ E,E=T.flatMap (·.f1):=⟨_,rfl⟩;rw [← hE] at hf ⊢;refine ev_loop0 E (fun k (s : Nat) i=>F0.l0 k (fl lo hi op E) (nam T lo hi op) E (s : Int) i T n lo hi op) (fun _ _ _=>true) (fun i s=>s=(fl lo hi op (E.take i)).length) (fun s hs=>?_) (fun i hi_ s hs ih=>?_) 0 (by simp [fl])
 ·
  simp only [F0.l0]
  refine Eve.ite (fun h=>absurd h (by omega)) (fun _=>Eve.one.eq ?_);rw [hs,List.take_length];simp
 have hm : E[i] ∈ E:=List.getElem_mem _;have hek:=hw.ok E[i] (by rw [← hE];exact hm)
 have hsz : E[i].f0.size≤65536:=by
  unfold eok at hek;simp only [Bool.and_eq_true,decide_eq_true_eq] at hek
  omega
 have htk:=fl_take lo hi op E i hi_;simp only [F0.l0,rdIE E i hi_,wi (show i≤9223372036854775806 by omega)];refine Eve.ite (fun _=>?_) (fun h=>absurd (by omega) h);refine Eve.ite (fun _=>?_) (fun h=>absurd (by omega) h);refine Eve.bind (has_tells lo hi op E[i].f0 hsz) ?_;refine Eve.ite (fun hh=>?_) (fun hh=>?_)
 ·
  have hsp:=fl_split lo hi op E i hi_ hh
  rw [if_pos hh] at htk;have hsl : s<(fl lo hi op E).length:=by rw [hsp,List.length_append,← hs,List.length_cons];omega
  have hge : (fl lo hi op E)[s]=E[i]:=by
   have : (fl lo hi op E)[s]? = some E[i]:=by rw [hsp,hs,List.getElem?_append_right (Nat.le_refl _),Nat.sub_self];rfl
   rw [List.getElem?_eq_getElem hsl] at this;exact Option.some.inj this
  have hsle : (fl lo hi op E).length≤E.length:=List.length_filter_le _ _;have hrd : rd_T28 (fl lo hi op E) (s : Int)=E[i]:=by rw [rdIE _ s hsl,hge]
  have hnm:=named hw (lo:=lo) (hi:=hi) (op:=op) E[i] (by rw [← hE];exact hm) hh;have hpa:=pageAt_tells T n E[i] hT (by rw [← hE];exact hf) hk hek h0;refine Eve.ite (fun h=>absurd h (by omega)) (fun _=>?_);refine Eve.ite (fun _=>?_) (fun h=>absurd (by omega) h);refine Eve.ite (fun _=>?_) (fun h=>absurd (by omega) h);rw [hrd];have hb : ((!(E[i].f0.toList == E[i].f0.toList)) || (!(E[i].f1 == E[i].f1)))=false:=by simp
  rw [hb];refine Eve.succ ?_;simp only [F0.j3,Bool.false_eq_true,if_false,rdIE E i hi_,wi (show s≤9223372036854775806 by omega)];refine Eve.ite (fun _=>?_) (fun h=>absurd (by omega) h);refine Eve.ite (fun _=>?_) (fun h=>absurd (by omega) h);refine Eve.bind hpa ?_;refine ev_loop0 (nam T lo hi op) (fun k (b : Bool) m=>F0.l1 k (fl lo hi op E) (nam T lo hi op) E ((s+1 : Nat) : Int) (i : Int) (pageN T E[i]).f0 0 b m T n lo hi op) (fun _ _ _=>true) (fun m b=>b=true∨(pageN T E[i]).f0 ∈ (nam T lo hi op).drop m) (fun b hb=>?_) (fun m hm2 b hb ihm=>?_) false (.inr (by rw [List.drop_zero];exact hnm))
  ·
   have hbt : b=true:=by
    rcases hb with h|h
    ·
     exact h
    rw [List.drop_length] at h;simp at h
   simp only [F0.l1,hbt,if_true,wi (show i≤9223372036854775806 by omega)];refine Eve.ite (fun h=>absurd h (by omega)) (fun _=>?_);exact ih (s+1) (by rw [htk,List.length_append,← hs];rfl)
  simp only [F0.l1,wi (show m≤9223372036854775806 by omega)];refine Eve.ite (fun _=>?_) (fun h=>absurd (by omega) h);refine Eve.ite (fun h=>ihm true (.inl rfl)) (fun h=>?_);refine Eve.ite (fun _=>?_) (fun h=>absurd (by omega) h);rw [rd_at _ _ hm2];refine ihm _ ?_;rcases hb with hb|hb
  ·
   exact absurd hb h
  rw [drop_at _ m hm2] at hb;rcases List.mem_cons.1 hb with h3|h3
  ·
   exact .inl (by rw [← h3];simp)
  exact .inr h3
 rw [if_neg hh,List.append_nil] at htk;exact ih s (by rw [htk];exact hs)
theorem byte_of {x : List Int} (h : ∀ y ∈ x,(Lit.int .u8 y).wf=true) : ∀ b ∈ x,0≤b∧b≤255:=fun b hb=>by
 have:=h b hb;simp [Lit.wf,IntKind.min,IntKind.max,IntKind.signed,IntKind.bits] at this
 omega
theorem FnRange : F0.Pure:=by
 rintro x0 x1 ⟨hl0,hb0⟩ ⟨hl1,hb1⟩;have hc0:=byte_of hb0;have hc1:=byte_of hb1;refine Eve.get (g:=fun k=>F0.f k x0 x1) ?_;have hout : Eve (fun k=>F0.j0 k x0 x1 true) true:=Eve.succ (by simp only [F0.j0,if_true];exact Eve.one);simp only [F0.f];refine Eve.ite (fun _=>hout) (fun hz0=>?_)
 by_cases hz1 : (x1.length : Int) > 1048576
 ·
  rw [decide_eq_true hz1];exact hout
 rw [decide_eq_false hz1];obtain ⟨T,n,hTd,hw⟩:=treeOf_draws x0 hc0;obtain ⟨e1,he1,-⟩:=entryOf_draws x1 hc1
 have hc4 : ∀ b ∈ ([4]++x1 : List Int),0≤b∧b≤255:=fun b h=>by
  rcases List.mem_append.1 h with h|h
  ·
   obtain rfl:=List.mem_singleton.1 h;omega
  exact hc1 b h
 obtain ⟨e2,he2,-⟩:=entryOf_draws ([4]++x1) hc4;obtain ⟨t,ht,-,-⟩:=at_tells x1 hc1 (by omega) 3 (by omega) (by omega);have hk:=hw.tok;have hT : T.length≤1048576:=by have:=hw.len;omega
 have hp : ∀ p ∈ T,p.f1.length≤1048576:=fun p h=>by have:=hw.small p h;omega
 have hf : (T.flatMap (·.f1)).length≤1048576:=by
  have h60:=hw.len.2
  have : ∀ (l : List IPag),(∀ p ∈ l,p.f1.length≤4)→(l.flatMap (·.f1)).length≤4*l.length:=by
   intro l
   induction l with
   | nil=>intro _;simp
   | cons p ps ih =>
    intro h;have h1:=h p (by simp);have h2:=ih (fun q hq=>h q (by simp [hq]));rw [List.flatMap_cons,List.length_append,List.length_cons];omega
  exact Nat.le_trans (this T hw.small) (by omega)
 obtain ⟨r1,r2,r3,r4⟩:=range_both T n e1.f0 e2.f0 (t == 0) hT hf hp hk;obtain ⟨-,a2,-,-⟩:=range_both T n (⟨#[]⟩ : ByteArray) (⟨#[]⟩ : ByteArray) true hT hf hp hk;rw [fl_all] at a2;refine Eve.succ ?_;simp only [F0.j0,Bool.false_eq_true,if_false];refine Eve.bind hTd ?_;simp only [he1,he2,ht,Option.bind_some];refine Eve.ite (fun _=>?_) (fun h=>absurd (by simp;omega) h);refine Eve.bind r2 ?_;refine Eve.bind r1 ?_;refine Eve.bind a2 ?_;simp only [if_true];refine Eve.bind (sameE_self _ r3) ?_;simp only [if_true];refine Eve.bind (sameI_self _ r4) ?_;simp only [if_true,bne_self_eq_false];refine Eve.succ ?_;simp only [F0.j1,Bool.false_eq_true,if_false];exact range_loop T n e1.f0 e2.f0 (t == 0) hw hT hf r4
end Go.Proofs.Ytgifonogfgpjdaa.Pure
end
section
namespace Go.Proofs.Ytgifonogfgpjdaa.fnRange
open Go.ChangeShapes Go.WideShapes Go.ChangeAt Go.RowKit Go.Proofs.YtgifonogfgpjdaaW.PrintWords Go.Proofs.YtgifonogfgpjdaaW.PrintOpen Go.Proofs.Ytgifonogfgpjdaa.Q
open Go.ChangeMaps (open_string shut_string)
set_option linter.unusedVariables false
theorem own : ownKnob Try.prog.godebug=none:=by kernel_rfl
theorem laidOut : laidOutB Try.prog=true:=by kernel_rfl
set_option maxRecDepth 100000 in
theorem lifted (os : Os) (started : os.Started) (H : Type) (enc : TypeId×Value→H) :
  ReturnsInHanded {} Try.checked os 3 .any (Rows.fnRangeSpec.pre6 enc Try.prog Try.f3 Rows.fnRangeRow.domain false) (Rows.fnRangeSpec.post enc Try.prog Try.f3 false true false false):=by
 refine returnsInHanded_of_change_sized (C:=Try.checked) own started jA Try.func3
  (ChangeSpec.witness6 (enc:=enc) (C:=Try.checked) false ⟨#[],#[.slice none 0 0,.slice none 0 0],[]⟩ 8 jA jA jA jA) ?_
 intro W base args ds gs before hval0 hW hcnd hsz0 _
 have hval : ∀ (j : Nat) t v,Try.f3.params[j]? = some t→args[j]? = some v→Value.okWide Try.prog W .any base t v:=hval0
 have hW':=hW
 obtain ⟨p,q,hA0,hV,rfl,hfz,hnd⟩:=hW
 have hA : DataW.TrodAll enc Try.prog W 0 (fun _=>true) true Try.f3.params.toList args.toList ds p:=hA0
 rw [Try.params3] at hA hval
 obtain ⟨v0,vs0,d0,ds0,p0,q0,hargs,rfl,rfl,h0,r0⟩:=trodAll_cons hA
 obtain ⟨v1,vs1,d1,ds1,p1,q1,rfl,rfl,rfl,h1,r1⟩:=trodAll_cons r0
 obtain ⟨rfl,rfl,rfl⟩:=trodAll_nil r1
 obtain rfl : args = #[v0,v1]:=by cases args;simp_all
 obtain ⟨rfl,rfl⟩:=trodVars_none hV
 have t0:=h0
 have lt0 : ∀ x ∈ p0,x.block<W.heap.size:=by obtain ⟨m,hm⟩:=t0;exact DataW.trod_lt m _ _ _ hm
 obtain ⟨x0,A0,c0,rfl,hl0,hc0,g0⟩:=arg_slice Try.underlying22 (opens_slice Try.underlying22 jA (opens_int Try.underlying5)) (hval 0 22 v0 rfl rfl) h0
 have t1:=h1
 have lt1 : ∀ x ∈ p1,x.block<W.heap.size:=by obtain ⟨m,hm⟩:=t1;exact DataW.trod_lt m _ _ _ hm
 obtain ⟨x1,A1,c1,rfl,hl1,hc1,g1⟩:=arg_slice Try.underlying22 (opens_slice Try.underlying22 jA (opens_int Try.underlying5)) (hval 1 22 v1 rfl rfl) h1
 clear hA0 hval0 hsz0
 obtain ⟨k,hp⟩:=Pure.FnRange x0 x1 g0 g1
 refine (F0.calls k A0 c0 x0 A1 c1 x1 true W hc0 hl0 hc1 hl1 hp).mono fun e W' ⟨he,bel0⟩=>?_
 have bel : Below W.heap.size W W':=bel0
 subst he
 exact ⟨_,rfl,_,_,_,[],_,[],hW',trodAll_mk1 (shut_bool Try.underlying4 _),(trodAll_cons_mk (Below.trod laidOut jA (of_decide_eq_true jA) t0 bel lt0) (trodAll_cons_mk (Below.trod laidOut jA (of_decide_eq_true jA) t1 bel lt1) trodAll_mk0)),rfl,bel.frame _,fun h=>by cases h⟩
theorem over : Rows.fnRangeRow.holds Try.pinned (OpenSpec.ofChange Rows.fnRangeSpec) :=
 OpenClaim.holds_of_wide 3 Try.f3 rfl rfl rfl rfl rfl rfl rfl ⟨rfl,rfl,rfl,rfl,rfl⟩ rfl rfl rfl rfl rfl jA Try.func3 jA
  (of_decide_eq_true jA) (by unfold Func.isWrapper;first|(rw [if_pos (by decide +kernel)];kernel_rfl)|(rw [if_neg (by decide +kernel)];exact ⟨rfl,rfl⟩))
  (fun os started H enc _=>lifted os started H enc)
theorem proved : Rows.FnRangeSaid:=over
#print axioms proved
end Go.Proofs.Ytgifonogfgpjdaa.fnRange
namespace Go.Proofs.Ytgifonogfgpjdaa
theorem fnRange_holds : Rows.FnRangeSaid:=fnRange.proved
end Go.Proofs.Ytgifonogfgpjdaa
end

/- Texts of this claim, merged by a program of this session. -/
import Derived.Test.YtdjnplkpahgnmaaKLawFnKeysp22
section
namespace Go.Proofs.Ytdjnplkpahgnmaa.Q
open Go.RowKit Go.Proofs.YtdjnplkpahgnmaaW.PrintWords Go.Proofs.YtdjnplkpahgnmaaW.PrintLast Go.Proofs.YtdjnplkpahgnmaaW.PrintMore
attribute [local go_sem] max2_int min2_int max_two min_two max_three min_three max_four min_four max2_str min2_str str_geq str_gtr str_leq   -- for this text's walks alone
set_option linter.unusedVariables false
set_option linter.unusedSimpArgs false

mutual
def F0.j0 : Nat→Int→List (S24)→Bool→Option (Bool)
 | 0,_,_,_=>none
 | k+1,x1,x5,x78=>if x78=true then (some false) else (F0.l0 k x1 x5 0)
def F0.l0 : Nat→Int→List (S24)→Int→Option (Bool)
 | 0,_,_,_=>none
 | k+1,x1,x5,x7=>if x7<(x5.length : Int) then (if 0≤x7 then ((F0.f k ((rd_T24 x5 x7).f0) ((rd_T24 x5 x7).f1) ((rd_T24 x5 x7).f2) (wrap64 (x1 - 1))).bind fun t152=>(if t152=true then (F0.l0 k x1 x5 (wrap64 (x7+1))) else (some false))) else (none)) else (some true)
def F0.j2 : Nat→Int→List (S68)→Bool→Option (Bool)
 | 0,_,_,_=>none
 | k+1,x1,x8,x117=>if x117=true then (some false) else (F0.l1 k x1 x8 0)
def F0.l1 : Nat→Int→List (S68)→Int→Option (Bool)
 | 0,_,_,_=>none
 | k+1,x1,x8,x10=>if x10<(x8.length : Int) then (if 0≤x10 then ((F0k.f k ((rd_T68 x8 x10).f0)).bind fun t158=>(if t158=true then (if x10 > 0 then (if 0≤(wrap64 (x10 - 1)) then (if (wrap64 (x10 - 1))<(x8.length : Int) then (if ((Op.bytesLess (((rd_T68 x8 (wrap64 (x10 - 1))).f0).toList) (((rd_T68 x8 x10).f0).toList))=true) then ((F0.f k ((rd_T68 x8 x10).f1.f0) ((rd_T68 x8 x10).f1.f1) ((rd_T68 x8 x10).f1.f2) (wrap64 (x1 - 1))).bind fun t162=>(if t162=true then (F0.l1 k x1 x8 (wrap64 (x10+1))) else (some false))) else (some false)) else (none)) else (none)) else ((F0.f k ((rd_T68 x8 x10).f1.f0) ((rd_T68 x8 x10).f1.f1) ((rd_T68 x8 x10).f1.f2) (wrap64 (x1 - 1))).bind fun t164=>(if t164=true then (F0.l1 k x1 x8 (wrap64 (x10+1))) else (some false)))) else (some false))) else (none)) else (some true)
def F0.f : Nat→Int→Int→ByteArray→Int→Option (Bool)
 | 0,_,_,_,_=>none
 | k+1,a0_0,a0_1,a0_2,a1=>if a0_0=0 then (if a0_1=0 then (some (a0_2.toList == ([] : List UInt8))) else (some false)) else (if a0_0=1 then ((F00.f a0_1 0 1).bind fun t145=>(if t145=true then (some (a0_2.toList == ([] : List UInt8))) else (some false))) else (if a0_0=2 then ((F00.f a0_1 (-1000000000000) 1000000000000).bind fun t146=>(if t146=true then (some (a0_2.toList == ([] : List UInt8))) else (some false))) else (if a0_0=3 then (if a0_1=0 then (some (decide ((a0_2.size : Int)≤300))) else (some false)) else (if a0_0=4 then ((Fo.f k a0_2).bind fun bt147=>(if a0_1=0 then (if bt147.2=true then (if (a0_2.size : Int) > 300 then (F0.j0 k a1 bt147.1 true) else (F0.j0 k a1 bt147.1 (a1 == 0))) else (F0.j0 k a1 bt147.1 true)) else (F0.j0 k a1 bt147.1 true))) else (if a0_0=5 then ((Fn.f k a0_2).bind fun bt153=>(if a0_1=0 then (if bt153.2=true then (if (a0_2.size : Int) > 300 then (F0.j2 k a1 bt153.1 true) else (F0.j2 k a1 bt153.1 (a1 == 0))) else (F0.j2 k a1 bt153.1 true)) else (F0.j2 k a1 bt153.1 true))) else (some false))))))
end
theorem F0.mono_l : ∀ k,(∀ y0 y1 y2 y3,LeO (F0.f k y0 y1 y2 y3) (F0.f (k+1) y0 y1 y2 y3))∧(∀ y0 y1 y2,LeO (F0.j0 k y0 y1 y2) (F0.j0 (k+1) y0 y1 y2))∧(∀ y0 y1 y2,LeO (F0.l0 k y0 y1 y2) (F0.l0 (k+1) y0 y1 y2))∧(∀ y0 y1 y2,LeO (F0.j2 k y0 y1 y2) (F0.j2 (k+1) y0 y1 y2))∧(∀ y0 y1 y2,LeO (F0.l1 k y0 y1 y2) (F0.l1 (k+1) y0 y1 y2))
 | 0=>⟨fun _ _ _ _ r h=>by simp [F0.f] at h,fun _ _ _ r h=>by simp [F0.j0] at h,fun _ _ _ r h=>by simp [F0.l0] at h,fun _ _ _ r h=>by simp [F0.j2] at h,fun _ _ _ r h=>by simp [F0.l1] at h⟩
 | k+1=>by
  obtain ⟨ih0,ih1,ih2,ih3,ih4⟩:=F0.mono_l k;refine ⟨?_,?_,?_,?_,?_⟩
  ·
   intro y0 y1 y2 y3
   unfold F0.f
   repeat' first|(with_reducible first|exact ih0 _ _ _ _|exact ih1 _ _ _|exact ih2 _ _ _|exact ih3 _ _ _|exact ih4 _ _ _|exact Fo.mono _ _|exact Fn.mono _ _|exact F0k.mono _ _|exact zQ _|exact zN _|refine zP ?_ ?_|refine zO ?_ (fun _=>?_))|refine zP ?_ ?_|refine zO ?_ (fun _=>?_)
  ·
   intro y0 y1 y2
   unfold F0.j0
   repeat' first|(with_reducible first|exact ih0 _ _ _ _|exact ih1 _ _ _|exact ih2 _ _ _|exact ih3 _ _ _|exact ih4 _ _ _|exact Fo.mono _ _|exact Fn.mono _ _|exact F0k.mono _ _|exact zQ _|exact zN _|refine zP ?_ ?_|refine zO ?_ (fun _=>?_))|refine zP ?_ ?_|refine zO ?_ (fun _=>?_)
  ·
   intro y0 y1 y2
   unfold F0.l0
   repeat' first|(with_reducible first|exact ih0 _ _ _ _|exact ih1 _ _ _|exact ih2 _ _ _|exact ih3 _ _ _|exact ih4 _ _ _|exact Fo.mono _ _|exact Fn.mono _ _|exact F0k.mono _ _|exact zQ _|exact zN _|refine zP ?_ ?_|refine zO ?_ (fun _=>?_))|refine zP ?_ ?_|refine zO ?_ (fun _=>?_)
  ·
   intro y0 y1 y2
   unfold F0.j2
   repeat' first|(with_reducible first|exact ih0 _ _ _ _|exact ih1 _ _ _|exact ih2 _ _ _|exact ih3 _ _ _|exact ih4 _ _ _|exact Fo.mono _ _|exact Fn.mono _ _|exact F0k.mono _ _|exact zQ _|exact zN _|refine zP ?_ ?_|refine zO ?_ (fun _=>?_))|refine zP ?_ ?_|refine zO ?_ (fun _=>?_)
  intro y0 y1 y2;unfold F0.l1
  repeat' first|(with_reducible first|exact ih0 _ _ _ _|exact ih1 _ _ _|exact ih2 _ _ _|exact ih3 _ _ _|exact ih4 _ _ _|exact Fo.mono _ _|exact Fn.mono _ _|exact F0k.mono _ _|exact zQ _|exact zN _|refine zP ?_ ?_|refine zO ?_ (fun _=>?_))|refine zP ?_ ?_|refine zO ?_ (fun _=>?_)
theorem F0.mono : ∀ a0 a1 a2 a3 k,LeO (F0.f k a0 a1 a2 a3) (F0.f (k+1) a0 a1 a2 a3):=by
 intro a0 a1 a2 a3 k;obtain ⟨ih0,ih1,ih2,ih3,ih4⟩:=F0.mono_l k;exact ih0 a0 a1 a2 a3
def F0.T27 : Bool×List (List Nat×List Nat):=(true,[([],[]),([],[]),([0,1],[0,1]),([2],[2]),([3],[3]),([4],[4]),([5],[5]),([6,5],[6]),([7],[7]),([8,7],[7,8]),([9,7,7],[7,9]),([10],[10]),([10],[10]),([12,10],[10,12]),([11,13,10],[10,11,13]),([14,10],[10,14]),([15,10],[10,15]),([10],[10]),([10],[10]),([17,18,10],[10,17,18]),([19,10],[10,19]),([20,10],[10,20]),([16,21,10],[10,16,21]),([10,22,7],[7,10,22]),([7,23],[7,23]),([24,10],[24]),([25],[25]),([25],[25]),([26,27,25],[25,26,27]),([28,25],[25,28]),([29,25],[25,29]),([25],[25]),([31,25],[25,31]),([30,32,25,25],[25,30,32]),([33,25],[25,33]),([25,34],[25,34])])
def F0.B27 : List Nat:=[0,0,3,7,15,31,63,127,255,511,1023,2047,2047,6143,16383,32767,65535,2047,2047,395263,919551,1968127,4194303,8388607,16777215,33554431,67108863,67108863,268435455,536870911,1073741823,67108863,2214592511,8589934591,17179869183,34359738367]
theorem F0.tab27 : rtab .any (opsOf Try.f42 27)=F0.T27:=by kernel_rfl
theorem F0.bits27 : waitsOk F0.T27.2 F0.B27=true:=by kernel_rfl
set_option maxHeartbeats 8000000 in
set_option maxRecDepth 100000 in
theorem F0.calls (k : Nat) : ∀ (a0_0 : Int) (a0_1 : Int) (a0_2 : ByteArray) (a1 : Int) (r : Bool) (w : World) (h : F0.f k a0_0 a0_1 a0_2 a1=some r),
  Calls Try.prog 42 #[.agg #[.int .i64 a0_0,.int .i64 a0_1,.string a0_2],.int .i64 a1] w fun e w' => e = .returned (.bool r)∧Below w.heap.size w w':=by
 induction k using Nat.strongRecOn with
 | _ k ih =>
 intro a0_0 a0_1 a0_2 a1 r w h
 cases k with
 | zero=>exact absurd h (by simp [F0.f])
 | succ k =>
 simp only [F0.f] at h;have hu24:=Try.underlying24;have HB:=zh (Below.refl w.heap.size w);have H : (if a0_0=0 then (if a0_1=0 then (some (a0_2.toList == ([] : List UInt8))) else (some false)) else (if a0_0=1 then ((F00.f a0_1 0 1).bind fun t145=>(if t145=true then (some (a0_2.toList == ([] : List UInt8))) else (some false))) else (if a0_0=2 then ((F00.f a0_1 (-1000000000000) 1000000000000).bind fun t146=>(if t146=true then (some (a0_2.toList == ([] : List UInt8))) else (some false))) else (if a0_0=3 then (if a0_1=0 then (some (decide ((a0_2.size : Int)≤300))) else (some false)) else (if a0_0=4 then ((Fo.f k a0_2).bind fun bt147=>(if a0_1=0 then (if bt147.2=true then (if (a0_2.size : Int) > 300 then (F0.j0 k a1 bt147.1 true) else (F0.j0 k a1 bt147.1 (a1 == 0))) else (F0.j0 k a1 bt147.1 true)) else (F0.j0 k a1 bt147.1 true))) else (if a0_0=5 then ((Fn.f k a0_2).bind fun bt153=>(if a0_1=0 then (if bt153.2=true then (if (a0_2.size : Int) > 300 then (F0.j2 k a1 bt153.1 true) else (F0.j2 k a1 bt153.1 (a1 == 0))) else (F0.j2 k a1 bt153.1 true)) else (F0.j2 k a1 bt153.1 true))) else (some false)))))))=some r:=h;clear h
 by_cases c3 : a0_0=0
 ·
  rw [if_pos c3] at H
  have c3b0 : (a0_0 == 0)=true:=ya.mpr c3;have c3b1 : (a0_0 != 0)=false:=zX.mpr c3;clear c3
  by_cases c4 : a0_1=0
  ·
   rw [if_pos c4] at H
   have c4b0 : (a0_1 == 0)=true:=ya.mpr c4;have c4b1 : (a0_1 != 0)=false:=zX.mpr c4;clear c4;obtain rfl:=zU H
   go_enter Try.func42,Try.ntmps42
   go_wp2_with (first|((with_reducible refine zK (N:=2) rfl ?_);(try (refine yz (by rfl) ?_;dsimp only));refine zI ?hg (N:=2) ?hd (cs:=#[.int .i64 a0_0,.int .i64 a0_1,.string a0_2]) (t:=24) ?hr ?_;(case hd=>rfl);(case hg=>rfl);(case hr=>go_simp <;> rfl);intro gb144 hg w5 hbox hb;have BK144:=zh (hbox);have hH_:=cH jD hb hg;have GW144:=zh hH_.1;have GE144:=GW144;replace HB:=zh hH_.2;clear hb hbox hg hH_;obtain ⟨hcz6_0,hcz6_1,hcz6_2,hfz6_0,hfz6_1,hfz6_2⟩:=cB3 BK144.out))
   go_ret
   exact ⟨jG,jO⟩
  rw [if_neg c4] at H;have c4b0 : (a0_1 == 0)=false:=zY.mpr c4;have c4b1 : (a0_1 != 0)=true:=zZ.mpr c4;obtain rfl:=zU H
  go_enter Try.func42,Try.ntmps42
  go_wp2_with (first|((with_reducible refine zK (N:=2) rfl ?_);(try (refine yz (by rfl) ?_;dsimp only));refine zI ?hg (N:=2) ?hd (cs:=#[.int .i64 a0_0,.int .i64 a0_1,.string a0_2]) (t:=24) ?hr ?_;(case hd=>rfl);(case hg=>rfl);(case hr=>go_simp <;> rfl);intro gb144 hg w7 hbox hb;have BK144:=zh (hbox);have hH_:=cH jD hb hg;have GW144:=zh hH_.1;have GE144:=GW144;replace HB:=zh hH_.2;clear hb hbox hg hH_;obtain ⟨hcz8_0,hcz8_1,hcz8_2,hfz8_0,hfz8_1,hfz8_2⟩:=cB3 BK144.out))
  go_ret
  exact ⟨jG,jO⟩
 rw [if_neg c3] at H;have c3b0 : (a0_0 == 0)=false:=zY.mpr c3;have c3b1 : (a0_0 != 0)=true:=zZ.mpr c3
 by_cases c9 : a0_0=1
 ·
  rw [if_pos c9] at H
  have c9b0 : (a0_0 == 1)=true:=ya.mpr c9;have c9b1 : (a0_0 != 1)=false:=zX.mpr c9;clear c9;replace H:=zT.mp H;obtain ⟨t145,A100,H⟩:=H;have A10:=zh A100;clear A100
  by_cases c11 : t145=true
  ·
   subst c11
   rw [if_pos rfl] at H;obtain rfl:=zU H
   go_enter Try.func42,Try.ntmps42
   go_wp2_with (first|((with_reducible refine zK (N:=2) rfl ?_);(try (refine yz (by rfl) ?_;dsimp only));refine zI ?hg (N:=2) ?hd (cs:=#[.int .i64 a0_0,.int .i64 a0_1,.string a0_2]) (t:=24) ?hr ?_;(case hd=>rfl);(case hg=>rfl);(case hr=>go_simp <;> rfl);intro gb144 hg w12 hbox hb;have BK144:=zh (hbox);have hH_:=cH jD hb hg;have GW144:=zh hH_.1;have GE144:=GW144;replace HB:=zh hH_.2;clear hb hbox hg hH_;obtain ⟨hcz13_0,hcz13_1,hcz13_2,hfz13_0,hfz13_1,hfz13_2⟩:=cB3 BK144.out)|((with_reducible refine zJ (f:=64) rfl ?_);refine yj (some 27) rfl rfl Try.func64 jA rfl #[.int .i64 a0_1,.int .i64 0,.int .i64 1] rfl jB ?_;(with_reducible refine (F00.calls  a0_1 0 1 true _ A10.out).mono ?_);rintro e w' ⟨rfl,⟨nd,rfl⟩⟩;refine ⟨_,rfl,?_⟩))
   go_ret
   exact ⟨jG,jO⟩
  replace c11:=yb.mpr c11;subst c11;rw [if_neg (show ¬ (false=true) by decide)] at H;obtain rfl:=zU H
  go_enter Try.func42,Try.ntmps42
  go_wp2_with (first|((with_reducible refine zK (N:=2) rfl ?_);(try (refine yz (by rfl) ?_;dsimp only));refine zI ?hg (N:=2) ?hd (cs:=#[.int .i64 a0_0,.int .i64 a0_1,.string a0_2]) (t:=24) ?hr ?_;(case hd=>rfl);(case hg=>rfl);(case hr=>go_simp <;> rfl);intro gb144 hg w14 hbox hb;have BK144:=zh (hbox);have hH_:=cH jD hb hg;have GW144:=zh hH_.1;have GE144:=GW144;replace HB:=zh hH_.2;clear hb hbox hg hH_;obtain ⟨hcz15_0,hcz15_1,hcz15_2,hfz15_0,hfz15_1,hfz15_2⟩:=cB3 BK144.out)|((with_reducible refine zJ (f:=64) rfl ?_);refine yj (some 27) rfl rfl Try.func64 jA rfl #[.int .i64 a0_1,.int .i64 0,.int .i64 1] rfl jB ?_;(with_reducible refine (F00.calls  a0_1 0 1 false _ A10.out).mono ?_);rintro e w' ⟨rfl,⟨nd,rfl⟩⟩;refine ⟨_,rfl,?_⟩))
  go_ret
  exact ⟨jG,jO⟩
 rw [if_neg c9] at H;have c9b0 : (a0_0 == 1)=false:=zY.mpr c9;have c9b1 : (a0_0 != 1)=true:=zZ.mpr c9
 by_cases c16 : a0_0=2
 ·
  rw [if_pos c16] at H
  have c16b0 : (a0_0 == 2)=true:=ya.mpr c16;have c16b1 : (a0_0 != 2)=false:=zX.mpr c16;clear c16;replace H:=zT.mp H;obtain ⟨t146,A170,H⟩:=H;have A17:=zh A170;clear A170
  by_cases c18 : t146=true
  ·
   subst c18
   rw [if_pos rfl] at H;obtain rfl:=zU H
   go_enter Try.func42,Try.ntmps42
   go_wp2_with (first|((with_reducible refine zK (N:=2) rfl ?_);(try (refine yz (by rfl) ?_;dsimp only));refine zI ?hg (N:=2) ?hd (cs:=#[.int .i64 a0_0,.int .i64 a0_1,.string a0_2]) (t:=24) ?hr ?_;(case hd=>rfl);(case hg=>rfl);(case hr=>go_simp <;> rfl);intro gb144 hg w19 hbox hb;have BK144:=zh (hbox);have hH_:=cH jD hb hg;have GW144:=zh hH_.1;have GE144:=GW144;replace HB:=zh hH_.2;clear hb hbox hg hH_;obtain ⟨hcz20_0,hcz20_1,hcz20_2,hfz20_0,hfz20_1,hfz20_2⟩:=cB3 BK144.out)|((with_reducible refine zJ (f:=64) rfl ?_);refine yj (some 37) rfl rfl Try.func64 jA rfl #[.int .i64 a0_1,.int .i64 (-1000000000000),.int .i64 1000000000000] rfl jB ?_;(with_reducible refine (F00.calls  a0_1 (-1000000000000) 1000000000000 true _ A17.out).mono ?_);rintro e w' ⟨rfl,⟨nd,rfl⟩⟩;refine ⟨_,rfl,?_⟩))
   go_ret
   exact ⟨jG,jO⟩
  replace c18:=yb.mpr c18;subst c18;rw [if_neg (show ¬ (false=true) by decide)] at H;obtain rfl:=zU H
  go_enter Try.func42,Try.ntmps42
  go_wp2_with (first|((with_reducible refine zK (N:=2) rfl ?_);(try (refine yz (by rfl) ?_;dsimp only));refine zI ?hg (N:=2) ?hd (cs:=#[.int .i64 a0_0,.int .i64 a0_1,.string a0_2]) (t:=24) ?hr ?_;(case hd=>rfl);(case hg=>rfl);(case hr=>go_simp <;> rfl);intro gb144 hg w21 hbox hb;have BK144:=zh (hbox);have hH_:=cH jD hb hg;have GW144:=zh hH_.1;have GE144:=GW144;replace HB:=zh hH_.2;clear hb hbox hg hH_;obtain ⟨hcz22_0,hcz22_1,hcz22_2,hfz22_0,hfz22_1,hfz22_2⟩:=cB3 BK144.out)|((with_reducible refine zJ (f:=64) rfl ?_);refine yj (some 37) rfl rfl Try.func64 jA rfl #[.int .i64 a0_1,.int .i64 (-1000000000000),.int .i64 1000000000000] rfl jB ?_;(with_reducible refine (F00.calls  a0_1 (-1000000000000) 1000000000000 false _ A17.out).mono ?_);rintro e w' ⟨rfl,⟨nd,rfl⟩⟩;refine ⟨_,rfl,?_⟩))
  go_ret
  exact ⟨jG,jO⟩
 rw [if_neg c16] at H;have c16b0 : (a0_0 == 2)=false:=zY.mpr c16;have c16b1 : (a0_0 != 2)=true:=zZ.mpr c16
 by_cases c23 : a0_0=3
 ·
  rw [if_pos c23] at H
  have c23b0 : (a0_0 == 3)=true:=ya.mpr c23;have c23b1 : (a0_0 != 3)=false:=zX.mpr c23;clear c23
  by_cases c24 : a0_1=0
  ·
   rw [if_pos c24] at H
   have c24b0 : (a0_1 == 0)=true:=ya.mpr c24;have c24b1 : (a0_1 != 0)=false:=zX.mpr c24;clear c24;obtain rfl:=zU H
   go_enter Try.func42,Try.ntmps42
   go_wp2_with (first|((with_reducible refine zK (N:=2) rfl ?_);(try (refine yz (by rfl) ?_;dsimp only));refine zI ?hg (N:=2) ?hd (cs:=#[.int .i64 a0_0,.int .i64 a0_1,.string a0_2]) (t:=24) ?hr ?_;(case hd=>rfl);(case hg=>rfl);(case hr=>go_simp <;> rfl);intro gb144 hg w25 hbox hb;have BK144:=zh (hbox);have hH_:=cH jD hb hg;have GW144:=zh hH_.1;have GE144:=GW144;replace HB:=zh hH_.2;clear hb hbox hg hH_;obtain ⟨hcz26_0,hcz26_1,hcz26_2,hfz26_0,hfz26_1,hfz26_2⟩:=cB3 BK144.out))
   go_ret
   exact ⟨jG,jO⟩
  rw [if_neg c24] at H;have c24b0 : (a0_1 == 0)=false:=zY.mpr c24;have c24b1 : (a0_1 != 0)=true:=zZ.mpr c24;obtain rfl:=zU H
  go_enter Try.func42,Try.ntmps42
  go_wp2_with (first|((with_reducible refine zK (N:=2) rfl ?_);(try (refine yz (by rfl) ?_;dsimp only));refine zI ?hg (N:=2) ?hd (cs:=#[.int .i64 a0_0,.int .i64 a0_1,.string a0_2]) (t:=24) ?hr ?_;(case hd=>rfl);(case hg=>rfl);(case hr=>go_simp <;> rfl);intro gb144 hg w27 hbox hb;have BK144:=zh (hbox);have hH_:=cH jD hb hg;have GW144:=zh hH_.1;have GE144:=GW144;replace HB:=zh hH_.2;clear hb hbox hg hH_;obtain ⟨hcz28_0,hcz28_1,hcz28_2,hfz28_0,hfz28_1,hfz28_2⟩:=cB3 BK144.out))
  go_ret
  exact ⟨jG,jO⟩
 rw [if_neg c23] at H;have c23b0 : (a0_0 == 3)=false:=zY.mpr c23;have c23b1 : (a0_0 != 3)=true:=zZ.mpr c23
 by_cases c29 : a0_0=4
 ·
  rw [if_pos c29] at H
  have c29b0 : (a0_0 == 4)=true:=ya.mpr c29;have c29b1 : (a0_0 != 4)=false:=zX.mpr c29;clear c29;replace H:=zT.mp H;obtain ⟨⟨t147,t148⟩,A300,H⟩:=H;have A30:=zh A300;clear A300;have HC31:=zh H;clear H
  go_enter Try.func42,Try.ntmps42
  go_upto_region 12 with (first|((with_reducible refine zK (N:=2) rfl ?_);(try (refine yz (by rfl) ?_;dsimp only));refine zI ?hg (N:=2) ?hd (cs:=#[.int .i64 a0_0,.int .i64 a0_1,.string a0_2]) (t:=24) ?hr ?_;(case hd=>rfl);(case hg=>rfl);(case hr=>go_simp <;> rfl);intro gb144 hg w32 hbox hb;have BK144:=zh (hbox);have hH_:=cH jD hb hg;have GW144:=zh hH_.1;have GE144:=GW144;replace HB:=zh hH_.2;clear hb hbox hg hH_;obtain ⟨hcz33_0,hcz33_1,hcz33_2,hfz33_0,hfz33_1,hfz33_2⟩:=cB3 BK144.out)|((with_reducible refine zJ (f:=65) rfl ?_);refine yj (some 59) rfl rfl Try.func65 jA rfl #[.string a0_2] rfl jB ?_;(with_reducible refine (Fo.calls k  a0_2 t147 t148 _ A30.out).mono ?_);rintro e w34 ⟨v149,rfl,ho0,hb⟩;refine ⟨_,rfl,?_⟩;have HO150:=zh (yy (Kd.R_newB ho0 (g:=gb144) (o:=.cells #[.int .i64 a0_0,.int .i64 a0_1,.string a0_2] 24 (0,0)) jn) (zB jO));replace BK144:=zh (cD BK144.out jn hb);replace HB:=zh (zC jO hb);(try clear hb);(try clear hb2);(try clear hk);(try clear hi);(try clear ho0)))
  (try simp only [Act.put,zi,zj,zk])
  go_cut [78] (fun v78 wc => ∃ (kq : Nat) (x78_30 : Bool),v78 = .bool x78_30∧Aside0 (F0.j0 kq a1 t147 x78_30=some r)∧Aside0 (kq≤k)∧Aside0 (Kd.R k24 24 wc w.heap.size (fun k_=>k_≠gb144) v149 t147)∧Aside0 (wc.heap[gb144]? = some (.cells #[.int .i64 a0_0,.int .i64 a0_1,.string a0_2] 24 (0,0)))∧Aside0 (Below w.heap.size w wc))
  case first =>
   have H:=HC31.out;clear HC31
   by_cases c35 : a0_1=0
   ·
    rw [if_pos c35] at H
    have c35b0 : (a0_1 == 0)=true:=ya.mpr c35;have c35b1 : (a0_1 != 0)=false:=zX.mpr c35;clear c35;(first|rw [c35b0]|(simp only [zG,zH];rw [c35b0])|skip)
    by_cases c36 : t148=true
    ·
     subst c36
     rw [if_pos rfl] at H
     by_cases c37 : (a0_2.size : Int) > 300
     ·
      rw [if_pos c37] at H
      have c37b0 : decide (300<(a0_2.size : Int))=true:=decide_eq_true c37;have c37b1 : decide (300<a0_2.size)=true:=decide_eq_true jH;clear c37;have H':=zh H;clear H;obtain ⟨hcz38_0,hcz38_1,hcz38_2,hfz38_0,hfz38_1,hfz38_2⟩:=cB3 BK144.out
      go_wp2
      go_meet
      case rel=>exact ⟨_,(true),jE,H',⟨jg⟩,⟨jBQ⟩,⟨jn⟩,⟨jO⟩⟩
     rw [if_neg c37] at H;have c37b0 : decide (300<(a0_2.size : Int))=false:=decide_eq_false c37;have c37b1 : decide (300<a0_2.size)=false:=decide_eq_false jH;clear c37;have H':=zh H;clear H;obtain ⟨hcz39_0,hcz39_1,hcz39_2,hfz39_0,hfz39_1,hfz39_2⟩:=cB3 BK144.out
     go_wp2
     go_meet
     case rel=>exact ⟨_,((a1 == 0)),jE,H',⟨jg⟩,⟨jBQ⟩,⟨jn⟩,⟨jO⟩⟩
    replace c36:=yb.mpr c36;subst c36;rw [if_neg (show ¬ (false=true) by decide)] at H;have H':=zh H;clear H;obtain ⟨hcz40_0,hcz40_1,hcz40_2,hfz40_0,hfz40_1,hfz40_2⟩:=cB3 BK144.out
    go_wp2
    go_meet
    case rel=>exact ⟨_,(true),jE,H',⟨jg⟩,⟨jBQ⟩,⟨jn⟩,⟨jO⟩⟩
   rw [if_neg c35] at H;have c35b0 : (a0_1 == 0)=false:=zY.mpr c35;have c35b1 : (a0_1 != 0)=true:=zZ.mpr c35;(first|rw [c35b0]|(simp only [zG,zH];rw [c35b0])|skip);have H':=zh H;clear H;obtain ⟨hcz41_0,hcz41_1,hcz41_2,hfz41_0,hfz41_1,hfz41_2⟩:=cB3 BK144.out
   go_wp2
   go_meet
   case rel=>exact ⟨_,(true),jE,H',⟨jg⟩,⟨jBQ⟩,⟨jn⟩,⟨jO⟩⟩
  case rest =>
   clear HC31
   try clear c1 c2
   try clear p2
   try clear c3 c3b0 c3b1 c4 c4b0 c4b1 c6 c9 c9b0 c9b1 c11 c16 c16b0 c16b1 c18 c23 c23b0 c23b1 c24 c24b0 c24b1 c29 c29b0 c29b1 c35 c35b0 c35b1 c36 c37 c37b0 c37b1
   try clear hcz13_0 hcz13_1 hcz13_2
   try clear hcz15_0 hcz15_1 hcz15_2
   try clear hcz20_0 hcz20_1 hcz20_2
   try clear hcz22_0 hcz22_1 hcz22_2
   try clear hcz26_0 hcz26_1 hcz26_2
   try clear hcz28_0 hcz28_1 hcz28_2
   try clear hcz33_0 hcz33_1 hcz33_2
   try clear hcz38_0 hcz38_1 hcz38_2
   try clear hcz39_0 hcz39_1 hcz39_2
   try clear hcz40_0 hcz40_1 hcz40_2
   try clear hcz41_0 hcz41_1 hcz41_2
   try clear hcz6_0 hcz6_1 hcz6_2
   try clear hcz8_0 hcz8_1 hcz8_2
   try clear hfz13_0 hfz13_1 hfz13_2
   try clear hfz15_0 hfz15_1 hfz15_2
   try clear hfz20_0 hfz20_1 hfz20_2
   try clear hfz22_0 hfz22_1 hfz22_2
   try clear hfz26_0 hfz26_1 hfz26_2
   try clear hfz28_0 hfz28_1 hfz28_2
   try clear hfz33_0 hfz33_1 hfz33_2
   try clear hfz38_0 hfz38_1 hfz38_2
   try clear hfz39_0 hfz39_1 hfz39_2
   try clear hfz40_0 hfz40_1 hfz40_2
   try clear hfz41_0 hfz41_1 hfz41_2
   try clear hfz6_0 hfz6_1 hfz6_2
   try clear hfz8_0 hfz8_1 hfz8_2
   obtain ⟨kq,x78_30,rfl,HA,HJ30,HO_5,BK144,HB⟩:=hcut
   cases kq with
   | zero=>exact absurd HA.out (by simp [F0.j0])
   | succ kj30 =>
    have H:=HA.out;clear HA;simp only [F0.j0] at H
    by_cases c42 : x78_30=true
    ·
     subst c42
     rw [if_pos rfl] at H;obtain rfl:=zU H
     go_wp2
     go_ret
     exact ⟨jG,jO⟩
    replace c42:=yb.mpr c42;subst c42;rw [if_neg (show ¬ (false=true) by decide)] at H;have H':=zh H;clear H
    go_wp2
    go_loopg [7] kj30 (fun kq v7 w' => ∃ (x7_2 : Int),v7 = .int .i64 x7_2∧Aside0 (F0.l0 kq a1 t147 x7_2=some r)∧Aside0 (kq≤kj30)∧Aside0 (Kd.R k24 24 w' w.heap.size (fun k_=>k_≠gb144) v149 t147)∧Aside0 (w'.heap[gb144]? = some (.cells #[.int .i64 a0_0,.int .i64 a0_1,.string a0_2] 24 (0,0)))∧Aside0 (Below w.heap.size w w'))
    case atStart=>exact ⟨(0),jE,H',⟨ye _⟩,⟨jM⟩,⟨jn⟩,⟨jO⟩⟩
    case round =>
     clear H'
     try clear c1 c2
     try clear p2
     try clear c3 c3b0 c3b1 c4 c4b0 c4b1 c6 c9 c9b0 c9b1 c11 c16 c16b0 c16b1 c18 c23 c23b0 c23b1 c24 c24b0 c24b1 c29 c29b0 c29b1 c35 c35b0 c35b1 c36 c37 c37b0 c37b1 c42
     try clear hcz13_0 hcz13_1 hcz13_2
     try clear hcz15_0 hcz15_1 hcz15_2
     try clear hcz20_0 hcz20_1 hcz20_2
     try clear hcz22_0 hcz22_1 hcz22_2
     try clear hcz26_0 hcz26_1 hcz26_2
     try clear hcz28_0 hcz28_1 hcz28_2
     try clear hcz33_0 hcz33_1 hcz33_2
     try clear hcz38_0 hcz38_1 hcz38_2
     try clear hcz39_0 hcz39_1 hcz39_2
     try clear hcz40_0 hcz40_1 hcz40_2
     try clear hcz41_0 hcz41_1 hcz41_2
     try clear hcz6_0 hcz6_1 hcz6_2
     try clear hcz8_0 hcz8_1 hcz8_2
     try clear hfz13_0 hfz13_1 hfz13_2
     try clear hfz15_0 hfz15_1 hfz15_2
     try clear hfz20_0 hfz20_1 hfz20_2
     try clear hfz22_0 hfz22_1 hfz22_2
     try clear hfz26_0 hfz26_1 hfz26_2
     try clear hfz28_0 hfz28_1 hfz28_2
     try clear hfz33_0 hfz33_1 hfz33_2
     try clear hfz38_0 hfz38_1 hfz38_2
     try clear hfz39_0 hfz39_1 hfz39_2
     try clear hfz40_0 hfz40_1 hfz40_2
     try clear hfz41_0 hfz41_1 hfz41_2
     try clear hfz6_0 hfz6_1 hfz6_2
     try clear hfz8_0 hfz8_1 hfz8_2
     try clear p2
     obtain ⟨x7_2,rfl,HA,HK2,HO_5,BK144,HB⟩:=hrel
     cases gk with
     | zero=>exact absurd HA.out (by simp [F0.l0])
     | succ k2 =>
      have H:=HA.out;clear HA;simp only [F0.l0] at H
      by_cases c43 : x7_2<(t147.length : Int)
      ·
       rw [if_pos c43] at H
       have c43b0 : decide (x7_2<(t147.length : Int))=true:=decide_eq_true c43;clear c43
       by_cases c44 : 0≤x7_2
       ·
        rw [if_pos c44] at H
        have c44b0 : decide (0≤x7_2)=true:=decide_eq_true c44;clear c44;replace H:=zT.mp H;obtain ⟨t152,A450,H⟩:=H;have A45:=zh A450;clear A450
        by_cases c46 : t152=true
        ·
         subst c46
         rw [if_pos rfl] at H;have H':=zh H;clear H;obtain ⟨Ao47,co47,eo47⟩:=yk HO_5.out;subst eo47;have p151 : 0≤(x7_2 : Int):=zy jF;have q151 : x7_2<(t147.length : Int):=zy jF;obtain ⟨ad151,e151,hx151_0,hx151_1,hx151_2⟩:=at_T24 (yh HO_5.out).2.2 x7_2 p151 q151
         cases e151
         replace p151:=eq_true p151;replace q151:=eq_true q151
         go_wp2_with (first|((with_reducible refine zJ (f:=42) rfl ?_);refine yj (some 91) rfl rfl Try.func42 jA rfl #[.agg #[.int .i64 ((rd_T24 t147 x7_2).f0),.int .i64 ((rd_T24 t147 x7_2).f1),.string ((rd_T24 t147 x7_2).f2)],.int .i64 (wrap64 (a1 - 1))] rfl jB ?_;(with_reducible refine (ih k2 jBp  ((rd_T24 t147 x7_2).f0) ((rd_T24 t147 x7_2).f1) ((rd_T24 t147 x7_2).f2) (wrap64 (a1 - 1)) true _ A45.out).mono ?_);rintro e w48 ⟨rfl,hb⟩;refine ⟨_,rfl,?_⟩;replace HO_5:=zh (yg jM hb);replace BK144:=zh (cD BK144.out jn hb);replace HB:=zh (zC jO hb);(try clear hb);(try clear hb2);(try clear hk);(try clear hi)))
         go_roundg k2
         case measure=>have:=HJ30.out;have:=HK2.out;omega
         case rel=>exact ⟨(wrap64 (x7_2+1)),jE,H',⟨jBp⟩,⟨jM⟩,⟨jn⟩,⟨jO⟩⟩
        replace c46:=yb.mpr c46;subst c46;rw [if_neg (show ¬ (false=true) by decide)] at H;obtain rfl:=zU H;obtain ⟨Ao49,co49,eo49⟩:=yk HO_5.out;subst eo49;have p151 : 0≤(x7_2 : Int):=zy jF;have q151 : x7_2<(t147.length : Int):=zy jF;obtain ⟨ad151,e151,hx151_0,hx151_1,hx151_2⟩:=at_T24 (yh HO_5.out).2.2 x7_2 p151 q151
        cases e151
        replace p151:=eq_true p151;replace q151:=eq_true q151
        go_wp2_with (first|((with_reducible refine zJ (f:=42) rfl ?_);refine yj (some 91) rfl rfl Try.func42 jA rfl #[.agg #[.int .i64 ((rd_T24 t147 x7_2).f0),.int .i64 ((rd_T24 t147 x7_2).f1),.string ((rd_T24 t147 x7_2).f2)],.int .i64 (wrap64 (a1 - 1))] rfl jB ?_;(with_reducible refine (ih k2 jBp  ((rd_T24 t147 x7_2).f0) ((rd_T24 t147 x7_2).f1) ((rd_T24 t147 x7_2).f2) (wrap64 (a1 - 1)) false _ A45.out).mono ?_);rintro e w50 ⟨rfl,hb⟩;refine ⟨_,rfl,?_⟩;replace HO_5:=zh (yg jM hb);replace BK144:=zh (cD BK144.out jn hb);replace HB:=zh (zC jO hb);(try clear hb);(try clear hb2);(try clear hk);(try clear hi)))
        go_ret
        exact ⟨jG,jO⟩
       rw [if_neg c44] at H;exact absurd H (by simp)
      rw [if_neg c43] at H;have c43b0 : decide (x7_2<(t147.length : Int))=false:=decide_eq_false c43;clear c43;obtain rfl:=zU H;obtain ⟨Ao51,co51,eo51⟩:=yk HO_5.out;subst eo51
      go_wp2
      go_ret
      exact ⟨jG,jO⟩
 rw [if_neg c29] at H;have c29b0 : (a0_0 == 4)=false:=zY.mpr c29;have c29b1 : (a0_0 != 4)=true:=zZ.mpr c29
 by_cases c52 : a0_0=5
 ·
  rw [if_pos c52] at H
  have c52b0 : (a0_0 == 5)=true:=ya.mpr c52;have c52b1 : (a0_0 != 5)=false:=zX.mpr c52;clear c52;replace H:=zT.mp H;obtain ⟨⟨t153,t154⟩,A530,H⟩:=H;have A53:=zh A530;clear A530;have HC54:=zh H;clear H
  go_enter Try.func42,Try.ntmps42
  go_upto_region 22 with (first|((with_reducible refine zK (N:=2) rfl ?_);(try (refine yz (by rfl) ?_;dsimp only));refine zI ?hg (N:=2) ?hd (cs:=#[.int .i64 a0_0,.int .i64 a0_1,.string a0_2]) (t:=24) ?hr ?_;(case hd=>rfl);(case hg=>rfl);(case hr=>go_simp <;> rfl);intro gb144 hg w55 hbox hb;have BK144:=zh (hbox);have hH_:=cH jD hb hg;have GW144:=zh hH_.1;have GE144:=GW144;replace HB:=zh hH_.2;clear hb hbox hg hH_;obtain ⟨hcz56_0,hcz56_1,hcz56_2,hfz56_0,hfz56_1,hfz56_2⟩:=cB3 BK144.out)|((with_reducible refine zJ (f:=66) rfl ?_);refine yj (some 98) rfl rfl Try.func66 jA rfl #[.string a0_2] rfl jB ?_;(with_reducible refine (Fn.calls k  a0_2 t153 t154 _ A53.out).mono ?_);rintro e w57 ⟨v155,rfl,ho0,hb⟩;refine ⟨_,rfl,?_⟩;have HO156:=zh (yy ho0 (zB jO));replace BK144:=zh (cD BK144.out jn hb);replace HB:=zh (zC jO hb);(try clear hb);(try clear hb2);(try clear hk);(try clear hi);(try clear ho0)))
  (try simp only [Act.put,zi,zj,zk])
  go_cut [117] (fun v117 wc => ∃ (kq : Nat) (x117_53 : Bool),v117 = .bool x117_53∧Aside0 (F0.j2 kq a1 t153 x117_53=some r)∧Aside0 (kq≤k)∧Aside0 (Kd.R k68 68 wc w.heap.size (fun _=>True) v155 t153)∧Aside0 (wc.heap[gb144]? = some (.cells #[.int .i64 a0_0,.int .i64 a0_1,.string a0_2] 24 (0,0)))∧Aside0 (Below w.heap.size w wc))
  case first =>
   have H:=HC54.out;clear HC54
   by_cases c58 : a0_1=0
   ·
    rw [if_pos c58] at H
    have c58b0 : (a0_1 == 0)=true:=ya.mpr c58;have c58b1 : (a0_1 != 0)=false:=zX.mpr c58;clear c58;(first|rw [c58b0]|(simp only [zG,zH];rw [c58b0])|skip)
    by_cases c59 : t154=true
    ·
     subst c59
     rw [if_pos rfl] at H
     by_cases c60 : (a0_2.size : Int) > 300
     ·
      rw [if_pos c60] at H
      have c60b0 : decide (300<(a0_2.size : Int))=true:=decide_eq_true c60;have c60b1 : decide (300<a0_2.size)=true:=decide_eq_true jH;clear c60;have H':=zh H;clear H;obtain ⟨hcz61_0,hcz61_1,hcz61_2,hfz61_0,hfz61_1,hfz61_2⟩:=cB3 BK144.out
      go_wp2
      go_meet
      case rel=>exact ⟨_,(true),jE,H',⟨jg⟩,⟨jBR⟩,⟨jn⟩,⟨jO⟩⟩
     rw [if_neg c60] at H;have c60b0 : decide (300<(a0_2.size : Int))=false:=decide_eq_false c60;have c60b1 : decide (300<a0_2.size)=false:=decide_eq_false jH;clear c60;have H':=zh H;clear H;obtain ⟨hcz62_0,hcz62_1,hcz62_2,hfz62_0,hfz62_1,hfz62_2⟩:=cB3 BK144.out
     go_wp2
     go_meet
     case rel=>exact ⟨_,((a1 == 0)),jE,H',⟨jg⟩,⟨jBR⟩,⟨jn⟩,⟨jO⟩⟩
    replace c59:=yb.mpr c59;subst c59;rw [if_neg (show ¬ (false=true) by decide)] at H;have H':=zh H;clear H;obtain ⟨hcz63_0,hcz63_1,hcz63_2,hfz63_0,hfz63_1,hfz63_2⟩:=cB3 BK144.out
    go_wp2
    go_meet
    case rel=>exact ⟨_,(true),jE,H',⟨jg⟩,⟨jBR⟩,⟨jn⟩,⟨jO⟩⟩
   rw [if_neg c58] at H;have c58b0 : (a0_1 == 0)=false:=zY.mpr c58;have c58b1 : (a0_1 != 0)=true:=zZ.mpr c58;(first|rw [c58b0]|(simp only [zG,zH];rw [c58b0])|skip);have H':=zh H;clear H;obtain ⟨hcz64_0,hcz64_1,hcz64_2,hfz64_0,hfz64_1,hfz64_2⟩:=cB3 BK144.out
   go_wp2
   go_meet
   case rel=>exact ⟨_,(true),jE,H',⟨jg⟩,⟨jBR⟩,⟨jn⟩,⟨jO⟩⟩
  case rest =>
   clear HC54
   try clear c1
   try clear p1
   try clear q1
   try clear hx1
   try clear c2
   try clear p2
   try clear c3 c3b0 c3b1 c4 c4b0 c4b1 c5 c6
   try clear p6
   try clear c9 c9b0 c9b1 c11
   try clear p15
   try clear q15
   try clear hx15
   try clear c16 c16b0 c16b1 c18 c23 c23b0 c23b1 c24 c24b0 c24b1 c29 c29b0 c29b1 c35 c35b0 c35b1 c36 c37 c37b0 c37b1 c42 c43 c43b0 c44 c44b0 c46 c52 c52b0 c52b1 c58 c58b0 c58b1 c59 c60 c60b0 c60b1 c64
   try clear p64
   try clear hcz13_0 hcz13_1 hcz13_2
   try clear hcz15_0 hcz15_1 hcz15_2
   try clear hcz20_0 hcz20_1 hcz20_2
   try clear hcz22_0 hcz22_1 hcz22_2
   try clear hcz26_0 hcz26_1 hcz26_2
   try clear hcz28_0 hcz28_1 hcz28_2
   try clear hcz33_0 hcz33_1 hcz33_2
   try clear hcz38_0 hcz38_1 hcz38_2
   try clear hcz39_0 hcz39_1 hcz39_2
   try clear hcz40_0 hcz40_1 hcz40_2
   try clear hcz41_0 hcz41_1 hcz41_2
   try clear hcz56_0 hcz56_1 hcz56_2
   try clear hcz61_0 hcz61_1 hcz61_2
   try clear hcz62_0 hcz62_1 hcz62_2
   try clear hcz63_0 hcz63_1 hcz63_2
   try clear hcz64_0 hcz64_1 hcz64_2
   try clear hcz6_0 hcz6_1 hcz6_2
   try clear hcz8_0 hcz8_1 hcz8_2
   try clear hfz13_0 hfz13_1 hfz13_2
   try clear hfz15_0 hfz15_1 hfz15_2
   try clear hfz20_0 hfz20_1 hfz20_2
   try clear hfz22_0 hfz22_1 hfz22_2
   try clear hfz26_0 hfz26_1 hfz26_2
   try clear hfz28_0 hfz28_1 hfz28_2
   try clear hfz33_0 hfz33_1 hfz33_2
   try clear hfz38_0 hfz38_1 hfz38_2
   try clear hfz39_0 hfz39_1 hfz39_2
   try clear hfz40_0 hfz40_1 hfz40_2
   try clear hfz41_0 hfz41_1 hfz41_2
   try clear hfz56_0 hfz56_1 hfz56_2
   try clear hfz61_0 hfz61_1 hfz61_2
   try clear hfz62_0 hfz62_1 hfz62_2
   try clear hfz63_0 hfz63_1 hfz63_2
   try clear hfz64_0 hfz64_1 hfz64_2
   try clear hfz6_0 hfz6_1 hfz6_2
   try clear hfz8_0 hfz8_1 hfz8_2
   try clear hx151_0
   try clear hx151_1
   try clear hx151_2
   try clear p151
   try clear p2
   try clear q151
   obtain ⟨kq,x117_53,rfl,HA,HJ53,HO_8,BK144,HB⟩:=hcut
   cases kq with
   | zero=>exact absurd HA.out (by simp [F0.j2])
   | succ kj53 =>
    have H:=HA.out;clear HA;simp only [F0.j2] at H
    by_cases c65 : x117_53=true
    ·
     subst c65
     rw [if_pos rfl] at H;obtain rfl:=zU H
     go_wp2
     go_ret
     exact ⟨jG,jO⟩
    replace c65:=yb.mpr c65;subst c65;rw [if_neg (show ¬ (false=true) by decide)] at H;have H':=zh H;clear H
    go_wp2
    go_loopg [10] kj53 (fun kq v10 w' => ∃ (x10_2 : Int),v10 = .int .i64 x10_2∧Aside0 (F0.l1 kq a1 t153 x10_2=some r)∧Aside0 (kq≤kj53)∧Aside0 (Kd.R k68 68 w' w.heap.size (fun _=>True) v155 t153)∧Aside0 (w'.heap[gb144]? = some (.cells #[.int .i64 a0_0,.int .i64 a0_1,.string a0_2] 24 (0,0)))∧Aside0 (Below w.heap.size w w'))
    case atStart=>exact ⟨(0),jE,H',⟨ye _⟩,⟨jAq⟩,⟨jn⟩,⟨jO⟩⟩
    case round =>
     clear H'
     try clear c1
     try clear p1
     try clear q1
     try clear hx1
     try clear c2
     try clear p2
     try clear c3 c3b0 c3b1 c4 c4b0 c4b1 c5 c6
     try clear p6
     try clear c9 c9b0 c9b1 c11
     try clear p15
     try clear q15
     try clear hx15
     try clear c16 c16b0 c16b1 c18 c23 c23b0 c23b1 c24 c24b0 c24b1 c29 c29b0 c29b1 c35 c35b0 c35b1 c36 c37 c37b0 c37b1 c42 c43 c43b0 c44 c44b0 c46 c52 c52b0 c52b1 c58 c58b0 c58b1 c59 c60 c60b0 c60b1 c64
     try clear p64
     try clear c65
     try clear hcz13_0 hcz13_1 hcz13_2
     try clear hcz15_0 hcz15_1 hcz15_2
     try clear hcz20_0 hcz20_1 hcz20_2
     try clear hcz22_0 hcz22_1 hcz22_2
     try clear hcz26_0 hcz26_1 hcz26_2
     try clear hcz28_0 hcz28_1 hcz28_2
     try clear hcz33_0 hcz33_1 hcz33_2
     try clear hcz38_0 hcz38_1 hcz38_2
     try clear hcz39_0 hcz39_1 hcz39_2
     try clear hcz40_0 hcz40_1 hcz40_2
     try clear hcz41_0 hcz41_1 hcz41_2
     try clear hcz56_0 hcz56_1 hcz56_2
     try clear hcz61_0 hcz61_1 hcz61_2
     try clear hcz62_0 hcz62_1 hcz62_2
     try clear hcz63_0 hcz63_1 hcz63_2
     try clear hcz64_0 hcz64_1 hcz64_2
     try clear hcz6_0 hcz6_1 hcz6_2
     try clear hcz8_0 hcz8_1 hcz8_2
     try clear hfz13_0 hfz13_1 hfz13_2
     try clear hfz15_0 hfz15_1 hfz15_2
     try clear hfz20_0 hfz20_1 hfz20_2
     try clear hfz22_0 hfz22_1 hfz22_2
     try clear hfz26_0 hfz26_1 hfz26_2
     try clear hfz28_0 hfz28_1 hfz28_2
     try clear hfz33_0 hfz33_1 hfz33_2
     try clear hfz38_0 hfz38_1 hfz38_2
     try clear hfz39_0 hfz39_1 hfz39_2
     try clear hfz40_0 hfz40_1 hfz40_2
     try clear hfz41_0 hfz41_1 hfz41_2
     try clear hfz56_0 hfz56_1 hfz56_2
     try clear hfz61_0 hfz61_1 hfz61_2
     try clear hfz62_0 hfz62_1 hfz62_2
     try clear hfz63_0 hfz63_1 hfz63_2
     try clear hfz64_0 hfz64_1 hfz64_2
     try clear hfz6_0 hfz6_1 hfz6_2
     try clear hfz8_0 hfz8_1 hfz8_2
     try clear hx151_0
     try clear hx151_1
     try clear hx151_2
     try clear p1
     try clear p15
     try clear p151
     try clear p2
     try clear p6
     try clear p64
     try clear q1
     try clear q15
     try clear q151
     obtain ⟨x10_2,rfl,HA,HK2,HO_8,BK144,HB⟩:=hrel
     cases gk with
     | zero=>exact absurd HA.out (by simp [F0.l1])
     | succ k2 =>
      have H:=HA.out;clear HA;simp only [F0.l1] at H
      by_cases c66 : x10_2<(t153.length : Int)
      ·
       rw [if_pos c66] at H
       have c66b0 : decide (x10_2<(t153.length : Int))=true:=decide_eq_true c66;clear c66
       by_cases c67 : 0≤x10_2
       ·
        rw [if_pos c67] at H
        have c67b0 : decide (0≤x10_2)=true:=decide_eq_true c67;clear c67;replace H:=zT.mp H;obtain ⟨t158,A680,H⟩:=H;have A68:=zh A680;clear A680
        by_cases c69 : t158=true
        ·
         subst c69
         rw [if_pos rfl] at H
         by_cases c70 : x10_2 > 0
         ·
          rw [if_pos c70] at H
          have c70b0 : decide (0<x10_2)=true:=decide_eq_true c70;clear c70;obtain ⟨ji71,hji71⟩ : ∃ j_ : Int,(wrap64 (x10_2 - 1))=j_:=⟨_,rfl⟩;replace H : (if 0≤(ji71) then (if (ji71)<(t153.length : Int) then (if ((Op.bytesLess (((rd_T68 t153 (ji71)).f0).toList) (((rd_T68 t153 x10_2).f0).toList))=true) then ((F0.f k2 ((rd_T68 t153 x10_2).f1.f0) ((rd_T68 t153 x10_2).f1.f1) ((rd_T68 t153 x10_2).f1.f2) (wrap64 (a1 - 1))).bind fun t162=>(if t162=true then (F0.l1 k2 a1 t153 (wrap64 (x10_2+1))) else (some false))) else (some false)) else (none)) else (none))=some r:=by first|(rw [hji71] at H;exact H)|(simp only [hji71] at H ⊢;exact H)
          (try rw [hji71] at A68);have hji71w : (IntKind.i64.wrap (x10_2 - 1))=ji71:=(zG _).trans hji71
          by_cases c72 : 0≤(ji71)
          ·
           rw [if_pos c72] at H
           have c72b0 : decide (0≤(ji71))=true:=decide_eq_true c72;clear c72
           by_cases c73 : (ji71)<(t153.length : Int)
           ·
            rw [if_pos c73] at H
            have c73b0 : decide ((ji71)<(t153.length : Int))=true:=decide_eq_true c73;clear c73
            by_cases c74 : ((Op.bytesLess (((rd_T68 t153 (ji71)).f0).toList) (((rd_T68 t153 x10_2).f0).toList))=true)
            ·
             rw [if_pos c74] at H
             have c74b0 : (Op.bytesLess (((rd_T68 t153 (ji71)).f0).toList) (((rd_T68 t153 x10_2).f0).toList))=true:=c74;clear c74;replace H:=zT.mp H;obtain ⟨t162,A750,H⟩:=H;have A75:=zh A750;clear A750
             by_cases c76 : t162=true
             ·
              subst c76
              rw [if_pos rfl] at H;have H':=zh H;clear H;obtain ⟨Ao77,co77,eo77⟩:=yk HO_8.out;subst eo77
              try go_wp2
              replace HO_8:=zh (zo HO_8.out);replace BK144:=zh (zf BK144.out);replace HB:=zh (zc HB.out);have p157 : 0≤(x10_2 : Int):=zy jF;have q157 : x10_2<(t153.length : Int):=zy jF;obtain ⟨ad157,e157,hx157_0,hx157_1,hx157_2,hx157_3⟩:=at_T68 (yh HO_8.out).2.2 x10_2 p157 q157
              cases e157
              replace p157:=eq_true p157;replace q157:=eq_true q157;have p159 : 0≤((ji71) : Int):=zy jF;have q159 : (ji71)<(t153.length : Int):=zy jF;obtain ⟨ad159,e159,hx159_0,hx159_1,hx159_2,hx159_3⟩:=at_T68 (yh HO_8.out).2.2 (ji71) p159 q159;obtain rfl : ad157=ad159:=(by injection e159);replace p159:=eq_true p159;replace q159:=eq_true q159;have p160 : 0≤(x10_2 : Int):=zy jF;have q160 : x10_2<(t153.length : Int):=zy jF;obtain ⟨ad160,e160,hx160_0,hx160_1,hx160_2,hx160_3⟩:=at_T68 (yh HO_8.out).2.2 x10_2 p160 q160;obtain rfl : ad157=ad160:=(by injection e160);replace p160:=eq_true p160;replace q160:=eq_true q160;have p161 : 0≤(x10_2 : Int):=zy jF;have q161 : x10_2<(t153.length : Int):=zy jF;obtain ⟨ad161,e161,hx161_0,hx161_1,hx161_2,hx161_3⟩:=at_T68 (yh HO_8.out).2.2 x10_2 p161 q161;obtain rfl : ad157=ad161:=(by injection e161);replace p161:=eq_true p161;replace q161:=eq_true q161;refine start_ (n:=36) (S:=fun w' => w'.cell? (ad157.add ((x10_2).toNat*4))=some (.string ((rd_T68 t153 x10_2).f0))∧w'.cell? ⟨(ad157.add ((x10_2).toNat*4)).block,(ad157.add ((x10_2).toNat*4)).off+1,none⟩=some (.int .i64 ((rd_T68 t153 x10_2).f1.f0))∧w'.cell? ⟨(ad157.add ((x10_2).toNat*4)).block,(ad157.add ((x10_2).toNat*4)).off+2,none⟩=some (.int .i64 ((rd_T68 t153 x10_2).f1.f1))∧w'.cell? ⟨(ad157.add ((x10_2).toNat*4)).block,(ad157.add ((x10_2).toNat*4)).off+3,none⟩=some (.string ((rd_T68 t153 x10_2).f1.f2))∧w'.cell? (ad157.add (((ji71)).toNat*4))=some (.string ((rd_T68 t153 (ji71)).f0))∧w'.cell? ⟨(ad157.add (((ji71)).toNat*4)).block,(ad157.add (((ji71)).toNat*4)).off+1,none⟩=some (.int .i64 ((rd_T68 t153 (ji71)).f1.f0))∧w'.cell? ⟨(ad157.add (((ji71)).toNat*4)).block,(ad157.add (((ji71)).toNat*4)).off+2,none⟩=some (.int .i64 ((rd_T68 t153 (ji71)).f1.f1))∧w'.cell? ⟨(ad157.add (((ji71)).toNat*4)).block,(ad157.add (((ji71)).toNat*4)).off+3,none⟩=some (.string ((rd_T68 t153 (ji71)).f1.f2))∧w'.cell? (ad157.add ((x10_2).toNat*4))=some (.string ((rd_T68 t153 x10_2).f0))∧w'.cell? ⟨(ad157.add ((x10_2).toNat*4)).block,(ad157.add ((x10_2).toNat*4)).off+1,none⟩=some (.int .i64 ((rd_T68 t153 x10_2).f1.f0))∧w'.cell? ⟨(ad157.add ((x10_2).toNat*4)).block,(ad157.add ((x10_2).toNat*4)).off+2,none⟩=some (.int .i64 ((rd_T68 t153 x10_2).f1.f1))∧w'.cell? ⟨(ad157.add ((x10_2).toNat*4)).block,(ad157.add ((x10_2).toNat*4)).off+3,none⟩=some (.string ((rd_T68 t153 x10_2).f1.f2))∧w'.cell? (ad157.add ((x10_2).toNat*4))=some (.string ((rd_T68 t153 x10_2).f0))∧w'.cell? ⟨(ad157.add ((x10_2).toNat*4)).block,(ad157.add ((x10_2).toNat*4)).off+1,none⟩=some (.int .i64 ((rd_T68 t153 x10_2).f1.f0))∧w'.cell? ⟨(ad157.add ((x10_2).toNat*4)).block,(ad157.add ((x10_2).toNat*4)).off+2,none⟩=some (.int .i64 ((rd_T68 t153 x10_2).f1.f1))∧w'.cell? ⟨(ad157.add ((x10_2).toNat*4)).block,(ad157.add ((x10_2).toNat*4)).off+3,none⟩=some (.string ((rd_T68 t153 x10_2).f1.f2))) (ds:=[]) (bm_ 0 36) jA rfl rfl ⟨hx157_0,hx157_1,hx157_2,hx157_3,hx159_0,hx159_1,hx159_2,hx159_3,hx160_0,hx160_1,hx160_2,hx160_3,hx161_0,hx161_1,hx161_2,hx161_3⟩ (fun hHeld=>?_);refine with_tabW F0.tab27 F0.bits27 (fun HT_ HW_=>?_);generalize wr.drew=w78 at HO_8 BK144 HB hx157_0 hx157_1 hx157_2 hx157_3 hx159_0 hx159_1 hx159_2 hx159_3 hx160_0 hx160_1 hx160_2 hx160_3 hx161_0 hx161_1 hx161_2 hx161_3 hHeld ⊢;refine pure_ (i:=0) (N:=some 124) (v:=?_) (a':=?_) (bm_ 1 36) rfl rfl (any_of HT_.out jA) (fun _ _ _ h=>h) (Or.inl ⟨by rfl,?_⟩) ?_ ?_;rotate_left;exact jb;rotate_left;exact jc
              refine pure_ (i:=1) (N:=some 125) (v:=?_) (a':=?_) (bm_ 2 36) rfl rfl (any_of HT_.out jA) (fun _ _ _ h=>h) (Or.inl ⟨by rfl,?_⟩) ?_ ?_;rotate_left;exact jb;rotate_left;exact jc
              refine pure_ (i:=2) (N:=some 126) (v:=?_) (a':=?_) (bm_ 3 36) rfl rfl (any_of HT_.out jA) (fun _ _ _ h=>h) (Or.inl ⟨by rfl,?_⟩) ?_ ?_;rotate_left;exact jb;rotate_left;exact jc
              refine pure_ (i:=3) (N:=some 127) (v:=?_) (a':=?_) (bm_ 4 36) rfl rfl (any_of HT_.out jA) (fun _ _ _ h=>h) (Or.inl ⟨by rfl,?_⟩) ?_ ?_;rotate_left;exact jb;rotate_left;exact jc
              refine take_ (i:=4) (N:=some 128) (v:=?_) (a':=?_) (bm_ 5 36) rfl rfl (yo HT_.out HW_.out jA) (fun _ _ _ h=>h) (Or.inl ⟨by rfl,?_⟩) hHeld ?_ ?_;rotate_left
              ·
               rintro w' ⟨s0,s1,s2,s3,s4,s5,s6,s7,s8,s9,s10,s11,s12,s13,s14,s15⟩
               go_simp
               with_reducible rfl
              rotate_left
              exact jc
              refine one_ (i:=5) (N:=some 129) (bm_ 6 36) rfl rfl (one_of HT_.out jA) jC (fun K hK=>?_);refine goes_ Try.func67 jA rfl #[.string ((rd_T68 t153 x10_2).f0)] (by rfl) rfl rfl jB ?_
              with_reducible refine (F0k.calls k2  ((rd_T68 t153 x10_2).f0) true _ A68.out).mono ?_
              rintro e w' ⟨rfl,⟨nd,rfl⟩⟩;refine ⟨_,rfl,?_⟩;refine hK.out _ _ ⟨hHeld.1,hHeld.2.1,hHeld.2.2.1,hHeld.2.2.2.1,hHeld.2.2.2.2.1,hHeld.2.2.2.2.2.1,hHeld.2.2.2.2.2.2.1,hHeld.2.2.2.2.2.2.2.1,hHeld.2.2.2.2.2.2.2.2.1,hHeld.2.2.2.2.2.2.2.2.2.1,hHeld.2.2.2.2.2.2.2.2.2.2.1,hHeld.2.2.2.2.2.2.2.2.2.2.2.1,hHeld.2.2.2.2.2.2.2.2.2.2.2.2.1,hHeld.2.2.2.2.2.2.2.2.2.2.2.2.2.1,hHeld.2.2.2.2.2.2.2.2.2.2.2.2.2.2.1,hHeld.2.2.2.2.2.2.2.2.2.2.2.2.2.2.2⟩ (fun hHeld=>?_);clear hK K;refine norm_ (a':=?_) ?_ ?_;rotate_left
              ·
               show Act.put _ (some 129) _=_
               simp only [Act.put,zi,zj,zk,zG,zH]
               rfl
              refine pure_ (i:=6) (N:=some 130) (v:=?_) (a':=?_) (bm_ 7 36) rfl rfl (any_of HT_.out jA) (fun _ _ _ h=>h) (Or.inl ⟨by rfl,?_⟩) ?_ ?_;rotate_left;exact jb;rotate_left;exact jc
              refine pure_ (i:=7) (N:=some 131) (v:=?_) (a':=?_) (bm_ 8 36) rfl rfl (any_of HT_.out jA) (fun _ _ _ h=>h) (Or.inl ⟨by rfl,?_⟩) ?_ ?_;rotate_left;exact jb;rotate_left;exact jc
              refine pure_ (i:=8) (N:=some 132) (v:=?_) (a':=?_) (bm_ 9 36) rfl rfl (any_of HT_.out jA) (fun _ _ _ h=>h) (Or.inl ⟨by rfl,?_⟩) ?_ ?_;rotate_left;exact jb;rotate_left;exact jc
              refine pure_ (i:=9) (N:=some 133) (v:=?_) (a':=?_) (bm_ 10 36) rfl rfl (any_of HT_.out jA) (fun _ _ _ h=>h) (Or.inl ⟨by rfl,?_⟩) ?_ ?_;rotate_left;exact jb;rotate_left;exact jc
              refine pure_ (i:=10) (N:=some 134) (v:=?_) (a':=?_) (bm_ 11 36) rfl rfl (any_of HT_.out jA) (fun _ _ _ h=>h) (Or.inl ⟨by rfl,?_⟩) ?_ ?_;rotate_left;exact jb;rotate_left;exact jc
              refine pure_ (i:=11) (N:=some 135) (v:=?_) (a':=?_) (bm_ 12 36) rfl rfl (any_of HT_.out jA) (fun _ _ _ h=>h) (Or.inl ⟨by rfl,?_⟩) ?_ ?_;rotate_left;exact jb;rotate_left;exact jc
              refine pure_ (i:=12) (N:=some 136) (v:=?_) (a':=?_) (bm_ 13 36) rfl rfl (any_of HT_.out jA) (fun _ _ _ h=>h) (Or.inl ⟨by rfl,?_⟩) ?_ ?_;rotate_left;exact jb;rotate_left;exact jc
              refine pure_ (i:=13) (N:=some 137) (v:=?_) (a':=?_) (bm_ 14 36) rfl rfl (any_of HT_.out jA) (fun _ _ _ h=>h) (Or.inl ⟨by rfl,?_⟩) ?_ ?_;rotate_left;exact jb;rotate_left;exact jc
              refine pure_ (i:=14) (N:=some 138) (v:=?_) (a':=?_) (bm_ 15 36) rfl rfl (any_of HT_.out jA) (fun _ _ _ h=>h) (Or.inl ⟨by rfl,?_⟩) ?_ ?_;rotate_left;exact jb;rotate_left;exact jc
              refine pure_ (i:=15) (N:=some 139) (v:=?_) (a':=?_) (bm_ 16 36) rfl rfl (any_of HT_.out jA) (fun _ _ _ h=>h) (Or.inl ⟨by rfl,?_⟩) ?_ ?_;rotate_left;exact jb;rotate_left;exact jc
              refine pure_ (i:=17) (N:=some 141) (v:=?_) (a':=?_) #[true,true,true,true,true,true,true,true,true,true,true,true,true,true,true,true,false,true,false,false,false,false,false,false,false,false,false,false,false,false,false,false,false,false,false,false] rfl rfl (any_of HT_.out jA) (fun _ _ _ h=>h) (Or.inl ⟨by rfl,?_⟩) ?_ ?_;rotate_left;exact jb;rotate_left;exact jc
              refine pure_ (i:=18) (N:=some 142) (v:=?_) (a':=?_) #[true,true,true,true,true,true,true,true,true,true,true,true,true,true,true,true,false,true,true,false,false,false,false,false,false,false,false,false,false,false,false,false,false,false,false,false] rfl rfl (any_of HT_.out jA) (fun _ _ _ h=>h) (Or.inl ⟨by rfl,?_⟩) ?_ ?_;rotate_left;exact jb;rotate_left;exact jc
              refine pure_ (i:=19) (N:=some 143) (v:=?_) (a':=?_) #[true,true,true,true,true,true,true,true,true,true,true,true,true,true,true,true,false,true,true,true,false,false,false,false,false,false,false,false,false,false,false,false,false,false,false,false] rfl rfl (any_of HT_.out jA) (fun _ _ _ h=>h) (Or.inl ⟨by rfl,?_⟩) ?_ ?_;rotate_left;exact jb;rotate_left;exact jc
              refine pure_ (i:=20) (N:=some 144) (v:=?_) (a':=?_) #[true,true,true,true,true,true,true,true,true,true,true,true,true,true,true,true,false,true,true,true,true,false,false,false,false,false,false,false,false,false,false,false,false,false,false,false] rfl rfl (any_of HT_.out jA) (fun _ _ _ h=>h) (Or.inl ⟨by rfl,?_⟩) ?_ ?_;rotate_left;exact jb;rotate_left;exact jc
              refine take_ (i:=16) (N:=some 140) (v:=?_) (a':=?_) (bm_ 21 36) rfl rfl (yo HT_.out HW_.out jA) (fun _ _ _ h=>h) (Or.inl ⟨by rfl,?_⟩) hHeld ?_ ?_;rotate_left
              ·
               rintro w' ⟨s0,s1,s2,s3,s4,s5,s6,s7,s8,s9,s10,s11,s12,s13,s14,s15⟩
               go_simp
               with_reducible rfl
              rotate_left
              exact jc
              refine take_ (i:=21) (N:=some 145) (v:=?_) (a':=?_) (bm_ 22 36) rfl rfl (yo HT_.out HW_.out jA) (fun _ _ _ h=>h) (Or.inl ⟨by rfl,?_⟩) hHeld ?_ ?_;rotate_left
              ·
               rintro w' ⟨s0,s1,s2,s3,s4,s5,s6,s7,s8,s9,s10,s11,s12,s13,s14,s15⟩
               go_simp
               with_reducible rfl
              rotate_left
              exact jc
              refine pure_ (i:=22) (N:=some 146) (v:=?_) (a':=?_) (bm_ 23 36) rfl rfl (any_of HT_.out jA) (fun _ _ _ h=>h) (Or.inl ⟨by rfl,?_⟩) ?_ ?_;rotate_left;exact jb;rotate_left;exact jc
              refine pure_ (i:=23) (N:=some 147) (v:=?_) (a':=?_) (bm_ 24 36) rfl rfl (any_of HT_.out jA) (fun _ _ _ h=>h) (Or.inl ⟨by rfl,?_⟩) ?_ ?_;rotate_left;exact jb;rotate_left;exact jc
              refine pure_ (i:=24) (N:=some 148) (v:=?_) (a':=?_) (bm_ 25 36) rfl rfl (any_of HT_.out jA) (fun _ _ _ h=>h) (Or.inl ⟨by rfl,?_⟩) ?_ ?_;rotate_left;exact jb;rotate_left;exact jc
              refine pure_ (i:=25) (N:=some 149) (v:=?_) (a':=?_) (bm_ 26 36) rfl rfl (any_of HT_.out jA) (fun _ _ _ h=>h) (Or.inl ⟨by rfl,?_⟩) ?_ ?_;rotate_left;exact jb;rotate_left;exact jc
              refine pure_ (i:=26) (N:=some 150) (v:=?_) (a':=?_) (bm_ 27 36) rfl rfl (any_of HT_.out jA) (fun _ _ _ h=>h) (Or.inl ⟨by rfl,?_⟩) ?_ ?_;rotate_left;exact jb;rotate_left;exact jc
              refine pure_ (i:=27) (N:=some 151) (v:=?_) (a':=?_) (bm_ 28 36) rfl rfl (any_of HT_.out jA) (fun _ _ _ h=>h) (Or.inl ⟨by rfl,?_⟩) ?_ ?_;rotate_left;exact jb;rotate_left;exact jc
              refine pure_ (i:=28) (N:=some 152) (v:=?_) (a':=?_) (bm_ 29 36) rfl rfl (any_of HT_.out jA) (fun _ _ _ h=>h) (Or.inl ⟨by rfl,?_⟩) ?_ ?_;rotate_left;exact jb;rotate_left;exact jc
              refine pure_ (i:=29) (N:=some 153) (v:=?_) (a':=?_) (bm_ 30 36) rfl rfl (any_of HT_.out jA) (fun _ _ _ h=>h) (Or.inl ⟨by rfl,?_⟩) ?_ ?_;rotate_left;exact jb;rotate_left;exact jc
              refine pure_ (i:=31) (N:=some 155) (v:=?_) (a':=?_) #[true,true,true,true,true,true,true,true,true,true,true,true,true,true,true,true,true,true,true,true,true,true,true,true,true,true,true,true,true,true,false,true,false,false,false,false] rfl rfl (any_of HT_.out jA) (fun _ _ _ h=>h) (Or.inl ⟨by rfl,?_⟩) ?_ ?_;rotate_left;exact jb;rotate_left;exact jc
              refine pure_ (i:=32) (N:=some 156) (v:=?_) (a':=?_) #[true,true,true,true,true,true,true,true,true,true,true,true,true,true,true,true,true,true,true,true,true,true,true,true,true,true,true,true,true,true,false,true,true,false,false,false] rfl rfl (any_of HT_.out jA) (fun _ _ _ h=>h) (Or.inl ⟨by rfl,?_⟩) ?_ ?_;rotate_left;exact jb;rotate_left;exact jc
              refine take_ (i:=30) (N:=some 154) (v:=?_) (a':=?_) (bm_ 33 36) rfl rfl (yo HT_.out HW_.out jA) (fun _ _ _ h=>h) (Or.inl ⟨by rfl,?_⟩) hHeld ?_ ?_;rotate_left
              ·
               rintro w' ⟨s0,s1,s2,s3,s4,s5,s6,s7,s8,s9,s10,s11,s12,s13,s14,s15⟩
               go_simp
               with_reducible rfl
              rotate_left
              exact jc
              refine one_ (i:=33) (N:=some 157) (bm_ 34 36) rfl rfl (one_of HT_.out jA) jC (fun K hK=>?_);refine goes_ Try.func42 jA rfl #[.agg #[.int .i64 ((rd_T68 t153 x10_2).f1.f0),.int .i64 ((rd_T68 t153 x10_2).f1.f1),.string ((rd_T68 t153 x10_2).f1.f2)],.int .i64 (wrap64 (a1 - 1))] (by rfl) rfl rfl jB ?_
              with_reducible refine (ih k2 jA3  ((rd_T68 t153 x10_2).f1.f0) ((rd_T68 t153 x10_2).f1.f1) ((rd_T68 t153 x10_2).f1.f2) (wrap64 (a1 - 1)) true _ A75.out).mono ?_
              rintro e w79 ⟨rfl,hb⟩;have HS0_:=(hb.cell (zl _ _ (hHeld.1))).trans (hHeld.1);have HS1_:=(hb.cell (zl _ _ (hHeld.2.1))).trans (hHeld.2.1);have HS2_:=(hb.cell (zl _ _ (hHeld.2.2.1))).trans (hHeld.2.2.1);have HS3_:=(hb.cell (zl _ _ (hHeld.2.2.2.1))).trans (hHeld.2.2.2.1);have HS4_:=(hb.cell (zl _ _ (hHeld.2.2.2.2.1))).trans (hHeld.2.2.2.2.1);have HS5_:=(hb.cell (zl _ _ (hHeld.2.2.2.2.2.1))).trans (hHeld.2.2.2.2.2.1);have HS6_:=(hb.cell (zl _ _ (hHeld.2.2.2.2.2.2.1))).trans (hHeld.2.2.2.2.2.2.1);have HS7_:=(hb.cell (zl _ _ (hHeld.2.2.2.2.2.2.2.1))).trans (hHeld.2.2.2.2.2.2.2.1);have HS8_:=(hb.cell (zl _ _ (hHeld.2.2.2.2.2.2.2.2.1))).trans (hHeld.2.2.2.2.2.2.2.2.1);have HS9_:=(hb.cell (zl _ _ (hHeld.2.2.2.2.2.2.2.2.2.1))).trans (hHeld.2.2.2.2.2.2.2.2.2.1);have HS10_:=(hb.cell (zl _ _ (hHeld.2.2.2.2.2.2.2.2.2.2.1))).trans (hHeld.2.2.2.2.2.2.2.2.2.2.1);have HS11_:=(hb.cell (zl _ _ (hHeld.2.2.2.2.2.2.2.2.2.2.2.1))).trans (hHeld.2.2.2.2.2.2.2.2.2.2.2.1);have HS12_:=(hb.cell (zl _ _ (hHeld.2.2.2.2.2.2.2.2.2.2.2.2.1))).trans (hHeld.2.2.2.2.2.2.2.2.2.2.2.2.1);have HS13_:=(hb.cell (zl _ _ (hHeld.2.2.2.2.2.2.2.2.2.2.2.2.2.1))).trans (hHeld.2.2.2.2.2.2.2.2.2.2.2.2.2.1);have HS14_:=(hb.cell (zl _ _ (hHeld.2.2.2.2.2.2.2.2.2.2.2.2.2.2.1))).trans (hHeld.2.2.2.2.2.2.2.2.2.2.2.2.2.2.1);have HS15_:=(hb.cell (zl _ _ (hHeld.2.2.2.2.2.2.2.2.2.2.2.2.2.2.2))).trans (hHeld.2.2.2.2.2.2.2.2.2.2.2.2.2.2.2);refine ⟨_,rfl,?_⟩;replace HO_8:=zh (yg jAq hb);replace BK144:=zh (cD BK144.out jn hb);replace HB:=zh (zC jO hb);(try clear hb);(try clear hb2);(try clear hk);(try clear hi);refine hK.out _ _ ⟨HS0_,HS1_,HS2_,HS3_,HS4_,HS5_,HS6_,HS7_,HS8_,HS9_,HS10_,HS11_,HS12_,HS13_,HS14_,HS15_⟩ (fun hHeld=>?_);clear hK K;refine norm_ (a':=?_) ?_ ?_;rotate_left
              ·
               show Act.put _ (some 157) _=_
               simp only [Act.put,zi,zj,zk,zG,zH]
               rfl
              refine pure_ (i:=34) (N:=some 158) (v:=?_) (a':=?_) (bm_ 35 36) rfl rfl (any_of HT_.out jA) (fun _ _ _ h=>h) (Or.inl ⟨by rfl,?_⟩) ?_ ?_;rotate_left;exact jb;rotate_left;exact jc
              refine pure_ (i:=35) (N:=some 159) (v:=?_) (a':=?_) (bm_ 36 36) rfl rfl (any_of HT_.out jA) (fun _ _ _ h=>h) (Or.inl ⟨by rfl,?_⟩) ?_ ?_;rotate_left;exact jb;rotate_left;exact jc
              refine done_ (done_of HT_.out jA) ?_
              try go_wp2
              go_roundg k2
              case measure=>have:=HJ53.out;have:=HK2.out;omega
              case rel=>exact ⟨(wrap64 (x10_2+1)),jE,H',⟨jA3⟩,⟨jAq⟩,⟨jn⟩,⟨jO⟩⟩
             replace c76:=yb.mpr c76;subst c76;rw [if_neg (show ¬ (false=true) by decide)] at H;obtain rfl:=zU H;obtain ⟨Ao80,co80,eo80⟩:=yk HO_8.out;subst eo80
             try go_wp2
             replace HO_8:=zh (zo HO_8.out);replace BK144:=zh (zf BK144.out);replace HB:=zh (zc HB.out);have p157 : 0≤(x10_2 : Int):=zy jF;have q157 : x10_2<(t153.length : Int):=zy jF;obtain ⟨ad157,e157,hx157_0,hx157_1,hx157_2,hx157_3⟩:=at_T68 (yh HO_8.out).2.2 x10_2 p157 q157
             cases e157
             replace p157:=eq_true p157;replace q157:=eq_true q157;have p159 : 0≤((ji71) : Int):=zy jF;have q159 : (ji71)<(t153.length : Int):=zy jF;obtain ⟨ad159,e159,hx159_0,hx159_1,hx159_2,hx159_3⟩:=at_T68 (yh HO_8.out).2.2 (ji71) p159 q159;obtain rfl : ad157=ad159:=(by injection e159);replace p159:=eq_true p159;replace q159:=eq_true q159;have p160 : 0≤(x10_2 : Int):=zy jF;have q160 : x10_2<(t153.length : Int):=zy jF;obtain ⟨ad160,e160,hx160_0,hx160_1,hx160_2,hx160_3⟩:=at_T68 (yh HO_8.out).2.2 x10_2 p160 q160;obtain rfl : ad157=ad160:=(by injection e160);replace p160:=eq_true p160;replace q160:=eq_true q160;have p161 : 0≤(x10_2 : Int):=zy jF;have q161 : x10_2<(t153.length : Int):=zy jF;obtain ⟨ad161,e161,hx161_0,hx161_1,hx161_2,hx161_3⟩:=at_T68 (yh HO_8.out).2.2 x10_2 p161 q161;obtain rfl : ad157=ad161:=(by injection e161);replace p161:=eq_true p161;replace q161:=eq_true q161;refine start_ (n:=36) (S:=fun w' => w'.cell? (ad157.add ((x10_2).toNat*4))=some (.string ((rd_T68 t153 x10_2).f0))∧w'.cell? ⟨(ad157.add ((x10_2).toNat*4)).block,(ad157.add ((x10_2).toNat*4)).off+1,none⟩=some (.int .i64 ((rd_T68 t153 x10_2).f1.f0))∧w'.cell? ⟨(ad157.add ((x10_2).toNat*4)).block,(ad157.add ((x10_2).toNat*4)).off+2,none⟩=some (.int .i64 ((rd_T68 t153 x10_2).f1.f1))∧w'.cell? ⟨(ad157.add ((x10_2).toNat*4)).block,(ad157.add ((x10_2).toNat*4)).off+3,none⟩=some (.string ((rd_T68 t153 x10_2).f1.f2))∧w'.cell? (ad157.add (((ji71)).toNat*4))=some (.string ((rd_T68 t153 (ji71)).f0))∧w'.cell? ⟨(ad157.add (((ji71)).toNat*4)).block,(ad157.add (((ji71)).toNat*4)).off+1,none⟩=some (.int .i64 ((rd_T68 t153 (ji71)).f1.f0))∧w'.cell? ⟨(ad157.add (((ji71)).toNat*4)).block,(ad157.add (((ji71)).toNat*4)).off+2,none⟩=some (.int .i64 ((rd_T68 t153 (ji71)).f1.f1))∧w'.cell? ⟨(ad157.add (((ji71)).toNat*4)).block,(ad157.add (((ji71)).toNat*4)).off+3,none⟩=some (.string ((rd_T68 t153 (ji71)).f1.f2))∧w'.cell? (ad157.add ((x10_2).toNat*4))=some (.string ((rd_T68 t153 x10_2).f0))∧w'.cell? ⟨(ad157.add ((x10_2).toNat*4)).block,(ad157.add ((x10_2).toNat*4)).off+1,none⟩=some (.int .i64 ((rd_T68 t153 x10_2).f1.f0))∧w'.cell? ⟨(ad157.add ((x10_2).toNat*4)).block,(ad157.add ((x10_2).toNat*4)).off+2,none⟩=some (.int .i64 ((rd_T68 t153 x10_2).f1.f1))∧w'.cell? ⟨(ad157.add ((x10_2).toNat*4)).block,(ad157.add ((x10_2).toNat*4)).off+3,none⟩=some (.string ((rd_T68 t153 x10_2).f1.f2))∧w'.cell? (ad157.add ((x10_2).toNat*4))=some (.string ((rd_T68 t153 x10_2).f0))∧w'.cell? ⟨(ad157.add ((x10_2).toNat*4)).block,(ad157.add ((x10_2).toNat*4)).off+1,none⟩=some (.int .i64 ((rd_T68 t153 x10_2).f1.f0))∧w'.cell? ⟨(ad157.add ((x10_2).toNat*4)).block,(ad157.add ((x10_2).toNat*4)).off+2,none⟩=some (.int .i64 ((rd_T68 t153 x10_2).f1.f1))∧w'.cell? ⟨(ad157.add ((x10_2).toNat*4)).block,(ad157.add ((x10_2).toNat*4)).off+3,none⟩=some (.string ((rd_T68 t153 x10_2).f1.f2))) (ds:=[]) (bm_ 0 36) jA rfl rfl ⟨hx157_0,hx157_1,hx157_2,hx157_3,hx159_0,hx159_1,hx159_2,hx159_3,hx160_0,hx160_1,hx160_2,hx160_3,hx161_0,hx161_1,hx161_2,hx161_3⟩ (fun hHeld=>?_);refine with_tabW F0.tab27 F0.bits27 (fun HT_ HW_=>?_);generalize wr.drew=w81 at HO_8 BK144 HB hx157_0 hx157_1 hx157_2 hx157_3 hx159_0 hx159_1 hx159_2 hx159_3 hx160_0 hx160_1 hx160_2 hx160_3 hx161_0 hx161_1 hx161_2 hx161_3 hHeld ⊢;refine pure_ (i:=0) (N:=some 124) (v:=?_) (a':=?_) (bm_ 1 36) rfl rfl (any_of HT_.out jA) (fun _ _ _ h=>h) (Or.inl ⟨by rfl,?_⟩) ?_ ?_;rotate_left;exact jb;rotate_left;exact jc
             refine pure_ (i:=1) (N:=some 125) (v:=?_) (a':=?_) (bm_ 2 36) rfl rfl (any_of HT_.out jA) (fun _ _ _ h=>h) (Or.inl ⟨by rfl,?_⟩) ?_ ?_;rotate_left;exact jb;rotate_left;exact jc
             refine pure_ (i:=2) (N:=some 126) (v:=?_) (a':=?_) (bm_ 3 36) rfl rfl (any_of HT_.out jA) (fun _ _ _ h=>h) (Or.inl ⟨by rfl,?_⟩) ?_ ?_;rotate_left;exact jb;rotate_left;exact jc
             refine pure_ (i:=3) (N:=some 127) (v:=?_) (a':=?_) (bm_ 4 36) rfl rfl (any_of HT_.out jA) (fun _ _ _ h=>h) (Or.inl ⟨by rfl,?_⟩) ?_ ?_;rotate_left;exact jb;rotate_left;exact jc
             refine take_ (i:=4) (N:=some 128) (v:=?_) (a':=?_) (bm_ 5 36) rfl rfl (yo HT_.out HW_.out jA) (fun _ _ _ h=>h) (Or.inl ⟨by rfl,?_⟩) hHeld ?_ ?_;rotate_left
             ·
              rintro w' ⟨s0,s1,s2,s3,s4,s5,s6,s7,s8,s9,s10,s11,s12,s13,s14,s15⟩
              go_simp
              with_reducible rfl
             rotate_left
             exact jc
             refine one_ (i:=5) (N:=some 129) (bm_ 6 36) rfl rfl (one_of HT_.out jA) jC (fun K hK=>?_);refine goes_ Try.func67 jA rfl #[.string ((rd_T68 t153 x10_2).f0)] (by rfl) rfl rfl jB ?_
             with_reducible refine (F0k.calls k2  ((rd_T68 t153 x10_2).f0) true _ A68.out).mono ?_
             rintro e w' ⟨rfl,⟨nd,rfl⟩⟩;refine ⟨_,rfl,?_⟩;refine hK.out _ _ ⟨hHeld.1,hHeld.2.1,hHeld.2.2.1,hHeld.2.2.2.1,hHeld.2.2.2.2.1,hHeld.2.2.2.2.2.1,hHeld.2.2.2.2.2.2.1,hHeld.2.2.2.2.2.2.2.1,hHeld.2.2.2.2.2.2.2.2.1,hHeld.2.2.2.2.2.2.2.2.2.1,hHeld.2.2.2.2.2.2.2.2.2.2.1,hHeld.2.2.2.2.2.2.2.2.2.2.2.1,hHeld.2.2.2.2.2.2.2.2.2.2.2.2.1,hHeld.2.2.2.2.2.2.2.2.2.2.2.2.2.1,hHeld.2.2.2.2.2.2.2.2.2.2.2.2.2.2.1,hHeld.2.2.2.2.2.2.2.2.2.2.2.2.2.2.2⟩ (fun hHeld=>?_);clear hK K;refine norm_ (a':=?_) ?_ ?_;rotate_left
             ·
              show Act.put _ (some 129) _=_
              simp only [Act.put,zi,zj,zk,zG,zH]
              rfl
             refine pure_ (i:=6) (N:=some 130) (v:=?_) (a':=?_) (bm_ 7 36) rfl rfl (any_of HT_.out jA) (fun _ _ _ h=>h) (Or.inl ⟨by rfl,?_⟩) ?_ ?_;rotate_left;exact jb;rotate_left;exact jc
             refine pure_ (i:=7) (N:=some 131) (v:=?_) (a':=?_) (bm_ 8 36) rfl rfl (any_of HT_.out jA) (fun _ _ _ h=>h) (Or.inl ⟨by rfl,?_⟩) ?_ ?_;rotate_left;exact jb;rotate_left;exact jc
             refine pure_ (i:=8) (N:=some 132) (v:=?_) (a':=?_) (bm_ 9 36) rfl rfl (any_of HT_.out jA) (fun _ _ _ h=>h) (Or.inl ⟨by rfl,?_⟩) ?_ ?_;rotate_left;exact jb;rotate_left;exact jc
             refine pure_ (i:=9) (N:=some 133) (v:=?_) (a':=?_) (bm_ 10 36) rfl rfl (any_of HT_.out jA) (fun _ _ _ h=>h) (Or.inl ⟨by rfl,?_⟩) ?_ ?_;rotate_left;exact jb;rotate_left;exact jc
             refine pure_ (i:=10) (N:=some 134) (v:=?_) (a':=?_) (bm_ 11 36) rfl rfl (any_of HT_.out jA) (fun _ _ _ h=>h) (Or.inl ⟨by rfl,?_⟩) ?_ ?_;rotate_left;exact jb;rotate_left;exact jc
             refine pure_ (i:=11) (N:=some 135) (v:=?_) (a':=?_) (bm_ 12 36) rfl rfl (any_of HT_.out jA) (fun _ _ _ h=>h) (Or.inl ⟨by rfl,?_⟩) ?_ ?_;rotate_left;exact jb;rotate_left;exact jc
             refine pure_ (i:=12) (N:=some 136) (v:=?_) (a':=?_) (bm_ 13 36) rfl rfl (any_of HT_.out jA) (fun _ _ _ h=>h) (Or.inl ⟨by rfl,?_⟩) ?_ ?_;rotate_left;exact jb;rotate_left;exact jc
             refine pure_ (i:=13) (N:=some 137) (v:=?_) (a':=?_) (bm_ 14 36) rfl rfl (any_of HT_.out jA) (fun _ _ _ h=>h) (Or.inl ⟨by rfl,?_⟩) ?_ ?_;rotate_left;exact jb;rotate_left;exact jc
             refine pure_ (i:=14) (N:=some 138) (v:=?_) (a':=?_) (bm_ 15 36) rfl rfl (any_of HT_.out jA) (fun _ _ _ h=>h) (Or.inl ⟨by rfl,?_⟩) ?_ ?_;rotate_left;exact jb;rotate_left;exact jc
             refine pure_ (i:=15) (N:=some 139) (v:=?_) (a':=?_) (bm_ 16 36) rfl rfl (any_of HT_.out jA) (fun _ _ _ h=>h) (Or.inl ⟨by rfl,?_⟩) ?_ ?_;rotate_left;exact jb;rotate_left;exact jc
             refine pure_ (i:=17) (N:=some 141) (v:=?_) (a':=?_) #[true,true,true,true,true,true,true,true,true,true,true,true,true,true,true,true,false,true,false,false,false,false,false,false,false,false,false,false,false,false,false,false,false,false,false,false] rfl rfl (any_of HT_.out jA) (fun _ _ _ h=>h) (Or.inl ⟨by rfl,?_⟩) ?_ ?_;rotate_left;exact jb;rotate_left;exact jc
             refine pure_ (i:=18) (N:=some 142) (v:=?_) (a':=?_) #[true,true,true,true,true,true,true,true,true,true,true,true,true,true,true,true,false,true,true,false,false,false,false,false,false,false,false,false,false,false,false,false,false,false,false,false] rfl rfl (any_of HT_.out jA) (fun _ _ _ h=>h) (Or.inl ⟨by rfl,?_⟩) ?_ ?_;rotate_left;exact jb;rotate_left;exact jc
             refine pure_ (i:=19) (N:=some 143) (v:=?_) (a':=?_) #[true,true,true,true,true,true,true,true,true,true,true,true,true,true,true,true,false,true,true,true,false,false,false,false,false,false,false,false,false,false,false,false,false,false,false,false] rfl rfl (any_of HT_.out jA) (fun _ _ _ h=>h) (Or.inl ⟨by rfl,?_⟩) ?_ ?_;rotate_left;exact jb;rotate_left;exact jc
             refine pure_ (i:=20) (N:=some 144) (v:=?_) (a':=?_) #[true,true,true,true,true,true,true,true,true,true,true,true,true,true,true,true,false,true,true,true,true,false,false,false,false,false,false,false,false,false,false,false,false,false,false,false] rfl rfl (any_of HT_.out jA) (fun _ _ _ h=>h) (Or.inl ⟨by rfl,?_⟩) ?_ ?_;rotate_left;exact jb;rotate_left;exact jc
             refine take_ (i:=16) (N:=some 140) (v:=?_) (a':=?_) (bm_ 21 36) rfl rfl (yo HT_.out HW_.out jA) (fun _ _ _ h=>h) (Or.inl ⟨by rfl,?_⟩) hHeld ?_ ?_;rotate_left
             ·
              rintro w' ⟨s0,s1,s2,s3,s4,s5,s6,s7,s8,s9,s10,s11,s12,s13,s14,s15⟩
              go_simp
              with_reducible rfl
             rotate_left
             exact jc
             refine take_ (i:=21) (N:=some 145) (v:=?_) (a':=?_) (bm_ 22 36) rfl rfl (yo HT_.out HW_.out jA) (fun _ _ _ h=>h) (Or.inl ⟨by rfl,?_⟩) hHeld ?_ ?_;rotate_left
             ·
              rintro w' ⟨s0,s1,s2,s3,s4,s5,s6,s7,s8,s9,s10,s11,s12,s13,s14,s15⟩
              go_simp
              with_reducible rfl
             rotate_left
             exact jc
             refine pure_ (i:=22) (N:=some 146) (v:=?_) (a':=?_) (bm_ 23 36) rfl rfl (any_of HT_.out jA) (fun _ _ _ h=>h) (Or.inl ⟨by rfl,?_⟩) ?_ ?_;rotate_left;exact jb;rotate_left;exact jc
             refine pure_ (i:=23) (N:=some 147) (v:=?_) (a':=?_) (bm_ 24 36) rfl rfl (any_of HT_.out jA) (fun _ _ _ h=>h) (Or.inl ⟨by rfl,?_⟩) ?_ ?_;rotate_left;exact jb;rotate_left;exact jc
             refine pure_ (i:=24) (N:=some 148) (v:=?_) (a':=?_) (bm_ 25 36) rfl rfl (any_of HT_.out jA) (fun _ _ _ h=>h) (Or.inl ⟨by rfl,?_⟩) ?_ ?_;rotate_left;exact jb;rotate_left;exact jc
             refine pure_ (i:=25) (N:=some 149) (v:=?_) (a':=?_) (bm_ 26 36) rfl rfl (any_of HT_.out jA) (fun _ _ _ h=>h) (Or.inl ⟨by rfl,?_⟩) ?_ ?_;rotate_left;exact jb;rotate_left;exact jc
             refine pure_ (i:=26) (N:=some 150) (v:=?_) (a':=?_) (bm_ 27 36) rfl rfl (any_of HT_.out jA) (fun _ _ _ h=>h) (Or.inl ⟨by rfl,?_⟩) ?_ ?_;rotate_left;exact jb;rotate_left;exact jc
             refine pure_ (i:=27) (N:=some 151) (v:=?_) (a':=?_) (bm_ 28 36) rfl rfl (any_of HT_.out jA) (fun _ _ _ h=>h) (Or.inl ⟨by rfl,?_⟩) ?_ ?_;rotate_left;exact jb;rotate_left;exact jc
             refine pure_ (i:=28) (N:=some 152) (v:=?_) (a':=?_) (bm_ 29 36) rfl rfl (any_of HT_.out jA) (fun _ _ _ h=>h) (Or.inl ⟨by rfl,?_⟩) ?_ ?_;rotate_left;exact jb;rotate_left;exact jc
             refine pure_ (i:=29) (N:=some 153) (v:=?_) (a':=?_) (bm_ 30 36) rfl rfl (any_of HT_.out jA) (fun _ _ _ h=>h) (Or.inl ⟨by rfl,?_⟩) ?_ ?_;rotate_left;exact jb;rotate_left;exact jc
             refine pure_ (i:=31) (N:=some 155) (v:=?_) (a':=?_) #[true,true,true,true,true,true,true,true,true,true,true,true,true,true,true,true,true,true,true,true,true,true,true,true,true,true,true,true,true,true,false,true,false,false,false,false] rfl rfl (any_of HT_.out jA) (fun _ _ _ h=>h) (Or.inl ⟨by rfl,?_⟩) ?_ ?_;rotate_left;exact jb;rotate_left;exact jc
             refine pure_ (i:=32) (N:=some 156) (v:=?_) (a':=?_) #[true,true,true,true,true,true,true,true,true,true,true,true,true,true,true,true,true,true,true,true,true,true,true,true,true,true,true,true,true,true,false,true,true,false,false,false] rfl rfl (any_of HT_.out jA) (fun _ _ _ h=>h) (Or.inl ⟨by rfl,?_⟩) ?_ ?_;rotate_left;exact jb;rotate_left;exact jc
             refine take_ (i:=30) (N:=some 154) (v:=?_) (a':=?_) (bm_ 33 36) rfl rfl (yo HT_.out HW_.out jA) (fun _ _ _ h=>h) (Or.inl ⟨by rfl,?_⟩) hHeld ?_ ?_;rotate_left
             ·
              rintro w' ⟨s0,s1,s2,s3,s4,s5,s6,s7,s8,s9,s10,s11,s12,s13,s14,s15⟩
              go_simp
              with_reducible rfl
             rotate_left
             exact jc
             refine one_ (i:=33) (N:=some 157) (bm_ 34 36) rfl rfl (one_of HT_.out jA) jC (fun K hK=>?_);refine goes_ Try.func42 jA rfl #[.agg #[.int .i64 ((rd_T68 t153 x10_2).f1.f0),.int .i64 ((rd_T68 t153 x10_2).f1.f1),.string ((rd_T68 t153 x10_2).f1.f2)],.int .i64 (wrap64 (a1 - 1))] (by rfl) rfl rfl jB ?_
             with_reducible refine (ih k2 jA3  ((rd_T68 t153 x10_2).f1.f0) ((rd_T68 t153 x10_2).f1.f1) ((rd_T68 t153 x10_2).f1.f2) (wrap64 (a1 - 1)) false _ A75.out).mono ?_
             rintro e w82 ⟨rfl,hb⟩;have HS0_:=(hb.cell (zl _ _ (hHeld.1))).trans (hHeld.1);have HS1_:=(hb.cell (zl _ _ (hHeld.2.1))).trans (hHeld.2.1);have HS2_:=(hb.cell (zl _ _ (hHeld.2.2.1))).trans (hHeld.2.2.1);have HS3_:=(hb.cell (zl _ _ (hHeld.2.2.2.1))).trans (hHeld.2.2.2.1);have HS4_:=(hb.cell (zl _ _ (hHeld.2.2.2.2.1))).trans (hHeld.2.2.2.2.1);have HS5_:=(hb.cell (zl _ _ (hHeld.2.2.2.2.2.1))).trans (hHeld.2.2.2.2.2.1);have HS6_:=(hb.cell (zl _ _ (hHeld.2.2.2.2.2.2.1))).trans (hHeld.2.2.2.2.2.2.1);have HS7_:=(hb.cell (zl _ _ (hHeld.2.2.2.2.2.2.2.1))).trans (hHeld.2.2.2.2.2.2.2.1);have HS8_:=(hb.cell (zl _ _ (hHeld.2.2.2.2.2.2.2.2.1))).trans (hHeld.2.2.2.2.2.2.2.2.1);have HS9_:=(hb.cell (zl _ _ (hHeld.2.2.2.2.2.2.2.2.2.1))).trans (hHeld.2.2.2.2.2.2.2.2.2.1);have HS10_:=(hb.cell (zl _ _ (hHeld.2.2.2.2.2.2.2.2.2.2.1))).trans (hHeld.2.2.2.2.2.2.2.2.2.2.1);have HS11_:=(hb.cell (zl _ _ (hHeld.2.2.2.2.2.2.2.2.2.2.2.1))).trans (hHeld.2.2.2.2.2.2.2.2.2.2.2.1);have HS12_:=(hb.cell (zl _ _ (hHeld.2.2.2.2.2.2.2.2.2.2.2.2.1))).trans (hHeld.2.2.2.2.2.2.2.2.2.2.2.2.1);have HS13_:=(hb.cell (zl _ _ (hHeld.2.2.2.2.2.2.2.2.2.2.2.2.2.1))).trans (hHeld.2.2.2.2.2.2.2.2.2.2.2.2.2.1);have HS14_:=(hb.cell (zl _ _ (hHeld.2.2.2.2.2.2.2.2.2.2.2.2.2.2.1))).trans (hHeld.2.2.2.2.2.2.2.2.2.2.2.2.2.2.1);have HS15_:=(hb.cell (zl _ _ (hHeld.2.2.2.2.2.2.2.2.2.2.2.2.2.2.2))).trans (hHeld.2.2.2.2.2.2.2.2.2.2.2.2.2.2.2);refine ⟨_,rfl,?_⟩;replace HO_8:=zh (yg jAq hb);replace BK144:=zh (cD BK144.out jn hb);replace HB:=zh (zC jO hb);(try clear hb);(try clear hb2);(try clear hk);(try clear hi);refine hK.out _ _ ⟨HS0_,HS1_,HS2_,HS3_,HS4_,HS5_,HS6_,HS7_,HS8_,HS9_,HS10_,HS11_,HS12_,HS13_,HS14_,HS15_⟩ (fun hHeld=>?_);clear hK K;refine norm_ (a':=?_) ?_ ?_;rotate_left
             ·
              show Act.put _ (some 157) _=_
              simp only [Act.put,zi,zj,zk,zG,zH]
              rfl
             refine pure_ (i:=34) (N:=some 158) (v:=?_) (a':=?_) (bm_ 35 36) rfl rfl (any_of HT_.out jA) (fun _ _ _ h=>h) (Or.inl ⟨by rfl,?_⟩) ?_ ?_;rotate_left;exact jb;rotate_left;exact jc
             refine pure_ (i:=35) (N:=some 159) (v:=?_) (a':=?_) (bm_ 36 36) rfl rfl (any_of HT_.out jA) (fun _ _ _ h=>h) (Or.inl ⟨by rfl,?_⟩) ?_ ?_;rotate_left;exact jb;rotate_left;exact jc
             refine done_ (done_of HT_.out jA) ?_
             try go_wp2
             go_ret
             exact ⟨jCW,jO⟩
            rw [if_neg c74] at H;have c74b0 : (Op.bytesLess (((rd_T68 t153 (ji71)).f0).toList) (((rd_T68 t153 x10_2).f0).toList))=false:=by simpa using c74
            clear c74;obtain rfl:=zU H;obtain ⟨Ao83,co83,eo83⟩:=yk HO_8.out;subst eo83
            try go_wp2
            replace HO_8:=zh (zo HO_8.out);replace BK144:=zh (zf BK144.out);replace HB:=zh (zc HB.out);have p157 : 0≤(x10_2 : Int):=zy jF;have q157 : x10_2<(t153.length : Int):=zy jF;obtain ⟨ad157,e157,hx157_0,hx157_1,hx157_2,hx157_3⟩:=at_T68 (yh HO_8.out).2.2 x10_2 p157 q157
            cases e157
            replace p157:=eq_true p157;replace q157:=eq_true q157;have p159 : 0≤((ji71) : Int):=zy jF;have q159 : (ji71)<(t153.length : Int):=zy jF;obtain ⟨ad159,e159,hx159_0,hx159_1,hx159_2,hx159_3⟩:=at_T68 (yh HO_8.out).2.2 (ji71) p159 q159;obtain rfl : ad157=ad159:=(by injection e159);replace p159:=eq_true p159;replace q159:=eq_true q159;have p160 : 0≤(x10_2 : Int):=zy jF;have q160 : x10_2<(t153.length : Int):=zy jF;obtain ⟨ad160,e160,hx160_0,hx160_1,hx160_2,hx160_3⟩:=at_T68 (yh HO_8.out).2.2 x10_2 p160 q160;obtain rfl : ad157=ad160:=(by injection e160);replace p160:=eq_true p160;replace q160:=eq_true q160;refine start_ (n:=36) (S:=fun w' => w'.cell? (ad157.add ((x10_2).toNat*4))=some (.string ((rd_T68 t153 x10_2).f0))∧w'.cell? ⟨(ad157.add ((x10_2).toNat*4)).block,(ad157.add ((x10_2).toNat*4)).off+1,none⟩=some (.int .i64 ((rd_T68 t153 x10_2).f1.f0))∧w'.cell? ⟨(ad157.add ((x10_2).toNat*4)).block,(ad157.add ((x10_2).toNat*4)).off+2,none⟩=some (.int .i64 ((rd_T68 t153 x10_2).f1.f1))∧w'.cell? ⟨(ad157.add ((x10_2).toNat*4)).block,(ad157.add ((x10_2).toNat*4)).off+3,none⟩=some (.string ((rd_T68 t153 x10_2).f1.f2))∧w'.cell? (ad157.add (((ji71)).toNat*4))=some (.string ((rd_T68 t153 (ji71)).f0))∧w'.cell? ⟨(ad157.add (((ji71)).toNat*4)).block,(ad157.add (((ji71)).toNat*4)).off+1,none⟩=some (.int .i64 ((rd_T68 t153 (ji71)).f1.f0))∧w'.cell? ⟨(ad157.add (((ji71)).toNat*4)).block,(ad157.add (((ji71)).toNat*4)).off+2,none⟩=some (.int .i64 ((rd_T68 t153 (ji71)).f1.f1))∧w'.cell? ⟨(ad157.add (((ji71)).toNat*4)).block,(ad157.add (((ji71)).toNat*4)).off+3,none⟩=some (.string ((rd_T68 t153 (ji71)).f1.f2))∧w'.cell? (ad157.add ((x10_2).toNat*4))=some (.string ((rd_T68 t153 x10_2).f0))∧w'.cell? ⟨(ad157.add ((x10_2).toNat*4)).block,(ad157.add ((x10_2).toNat*4)).off+1,none⟩=some (.int .i64 ((rd_T68 t153 x10_2).f1.f0))∧w'.cell? ⟨(ad157.add ((x10_2).toNat*4)).block,(ad157.add ((x10_2).toNat*4)).off+2,none⟩=some (.int .i64 ((rd_T68 t153 x10_2).f1.f1))∧w'.cell? ⟨(ad157.add ((x10_2).toNat*4)).block,(ad157.add ((x10_2).toNat*4)).off+3,none⟩=some (.string ((rd_T68 t153 x10_2).f1.f2))) (ds:=[]) (bm_ 0 36) jA rfl rfl ⟨hx157_0,hx157_1,hx157_2,hx157_3,hx159_0,hx159_1,hx159_2,hx159_3,hx160_0,hx160_1,hx160_2,hx160_3⟩ (fun hHeld=>?_);refine with_tabW F0.tab27 F0.bits27 (fun HT_ HW_=>?_);generalize wr.drew=w84 at HO_8 BK144 HB hx157_0 hx157_1 hx157_2 hx157_3 hx159_0 hx159_1 hx159_2 hx159_3 hx160_0 hx160_1 hx160_2 hx160_3 hHeld ⊢;refine pure_ (i:=0) (N:=some 124) (v:=?_) (a':=?_) (bm_ 1 36) rfl rfl (any_of HT_.out jA) (fun _ _ _ h=>h) (Or.inl ⟨by rfl,?_⟩) ?_ ?_;rotate_left;exact jb;rotate_left;exact jc
            refine pure_ (i:=1) (N:=some 125) (v:=?_) (a':=?_) (bm_ 2 36) rfl rfl (any_of HT_.out jA) (fun _ _ _ h=>h) (Or.inl ⟨by rfl,?_⟩) ?_ ?_;rotate_left;exact jb;rotate_left;exact jc
            refine pure_ (i:=2) (N:=some 126) (v:=?_) (a':=?_) (bm_ 3 36) rfl rfl (any_of HT_.out jA) (fun _ _ _ h=>h) (Or.inl ⟨by rfl,?_⟩) ?_ ?_;rotate_left;exact jb;rotate_left;exact jc
            refine pure_ (i:=3) (N:=some 127) (v:=?_) (a':=?_) (bm_ 4 36) rfl rfl (any_of HT_.out jA) (fun _ _ _ h=>h) (Or.inl ⟨by rfl,?_⟩) ?_ ?_;rotate_left;exact jb;rotate_left;exact jc
            refine take_ (i:=4) (N:=some 128) (v:=?_) (a':=?_) (bm_ 5 36) rfl rfl (yo HT_.out HW_.out jA) (fun _ _ _ h=>h) (Or.inl ⟨by rfl,?_⟩) hHeld ?_ ?_;rotate_left
            ·
             rintro w' ⟨s0,s1,s2,s3,s4,s5,s6,s7,s8,s9,s10,s11⟩
             go_simp
             with_reducible rfl
            rotate_left
            exact jc
            refine one_ (i:=5) (N:=some 129) (bm_ 6 36) rfl rfl (one_of HT_.out jA) jC (fun K hK=>?_);refine goes_ Try.func67 jA rfl #[.string ((rd_T68 t153 x10_2).f0)] (by rfl) rfl rfl jB ?_
            with_reducible refine (F0k.calls k2  ((rd_T68 t153 x10_2).f0) true _ A68.out).mono ?_
            rintro e w' ⟨rfl,⟨nd,rfl⟩⟩;refine ⟨_,rfl,?_⟩;refine hK.out _ _ ⟨hHeld.1,hHeld.2.1,hHeld.2.2.1,hHeld.2.2.2.1,hHeld.2.2.2.2.1,hHeld.2.2.2.2.2.1,hHeld.2.2.2.2.2.2.1,hHeld.2.2.2.2.2.2.2.1,hHeld.2.2.2.2.2.2.2.2.1,hHeld.2.2.2.2.2.2.2.2.2.1,hHeld.2.2.2.2.2.2.2.2.2.2.1,hHeld.2.2.2.2.2.2.2.2.2.2.2⟩ (fun hHeld=>?_);clear hK K;refine norm_ (a':=?_) ?_ ?_;rotate_left
            ·
             show Act.put _ (some 129) _=_
             simp only [Act.put,zi,zj,zk,zG,zH]
             rfl
            refine pure_ (i:=6) (N:=some 130) (v:=?_) (a':=?_) (bm_ 7 36) rfl rfl (any_of HT_.out jA) (fun _ _ _ h=>h) (Or.inl ⟨by rfl,?_⟩) ?_ ?_;rotate_left;exact jb;rotate_left;exact jc
            refine pure_ (i:=7) (N:=some 131) (v:=?_) (a':=?_) (bm_ 8 36) rfl rfl (any_of HT_.out jA) (fun _ _ _ h=>h) (Or.inl ⟨by rfl,?_⟩) ?_ ?_;rotate_left;exact jb;rotate_left;exact jc
            refine pure_ (i:=8) (N:=some 132) (v:=?_) (a':=?_) (bm_ 9 36) rfl rfl (any_of HT_.out jA) (fun _ _ _ h=>h) (Or.inl ⟨by rfl,?_⟩) ?_ ?_;rotate_left;exact jb;rotate_left;exact jc
            refine pure_ (i:=9) (N:=some 133) (v:=?_) (a':=?_) (bm_ 10 36) rfl rfl (any_of HT_.out jA) (fun _ _ _ h=>h) (Or.inl ⟨by rfl,?_⟩) ?_ ?_;rotate_left;exact jb;rotate_left;exact jc
            refine pure_ (i:=10) (N:=some 134) (v:=?_) (a':=?_) (bm_ 11 36) rfl rfl (any_of HT_.out jA) (fun _ _ _ h=>h) (Or.inl ⟨by rfl,?_⟩) ?_ ?_;rotate_left;exact jb;rotate_left;exact jc
            refine pure_ (i:=11) (N:=some 135) (v:=?_) (a':=?_) (bm_ 12 36) rfl rfl (any_of HT_.out jA) (fun _ _ _ h=>h) (Or.inl ⟨by rfl,?_⟩) ?_ ?_;rotate_left;exact jb;rotate_left;exact jc
            refine pure_ (i:=12) (N:=some 136) (v:=?_) (a':=?_) (bm_ 13 36) rfl rfl (any_of HT_.out jA) (fun _ _ _ h=>h) (Or.inl ⟨by rfl,?_⟩) ?_ ?_;rotate_left;exact jb;rotate_left;exact jc
            refine pure_ (i:=13) (N:=some 137) (v:=?_) (a':=?_) (bm_ 14 36) rfl rfl (any_of HT_.out jA) (fun _ _ _ h=>h) (Or.inl ⟨by rfl,?_⟩) ?_ ?_;rotate_left;exact jb;rotate_left;exact jc
            refine pure_ (i:=14) (N:=some 138) (v:=?_) (a':=?_) (bm_ 15 36) rfl rfl (any_of HT_.out jA) (fun _ _ _ h=>h) (Or.inl ⟨by rfl,?_⟩) ?_ ?_;rotate_left;exact jb;rotate_left;exact jc
            refine pure_ (i:=15) (N:=some 139) (v:=?_) (a':=?_) (bm_ 16 36) rfl rfl (any_of HT_.out jA) (fun _ _ _ h=>h) (Or.inl ⟨by rfl,?_⟩) ?_ ?_;rotate_left;exact jb;rotate_left;exact jc
            refine pure_ (i:=17) (N:=some 141) (v:=?_) (a':=?_) #[true,true,true,true,true,true,true,true,true,true,true,true,true,true,true,true,false,true,false,false,false,false,false,false,false,false,false,false,false,false,false,false,false,false,false,false] rfl rfl (any_of HT_.out jA) (fun _ _ _ h=>h) (Or.inl ⟨by rfl,?_⟩) ?_ ?_;rotate_left;exact jb;rotate_left;exact jc
            refine pure_ (i:=18) (N:=some 142) (v:=?_) (a':=?_) #[true,true,true,true,true,true,true,true,true,true,true,true,true,true,true,true,false,true,true,false,false,false,false,false,false,false,false,false,false,false,false,false,false,false,false,false] rfl rfl (any_of HT_.out jA) (fun _ _ _ h=>h) (Or.inl ⟨by rfl,?_⟩) ?_ ?_;rotate_left;exact jb;rotate_left;exact jc
            refine pure_ (i:=19) (N:=some 143) (v:=?_) (a':=?_) #[true,true,true,true,true,true,true,true,true,true,true,true,true,true,true,true,false,true,true,true,false,false,false,false,false,false,false,false,false,false,false,false,false,false,false,false] rfl rfl (any_of HT_.out jA) (fun _ _ _ h=>h) (Or.inl ⟨by rfl,?_⟩) ?_ ?_;rotate_left;exact jb;rotate_left;exact jc
            refine pure_ (i:=20) (N:=some 144) (v:=?_) (a':=?_) #[true,true,true,true,true,true,true,true,true,true,true,true,true,true,true,true,false,true,true,true,true,false,false,false,false,false,false,false,false,false,false,false,false,false,false,false] rfl rfl (any_of HT_.out jA) (fun _ _ _ h=>h) (Or.inl ⟨by rfl,?_⟩) ?_ ?_;rotate_left;exact jb;rotate_left;exact jc
            refine take_ (i:=16) (N:=some 140) (v:=?_) (a':=?_) (bm_ 21 36) rfl rfl (yo HT_.out HW_.out jA) (fun _ _ _ h=>h) (Or.inl ⟨by rfl,?_⟩) hHeld ?_ ?_;rotate_left
            ·
             rintro w' ⟨s0,s1,s2,s3,s4,s5,s6,s7,s8,s9,s10,s11⟩
             go_simp
             with_reducible rfl
            rotate_left
            exact jc
            refine take_ (i:=21) (N:=some 145) (v:=?_) (a':=?_) (bm_ 22 36) rfl rfl (yo HT_.out HW_.out jA) (fun _ _ _ h=>h) (Or.inl ⟨by rfl,?_⟩) hHeld ?_ ?_;rotate_left
            ·
             rintro w' ⟨s0,s1,s2,s3,s4,s5,s6,s7,s8,s9,s10,s11⟩
             go_simp
             with_reducible rfl
            rotate_left
            exact jc
            refine pure_ (i:=22) (N:=some 146) (v:=?_) (a':=?_) (bm_ 23 36) rfl rfl (any_of HT_.out jA) (fun _ _ _ h=>h) (Or.inl ⟨by rfl,?_⟩) ?_ ?_;rotate_left;exact jb;rotate_left;exact jc
            refine pure_ (i:=23) (N:=some 147) (v:=?_) (a':=?_) (bm_ 24 36) rfl rfl (any_of HT_.out jA) (fun _ _ _ h=>h) (Or.inl ⟨by rfl,?_⟩) ?_ ?_;rotate_left;exact jb;rotate_left;exact jc
            refine pure_ (i:=24) (N:=some 148) (v:=?_) (a':=?_) (bm_ 25 36) rfl rfl (any_of HT_.out jA) (fun _ _ _ h=>h) (Or.inl ⟨by rfl,?_⟩) ?_ ?_;rotate_left;exact jb;rotate_left;exact jc
            refine pure_ (i:=25) (N:=some 149) (v:=?_) (a':=?_) (bm_ 26 36) rfl rfl (any_of HT_.out jA) (fun _ _ _ h=>h) (Or.inl ⟨by rfl,?_⟩) ?_ ?_;rotate_left;exact jb;rotate_left;exact jc
            refine pure_ (i:=26) (N:=some 150) (v:=undef) (a':=?_) (bm_ 27 36) rfl rfl (any_of HT_.out jA) (fun _ _ _ h=>h) (Or.inr ⟨by rfl,rfl⟩) ?_ ?_;rotate_left
            exact jc
            refine pure_ (i:=27) (N:=some 151) (v:=undef) (a':=?_) (bm_ 28 36) rfl rfl (any_of HT_.out jA) (fun _ _ _ h=>h) (Or.inr ⟨by rfl,rfl⟩) ?_ ?_;rotate_left
            exact jc
            refine pure_ (i:=28) (N:=some 152) (v:=undef) (a':=?_) (bm_ 29 36) rfl rfl (any_of HT_.out jA) (fun _ _ _ h=>h) (Or.inr ⟨by rfl,rfl⟩) ?_ ?_;rotate_left
            exact jc
            refine pure_ (i:=29) (N:=some 153) (v:=undef) (a':=?_) (bm_ 30 36) rfl rfl (any_of HT_.out jA) (fun _ _ _ h=>h) (Or.inr ⟨by rfl,rfl⟩) ?_ ?_;rotate_left
            exact jc
            refine pure_ (i:=30) (N:=some 154) (v:=undef) (a':=?_) (bm_ 31 36) rfl rfl (any_of HT_.out jA) (fun _ _ _ h=>h) (Or.inr ⟨by rfl,rfl⟩) ?_ ?_;rotate_left
            exact jc
            refine pure_ (i:=31) (N:=some 155) (v:=undef) (a':=?_) (bm_ 32 36) rfl rfl (any_of HT_.out jA) (fun _ _ _ h=>h) (Or.inr ⟨by rfl,rfl⟩) ?_ ?_;rotate_left
            exact jc
            refine pure_ (i:=32) (N:=some 156) (v:=undef) (a':=?_) (bm_ 33 36) rfl rfl (any_of HT_.out jA) (fun _ _ _ h=>h) (Or.inr ⟨by rfl,rfl⟩) ?_ ?_;rotate_left
            exact jc
            refine pure_ (i:=33) (N:=some 157) (v:=undef) (a':=?_) (bm_ 34 36) rfl rfl (any_of HT_.out jA) (fun _ _ _ h=>h) (Or.inr ⟨by rfl,rfl⟩) ?_ ?_;rotate_left
            exact jc
            refine pure_ (i:=34) (N:=some 158) (v:=undef) (a':=?_) (bm_ 35 36) rfl rfl (any_of HT_.out jA) (fun _ _ _ h=>h) (Or.inr ⟨by rfl,rfl⟩) ?_ ?_;rotate_left
            exact jc
            refine pure_ (i:=35) (N:=some 159) (v:=?_) (a':=?_) (bm_ 36 36) rfl rfl (any_of HT_.out jA) (fun _ _ _ h=>h) (Or.inl ⟨by rfl,?_⟩) ?_ ?_;rotate_left;exact jb;rotate_left;exact jc
            refine done_ (done_of HT_.out jA) ?_
            try go_wp2
            go_ret
            exact ⟨jCW,jO⟩
           rw [if_neg c73] at H;exact absurd H (by simp)
          rw [if_neg c72] at H;exact absurd H (by simp)
         rw [if_neg c70] at H;have c70b0 : decide (0<x10_2)=false:=decide_eq_false c70;clear c70;replace H:=zT.mp H;obtain ⟨t164,A850,H⟩:=H;have A85:=zh A850;clear A850
         by_cases c86 : t164=true
         ·
          subst c86
          rw [if_pos rfl] at H;have H':=zh H;clear H;obtain ⟨Ao87,co87,eo87⟩:=yk HO_8.out;subst eo87
          try go_wp2
          replace HO_8:=zh (zo HO_8.out);replace BK144:=zh (zf BK144.out);replace HB:=zh (zc HB.out);have p157 : 0≤(x10_2 : Int):=zy jF;have q157 : x10_2<(t153.length : Int):=zy jF;obtain ⟨ad157,e157,hx157_0,hx157_1,hx157_2,hx157_3⟩:=at_T68 (yh HO_8.out).2.2 x10_2 p157 q157
          cases e157
          replace p157:=eq_true p157;replace q157:=eq_true q157;have p163 : 0≤(x10_2 : Int):=zy jF;have q163 : x10_2<(t153.length : Int):=zy jF;obtain ⟨ad163,e163,hx163_0,hx163_1,hx163_2,hx163_3⟩:=at_T68 (yh HO_8.out).2.2 x10_2 p163 q163;obtain rfl : ad157=ad163:=(by injection e163);replace p163:=eq_true p163;replace q163:=eq_true q163;refine start_ (n:=36) (S:=fun w' => w'.cell? (ad157.add ((x10_2).toNat*4))=some (.string ((rd_T68 t153 x10_2).f0))∧w'.cell? ⟨(ad157.add ((x10_2).toNat*4)).block,(ad157.add ((x10_2).toNat*4)).off+1,none⟩=some (.int .i64 ((rd_T68 t153 x10_2).f1.f0))∧w'.cell? ⟨(ad157.add ((x10_2).toNat*4)).block,(ad157.add ((x10_2).toNat*4)).off+2,none⟩=some (.int .i64 ((rd_T68 t153 x10_2).f1.f1))∧w'.cell? ⟨(ad157.add ((x10_2).toNat*4)).block,(ad157.add ((x10_2).toNat*4)).off+3,none⟩=some (.string ((rd_T68 t153 x10_2).f1.f2))∧w'.cell? (ad157.add ((x10_2).toNat*4))=some (.string ((rd_T68 t153 x10_2).f0))∧w'.cell? ⟨(ad157.add ((x10_2).toNat*4)).block,(ad157.add ((x10_2).toNat*4)).off+1,none⟩=some (.int .i64 ((rd_T68 t153 x10_2).f1.f0))∧w'.cell? ⟨(ad157.add ((x10_2).toNat*4)).block,(ad157.add ((x10_2).toNat*4)).off+2,none⟩=some (.int .i64 ((rd_T68 t153 x10_2).f1.f1))∧w'.cell? ⟨(ad157.add ((x10_2).toNat*4)).block,(ad157.add ((x10_2).toNat*4)).off+3,none⟩=some (.string ((rd_T68 t153 x10_2).f1.f2))) (ds:=[]) (bm_ 0 36) jA rfl rfl ⟨hx157_0,hx157_1,hx157_2,hx157_3,hx163_0,hx163_1,hx163_2,hx163_3⟩ (fun hHeld=>?_);refine with_tabW F0.tab27 F0.bits27 (fun HT_ HW_=>?_);generalize wr.drew=w88 at HO_8 BK144 HB hx157_0 hx157_1 hx157_2 hx157_3 hx163_0 hx163_1 hx163_2 hx163_3 hHeld ⊢;refine pure_ (i:=0) (N:=some 124) (v:=?_) (a':=?_) (bm_ 1 36) rfl rfl (any_of HT_.out jA) (fun _ _ _ h=>h) (Or.inl ⟨by rfl,?_⟩) ?_ ?_;rotate_left;exact jb;rotate_left;exact jc
          refine pure_ (i:=1) (N:=some 125) (v:=?_) (a':=?_) (bm_ 2 36) rfl rfl (any_of HT_.out jA) (fun _ _ _ h=>h) (Or.inl ⟨by rfl,?_⟩) ?_ ?_;rotate_left;exact jb;rotate_left;exact jc
          refine pure_ (i:=2) (N:=some 126) (v:=?_) (a':=?_) (bm_ 3 36) rfl rfl (any_of HT_.out jA) (fun _ _ _ h=>h) (Or.inl ⟨by rfl,?_⟩) ?_ ?_;rotate_left;exact jb;rotate_left;exact jc
          refine pure_ (i:=3) (N:=some 127) (v:=?_) (a':=?_) (bm_ 4 36) rfl rfl (any_of HT_.out jA) (fun _ _ _ h=>h) (Or.inl ⟨by rfl,?_⟩) ?_ ?_;rotate_left;exact jb;rotate_left;exact jc
          refine take_ (i:=4) (N:=some 128) (v:=?_) (a':=?_) (bm_ 5 36) rfl rfl (yo HT_.out HW_.out jA) (fun _ _ _ h=>h) (Or.inl ⟨by rfl,?_⟩) hHeld ?_ ?_;rotate_left
          ·
           rintro w' ⟨s0,s1,s2,s3,s4,s5,s6,s7⟩
           go_simp
           with_reducible rfl
          rotate_left
          exact jc
          refine one_ (i:=5) (N:=some 129) (bm_ 6 36) rfl rfl (one_of HT_.out jA) jC (fun K hK=>?_);refine goes_ Try.func67 jA rfl #[.string ((rd_T68 t153 x10_2).f0)] (by rfl) rfl rfl jB ?_
          with_reducible refine (F0k.calls k2  ((rd_T68 t153 x10_2).f0) true _ A68.out).mono ?_
          rintro e w' ⟨rfl,⟨nd,rfl⟩⟩;refine ⟨_,rfl,?_⟩;refine hK.out _ _ ⟨hHeld.1,hHeld.2.1,hHeld.2.2.1,hHeld.2.2.2.1,hHeld.2.2.2.2.1,hHeld.2.2.2.2.2.1,hHeld.2.2.2.2.2.2.1,hHeld.2.2.2.2.2.2.2⟩ (fun hHeld=>?_);clear hK K;refine norm_ (a':=?_) ?_ ?_;rotate_left
          ·
           show Act.put _ (some 129) _=_
           simp only [Act.put,zi,zj,zk,zG,zH]
           rfl
          refine pure_ (i:=6) (N:=some 130) (v:=?_) (a':=?_) (bm_ 7 36) rfl rfl (any_of HT_.out jA) (fun _ _ _ h=>h) (Or.inl ⟨by rfl,?_⟩) ?_ ?_;rotate_left;exact jb;rotate_left;exact jc
          refine pure_ (i:=7) (N:=some 131) (v:=?_) (a':=?_) (bm_ 8 36) rfl rfl (any_of HT_.out jA) (fun _ _ _ h=>h) (Or.inl ⟨by rfl,?_⟩) ?_ ?_;rotate_left;exact jb;rotate_left;exact jc
          refine pure_ (i:=8) (N:=some 132) (v:=?_) (a':=?_) (bm_ 9 36) rfl rfl (any_of HT_.out jA) (fun _ _ _ h=>h) (Or.inl ⟨by rfl,?_⟩) ?_ ?_;rotate_left;exact jb;rotate_left;exact jc
          refine pure_ (i:=9) (N:=some 133) (v:=?_) (a':=?_) (bm_ 10 36) rfl rfl (any_of HT_.out jA) (fun _ _ _ h=>h) (Or.inl ⟨by rfl,?_⟩) ?_ ?_;rotate_left;exact jb;rotate_left;exact jc
          refine pure_ (i:=10) (N:=some 134) (v:=?_) (a':=?_) (bm_ 11 36) rfl rfl (any_of HT_.out jA) (fun _ _ _ h=>h) (Or.inl ⟨by rfl,?_⟩) ?_ ?_;rotate_left;exact jb;rotate_left;exact jc
          refine pure_ (i:=11) (N:=some 135) (v:=undef) (a':=?_) (bm_ 12 36) rfl rfl (any_of HT_.out jA) (fun _ _ _ h=>h) (Or.inr ⟨by rfl,rfl⟩) ?_ ?_;rotate_left
          exact jc
          refine pure_ (i:=12) (N:=some 136) (v:=undef) (a':=?_) (bm_ 13 36) rfl rfl (any_of HT_.out jA) (fun _ _ _ h=>h) (Or.inr ⟨by rfl,rfl⟩) ?_ ?_;rotate_left
          exact jc
          refine pure_ (i:=13) (N:=some 137) (v:=undef) (a':=?_) (bm_ 14 36) rfl rfl (any_of HT_.out jA) (fun _ _ _ h=>h) (Or.inr ⟨by rfl,rfl⟩) ?_ ?_;rotate_left
          exact jc
          refine pure_ (i:=14) (N:=some 138) (v:=undef) (a':=?_) (bm_ 15 36) rfl rfl (any_of HT_.out jA) (fun _ _ _ h=>h) (Or.inr ⟨by rfl,rfl⟩) ?_ ?_;rotate_left
          exact jc
          refine pure_ (i:=15) (N:=some 139) (v:=undef) (a':=?_) (bm_ 16 36) rfl rfl (any_of HT_.out jA) (fun _ _ _ h=>h) (Or.inr ⟨by rfl,rfl⟩) ?_ ?_;rotate_left
          exact jc
          refine pure_ (i:=16) (N:=some 140) (v:=undef) (a':=?_) (bm_ 17 36) rfl rfl (any_of HT_.out jA) (fun _ _ _ h=>h) (Or.inr ⟨by rfl,rfl⟩) ?_ ?_;rotate_left
          exact jc
          refine pure_ (i:=17) (N:=some 141) (v:=undef) (a':=?_) (bm_ 18 36) rfl rfl (any_of HT_.out jA) (fun _ _ _ h=>h) (Or.inr ⟨by rfl,rfl⟩) ?_ ?_;rotate_left
          exact jc
          refine pure_ (i:=18) (N:=some 142) (v:=undef) (a':=?_) (bm_ 19 36) rfl rfl (any_of HT_.out jA) (fun _ _ _ h=>h) (Or.inr ⟨by rfl,rfl⟩) ?_ ?_;rotate_left
          exact jc
          refine pure_ (i:=19) (N:=some 143) (v:=undef) (a':=?_) (bm_ 20 36) rfl rfl (any_of HT_.out jA) (fun _ _ _ h=>h) (Or.inr ⟨by rfl,rfl⟩) ?_ ?_;rotate_left
          exact jc
          refine pure_ (i:=20) (N:=some 144) (v:=undef) (a':=?_) (bm_ 21 36) rfl rfl (any_of HT_.out jA) (fun _ _ _ h=>h) (Or.inr ⟨by rfl,rfl⟩) ?_ ?_;rotate_left
          exact jc
          refine pure_ (i:=21) (N:=some 145) (v:=undef) (a':=?_) (bm_ 22 36) rfl rfl (any_of HT_.out jA) (fun _ _ _ h=>h) (Or.inr ⟨by rfl,rfl⟩) ?_ ?_;rotate_left
          exact jc
          refine pure_ (i:=22) (N:=some 146) (v:=undef) (a':=?_) (bm_ 23 36) rfl rfl (any_of HT_.out jA) (fun _ _ _ h=>h) (Or.inr ⟨by rfl,rfl⟩) ?_ ?_;rotate_left
          exact jc
          refine pure_ (i:=23) (N:=some 147) (v:=?_) (a':=?_) (bm_ 24 36) rfl rfl (any_of HT_.out jA) (fun _ _ _ h=>h) (Or.inl ⟨by rfl,?_⟩) ?_ ?_;rotate_left;exact jb;rotate_left;exact jc
          refine pure_ (i:=24) (N:=some 148) (v:=?_) (a':=?_) (bm_ 25 36) rfl rfl (any_of HT_.out jA) (fun _ _ _ h=>h) (Or.inl ⟨by rfl,?_⟩) ?_ ?_;rotate_left;exact jb;rotate_left;exact jc
          refine pure_ (i:=25) (N:=some 149) (v:=?_) (a':=?_) (bm_ 26 36) rfl rfl (any_of HT_.out jA) (fun _ _ _ h=>h) (Or.inl ⟨by rfl,?_⟩) ?_ ?_;rotate_left;exact jb;rotate_left;exact jc
          refine pure_ (i:=26) (N:=some 150) (v:=?_) (a':=?_) (bm_ 27 36) rfl rfl (any_of HT_.out jA) (fun _ _ _ h=>h) (Or.inl ⟨by rfl,?_⟩) ?_ ?_;rotate_left;exact jb;rotate_left;exact jc
          refine pure_ (i:=27) (N:=some 151) (v:=?_) (a':=?_) (bm_ 28 36) rfl rfl (any_of HT_.out jA) (fun _ _ _ h=>h) (Or.inl ⟨by rfl,?_⟩) ?_ ?_;rotate_left;exact jb;rotate_left;exact jc
          refine pure_ (i:=28) (N:=some 152) (v:=?_) (a':=?_) (bm_ 29 36) rfl rfl (any_of HT_.out jA) (fun _ _ _ h=>h) (Or.inl ⟨by rfl,?_⟩) ?_ ?_;rotate_left;exact jb;rotate_left;exact jc
          refine pure_ (i:=29) (N:=some 153) (v:=?_) (a':=?_) (bm_ 30 36) rfl rfl (any_of HT_.out jA) (fun _ _ _ h=>h) (Or.inl ⟨by rfl,?_⟩) ?_ ?_;rotate_left;exact jb;rotate_left;exact jc
          refine pure_ (i:=31) (N:=some 155) (v:=?_) (a':=?_) #[true,true,true,true,true,true,true,true,true,true,true,true,true,true,true,true,true,true,true,true,true,true,true,true,true,true,true,true,true,true,false,true,false,false,false,false] rfl rfl (any_of HT_.out jA) (fun _ _ _ h=>h) (Or.inl ⟨by rfl,?_⟩) ?_ ?_;rotate_left;exact jb;rotate_left;exact jc
          refine pure_ (i:=32) (N:=some 156) (v:=?_) (a':=?_) #[true,true,true,true,true,true,true,true,true,true,true,true,true,true,true,true,true,true,true,true,true,true,true,true,true,true,true,true,true,true,false,true,true,false,false,false] rfl rfl (any_of HT_.out jA) (fun _ _ _ h=>h) (Or.inl ⟨by rfl,?_⟩) ?_ ?_;rotate_left;exact jb;rotate_left;exact jc
          refine take_ (i:=30) (N:=some 154) (v:=?_) (a':=?_) (bm_ 33 36) rfl rfl (yo HT_.out HW_.out jA) (fun _ _ _ h=>h) (Or.inl ⟨by rfl,?_⟩) hHeld ?_ ?_;rotate_left
          ·
           rintro w' ⟨s0,s1,s2,s3,s4,s5,s6,s7⟩
           go_simp
           with_reducible rfl
          rotate_left
          exact jc
          refine one_ (i:=33) (N:=some 157) (bm_ 34 36) rfl rfl (one_of HT_.out jA) jC (fun K hK=>?_);refine goes_ Try.func42 jA rfl #[.agg #[.int .i64 ((rd_T68 t153 x10_2).f1.f0),.int .i64 ((rd_T68 t153 x10_2).f1.f1),.string ((rd_T68 t153 x10_2).f1.f2)],.int .i64 (wrap64 (a1 - 1))] (by rfl) rfl rfl jB ?_
          with_reducible refine (ih k2 jA3  ((rd_T68 t153 x10_2).f1.f0) ((rd_T68 t153 x10_2).f1.f1) ((rd_T68 t153 x10_2).f1.f2) (wrap64 (a1 - 1)) true _ A85.out).mono ?_
          rintro e w89 ⟨rfl,hb⟩;have HS0_:=(hb.cell (zl _ _ (hHeld.1))).trans (hHeld.1);have HS1_:=(hb.cell (zl _ _ (hHeld.2.1))).trans (hHeld.2.1);have HS2_:=(hb.cell (zl _ _ (hHeld.2.2.1))).trans (hHeld.2.2.1);have HS3_:=(hb.cell (zl _ _ (hHeld.2.2.2.1))).trans (hHeld.2.2.2.1);have HS4_:=(hb.cell (zl _ _ (hHeld.2.2.2.2.1))).trans (hHeld.2.2.2.2.1);have HS5_:=(hb.cell (zl _ _ (hHeld.2.2.2.2.2.1))).trans (hHeld.2.2.2.2.2.1);have HS6_:=(hb.cell (zl _ _ (hHeld.2.2.2.2.2.2.1))).trans (hHeld.2.2.2.2.2.2.1);have HS7_:=(hb.cell (zl _ _ (hHeld.2.2.2.2.2.2.2))).trans (hHeld.2.2.2.2.2.2.2);refine ⟨_,rfl,?_⟩;replace HO_8:=zh (yg jAq hb);replace BK144:=zh (cD BK144.out jn hb);replace HB:=zh (zC jO hb);(try clear hb);(try clear hb2);(try clear hk);(try clear hi);refine hK.out _ _ ⟨HS0_,HS1_,HS2_,HS3_,HS4_,HS5_,HS6_,HS7_⟩ (fun hHeld=>?_);clear hK K;refine norm_ (a':=?_) ?_ ?_;rotate_left
          ·
           show Act.put _ (some 157) _=_
           simp only [Act.put,zi,zj,zk,zG,zH]
           rfl
          refine pure_ (i:=34) (N:=some 158) (v:=?_) (a':=?_) (bm_ 35 36) rfl rfl (any_of HT_.out jA) (fun _ _ _ h=>h) (Or.inl ⟨by rfl,?_⟩) ?_ ?_;rotate_left;exact jb;rotate_left;exact jc
          refine pure_ (i:=35) (N:=some 159) (v:=?_) (a':=?_) (bm_ 36 36) rfl rfl (any_of HT_.out jA) (fun _ _ _ h=>h) (Or.inl ⟨by rfl,?_⟩) ?_ ?_;rotate_left;exact jb;rotate_left;exact jc
          refine done_ (done_of HT_.out jA) ?_
          try go_wp2
          go_roundg k2
          case measure=>have:=HJ53.out;have:=HK2.out;omega
          case rel=>exact ⟨(wrap64 (x10_2+1)),jE,H',⟨jA3⟩,⟨jAq⟩,⟨jn⟩,⟨jO⟩⟩
         replace c86:=yb.mpr c86;subst c86;rw [if_neg (show ¬ (false=true) by decide)] at H;obtain rfl:=zU H;obtain ⟨Ao90,co90,eo90⟩:=yk HO_8.out;subst eo90
         try go_wp2
         replace HO_8:=zh (zo HO_8.out);replace BK144:=zh (zf BK144.out);replace HB:=zh (zc HB.out);have p157 : 0≤(x10_2 : Int):=zy jF;have q157 : x10_2<(t153.length : Int):=zy jF;obtain ⟨ad157,e157,hx157_0,hx157_1,hx157_2,hx157_3⟩:=at_T68 (yh HO_8.out).2.2 x10_2 p157 q157
         cases e157
         replace p157:=eq_true p157;replace q157:=eq_true q157;have p163 : 0≤(x10_2 : Int):=zy jF;have q163 : x10_2<(t153.length : Int):=zy jF;obtain ⟨ad163,e163,hx163_0,hx163_1,hx163_2,hx163_3⟩:=at_T68 (yh HO_8.out).2.2 x10_2 p163 q163;obtain rfl : ad157=ad163:=(by injection e163);replace p163:=eq_true p163;replace q163:=eq_true q163;refine start_ (n:=36) (S:=fun w' => w'.cell? (ad157.add ((x10_2).toNat*4))=some (.string ((rd_T68 t153 x10_2).f0))∧w'.cell? ⟨(ad157.add ((x10_2).toNat*4)).block,(ad157.add ((x10_2).toNat*4)).off+1,none⟩=some (.int .i64 ((rd_T68 t153 x10_2).f1.f0))∧w'.cell? ⟨(ad157.add ((x10_2).toNat*4)).block,(ad157.add ((x10_2).toNat*4)).off+2,none⟩=some (.int .i64 ((rd_T68 t153 x10_2).f1.f1))∧w'.cell? ⟨(ad157.add ((x10_2).toNat*4)).block,(ad157.add ((x10_2).toNat*4)).off+3,none⟩=some (.string ((rd_T68 t153 x10_2).f1.f2))∧w'.cell? (ad157.add ((x10_2).toNat*4))=some (.string ((rd_T68 t153 x10_2).f0))∧w'.cell? ⟨(ad157.add ((x10_2).toNat*4)).block,(ad157.add ((x10_2).toNat*4)).off+1,none⟩=some (.int .i64 ((rd_T68 t153 x10_2).f1.f0))∧w'.cell? ⟨(ad157.add ((x10_2).toNat*4)).block,(ad157.add ((x10_2).toNat*4)).off+2,none⟩=some (.int .i64 ((rd_T68 t153 x10_2).f1.f1))∧w'.cell? ⟨(ad157.add ((x10_2).toNat*4)).block,(ad157.add ((x10_2).toNat*4)).off+3,none⟩=some (.string ((rd_T68 t153 x10_2).f1.f2))) (ds:=[]) (bm_ 0 36) jA rfl rfl ⟨hx157_0,hx157_1,hx157_2,hx157_3,hx163_0,hx163_1,hx163_2,hx163_3⟩ (fun hHeld=>?_);refine with_tabW F0.tab27 F0.bits27 (fun HT_ HW_=>?_);generalize wr.drew=w91 at HO_8 BK144 HB hx157_0 hx157_1 hx157_2 hx157_3 hx163_0 hx163_1 hx163_2 hx163_3 hHeld ⊢;refine pure_ (i:=0) (N:=some 124) (v:=?_) (a':=?_) (bm_ 1 36) rfl rfl (any_of HT_.out jA) (fun _ _ _ h=>h) (Or.inl ⟨by rfl,?_⟩) ?_ ?_;rotate_left;exact jb;rotate_left;exact jc
         refine pure_ (i:=1) (N:=some 125) (v:=?_) (a':=?_) (bm_ 2 36) rfl rfl (any_of HT_.out jA) (fun _ _ _ h=>h) (Or.inl ⟨by rfl,?_⟩) ?_ ?_;rotate_left;exact jb;rotate_left;exact jc
         refine pure_ (i:=2) (N:=some 126) (v:=?_) (a':=?_) (bm_ 3 36) rfl rfl (any_of HT_.out jA) (fun _ _ _ h=>h) (Or.inl ⟨by rfl,?_⟩) ?_ ?_;rotate_left;exact jb;rotate_left;exact jc
         refine pure_ (i:=3) (N:=some 127) (v:=?_) (a':=?_) (bm_ 4 36) rfl rfl (any_of HT_.out jA) (fun _ _ _ h=>h) (Or.inl ⟨by rfl,?_⟩) ?_ ?_;rotate_left;exact jb;rotate_left;exact jc
         refine take_ (i:=4) (N:=some 128) (v:=?_) (a':=?_) (bm_ 5 36) rfl rfl (yo HT_.out HW_.out jA) (fun _ _ _ h=>h) (Or.inl ⟨by rfl,?_⟩) hHeld ?_ ?_;rotate_left
         ·
          rintro w' ⟨s0,s1,s2,s3,s4,s5,s6,s7⟩
          go_simp
          with_reducible rfl
         rotate_left
         exact jc
         refine one_ (i:=5) (N:=some 129) (bm_ 6 36) rfl rfl (one_of HT_.out jA) jC (fun K hK=>?_);refine goes_ Try.func67 jA rfl #[.string ((rd_T68 t153 x10_2).f0)] (by rfl) rfl rfl jB ?_
         with_reducible refine (F0k.calls k2  ((rd_T68 t153 x10_2).f0) true _ A68.out).mono ?_
         rintro e w' ⟨rfl,⟨nd,rfl⟩⟩;refine ⟨_,rfl,?_⟩;refine hK.out _ _ ⟨hHeld.1,hHeld.2.1,hHeld.2.2.1,hHeld.2.2.2.1,hHeld.2.2.2.2.1,hHeld.2.2.2.2.2.1,hHeld.2.2.2.2.2.2.1,hHeld.2.2.2.2.2.2.2⟩ (fun hHeld=>?_);clear hK K;refine norm_ (a':=?_) ?_ ?_;rotate_left
         ·
          show Act.put _ (some 129) _=_
          simp only [Act.put,zi,zj,zk,zG,zH]
          rfl
         refine pure_ (i:=6) (N:=some 130) (v:=?_) (a':=?_) (bm_ 7 36) rfl rfl (any_of HT_.out jA) (fun _ _ _ h=>h) (Or.inl ⟨by rfl,?_⟩) ?_ ?_;rotate_left;exact jb;rotate_left;exact jc
         refine pure_ (i:=7) (N:=some 131) (v:=?_) (a':=?_) (bm_ 8 36) rfl rfl (any_of HT_.out jA) (fun _ _ _ h=>h) (Or.inl ⟨by rfl,?_⟩) ?_ ?_;rotate_left;exact jb;rotate_left;exact jc
         refine pure_ (i:=8) (N:=some 132) (v:=?_) (a':=?_) (bm_ 9 36) rfl rfl (any_of HT_.out jA) (fun _ _ _ h=>h) (Or.inl ⟨by rfl,?_⟩) ?_ ?_;rotate_left;exact jb;rotate_left;exact jc
         refine pure_ (i:=9) (N:=some 133) (v:=?_) (a':=?_) (bm_ 10 36) rfl rfl (any_of HT_.out jA) (fun _ _ _ h=>h) (Or.inl ⟨by rfl,?_⟩) ?_ ?_;rotate_left;exact jb;rotate_left;exact jc
         refine pure_ (i:=10) (N:=some 134) (v:=?_) (a':=?_) (bm_ 11 36) rfl rfl (any_of HT_.out jA) (fun _ _ _ h=>h) (Or.inl ⟨by rfl,?_⟩) ?_ ?_;rotate_left;exact jb;rotate_left;exact jc
         refine pure_ (i:=11) (N:=some 135) (v:=undef) (a':=?_) (bm_ 12 36) rfl rfl (any_of HT_.out jA) (fun _ _ _ h=>h) (Or.inr ⟨by rfl,rfl⟩) ?_ ?_;rotate_left
         exact jc
         refine pure_ (i:=12) (N:=some 136) (v:=undef) (a':=?_) (bm_ 13 36) rfl rfl (any_of HT_.out jA) (fun _ _ _ h=>h) (Or.inr ⟨by rfl,rfl⟩) ?_ ?_;rotate_left
         exact jc
         refine pure_ (i:=13) (N:=some 137) (v:=undef) (a':=?_) (bm_ 14 36) rfl rfl (any_of HT_.out jA) (fun _ _ _ h=>h) (Or.inr ⟨by rfl,rfl⟩) ?_ ?_;rotate_left
         exact jc
         refine pure_ (i:=14) (N:=some 138) (v:=undef) (a':=?_) (bm_ 15 36) rfl rfl (any_of HT_.out jA) (fun _ _ _ h=>h) (Or.inr ⟨by rfl,rfl⟩) ?_ ?_;rotate_left
         exact jc
         refine pure_ (i:=15) (N:=some 139) (v:=undef) (a':=?_) (bm_ 16 36) rfl rfl (any_of HT_.out jA) (fun _ _ _ h=>h) (Or.inr ⟨by rfl,rfl⟩) ?_ ?_;rotate_left
         exact jc
         refine pure_ (i:=16) (N:=some 140) (v:=undef) (a':=?_) (bm_ 17 36) rfl rfl (any_of HT_.out jA) (fun _ _ _ h=>h) (Or.inr ⟨by rfl,rfl⟩) ?_ ?_;rotate_left
         exact jc
         refine pure_ (i:=17) (N:=some 141) (v:=undef) (a':=?_) (bm_ 18 36) rfl rfl (any_of HT_.out jA) (fun _ _ _ h=>h) (Or.inr ⟨by rfl,rfl⟩) ?_ ?_;rotate_left
         exact jc
         refine pure_ (i:=18) (N:=some 142) (v:=undef) (a':=?_) (bm_ 19 36) rfl rfl (any_of HT_.out jA) (fun _ _ _ h=>h) (Or.inr ⟨by rfl,rfl⟩) ?_ ?_;rotate_left
         exact jc
         refine pure_ (i:=19) (N:=some 143) (v:=undef) (a':=?_) (bm_ 20 36) rfl rfl (any_of HT_.out jA) (fun _ _ _ h=>h) (Or.inr ⟨by rfl,rfl⟩) ?_ ?_;rotate_left
         exact jc
         refine pure_ (i:=20) (N:=some 144) (v:=undef) (a':=?_) (bm_ 21 36) rfl rfl (any_of HT_.out jA) (fun _ _ _ h=>h) (Or.inr ⟨by rfl,rfl⟩) ?_ ?_;rotate_left
         exact jc
         refine pure_ (i:=21) (N:=some 145) (v:=undef) (a':=?_) (bm_ 22 36) rfl rfl (any_of HT_.out jA) (fun _ _ _ h=>h) (Or.inr ⟨by rfl,rfl⟩) ?_ ?_;rotate_left
         exact jc
         refine pure_ (i:=22) (N:=some 146) (v:=undef) (a':=?_) (bm_ 23 36) rfl rfl (any_of HT_.out jA) (fun _ _ _ h=>h) (Or.inr ⟨by rfl,rfl⟩) ?_ ?_;rotate_left
         exact jc
         refine pure_ (i:=23) (N:=some 147) (v:=?_) (a':=?_) (bm_ 24 36) rfl rfl (any_of HT_.out jA) (fun _ _ _ h=>h) (Or.inl ⟨by rfl,?_⟩) ?_ ?_;rotate_left;exact jb;rotate_left;exact jc
         refine pure_ (i:=24) (N:=some 148) (v:=?_) (a':=?_) (bm_ 25 36) rfl rfl (any_of HT_.out jA) (fun _ _ _ h=>h) (Or.inl ⟨by rfl,?_⟩) ?_ ?_;rotate_left;exact jb;rotate_left;exact jc
         refine pure_ (i:=25) (N:=some 149) (v:=?_) (a':=?_) (bm_ 26 36) rfl rfl (any_of HT_.out jA) (fun _ _ _ h=>h) (Or.inl ⟨by rfl,?_⟩) ?_ ?_;rotate_left;exact jb;rotate_left;exact jc
         refine pure_ (i:=26) (N:=some 150) (v:=?_) (a':=?_) (bm_ 27 36) rfl rfl (any_of HT_.out jA) (fun _ _ _ h=>h) (Or.inl ⟨by rfl,?_⟩) ?_ ?_;rotate_left;exact jb;rotate_left;exact jc
         refine pure_ (i:=27) (N:=some 151) (v:=?_) (a':=?_) (bm_ 28 36) rfl rfl (any_of HT_.out jA) (fun _ _ _ h=>h) (Or.inl ⟨by rfl,?_⟩) ?_ ?_;rotate_left;exact jb;rotate_left;exact jc
         refine pure_ (i:=28) (N:=some 152) (v:=?_) (a':=?_) (bm_ 29 36) rfl rfl (any_of HT_.out jA) (fun _ _ _ h=>h) (Or.inl ⟨by rfl,?_⟩) ?_ ?_;rotate_left;exact jb;rotate_left;exact jc
         refine pure_ (i:=29) (N:=some 153) (v:=?_) (a':=?_) (bm_ 30 36) rfl rfl (any_of HT_.out jA) (fun _ _ _ h=>h) (Or.inl ⟨by rfl,?_⟩) ?_ ?_;rotate_left;exact jb;rotate_left;exact jc
         refine pure_ (i:=31) (N:=some 155) (v:=?_) (a':=?_) #[true,true,true,true,true,true,true,true,true,true,true,true,true,true,true,true,true,true,true,true,true,true,true,true,true,true,true,true,true,true,false,true,false,false,false,false] rfl rfl (any_of HT_.out jA) (fun _ _ _ h=>h) (Or.inl ⟨by rfl,?_⟩) ?_ ?_;rotate_left;exact jb;rotate_left;exact jc
         refine pure_ (i:=32) (N:=some 156) (v:=?_) (a':=?_) #[true,true,true,true,true,true,true,true,true,true,true,true,true,true,true,true,true,true,true,true,true,true,true,true,true,true,true,true,true,true,false,true,true,false,false,false] rfl rfl (any_of HT_.out jA) (fun _ _ _ h=>h) (Or.inl ⟨by rfl,?_⟩) ?_ ?_;rotate_left;exact jb;rotate_left;exact jc
         refine take_ (i:=30) (N:=some 154) (v:=?_) (a':=?_) (bm_ 33 36) rfl rfl (yo HT_.out HW_.out jA) (fun _ _ _ h=>h) (Or.inl ⟨by rfl,?_⟩) hHeld ?_ ?_;rotate_left
         ·
          rintro w' ⟨s0,s1,s2,s3,s4,s5,s6,s7⟩
          go_simp
          with_reducible rfl
         rotate_left
         exact jc
         refine one_ (i:=33) (N:=some 157) (bm_ 34 36) rfl rfl (one_of HT_.out jA) jC (fun K hK=>?_);refine goes_ Try.func42 jA rfl #[.agg #[.int .i64 ((rd_T68 t153 x10_2).f1.f0),.int .i64 ((rd_T68 t153 x10_2).f1.f1),.string ((rd_T68 t153 x10_2).f1.f2)],.int .i64 (wrap64 (a1 - 1))] (by rfl) rfl rfl jB ?_
         with_reducible refine (ih k2 jA3  ((rd_T68 t153 x10_2).f1.f0) ((rd_T68 t153 x10_2).f1.f1) ((rd_T68 t153 x10_2).f1.f2) (wrap64 (a1 - 1)) false _ A85.out).mono ?_
         rintro e w92 ⟨rfl,hb⟩;have HS0_:=(hb.cell (zl _ _ (hHeld.1))).trans (hHeld.1);have HS1_:=(hb.cell (zl _ _ (hHeld.2.1))).trans (hHeld.2.1);have HS2_:=(hb.cell (zl _ _ (hHeld.2.2.1))).trans (hHeld.2.2.1);have HS3_:=(hb.cell (zl _ _ (hHeld.2.2.2.1))).trans (hHeld.2.2.2.1);have HS4_:=(hb.cell (zl _ _ (hHeld.2.2.2.2.1))).trans (hHeld.2.2.2.2.1);have HS5_:=(hb.cell (zl _ _ (hHeld.2.2.2.2.2.1))).trans (hHeld.2.2.2.2.2.1);have HS6_:=(hb.cell (zl _ _ (hHeld.2.2.2.2.2.2.1))).trans (hHeld.2.2.2.2.2.2.1);have HS7_:=(hb.cell (zl _ _ (hHeld.2.2.2.2.2.2.2))).trans (hHeld.2.2.2.2.2.2.2);refine ⟨_,rfl,?_⟩;replace HO_8:=zh (yg jAq hb);replace BK144:=zh (cD BK144.out jn hb);replace HB:=zh (zC jO hb);(try clear hb);(try clear hb2);(try clear hk);(try clear hi);refine hK.out _ _ ⟨HS0_,HS1_,HS2_,HS3_,HS4_,HS5_,HS6_,HS7_⟩ (fun hHeld=>?_);clear hK K;refine norm_ (a':=?_) ?_ ?_;rotate_left
         ·
          show Act.put _ (some 157) _=_
          simp only [Act.put,zi,zj,zk,zG,zH]
          rfl
         refine pure_ (i:=34) (N:=some 158) (v:=?_) (a':=?_) (bm_ 35 36) rfl rfl (any_of HT_.out jA) (fun _ _ _ h=>h) (Or.inl ⟨by rfl,?_⟩) ?_ ?_;rotate_left;exact jb;rotate_left;exact jc
         refine pure_ (i:=35) (N:=some 159) (v:=?_) (a':=?_) (bm_ 36 36) rfl rfl (any_of HT_.out jA) (fun _ _ _ h=>h) (Or.inl ⟨by rfl,?_⟩) ?_ ?_;rotate_left;exact jb;rotate_left;exact jc
         refine done_ (done_of HT_.out jA) ?_
         try go_wp2
         go_ret
         exact ⟨jG,jO⟩
        replace c69:=yb.mpr c69;subst c69;rw [if_neg (show ¬ (false=true) by decide)] at H;obtain rfl:=zU H;obtain ⟨Ao93,co93,eo93⟩:=yk HO_8.out;subst eo93
        try go_wp2
        replace HO_8:=zh (zo HO_8.out);replace BK144:=zh (zf BK144.out);replace HB:=zh (zc HB.out);have p157 : 0≤(x10_2 : Int):=zy jF;have q157 : x10_2<(t153.length : Int):=zy jF;obtain ⟨ad157,e157,hx157_0,hx157_1,hx157_2,hx157_3⟩:=at_T68 (yh HO_8.out).2.2 x10_2 p157 q157
        cases e157
        replace p157:=eq_true p157;replace q157:=eq_true q157;refine start_ (n:=36) (S:=fun w' => w'.cell? (ad157.add ((x10_2).toNat*4))=some (.string ((rd_T68 t153 x10_2).f0))∧w'.cell? ⟨(ad157.add ((x10_2).toNat*4)).block,(ad157.add ((x10_2).toNat*4)).off+1,none⟩=some (.int .i64 ((rd_T68 t153 x10_2).f1.f0))∧w'.cell? ⟨(ad157.add ((x10_2).toNat*4)).block,(ad157.add ((x10_2).toNat*4)).off+2,none⟩=some (.int .i64 ((rd_T68 t153 x10_2).f1.f1))∧w'.cell? ⟨(ad157.add ((x10_2).toNat*4)).block,(ad157.add ((x10_2).toNat*4)).off+3,none⟩=some (.string ((rd_T68 t153 x10_2).f1.f2))) (ds:=[]) (bm_ 0 36) jA rfl rfl ⟨hx157_0,hx157_1,hx157_2,hx157_3⟩ (fun hHeld=>?_);refine with_tabW F0.tab27 F0.bits27 (fun HT_ HW_=>?_);generalize wr.drew=w94 at HO_8 BK144 HB hx157_0 hx157_1 hx157_2 hx157_3 hHeld ⊢;refine pure_ (i:=0) (N:=some 124) (v:=?_) (a':=?_) (bm_ 1 36) rfl rfl (any_of HT_.out jA) (fun _ _ _ h=>h) (Or.inl ⟨by rfl,?_⟩) ?_ ?_;rotate_left;exact jb;rotate_left;exact jc
        refine pure_ (i:=1) (N:=some 125) (v:=?_) (a':=?_) (bm_ 2 36) rfl rfl (any_of HT_.out jA) (fun _ _ _ h=>h) (Or.inl ⟨by rfl,?_⟩) ?_ ?_;rotate_left;exact jb;rotate_left;exact jc
        refine pure_ (i:=2) (N:=some 126) (v:=?_) (a':=?_) (bm_ 3 36) rfl rfl (any_of HT_.out jA) (fun _ _ _ h=>h) (Or.inl ⟨by rfl,?_⟩) ?_ ?_;rotate_left;exact jb;rotate_left;exact jc
        refine pure_ (i:=3) (N:=some 127) (v:=?_) (a':=?_) (bm_ 4 36) rfl rfl (any_of HT_.out jA) (fun _ _ _ h=>h) (Or.inl ⟨by rfl,?_⟩) ?_ ?_;rotate_left;exact jb;rotate_left;exact jc
        refine take_ (i:=4) (N:=some 128) (v:=?_) (a':=?_) (bm_ 5 36) rfl rfl (yo HT_.out HW_.out jA) (fun _ _ _ h=>h) (Or.inl ⟨by rfl,?_⟩) hHeld ?_ ?_;rotate_left
        ·
         rintro w' ⟨s0,s1,s2,s3⟩
         go_simp
         with_reducible rfl
        rotate_left
        exact jc
        refine one_ (i:=5) (N:=some 129) (bm_ 6 36) rfl rfl (one_of HT_.out jA) jC (fun K hK=>?_);refine goes_ Try.func67 jA rfl #[.string ((rd_T68 t153 x10_2).f0)] (by rfl) rfl rfl jB ?_
        with_reducible refine (F0k.calls k2  ((rd_T68 t153 x10_2).f0) false _ A68.out).mono ?_
        rintro e w' ⟨rfl,⟨nd,rfl⟩⟩;refine ⟨_,rfl,?_⟩;refine hK.out _ _ ⟨hHeld.1,hHeld.2.1,hHeld.2.2.1,hHeld.2.2.2⟩ (fun hHeld=>?_);clear hK K;refine norm_ (a':=?_) ?_ ?_;rotate_left
        ·
         show Act.put _ (some 129) _=_
         simp only [Act.put,zi,zj,zk,zG,zH]
         rfl
        refine pure_ (i:=6) (N:=some 130) (v:=?_) (a':=?_) (bm_ 7 36) rfl rfl (any_of HT_.out jA) (fun _ _ _ h=>h) (Or.inl ⟨by rfl,?_⟩) ?_ ?_;rotate_left;exact jb;rotate_left;exact jc
        refine pure_ (i:=7) (N:=some 131) (v:=?_) (a':=?_) (bm_ 8 36) rfl rfl (any_of HT_.out jA) (fun _ _ _ h=>h) (Or.inl ⟨by rfl,?_⟩) ?_ ?_;rotate_left;exact jb;rotate_left;exact jc
        refine pure_ (i:=8) (N:=some 132) (v:=undef) (a':=?_) (bm_ 9 36) rfl rfl (any_of HT_.out jA) (fun _ _ _ h=>h) (Or.inr ⟨by rfl,rfl⟩) ?_ ?_;rotate_left
        exact jc
        refine pure_ (i:=9) (N:=some 133) (v:=undef) (a':=?_) (bm_ 10 36) rfl rfl (any_of HT_.out jA) (fun _ _ _ h=>h) (Or.inr ⟨by rfl,rfl⟩) ?_ ?_;rotate_left
        exact jc
        refine pure_ (i:=10) (N:=some 134) (v:=undef) (a':=?_) (bm_ 11 36) rfl rfl (any_of HT_.out jA) (fun _ _ _ h=>h) (Or.inr ⟨by rfl,rfl⟩) ?_ ?_;rotate_left
        exact jc
        refine pure_ (i:=11) (N:=some 135) (v:=undef) (a':=?_) (bm_ 12 36) rfl rfl (any_of HT_.out jA) (fun _ _ _ h=>h) (Or.inr ⟨by rfl,rfl⟩) ?_ ?_;rotate_left
        exact jc
        refine pure_ (i:=12) (N:=some 136) (v:=undef) (a':=?_) (bm_ 13 36) rfl rfl (any_of HT_.out jA) (fun _ _ _ h=>h) (Or.inr ⟨by rfl,rfl⟩) ?_ ?_;rotate_left
        exact jc
        refine pure_ (i:=13) (N:=some 137) (v:=undef) (a':=?_) (bm_ 14 36) rfl rfl (any_of HT_.out jA) (fun _ _ _ h=>h) (Or.inr ⟨by rfl,rfl⟩) ?_ ?_;rotate_left
        exact jc
        refine pure_ (i:=14) (N:=some 138) (v:=undef) (a':=?_) (bm_ 15 36) rfl rfl (any_of HT_.out jA) (fun _ _ _ h=>h) (Or.inr ⟨by rfl,rfl⟩) ?_ ?_;rotate_left
        exact jc
        refine pure_ (i:=15) (N:=some 139) (v:=undef) (a':=?_) (bm_ 16 36) rfl rfl (any_of HT_.out jA) (fun _ _ _ h=>h) (Or.inr ⟨by rfl,rfl⟩) ?_ ?_;rotate_left
        exact jc
        refine pure_ (i:=16) (N:=some 140) (v:=undef) (a':=?_) (bm_ 17 36) rfl rfl (any_of HT_.out jA) (fun _ _ _ h=>h) (Or.inr ⟨by rfl,rfl⟩) ?_ ?_;rotate_left
        exact jc
        refine pure_ (i:=17) (N:=some 141) (v:=undef) (a':=?_) (bm_ 18 36) rfl rfl (any_of HT_.out jA) (fun _ _ _ h=>h) (Or.inr ⟨by rfl,rfl⟩) ?_ ?_;rotate_left
        exact jc
        refine pure_ (i:=18) (N:=some 142) (v:=undef) (a':=?_) (bm_ 19 36) rfl rfl (any_of HT_.out jA) (fun _ _ _ h=>h) (Or.inr ⟨by rfl,rfl⟩) ?_ ?_;rotate_left
        exact jc
        refine pure_ (i:=19) (N:=some 143) (v:=undef) (a':=?_) (bm_ 20 36) rfl rfl (any_of HT_.out jA) (fun _ _ _ h=>h) (Or.inr ⟨by rfl,rfl⟩) ?_ ?_;rotate_left
        exact jc
        refine pure_ (i:=20) (N:=some 144) (v:=undef) (a':=?_) (bm_ 21 36) rfl rfl (any_of HT_.out jA) (fun _ _ _ h=>h) (Or.inr ⟨by rfl,rfl⟩) ?_ ?_;rotate_left
        exact jc
        refine pure_ (i:=21) (N:=some 145) (v:=undef) (a':=?_) (bm_ 22 36) rfl rfl (any_of HT_.out jA) (fun _ _ _ h=>h) (Or.inr ⟨by rfl,rfl⟩) ?_ ?_;rotate_left
        exact jc
        refine pure_ (i:=22) (N:=some 146) (v:=undef) (a':=?_) (bm_ 23 36) rfl rfl (any_of HT_.out jA) (fun _ _ _ h=>h) (Or.inr ⟨by rfl,rfl⟩) ?_ ?_;rotate_left
        exact jc
        refine pure_ (i:=23) (N:=some 147) (v:=undef) (a':=?_) (bm_ 24 36) rfl rfl (any_of HT_.out jA) (fun _ _ _ h=>h) (Or.inr ⟨by rfl,rfl⟩) ?_ ?_;rotate_left
        exact jc
        refine pure_ (i:=24) (N:=some 148) (v:=?_) (a':=?_) (bm_ 25 36) rfl rfl (any_of HT_.out jA) (fun _ _ _ h=>h) (Or.inl ⟨by rfl,?_⟩) ?_ ?_;rotate_left;exact jb;rotate_left;exact jc
        refine pure_ (i:=25) (N:=some 149) (v:=?_) (a':=?_) (bm_ 26 36) rfl rfl (any_of HT_.out jA) (fun _ _ _ h=>h) (Or.inl ⟨by rfl,?_⟩) ?_ ?_;rotate_left;exact jb;rotate_left;exact jc
        refine pure_ (i:=26) (N:=some 150) (v:=undef) (a':=?_) (bm_ 27 36) rfl rfl (any_of HT_.out jA) (fun _ _ _ h=>h) (Or.inr ⟨by rfl,rfl⟩) ?_ ?_;rotate_left
        exact jc
        refine pure_ (i:=27) (N:=some 151) (v:=undef) (a':=?_) (bm_ 28 36) rfl rfl (any_of HT_.out jA) (fun _ _ _ h=>h) (Or.inr ⟨by rfl,rfl⟩) ?_ ?_;rotate_left
        exact jc
        refine pure_ (i:=28) (N:=some 152) (v:=undef) (a':=?_) (bm_ 29 36) rfl rfl (any_of HT_.out jA) (fun _ _ _ h=>h) (Or.inr ⟨by rfl,rfl⟩) ?_ ?_;rotate_left
        exact jc
        refine pure_ (i:=29) (N:=some 153) (v:=undef) (a':=?_) (bm_ 30 36) rfl rfl (any_of HT_.out jA) (fun _ _ _ h=>h) (Or.inr ⟨by rfl,rfl⟩) ?_ ?_;rotate_left
        exact jc
        refine pure_ (i:=30) (N:=some 154) (v:=undef) (a':=?_) (bm_ 31 36) rfl rfl (any_of HT_.out jA) (fun _ _ _ h=>h) (Or.inr ⟨by rfl,rfl⟩) ?_ ?_;rotate_left
        exact jc
        refine pure_ (i:=31) (N:=some 155) (v:=undef) (a':=?_) (bm_ 32 36) rfl rfl (any_of HT_.out jA) (fun _ _ _ h=>h) (Or.inr ⟨by rfl,rfl⟩) ?_ ?_;rotate_left
        exact jc
        refine pure_ (i:=32) (N:=some 156) (v:=undef) (a':=?_) (bm_ 33 36) rfl rfl (any_of HT_.out jA) (fun _ _ _ h=>h) (Or.inr ⟨by rfl,rfl⟩) ?_ ?_;rotate_left
        exact jc
        refine pure_ (i:=33) (N:=some 157) (v:=undef) (a':=?_) (bm_ 34 36) rfl rfl (any_of HT_.out jA) (fun _ _ _ h=>h) (Or.inr ⟨by rfl,rfl⟩) ?_ ?_;rotate_left
        exact jc
        refine pure_ (i:=34) (N:=some 158) (v:=undef) (a':=?_) (bm_ 35 36) rfl rfl (any_of HT_.out jA) (fun _ _ _ h=>h) (Or.inr ⟨by rfl,rfl⟩) ?_ ?_;rotate_left
        exact jc
        refine pure_ (i:=35) (N:=some 159) (v:=?_) (a':=?_) (bm_ 36 36) rfl rfl (any_of HT_.out jA) (fun _ _ _ h=>h) (Or.inl ⟨by rfl,?_⟩) ?_ ?_;rotate_left;exact jb;rotate_left;exact jc
        refine done_ (done_of HT_.out jA) ?_
        try go_wp2
        go_ret
        exact ⟨jG,jO⟩
       rw [if_neg c67] at H;exact absurd H (by simp)
      rw [if_neg c66] at H;have c66b0 : decide (x10_2<(t153.length : Int))=false:=decide_eq_false c66;clear c66;obtain rfl:=zU H;obtain ⟨Ao95,co95,eo95⟩:=yk HO_8.out;subst eo95
      go_wp2
      go_ret
      exact ⟨jG,jO⟩
 rw [if_neg c52] at H;have c52b0 : (a0_0 == 5)=false:=zY.mpr c52;have c52b1 : (a0_0 != 5)=true:=zZ.mpr c52;obtain rfl:=zU H
 go_enter Try.func42,Try.ntmps42
 go_wp2_with (first|((with_reducible refine zK (N:=2) rfl ?_);(try (refine yz (by rfl) ?_;dsimp only));refine zI ?hg (N:=2) ?hd (cs:=#[.int .i64 a0_0,.int .i64 a0_1,.string a0_2]) (t:=24) ?hr ?_;(case hd=>rfl);(case hg=>rfl);(case hr=>go_simp <;> rfl);intro gb144 hg w96 hbox hb;have BK144:=zh (hbox);have hH_:=cH jD hb hg;have GW144:=zh hH_.1;have GE144:=GW144;replace HB:=zh hH_.2;clear hb hbox hg hH_;obtain ⟨hcz97_0,hcz97_1,hcz97_2,hfz97_0,hfz97_1,hfz97_2⟩:=cB3 BK144.out))
 go_ret
 exact ⟨jG,jO⟩

end Go.Proofs.Ytdjnplkpahgnmaa.Q
end
section
namespace Go.Proofs.Ytdjnplkpahgnmaa.Q
open Go.RowKit Go.Proofs.YtdjnplkpahgnmaaW.PrintWords Go.Proofs.YtdjnplkpahgnmaaW.PrintLast Go.Proofs.YtdjnplkpahgnmaaW.PrintMore
attribute [local go_sem] max2_int min2_int max_two min_two max_three min_three max_four min_four max2_str min2_str str_geq str_gtr str_leq
set_option linter.unusedVariables false
set_option linter.unusedSimpArgs false

def F0b.f (k : Nat) (a0_0 : Int) (a0_1 : Int) (a0_2 : ByteArray) : Option (Bool):=if (a0_2.size : Int)≤65536 then ((F0.f k a0_0 a0_1 a0_2 5).bind fun t166=>(some t166)) else (some false)
theorem F0b.mono : ∀ a0 a1 a2 k,LeO (F0b.f k a0 a1 a2) (F0b.f (k+1) a0 a1 a2):=by
 intro a0 a1 a2 k;unfold F0b.f
 repeat' first|(with_reducible first|exact F0.mono _ _ _ _ _|exact zQ _|exact zN _|refine zP ?_ ?_|refine zO ?_ (fun _=>?_))|refine zP ?_ ?_|refine zO ?_ (fun _=>?_)
set_option maxHeartbeats 8000000 in
set_option maxRecDepth 100000 in
theorem F0b.calls (k : Nat) (a0_0 : Int) (a0_1 : Int) (a0_2 : ByteArray) (r : Bool) (w : World) (h : F0b.f k a0_0 a0_1 a0_2=some r) :
  Calls Try.prog 16 #[.agg #[.int .i64 a0_0,.int .i64 a0_1,.string a0_2]] w fun e w' => e = .returned (.bool r)∧Below w.heap.size w w':=by
 have hu24:=Try.underlying24;have HB:=zh (Below.refl w.heap.size w);have H : (if (a0_2.size : Int)≤65536 then ((F0.f k a0_0 a0_1 a0_2 5).bind fun t166=>(some t166)) else (some false))=some r:=h;clear h
 by_cases c2 : (a0_2.size : Int)≤65536
 ·
  rw [if_pos c2] at H
  have c2b0 : decide ((a0_2.size : Int)≤65536)=true:=decide_eq_true c2;have c2b1 : decide (a0_2.size≤65536)=true:=decide_eq_true jH;clear c2;replace H:=zT.mp H;obtain ⟨t166,A30,H⟩:=H;have A3:=zh A30;clear A30;obtain rfl:=zU H
  go_enter Try.func16,Try.ntmps16
  go_wp2_with (first|((with_reducible refine zK (N:=1) rfl ?_);refine zI ?hg (N:=1) ?hd (cs:=#[.int .i64 a0_0,.int .i64 a0_1,.string a0_2]) (t:=24) ?hr ?_;(case hd=>rfl);(case hg=>rfl);(case hr=>go_simp <;> rfl);intro gb165 hg w4 hbox hb;have BK165:=zh (hbox);have hH_:=cH jD hb hg;have GW165:=zh hH_.1;have GE165:=GW165;replace HB:=zh hH_.2;clear hb hbox hg hH_;obtain ⟨hcz5_0,hcz5_1,hcz5_2,hfz5_0,hfz5_1,hfz5_2⟩:=cB3 BK165.out)|(go_at_call 42;(with_reducible refine (F0.calls k  a0_0 a0_1 a0_2 5 t166 _ A3.out).mono ?_);rintro e w6 ⟨rfl,hb⟩;replace BK165:=zh (cD BK165.out (by (with_reducible repeat first|apply ze|apply zf|apply zg);exact BK165.out) hb);replace HB:=zh (zC jBq hb);(try clear hb);(try clear hb2);(try clear hk);(try clear hi)))
  go_ret
  exact ⟨jG,jBq⟩
 rw [if_neg c2] at H;have c2b0 : decide ((a0_2.size : Int)≤65536)=false:=decide_eq_false c2;have c2b1 : decide (a0_2.size≤65536)=false:=decide_eq_false jH;clear c2;obtain rfl:=zU H
 go_enter Try.func16,Try.ntmps16
 go_wp2_with (first|((with_reducible refine zK (N:=1) rfl ?_);refine zI ?hg (N:=1) ?hd (cs:=#[.int .i64 a0_0,.int .i64 a0_1,.string a0_2]) (t:=24) ?hr ?_;(case hd=>rfl);(case hg=>rfl);(case hr=>go_simp <;> rfl);intro gb165 hg w7 hbox hb;have BK165:=zh (hbox);have hH_:=cH jD hb hg;have GW165:=zh hH_.1;have GE165:=GW165;replace HB:=zh hH_.2;clear hb hbox hg hH_;obtain ⟨hcz8_0,hcz8_1,hcz8_2,hfz8_0,hfz8_1,hfz8_2⟩:=cB3 BK165.out))
 go_ret
 exact ⟨jG,jBq⟩


def Fi.f (s0_0 : List Int) (s0_1 : Int) (s0_2 : Int) : Option (Int×Int×Int):=if (wrap64 (s0_1+1))≤(s0_0.length : Int) then (if 0≤(wrap64 ((wrap64 (s0_1+1)) - 1)) then (if (wrap64 ((wrap64 (s0_1+1)) - 1))<(s0_0.length : Int) then (some (wrap64 (rd s0_0 (wrap64 ((wrap64 (s0_1+1)) - 1))),wrap64 (s0_1+1),Int.tmod (wrap64 ((wrap64 ((wrap64 (s0_2*31))+(wrap64 (rd s0_0 (wrap64 ((wrap64 (s0_1+1)) - 1))))))+7)) 2147483648)) else (none)) else (none)) else (if (wrap64 (s0_1+1)) > 3000 then (some (0,wrap64 (s0_1+1),s0_2)) else (some (Int.tmod (wrap64 (Int.tdiv (Int.tmod (wrap64 ((wrap64 (s0_2*1103515245))+12345)) 2147483648) 65536)) 256,wrap64 (s0_1+1),Int.tmod (wrap64 ((wrap64 (s0_2*1103515245))+12345)) 2147483648)))
def Fi.T2 : Bool×List (List Nat×List Nat):=(true,[([],[]),([0],[0]),([1],[1]),([2],[2]),([],[]),([4],[4]),([5],[5]),([6],[6]),([7],[7]),([3,8],[3,8])])
def Fi.B2 : List Nat:=[0,1,3,7,0,16,48,112,240,511]
theorem Fi.tab2 : rtab .any (opsOf Try.f51 2)=Fi.T2:=by kernel_rfl
theorem Fi.bits2 : waitsOk Fi.T2.2 Fi.B2=true:=by kernel_rfl
def Fi.T3 : Bool×List (List Nat×List Nat):=(true,[([],[]),([],[]),([1],[1]),([2],[2]),([3],[3]),([4],[4]),([],[]),([6],[6]),([7],[7]),([8],[8]),([],[]),([10],[10]),([11],[11]),([12],[12]),([13],[13]),([9,14],[9,14]),([15],[15]),([16],[16]),([5,17],[5,17]),([18],[18]),([19],[19]),([0,0,1,2,3,4,5,6,7,8,9,10,11,12,13,14,15,16,17,18,19,20],[0]),([21,0,1,2,3,4,5,6,7,8,9,10,11,12,13,14,15,16,17,18,19,20],[21]),([22,20,0,1,2,3,4,5,6,7,8,9,10,11,12,13,14,15,16,17,18,19,20],[20,22])])
def Fi.B3 : List Nat:=[0,0,2,6,14,30,0,64,192,448,0,1024,3072,7168,15360,32704,65472,131008,262142,524286,1048574,2097151,4194303,8388607]
theorem Fi.tab3 : rtab .any (opsOf Try.f51 3)=Fi.T3:=by kernel_rfl
theorem Fi.bits3 : waitsOk Fi.T3.2 Fi.B3=true:=by kernel_rfl
def Fi.T4 : Bool×List (List Nat×List Nat):=(true,[([],[]),([0],[0]),([1],[1]),([2],[2]),([],[]),([4],[4]),([5],[5]),([6],[6]),([7],[7]),([3,8],[3,8]),([9],[9]),([10],[10]),([11,0,1,2,3,4,5,6,7,8,9,10,11],[11])])
def Fi.B4 : List Nat:=[0,1,3,7,0,16,48,112,240,511,1023,2047,4095]
theorem Fi.tab4 : rtab .any (opsOf Try.f51 4)=Fi.T4:=by kernel_rfl
theorem Fi.bits4 : waitsOk Fi.T4.2 Fi.B4=true:=by kernel_rfl
set_option maxHeartbeats 8000000 in
set_option maxRecDepth 100000 in
theorem Fi.calls (g : Nat) (s0_0 : List Int) (s0_1 : Int) (s0_2 : Int) (r1 : Int) (r2 : Int) (r3 : Int) (w0 w : World) (hI : IsS50 w0 w g s0_0 s0_1 s0_2) (hB : Below w0.heap.size w0 w) (h : Fi.f s0_0 s0_1 s0_2=some (r1,r2,r3)) :
  Calls Try.prog 51 #[.pointer (some ⟨g,0,none⟩)] w fun e w' => e = .returned (.int .i64 r1)∧IsS50 w0 w' g s0_0 r2 r3∧Below w0.heap.size w0 w' ∧ KeepBut w w' g none:=by
 have HI0:=zh hI;have HK:=zh (KeepBut.refl w g none);have HL:=zh hB.size;clear hI;have HW0:=zh hB.size;have HB:=zh hB;clear hB;have H : (if (wrap64 (s0_1+1))≤(s0_0.length : Int) then (if 0≤(wrap64 ((wrap64 (s0_1+1)) - 1)) then (if (wrap64 ((wrap64 (s0_1+1)) - 1))<(s0_0.length : Int) then (some (wrap64 (rd s0_0 (wrap64 ((wrap64 (s0_1+1)) - 1))),wrap64 (s0_1+1),Int.tmod (wrap64 ((wrap64 ((wrap64 (s0_2*31))+(wrap64 (rd s0_0 (wrap64 ((wrap64 (s0_1+1)) - 1))))))+7)) 2147483648)) else (none)) else (none)) else (if (wrap64 (s0_1+1)) > 3000 then (some (0,wrap64 (s0_1+1),s0_2)) else (some (Int.tmod (wrap64 (Int.tdiv (Int.tmod (wrap64 ((wrap64 (s0_2*1103515245))+12345)) 2147483648) 65536)) 256,wrap64 (s0_1+1),Int.tmod (wrap64 ((wrap64 (s0_2*1103515245))+12345)) 2147483648))))=some (r1,r2,r3):=h;clear h
 by_cases c2 : (wrap64 (s0_1+1))≤(s0_0.length : Int)
 ·
  rw [if_pos c2] at H
  have c2b0 : decide ((wrap64 (s0_1+1))≤(s0_0.length : Int))=true:=decide_eq_true c2;clear c2;obtain ⟨ji3,hji3⟩ : ∃ j_ : Int,(wrap64 ((wrap64 (s0_1+1)) - 1))=j_:=⟨_,rfl⟩;replace H : (if 0≤(ji3) then (if (ji3)<(s0_0.length : Int) then (some (wrap64 (rd s0_0 (ji3)),wrap64 (s0_1+1),Int.tmod (wrap64 ((wrap64 ((wrap64 (s0_2*31))+(wrap64 (rd s0_0 (ji3)))))+7)) 2147483648)) else (none)) else (none))=some (r1,r2,r3):=by first|(rw [hji3] at H;exact H)|(simp only [hji3] at H ⊢;exact H)
  have hji3w : (IntKind.i64.wrap ((wrap64 (s0_1+1)) - 1))=ji3:=(zG _).trans hji3
  by_cases c4 : 0≤(ji3)
  ·
   rw [if_pos c4] at H
   have c4b0 : decide (0≤(ji3))=true:=decide_eq_true c4;clear c4
   by_cases c5 : (ji3)<(s0_0.length : Int)
   ·
    rw [if_pos c5] at H
    have c5b0 : decide ((ji3)<(s0_0.length : Int))=true:=decide_eq_true c5;clear c5;simp only [Option.some.injEq,Prod.mk.injEq] at H;obtain ⟨rfl,rfl,rfl⟩:=H;obtain ⟨ASz6_0,cSz6_0,HGz6,hgz6,HSz6_0⟩:=HI0.out;have hcz6_0:=cellS50_0 HGz6;have hcz6_1:=cellS50_1 HGz6;have hcz6_2:=cellS50_2 HGz6;have hfz6_1:=zA HGz6 1;have hfz6_2:=zA HGz6 2;clear HGz6 hgz6
    go_enter Try.func51,Try.ntmps51
    try go_wp2
    have n0_ : Aside0 (IsS50 w0 (w.setCell ⟨g,1,none⟩ (.int .i64 (wrap64 (s0_1+1)))) g s0_0 (wrap64 (s0_1+1)) s0_2):=⟨jx⟩;have n1_ : Aside0 (KeepBut w (w.setCell ⟨g,1,none⟩ (.int .i64 (wrap64 (s0_1+1)))) g none):=⟨jI⟩;have n2_ : Aside0 (Below w0.heap.size w0 (w.setCell ⟨g,1,none⟩ (.int .i64 (wrap64 (s0_1+1))))):=⟨jy⟩;(try clear HI0);(try clear HK);(try clear HB);generalize (w.setCell ⟨g,1,none⟩ (.int .i64 (wrap64 (s0_1+1))))=w7 at n0_ n1_ n2_ ⊢;have HI0:=n0_;have HK:=n1_;have HB:=n2_;clear n0_ n1_ n2_;replace HI0:=zh (IsS50.drew HI0.out);replace HK:=zh (yx HK.out);replace HB:=zh (zc HB.out);obtain ⟨ASz9_0,cSz9_0,HGz9,hgz9,HSz9_0⟩:=HI0.out;have hcz9_0:=cellS50_0 HGz9;have hcz9_1:=cellS50_1 HGz9;have hcz9_2:=cellS50_2 HGz9;have hfz9_1:=zA HGz9 1;have hfz9_2:=zA HGz9 2;clear HGz9 hgz9;refine start_ (n:=10) (S:=fun w' => w'.cell? ⟨g,0,none⟩=some (.slice ASz9_0 s0_0.length cSz9_0)∧w'.cell? ⟨g,1,none⟩=some (.int .i64 (wrap64 (s0_1+1)))∧w'.cell? ⟨g,2,none⟩=some (.int .i64 s0_2)) (ds:=[]) (bm_ 0 10) jA rfl rfl ⟨hcz9_0,hcz9_1,hcz9_2⟩ (fun hHeld=>?_);refine with_tabW Fi.tab2 Fi.bits2 (fun HT_ HW_=>?_);generalize w7.drew=w8 at HI0 HK HB hHeld ⊢;refine pure_ (i:=0) (N:=some 10) (v:=?_) (a':=?_) (bm_ 1 10) rfl rfl (any_of HT_.out jA) (fun _ _ _ h=>h) (Or.inl ⟨by rfl,?_⟩) ?_ ?_;rotate_left;exact jb;rotate_left;exact jc
    refine pure_ (i:=1) (N:=some 11) (v:=?_) (a':=?_) (bm_ 2 10) rfl rfl (any_of HT_.out jA) (fun _ _ _ h=>h) (Or.inl ⟨by rfl,?_⟩) ?_ ?_;rotate_left;exact jb;rotate_left;exact jc
    refine pure_ (i:=2) (N:=some 12) (v:=?_) (a':=?_) (bm_ 3 10) rfl rfl (any_of HT_.out jA) (fun _ _ _ h=>h) (Or.inl ⟨by rfl,?_⟩) ?_ ?_;rotate_left;exact jb;rotate_left;exact jc
    refine pure_ (i:=4) (N:=some 14) (v:=?_) (a':=?_) #[true,true,true,false,true,false,false,false,false,false] rfl rfl (any_of HT_.out jA) (fun _ _ _ h=>h) (Or.inl ⟨by rfl,?_⟩) ?_ ?_;rotate_left;exact jb;rotate_left;exact jc
    refine pure_ (i:=5) (N:=some 15) (v:=?_) (a':=?_) #[true,true,true,false,true,true,false,false,false,false] rfl rfl (any_of HT_.out jA) (fun _ _ _ h=>h) (Or.inl ⟨by rfl,?_⟩) ?_ ?_;rotate_left;exact jb;rotate_left;exact jc
    refine pure_ (i:=6) (N:=some 16) (v:=?_) (a':=?_) #[true,true,true,false,true,true,true,false,false,false] rfl rfl (any_of HT_.out jA) (fun _ _ _ h=>h) (Or.inl ⟨by rfl,?_⟩) ?_ ?_;rotate_left;exact jb;rotate_left;exact jc
    refine take_ (i:=3) (N:=some 13) (v:=?_) (a':=?_) (bm_ 7 10) rfl rfl (yo HT_.out HW_.out jA) (fun _ _ _ h=>h) (Or.inl ⟨by rfl,?_⟩) hHeld ?_ ?_;rotate_left
    ·
     rintro w' ⟨s0,s1,s2⟩
     go_simp
     with_reducible rfl
    rotate_left
    exact jc
    refine take_ (i:=7) (N:=some 17) (v:=?_) (a':=?_) (bm_ 8 10) rfl rfl (yo HT_.out HW_.out jA) (fun _ _ _ h=>h) (Or.inl ⟨by rfl,?_⟩) hHeld ?_ ?_;rotate_left
    ·
     rintro w' ⟨s0,s1,s2⟩
     go_simp
     with_reducible rfl
    rotate_left
    exact jc
    refine pure_ (i:=8) (N:=some 18) (v:=?_) (a':=?_) (bm_ 9 10) rfl rfl (any_of HT_.out jA) (fun _ _ _ h=>h) (Or.inl ⟨by rfl,?_⟩) ?_ ?_;rotate_left;exact jb;rotate_left;exact jc
    refine pure_ (i:=9) (N:=some 19) (v:=?_) (a':=?_) (bm_ 10 10) rfl rfl (any_of HT_.out jA) (fun _ _ _ h=>h) (Or.inl ⟨by rfl,?_⟩) ?_ ?_;rotate_left;exact jb;rotate_left;exact jc
    refine done_ (done_of HT_.out jA) ?_
    try go_wp2
    replace HI0:=zh (IsS50.drew HI0.out);replace HK:=zh (yx HK.out);replace HB:=zh (zc HB.out);obtain ⟨ASz11_0,cSz11_0,HGz11,hgz11,HSz11_0⟩:=HI0.out;have hcz11_0:=cellS50_0 HGz11;have hcz11_1:=cellS50_1 HGz11;have hcz11_2:=cellS50_2 HGz11;have hfz11_1:=zA HGz11 1;have hfz11_2:=zA HGz11 2;clear HGz11 hgz11;have p167 : 0≤((ji3) : Int):=zy jF;have q167 : (ji3)<(s0_0.length : Int):=zy jF;obtain ⟨ad167,e167,hx167_0⟩:=Kd.at_int HSz11_0 (ji3) p167 q167;have hw167_0:=hx167_0
    cases e167
    replace hx167_0:=pw_cell_below HB.out hx167_0;replace p167:=eq_true p167;replace q167:=eq_true q167;refine start_ (n:=24) (S:=fun w' => w'.cell? ⟨g,0,none⟩=some (.slice (some ad167) s0_0.length cSz11_0)∧w'.cell? ⟨g,1,none⟩=some (.int .i64 (wrap64 (s0_1+1)))∧w'.cell? ⟨g,2,none⟩=some (.int .i64 s0_2)∧w'.cell? (ad167.add ((ji3)).toNat)=some (.int .u8 (rd s0_0 (ji3)))) (ds:=[23]) (bm_ 0 24) jA rfl rfl ⟨hcz11_0,hcz11_1,hcz11_2,((HB.out.cell (zl w0 _ hw167_0)).trans hw167_0)⟩ (fun hHeld=>?_);refine with_tabW Fi.tab3 Fi.bits3 (fun HT_ HW_=>?_);generalize w8.drew=w10 at HI0 HK HB hx167_0 hHeld ⊢;refine pure_ (i:=0) (N:=some 20) (v:=?_) (a':=?_) (bm_ 1 24) rfl rfl (any_of HT_.out jA) (fun _ _ _ h=>h) (Or.inl ⟨by rfl,?_⟩) ?_ ?_;rotate_left;exact jb;rotate_left;exact jc
    refine pure_ (i:=1) (N:=some 21) (v:=?_) (a':=?_) (bm_ 2 24) rfl rfl (any_of HT_.out jA) (fun _ _ _ h=>h) (Or.inl ⟨by rfl,?_⟩) ?_ ?_;rotate_left;exact jb;rotate_left;exact jc
    refine pure_ (i:=2) (N:=some 22) (v:=?_) (a':=?_) (bm_ 3 24) rfl rfl (any_of HT_.out jA) (fun _ _ _ h=>h) (Or.inl ⟨by rfl,?_⟩) ?_ ?_;rotate_left;exact jb;rotate_left;exact jc
    refine pure_ (i:=3) (N:=some 23) (v:=?_) (a':=?_) (bm_ 4 24) rfl rfl (any_of HT_.out jA) (fun _ _ _ h=>h) (Or.inl ⟨by rfl,?_⟩) ?_ ?_;rotate_left;exact jb;rotate_left;exact jc
    refine pure_ (i:=6) (N:=some 26) (v:=?_) (a':=?_) #[true,true,true,true,false,false,true,false,false,false,false,false,false,false,false,false,false,false,false,false,false,false,false,false] rfl rfl (any_of HT_.out jA) (fun _ _ _ h=>h) (Or.inl ⟨by rfl,?_⟩) ?_ ?_;rotate_left;exact jb;rotate_left;exact jc
    refine pure_ (i:=7) (N:=some 27) (v:=?_) (a':=?_) #[true,true,true,true,false,false,true,true,false,false,false,false,false,false,false,false,false,false,false,false,false,false,false,false] rfl rfl (any_of HT_.out jA) (fun _ _ _ h=>h) (Or.inl ⟨by rfl,?_⟩) ?_ ?_;rotate_left;exact jb;rotate_left;exact jc
    refine pure_ (i:=8) (N:=some 28) (v:=?_) (a':=?_) #[true,true,true,true,false,false,true,true,true,false,false,false,false,false,false,false,false,false,false,false,false,false,false,false] rfl rfl (any_of HT_.out jA) (fun _ _ _ h=>h) (Or.inl ⟨by rfl,?_⟩) ?_ ?_;rotate_left;exact jb;rotate_left;exact jc
    refine pure_ (i:=10) (N:=some 30) (v:=?_) (a':=?_) #[true,true,true,true,false,false,true,true,true,false,true,false,false,false,false,false,false,false,false,false,false,false,false,false] rfl rfl (any_of HT_.out jA) (fun _ _ _ h=>h) (Or.inl ⟨by rfl,?_⟩) ?_ ?_;rotate_left;exact jb;rotate_left;exact jc
    refine pure_ (i:=11) (N:=some 31) (v:=?_) (a':=?_) #[true,true,true,true,false,false,true,true,true,false,true,true,false,false,false,false,false,false,false,false,false,false,false,false] rfl rfl (any_of HT_.out jA) (fun _ _ _ h=>h) (Or.inl ⟨by rfl,?_⟩) ?_ ?_;rotate_left;exact jb;rotate_left;exact jc
    refine pure_ (i:=12) (N:=some 32) (v:=?_) (a':=?_) #[true,true,true,true,false,false,true,true,true,false,true,true,true,false,false,false,false,false,false,false,false,false,false,false] rfl rfl (any_of HT_.out jA) (fun _ _ _ h=>h) (Or.inl ⟨by rfl,?_⟩) ?_ ?_;rotate_left;exact jb;rotate_left;exact jc
    refine take_ (i:=4) (N:=some 24) (v:=?_) (a':=?_) #[true,true,true,true,true,false,true,true,true,false,true,true,true,false,false,false,false,false,false,false,false,false,false,false] rfl rfl (yo HT_.out HW_.out jA) (fun _ _ _ h=>h) (Or.inl ⟨by rfl,?_⟩) hHeld ?_ ?_;rotate_left
    ·
     rintro w' ⟨s0,s1,s2,s3⟩
     go_simp
     with_reducible rfl
    rotate_left
    exact jc
    refine pure_ (i:=5) (N:=some 25) (v:=?_) (a':=?_) #[true,true,true,true,true,true,true,true,true,false,true,true,true,false,false,false,false,false,false,false,false,false,false,false] rfl rfl (any_of HT_.out jA) (fun _ _ _ h=>h) (Or.inl ⟨by rfl,?_⟩) ?_ ?_;rotate_left;exact jb;rotate_left;exact jc
    refine take_ (i:=9) (N:=some 29) (v:=?_) (a':=?_) (bm_ 13 24) rfl rfl (yo HT_.out HW_.out jA) (fun _ _ _ h=>h) (Or.inl ⟨by rfl,?_⟩) hHeld ?_ ?_;rotate_left
    ·
     rintro w' ⟨s0,s1,s2,s3⟩
     go_simp
     with_reducible rfl
    rotate_left
    exact jc
    refine take_ (i:=13) (N:=some 33) (v:=?_) (a':=?_) (bm_ 14 24) rfl rfl (yo HT_.out HW_.out jA) (fun _ _ _ h=>h) (Or.inl ⟨by rfl,?_⟩) hHeld ?_ ?_;rotate_left
    ·
     rintro w' ⟨s0,s1,s2,s3⟩
     go_simp
     with_reducible rfl
    rotate_left
    exact jc
    refine pure_ (i:=14) (N:=some 34) (v:=?_) (a':=?_) (bm_ 15 24) rfl rfl (any_of HT_.out jA) (fun _ _ _ h=>h) (Or.inl ⟨by rfl,?_⟩) ?_ ?_;rotate_left;exact jb;rotate_left;exact jc
    refine pure_ (i:=15) (N:=some 35) (v:=?_) (a':=?_) (bm_ 16 24) rfl rfl (any_of HT_.out jA) (fun _ _ _ h=>h) (Or.inl ⟨by rfl,?_⟩) ?_ ?_;rotate_left;exact jb;rotate_left;exact jc
    refine take_ (i:=16) (N:=some 36) (v:=?_) (a':=?_) (bm_ 17 24) rfl rfl (yo HT_.out HW_.out jA) (fun _ _ _ h=>h) (Or.inl ⟨by rfl,?_⟩) hHeld ?_ ?_;rotate_left
    ·
     rintro w' ⟨s0,s1,s2,s3⟩
     go_simp
     with_reducible rfl
    rotate_left
    exact jc
    refine pure_ (i:=17) (N:=some 37) (v:=?_) (a':=?_) (bm_ 18 24) rfl rfl (any_of HT_.out jA) (fun _ _ _ h=>h) (Or.inl ⟨by rfl,?_⟩) ?_ ?_;rotate_left;exact jb;rotate_left;exact jc
    refine pure_ (i:=18) (N:=some 38) (v:=?_) (a':=?_) (bm_ 19 24) rfl rfl (any_of HT_.out jA) (fun _ _ _ h=>h) (Or.inl ⟨by rfl,?_⟩) ?_ ?_;rotate_left;exact jb;rotate_left;exact jc
    refine pure_ (i:=19) (N:=some 39) (v:=?_) (a':=?_) (bm_ 20 24) rfl rfl (any_of HT_.out jA) (fun _ _ _ h=>h) (Or.inl ⟨by rfl,?_⟩) ?_ ?_;rotate_left;exact jb;rotate_left;exact jc
    refine pure_ (i:=20) (N:=some 40) (v:=?_) (a':=?_) (bm_ 21 24) rfl rfl (any_of HT_.out jA) (fun _ _ _ h=>h) (Or.inl ⟨by rfl,?_⟩) ?_ ?_;rotate_left;exact jb;rotate_left;exact jc
    refine pure_ (i:=21) (N:=some 41) (v:=?_) (a':=?_) (bm_ 22 24) rfl rfl (any_of HT_.out jA) (fun _ _ _ h=>h) (Or.inl ⟨by rfl,?_⟩) ?_ ?_;rotate_left;exact jb;rotate_left;exact jc
    refine pure_ (i:=22) (N:=some 42) (v:=?_) (a':=?_) (bm_ 23 24) rfl rfl (any_of HT_.out jA) (fun _ _ _ h=>h) (Or.inl ⟨by rfl,?_⟩) ?_ ?_;rotate_left;exact jb;rotate_left;exact jc
    refine last_ (i:=23) (N:=none) (bm_ 24 24) rfl rfl (one_of HT_.out jA) jC (fun K hK=>?_);obtain ⟨ASs12_0,cSs12_0,HGs12,hgs12,HSs12_0⟩:=HI0.out;have hcs12:=cellS50_2 HGs12;have hfs12:=zA HGs12 2;refine skip_ (w1:=?_) (by rfl) rfl ?_ ?_;rotate_left
    ·
     go_simp
     rfl
    refine hK.out _ _ ?_;clear hK K;refine done_ (done_of HT_.out jA) ?_
    try go_wp2
    have n0_ : Aside0 (IsS50 w0 (w10.setCell ⟨g,2,none⟩ (.int .i64 (Int.tmod (wrap64 ((wrap64 ((wrap64 (s0_2*31))+(wrap64 (rd s0_0 (ji3)))))+7)) 2147483648))) g s0_0 (wrap64 (s0_1+1)) (Int.tmod (wrap64 ((wrap64 ((wrap64 (s0_2*31))+(wrap64 (rd s0_0 (ji3)))))+7)) 2147483648)):=⟨jx⟩;have n1_ : Aside0 (KeepBut w (w10.setCell ⟨g,2,none⟩ (.int .i64 (Int.tmod (wrap64 ((wrap64 ((wrap64 (s0_2*31))+(wrap64 (rd s0_0 (ji3)))))+7)) 2147483648))) g none):=⟨jI⟩;have n2_ : Aside0 (Below w0.heap.size w0 (w10.setCell ⟨g,2,none⟩ (.int .i64 (Int.tmod (wrap64 ((wrap64 ((wrap64 (s0_2*31))+(wrap64 (rd s0_0 (ji3)))))+7)) 2147483648)))):=⟨jy⟩;(try clear HI0);(try clear HK);(try clear HB);generalize (w10.setCell ⟨g,2,none⟩ (.int .i64 (Int.tmod (wrap64 ((wrap64 ((wrap64 (s0_2*31))+(wrap64 (rd s0_0 (ji3)))))+7)) 2147483648)))=w13 at n0_ n1_ n2_ ⊢;have HI0:=n0_;have HK:=n1_;have HB:=n2_;clear n0_ n1_ n2_;replace HI0:=zh (IsS50.drew HI0.out);replace HK:=zh (yx HK.out);replace HB:=zh (zc HB.out);obtain ⟨ASz15_0,cSz15_0,HGz15,hgz15,HSz15_0⟩:=HI0.out;have hcz15_0:=cellS50_0 HGz15;have hcz15_1:=cellS50_1 HGz15;have hcz15_2:=cellS50_2 HGz15;have hfz15_1:=zA HGz15 1;have hfz15_2:=zA HGz15 2;clear HGz15 hgz15;have p168 : 0≤((ji3) : Int):=zy jF;have q168 : (ji3)<(s0_0.length : Int):=zy jF;obtain ⟨ad168,e168,hx168_0⟩:=Kd.at_int HSz15_0 (ji3) p168 q168;have hw168_0:=hx168_0
    cases e168
    replace hx168_0:=pw_cell_below HB.out hx168_0;replace p168:=eq_true p168;replace q168:=eq_true q168;refine start_ (n:=13) (S:=fun w' => w'.cell? ⟨g,0,none⟩=some (.slice (some ad168) s0_0.length cSz15_0)∧w'.cell? ⟨g,1,none⟩=some (.int .i64 (wrap64 (s0_1+1)))∧w'.cell? ⟨g,2,none⟩=some (.int .i64 (Int.tmod (wrap64 ((wrap64 ((wrap64 (s0_2*31))+(wrap64 (rd s0_0 (ji3)))))+7)) 2147483648))∧w'.cell? (ad168.add ((ji3)).toNat)=some (.int .u8 (rd s0_0 (ji3)))) (ds:=[]) (bm_ 0 13) jA rfl rfl ⟨hcz15_0,hcz15_1,hcz15_2,((HB.out.cell (zl w0 _ hw168_0)).trans hw168_0)⟩ (fun hHeld=>?_);refine with_tabW Fi.tab4 Fi.bits4 (fun HT_ HW_=>?_);generalize w13.drew=w14 at HI0 HK HB hx168_0 hHeld ⊢;refine pure_ (i:=0) (N:=some 43) (v:=?_) (a':=?_) (bm_ 1 13) rfl rfl (any_of HT_.out jA) (fun _ _ _ h=>h) (Or.inl ⟨by rfl,?_⟩) ?_ ?_;rotate_left;exact jb;rotate_left;exact jc
    refine pure_ (i:=1) (N:=some 44) (v:=?_) (a':=?_) (bm_ 2 13) rfl rfl (any_of HT_.out jA) (fun _ _ _ h=>h) (Or.inl ⟨by rfl,?_⟩) ?_ ?_;rotate_left;exact jb;rotate_left;exact jc
    refine pure_ (i:=2) (N:=some 45) (v:=?_) (a':=?_) (bm_ 3 13) rfl rfl (any_of HT_.out jA) (fun _ _ _ h=>h) (Or.inl ⟨by rfl,?_⟩) ?_ ?_;rotate_left;exact jb;rotate_left;exact jc
    refine pure_ (i:=4) (N:=some 47) (v:=?_) (a':=?_) #[true,true,true,false,true,false,false,false,false,false,false,false,false] rfl rfl (any_of HT_.out jA) (fun _ _ _ h=>h) (Or.inl ⟨by rfl,?_⟩) ?_ ?_;rotate_left;exact jb;rotate_left;exact jc
    refine pure_ (i:=5) (N:=some 48) (v:=?_) (a':=?_) #[true,true,true,false,true,true,false,false,false,false,false,false,false] rfl rfl (any_of HT_.out jA) (fun _ _ _ h=>h) (Or.inl ⟨by rfl,?_⟩) ?_ ?_;rotate_left;exact jb;rotate_left;exact jc
    refine pure_ (i:=6) (N:=some 49) (v:=?_) (a':=?_) #[true,true,true,false,true,true,true,false,false,false,false,false,false] rfl rfl (any_of HT_.out jA) (fun _ _ _ h=>h) (Or.inl ⟨by rfl,?_⟩) ?_ ?_;rotate_left;exact jb;rotate_left;exact jc
    refine take_ (i:=3) (N:=some 46) (v:=?_) (a':=?_) (bm_ 7 13) rfl rfl (yo HT_.out HW_.out jA) (fun _ _ _ h=>h) (Or.inl ⟨by rfl,?_⟩) hHeld ?_ ?_;rotate_left
    ·
     rintro w' ⟨s0,s1,s2,s3⟩
     go_simp
     with_reducible rfl
    rotate_left
    exact jc
    refine take_ (i:=7) (N:=some 50) (v:=?_) (a':=?_) (bm_ 8 13) rfl rfl (yo HT_.out HW_.out jA) (fun _ _ _ h=>h) (Or.inl ⟨by rfl,?_⟩) hHeld ?_ ?_;rotate_left
    ·
     rintro w' ⟨s0,s1,s2,s3⟩
     go_simp
     with_reducible rfl
    rotate_left
    exact jc
    refine pure_ (i:=8) (N:=some 51) (v:=?_) (a':=?_) (bm_ 9 13) rfl rfl (any_of HT_.out jA) (fun _ _ _ h=>h) (Or.inl ⟨by rfl,?_⟩) ?_ ?_;rotate_left;exact jb;rotate_left;exact jc
    refine pure_ (i:=9) (N:=some 52) (v:=?_) (a':=?_) (bm_ 10 13) rfl rfl (any_of HT_.out jA) (fun _ _ _ h=>h) (Or.inl ⟨by rfl,?_⟩) ?_ ?_;rotate_left;exact jb;rotate_left;exact jc
    refine take_ (i:=10) (N:=some 53) (v:=?_) (a':=?_) (bm_ 11 13) rfl rfl (yo HT_.out HW_.out jA) (fun _ _ _ h=>h) (Or.inl ⟨by rfl,?_⟩) hHeld ?_ ?_;rotate_left
    ·
     rintro w' ⟨s0,s1,s2,s3⟩
     go_simp
     with_reducible rfl
    rotate_left
    exact jc
    refine pure_ (i:=11) (N:=some 54) (v:=?_) (a':=?_) (bm_ 12 13) rfl rfl (any_of HT_.out jA) (fun _ _ _ h=>h) (Or.inl ⟨by rfl,?_⟩) ?_ ?_;rotate_left;exact jb;rotate_left;exact jc
    refine pure_ (i:=12) (N:=some 2) (v:=?_) (a':=?_) (bm_ 13 13) rfl rfl (any_of HT_.out jA) (fun _ _ _ h=>h) (Or.inl ⟨by rfl,?_⟩) ?_ ?_;rotate_left;exact jb;rotate_left;exact jc
    refine done_ (done_of HT_.out jA) ?_
    try go_wp2
    go_ret
    exact ⟨by first|rfl|(simp [yt,yu] <;> rfl)|(simp only [← hji3];first|rfl|(simp [yt,yu] <;> rfl))|(simp [*,yt,yu] <;> rfl),jx,jy,jI⟩
   rw [if_neg c5] at H;exact absurd H (by simp)
  rw [if_neg c4] at H;exact absurd H (by simp)
 rw [if_neg c2] at H;have c2b0 : decide ((wrap64 (s0_1+1))≤(s0_0.length : Int))=false:=decide_eq_false c2;clear c2
 by_cases c16 : (wrap64 (s0_1+1)) > 3000
 ·
  rw [if_pos c16] at H
  have c16b0 : decide (3000<(wrap64 (s0_1+1)))=true:=decide_eq_true c16;clear c16;simp only [Option.some.injEq,Prod.mk.injEq] at H;obtain ⟨rfl,rfl,rfl⟩:=H;obtain ⟨ASz17_0,cSz17_0,HGz17,hgz17,HSz17_0⟩:=HI0.out;have hcz17_0:=cellS50_0 HGz17;have hcz17_1:=cellS50_1 HGz17;have hcz17_2:=cellS50_2 HGz17;have hfz17_1:=zA HGz17 1;have hfz17_2:=zA HGz17 2;clear HGz17 hgz17
  go_enter Try.func51,Try.ntmps51
  try go_wp2
  have n0_ : Aside0 (IsS50 w0 (w.setCell ⟨g,1,none⟩ (.int .i64 (wrap64 (s0_1+1)))) g s0_0 (wrap64 (s0_1+1)) s0_2):=⟨jx⟩;have n1_ : Aside0 (KeepBut w (w.setCell ⟨g,1,none⟩ (.int .i64 (wrap64 (s0_1+1)))) g none):=⟨jI⟩;have n2_ : Aside0 (Below w0.heap.size w0 (w.setCell ⟨g,1,none⟩ (.int .i64 (wrap64 (s0_1+1))))):=⟨jy⟩;(try clear HI0);(try clear HK);(try clear HB);generalize (w.setCell ⟨g,1,none⟩ (.int .i64 (wrap64 (s0_1+1))))=w18 at n0_ n1_ n2_ ⊢;have HI0:=n0_;have HK:=n1_;have HB:=n2_;clear n0_ n1_ n2_;replace HI0:=zh (IsS50.drew HI0.out);replace HK:=zh (yx HK.out);replace HB:=zh (zc HB.out);obtain ⟨ASz20_0,cSz20_0,HGz20,hgz20,HSz20_0⟩:=HI0.out;have hcz20_0:=cellS50_0 HGz20;have hcz20_1:=cellS50_1 HGz20;have hcz20_2:=cellS50_2 HGz20;have hfz20_1:=zA HGz20 1;have hfz20_2:=zA HGz20 2;clear HGz20 hgz20;refine start_ (n:=10) (S:=fun w' => w'.cell? ⟨g,0,none⟩=some (.slice ASz20_0 s0_0.length cSz20_0)∧w'.cell? ⟨g,1,none⟩=some (.int .i64 (wrap64 (s0_1+1)))∧w'.cell? ⟨g,2,none⟩=some (.int .i64 s0_2)) (ds:=[]) (bm_ 0 10) jA rfl rfl ⟨hcz20_0,hcz20_1,hcz20_2⟩ (fun hHeld=>?_);refine with_tabW Fi.tab2 Fi.bits2 (fun HT_ HW_=>?_);generalize w18.drew=w19 at HI0 HK HB hHeld ⊢;refine pure_ (i:=0) (N:=some 10) (v:=?_) (a':=?_) (bm_ 1 10) rfl rfl (any_of HT_.out jA) (fun _ _ _ h=>h) (Or.inl ⟨by rfl,?_⟩) ?_ ?_;rotate_left;exact jb;rotate_left;exact jc
  refine pure_ (i:=1) (N:=some 11) (v:=?_) (a':=?_) (bm_ 2 10) rfl rfl (any_of HT_.out jA) (fun _ _ _ h=>h) (Or.inl ⟨by rfl,?_⟩) ?_ ?_;rotate_left;exact jb;rotate_left;exact jc
  refine pure_ (i:=2) (N:=some 12) (v:=?_) (a':=?_) (bm_ 3 10) rfl rfl (any_of HT_.out jA) (fun _ _ _ h=>h) (Or.inl ⟨by rfl,?_⟩) ?_ ?_;rotate_left;exact jb;rotate_left;exact jc
  refine pure_ (i:=4) (N:=some 14) (v:=?_) (a':=?_) #[true,true,true,false,true,false,false,false,false,false] rfl rfl (any_of HT_.out jA) (fun _ _ _ h=>h) (Or.inl ⟨by rfl,?_⟩) ?_ ?_;rotate_left;exact jb;rotate_left;exact jc
  refine pure_ (i:=5) (N:=some 15) (v:=?_) (a':=?_) #[true,true,true,false,true,true,false,false,false,false] rfl rfl (any_of HT_.out jA) (fun _ _ _ h=>h) (Or.inl ⟨by rfl,?_⟩) ?_ ?_;rotate_left;exact jb;rotate_left;exact jc
  refine pure_ (i:=6) (N:=some 16) (v:=?_) (a':=?_) #[true,true,true,false,true,true,true,false,false,false] rfl rfl (any_of HT_.out jA) (fun _ _ _ h=>h) (Or.inl ⟨by rfl,?_⟩) ?_ ?_;rotate_left;exact jb;rotate_left;exact jc
  refine take_ (i:=3) (N:=some 13) (v:=?_) (a':=?_) (bm_ 7 10) rfl rfl (yo HT_.out HW_.out jA) (fun _ _ _ h=>h) (Or.inl ⟨by rfl,?_⟩) hHeld ?_ ?_;rotate_left
  ·
   rintro w' ⟨s0,s1,s2⟩
   go_simp
   with_reducible rfl
  rotate_left
  exact jc
  refine take_ (i:=7) (N:=some 17) (v:=?_) (a':=?_) (bm_ 8 10) rfl rfl (yo HT_.out HW_.out jA) (fun _ _ _ h=>h) (Or.inl ⟨by rfl,?_⟩) hHeld ?_ ?_;rotate_left
  ·
   rintro w' ⟨s0,s1,s2⟩
   go_simp
   with_reducible rfl
  rotate_left
  exact jc
  refine pure_ (i:=8) (N:=some 18) (v:=?_) (a':=?_) (bm_ 9 10) rfl rfl (any_of HT_.out jA) (fun _ _ _ h=>h) (Or.inl ⟨by rfl,?_⟩) ?_ ?_;rotate_left;exact jb;rotate_left;exact jc
  refine pure_ (i:=9) (N:=some 19) (v:=?_) (a':=?_) (bm_ 10 10) rfl rfl (any_of HT_.out jA) (fun _ _ _ h=>h) (Or.inl ⟨by rfl,?_⟩) ?_ ?_;rotate_left;exact jb;rotate_left;exact jc
  refine done_ (done_of HT_.out jA) ?_;obtain ⟨ASz21_0,cSz21_0,HGz21,hgz21,HSz21_0⟩:=HI0.out;have hcz21_0:=cellS50_0 HGz21;have hcz21_1:=cellS50_1 HGz21;have hcz21_2:=cellS50_2 HGz21;have hfz21_1:=zA HGz21 1;have hfz21_2:=zA HGz21 2;clear HGz21 hgz21
  try go_wp2
  go_ret
  exact ⟨jG,jx,jy,jI⟩
 rw [if_neg c16] at H;have c16b0 : decide (3000<(wrap64 (s0_1+1)))=false:=decide_eq_false c16;clear c16;simp only [Option.some.injEq,Prod.mk.injEq] at H;obtain ⟨rfl,rfl,rfl⟩:=H;obtain ⟨ASz22_0,cSz22_0,HGz22,hgz22,HSz22_0⟩:=HI0.out;have hcz22_0:=cellS50_0 HGz22;have hcz22_1:=cellS50_1 HGz22;have hcz22_2:=cellS50_2 HGz22;have hfz22_1:=zA HGz22 1;have hfz22_2:=zA HGz22 2;clear HGz22 hgz22
 go_enter Try.func51,Try.ntmps51
 try go_wp2
 have n0_ : Aside0 (IsS50 w0 (w.setCell ⟨g,1,none⟩ (.int .i64 (wrap64 (s0_1+1)))) g s0_0 (wrap64 (s0_1+1)) s0_2):=⟨jx⟩;have n1_ : Aside0 (KeepBut w (w.setCell ⟨g,1,none⟩ (.int .i64 (wrap64 (s0_1+1)))) g none):=⟨jI⟩;have n2_ : Aside0 (Below w0.heap.size w0 (w.setCell ⟨g,1,none⟩ (.int .i64 (wrap64 (s0_1+1))))):=⟨jy⟩;(try clear HI0);(try clear HK);(try clear HB);generalize (w.setCell ⟨g,1,none⟩ (.int .i64 (wrap64 (s0_1+1))))=w23 at n0_ n1_ n2_ ⊢;have HI0:=n0_;have HK:=n1_;have HB:=n2_;clear n0_ n1_ n2_;replace HI0:=zh (IsS50.drew HI0.out);replace HK:=zh (yx HK.out);replace HB:=zh (zc HB.out);obtain ⟨ASz25_0,cSz25_0,HGz25,hgz25,HSz25_0⟩:=HI0.out;have hcz25_0:=cellS50_0 HGz25;have hcz25_1:=cellS50_1 HGz25;have hcz25_2:=cellS50_2 HGz25;have hfz25_1:=zA HGz25 1;have hfz25_2:=zA HGz25 2;clear HGz25 hgz25;refine start_ (n:=10) (S:=fun w' => w'.cell? ⟨g,0,none⟩=some (.slice ASz25_0 s0_0.length cSz25_0)∧w'.cell? ⟨g,1,none⟩=some (.int .i64 (wrap64 (s0_1+1)))∧w'.cell? ⟨g,2,none⟩=some (.int .i64 s0_2)) (ds:=[]) (bm_ 0 10) jA rfl rfl ⟨hcz25_0,hcz25_1,hcz25_2⟩ (fun hHeld=>?_);refine with_tabW Fi.tab2 Fi.bits2 (fun HT_ HW_=>?_);generalize w23.drew=w24 at HI0 HK HB hHeld ⊢;refine pure_ (i:=0) (N:=some 10) (v:=?_) (a':=?_) (bm_ 1 10) rfl rfl (any_of HT_.out jA) (fun _ _ _ h=>h) (Or.inl ⟨by rfl,?_⟩) ?_ ?_;rotate_left;exact jb;rotate_left;exact jc
 refine pure_ (i:=1) (N:=some 11) (v:=?_) (a':=?_) (bm_ 2 10) rfl rfl (any_of HT_.out jA) (fun _ _ _ h=>h) (Or.inl ⟨by rfl,?_⟩) ?_ ?_;rotate_left;exact jb;rotate_left;exact jc
 refine pure_ (i:=2) (N:=some 12) (v:=?_) (a':=?_) (bm_ 3 10) rfl rfl (any_of HT_.out jA) (fun _ _ _ h=>h) (Or.inl ⟨by rfl,?_⟩) ?_ ?_;rotate_left;exact jb;rotate_left;exact jc
 refine pure_ (i:=4) (N:=some 14) (v:=?_) (a':=?_) #[true,true,true,false,true,false,false,false,false,false] rfl rfl (any_of HT_.out jA) (fun _ _ _ h=>h) (Or.inl ⟨by rfl,?_⟩) ?_ ?_;rotate_left;exact jb;rotate_left;exact jc
 refine pure_ (i:=5) (N:=some 15) (v:=?_) (a':=?_) #[true,true,true,false,true,true,false,false,false,false] rfl rfl (any_of HT_.out jA) (fun _ _ _ h=>h) (Or.inl ⟨by rfl,?_⟩) ?_ ?_;rotate_left;exact jb;rotate_left;exact jc
 refine pure_ (i:=6) (N:=some 16) (v:=?_) (a':=?_) #[true,true,true,false,true,true,true,false,false,false] rfl rfl (any_of HT_.out jA) (fun _ _ _ h=>h) (Or.inl ⟨by rfl,?_⟩) ?_ ?_;rotate_left;exact jb;rotate_left;exact jc
 refine take_ (i:=3) (N:=some 13) (v:=?_) (a':=?_) (bm_ 7 10) rfl rfl (yo HT_.out HW_.out jA) (fun _ _ _ h=>h) (Or.inl ⟨by rfl,?_⟩) hHeld ?_ ?_;rotate_left
 ·
  rintro w' ⟨s0,s1,s2⟩
  go_simp
  with_reducible rfl
 rotate_left
 exact jc
 refine take_ (i:=7) (N:=some 17) (v:=?_) (a':=?_) (bm_ 8 10) rfl rfl (yo HT_.out HW_.out jA) (fun _ _ _ h=>h) (Or.inl ⟨by rfl,?_⟩) hHeld ?_ ?_;rotate_left
 ·
  rintro w' ⟨s0,s1,s2⟩
  go_simp
  with_reducible rfl
 rotate_left
 exact jc
 refine pure_ (i:=8) (N:=some 18) (v:=?_) (a':=?_) (bm_ 9 10) rfl rfl (any_of HT_.out jA) (fun _ _ _ h=>h) (Or.inl ⟨by rfl,?_⟩) ?_ ?_;rotate_left;exact jb;rotate_left;exact jc
 refine pure_ (i:=9) (N:=some 19) (v:=?_) (a':=?_) (bm_ 10 10) rfl rfl (any_of HT_.out jA) (fun _ _ _ h=>h) (Or.inl ⟨by rfl,?_⟩) ?_ ?_;rotate_left;exact jb;rotate_left;exact jc
 refine done_ (done_of HT_.out jA) ?_;obtain ⟨ASz26_0,cSz26_0,HGz26,hgz26,HSz26_0⟩:=HI0.out;have hcz26_0:=cellS50_0 HGz26;have hcz26_1:=cellS50_1 HGz26;have hcz26_2:=cellS50_2 HGz26;have hfz26_1:=zA HGz26 1;have hfz26_2:=zA HGz26 2;clear HGz26 hgz26
 try go_wp2
 go_ret
 exact ⟨jG,jx,jy,jI⟩


def F07.f (s0_0 : List Int) (s0_1 : Int) (s0_2 : Int) (a1 : Int) : Option (Int×Int×Int):=if a1≤1 then (some (0,s0_1,s0_2)) else (if a1≤256 then ((Fi.f s0_0 s0_1 s0_2).bind fun bt169=>(if a1=0 then (none) else (some (Int.tmod bt169.1 a1,bt169.2.1,bt169.2.2)))) else ((Fi.f s0_0 s0_1 s0_2).bind fun bt172=>((Fi.f s0_0 bt172.2.1 bt172.2.2).bind fun bt175=>((Fi.f s0_0 bt175.2.1 bt175.2.2).bind fun bt178=>(if a1=0 then (none) else (some (Int.tmod (wrap64 ((wrap64 ((wrap64 (bt172.1*65536))+(wrap64 (bt175.1*256))))+bt178.1)) a1,bt178.2.1,bt178.2.2)))))))
set_option maxHeartbeats 8000000 in
set_option maxRecDepth 100000 in
theorem F07.calls (g : Nat) (s0_0 : List Int) (s0_1 : Int) (s0_2 : Int) (a1 : Int) (r1 : Int) (r2 : Int) (r3 : Int) (w0 w : World) (hI : IsS50 w0 w g s0_0 s0_1 s0_2) (hB : Below w0.heap.size w0 w) (h : F07.f s0_0 s0_1 s0_2 a1=some (r1,r2,r3)) :
  Calls Try.prog 23 #[.pointer (some ⟨g,0,none⟩),.int .i64 a1] w fun e w' => e = .returned (.int .i64 r1)∧IsS50 w0 w' g s0_0 r2 r3∧Below w0.heap.size w0 w' ∧ KeepBut w w' g none:=by
 have HI0:=zh hI;have HK:=zh (KeepBut.refl w g none);have HL:=zh hB.size;clear hI;have HW0:=zh hB.size;have HB:=zh hB;clear hB;have H : (if a1≤1 then (some (0,s0_1,s0_2)) else (if a1≤256 then ((Fi.f s0_0 s0_1 s0_2).bind fun bt169=>(if a1=0 then (none) else (some (Int.tmod bt169.1 a1,bt169.2.1,bt169.2.2)))) else ((Fi.f s0_0 s0_1 s0_2).bind fun bt172=>((Fi.f s0_0 bt172.2.1 bt172.2.2).bind fun bt175=>((Fi.f s0_0 bt175.2.1 bt175.2.2).bind fun bt178=>(if a1=0 then (none) else (some (Int.tmod (wrap64 ((wrap64 ((wrap64 (bt172.1*65536))+(wrap64 (bt175.1*256))))+bt178.1)) a1,bt178.2.1,bt178.2.2))))))))=some (r1,r2,r3):=h;clear h
 by_cases c3 : a1≤1
 ·
  rw [if_pos c3] at H
  have c3b0 : decide (a1≤1)=true:=decide_eq_true c3;clear c3;simp only [Option.some.injEq,Prod.mk.injEq] at H;obtain ⟨rfl,rfl,rfl⟩:=H
  go_enter Try.func23,Try.ntmps23
  go_wp2
  go_ret
  exact ⟨jG,jx,jy,jI⟩
 rw [if_neg c3] at H;have c3b0 : decide (a1≤1)=false:=decide_eq_false c3;clear c3
 by_cases c4 : a1≤256
 ·
  rw [if_pos c4] at H
  have c4b0 : decide (a1≤256)=true:=decide_eq_true c4;clear c4;replace H:=zT.mp H;obtain ⟨⟨t169,t170,t171⟩,A50,H⟩:=H;have A5:=zh A50;clear A50
  by_cases c6 : a1=0
  ·
   rw [if_pos c6] at H
   exact absurd H (by simp)
  rw [if_neg c6] at H;have c6b0 : (a1 == 0)=false:=zY.mpr c6;have c6b1 : (a1 != 0)=true:=zZ.mpr c6;simp only [Option.some.injEq,Prod.mk.injEq] at H;obtain ⟨rfl,rfl,rfl⟩:=H
  go_enter Try.func23,Try.ntmps23
  go_wp2_with (first|((with_reducible refine zJ (f:=51) rfl ?_);refine yj (some 13) rfl rfl Try.func51 jA rfl #[.pointer (some ⟨g,0,none⟩)] rfl jB ?_;(with_reducible refine (Fi.calls  g s0_0 s0_1 s0_2 t169 t170 t171 w0 _ ?side1 ?side2 A5.out).mono ?_);(case side1=>repeat (with_reducible first|exact HI0.out|apply IsS50.alloc|apply IsS50.drewN|apply IsS50.drew|apply IsS50.set_1|apply IsS50.set_2));(case side2=>repeat (with_reducible first|exact HB.out|apply za|apply zb|apply zc|refine zd ?_ (IsS50.ge HI0.out)));rintro e w7 ⟨rfl,hi,hb,hk⟩;refine ⟨_,rfl,?_⟩;replace HK:=zh (KeepBut.trans jI hk (.inl rfl));replace HB:=zh (hb);replace HI0:=zh (hi);(try clear hb);(try clear hb2);(try clear hk);(try clear hi)))
  go_ret
  exact ⟨jG,jx,jy,jI⟩
 rw [if_neg c4] at H;have c4b0 : decide (a1≤256)=false:=decide_eq_false c4;clear c4;replace H:=zT.mp H;obtain ⟨⟨t172,t173,t174⟩,A80,H⟩:=H;have A8:=zh A80;clear A80;replace H:=zT.mp H;obtain ⟨⟨t175,t176,t177⟩,A90,H⟩:=H;have A9:=zh A90;clear A90;replace H:=zT.mp H;obtain ⟨⟨t178,t179,t180⟩,A100,H⟩:=H;have A10:=zh A100;clear A100
 by_cases c11 : a1=0
 ·
  rw [if_pos c11] at H
  exact absurd H (by simp)
 rw [if_neg c11] at H;have c11b0 : (a1 == 0)=false:=zY.mpr c11;have c11b1 : (a1 != 0)=true:=zZ.mpr c11;simp only [Option.some.injEq,Prod.mk.injEq] at H;obtain ⟨rfl,rfl,rfl⟩:=H
 go_enter Try.func23,Try.ntmps23
 go_wp2_with (first|((with_reducible refine zJ (f:=51) rfl ?_);refine yj (some 17) rfl rfl Try.func51 jA rfl #[.pointer (some ⟨g,0,none⟩)] rfl jB ?_;(with_reducible refine (Fi.calls  g s0_0 s0_1 s0_2 t172 t173 t174 w0 _ ?side1 ?side2 A8.out).mono ?_);(case side1=>repeat (with_reducible first|exact HI0.out|apply IsS50.alloc|apply IsS50.drewN|apply IsS50.drew|apply IsS50.set_1|apply IsS50.set_2));(case side2=>repeat (with_reducible first|exact HB.out|apply za|apply zb|apply zc|refine zd ?_ (IsS50.ge HI0.out)));rintro e w12 ⟨rfl,hi,hb,hk⟩;refine ⟨_,rfl,?_⟩;replace HK:=zh (KeepBut.trans jI hk (.inl rfl));replace HB:=zh (hb);replace HI0:=zh (hi);(try clear hb);(try clear hb2);(try clear hk);(try clear hi))|((with_reducible refine zJ (f:=51) rfl ?_);refine yj (some 19) rfl rfl Try.func51 jA rfl #[.pointer (some ⟨g,0,none⟩)] rfl jB ?_;(with_reducible refine (Fi.calls  g s0_0 t173 t174 t175 t176 t177 w0 _ ?side1 ?side2 A9.out).mono ?_);(case side1=>repeat (with_reducible first|exact HI0.out|apply IsS50.alloc|apply IsS50.drewN|apply IsS50.drew|apply IsS50.set_1|apply IsS50.set_2));(case side2=>repeat (with_reducible first|exact HB.out|apply za|apply zb|apply zc|refine zd ?_ (IsS50.ge HI0.out)));rintro e w13 ⟨rfl,hi,hb,hk⟩;refine ⟨_,rfl,?_⟩;replace HK:=zh (KeepBut.trans jI hk (.inl rfl));replace HB:=zh (hb);replace HI0:=zh (hi);(try clear hb);(try clear hb2);(try clear hk);(try clear hi))|((with_reducible refine zJ (f:=51) rfl ?_);refine yj (some 21) rfl rfl Try.func51 jA rfl #[.pointer (some ⟨g,0,none⟩)] rfl jB ?_;(with_reducible refine (Fi.calls  g s0_0 t176 t177 t178 t179 t180 w0 _ ?side1 ?side2 A10.out).mono ?_);(case side1=>repeat (with_reducible first|exact HI0.out|apply IsS50.alloc|apply IsS50.drewN|apply IsS50.drew|apply IsS50.set_1|apply IsS50.set_2));(case side2=>repeat (with_reducible first|exact HB.out|apply za|apply zb|apply zc|refine zd ?_ (IsS50.ge HI0.out)));rintro e w14 ⟨rfl,hi,hb,hk⟩;refine ⟨_,rfl,?_⟩;replace HK:=zh (KeepBut.trans jI hk (.inl rfl));replace HB:=zh (hb);replace HI0:=zh (hi);(try clear hb);(try clear hb2);(try clear hk);(try clear hi)))
 go_ret
 exact ⟨jG,jx,jy,jI⟩


def F14.f (s0_0 : List Int) (s0_1 : Int) (s0_2 : Int) (a1 : Int) : Option (Bool×Int×Int):=(F07.f s0_0 s0_1 s0_2 a1).bind fun bt201=>(some ((bt201.1 == (wrap64 (a1 - 1))),bt201.2.1,bt201.2.2))
set_option maxHeartbeats 8000000 in
set_option maxRecDepth 100000 in
theorem F14.calls (g : Nat) (s0_0 : List Int) (s0_1 : Int) (s0_2 : Int) (a1 : Int) (r1 : Bool) (r2 : Int) (r3 : Int) (w0 w : World) (hI : IsS50 w0 w g s0_0 s0_1 s0_2) (hB : Below w0.heap.size w0 w) (h : F14.f s0_0 s0_1 s0_2 a1=some (r1,r2,r3)) :
  Calls Try.prog 53 #[.pointer (some ⟨g,0,none⟩),.int .i64 a1] w fun e w' => e = .returned (.bool r1)∧IsS50 w0 w' g s0_0 r2 r3∧Below w0.heap.size w0 w' ∧ KeepBut w w' g none:=by
 have HI0:=zh hI;have HK:=zh (KeepBut.refl w g none);have HL:=zh hB.size;clear hI;have HW0:=zh hB.size;have HB:=zh hB;clear hB;have H : ((F07.f s0_0 s0_1 s0_2 a1).bind fun bt201=>(some ((bt201.1 == (wrap64 (a1 - 1))),bt201.2.1,bt201.2.2)))=some (r1,r2,r3):=h;clear h;replace H:=zT.mp H;obtain ⟨⟨t201,t202,t203⟩,A30,H⟩:=H;have A3:=zh A30;clear A30;simp only [Option.some.injEq,Prod.mk.injEq] at H;obtain ⟨rfl,rfl,rfl⟩:=H
 go_enter Try.func53,Try.ntmps53
 go_wp2_with (first|((with_reducible refine zJ (f:=23) rfl ?_);refine yj (some 7) rfl rfl Try.func23 jA rfl #[.pointer (some ⟨g,0,none⟩),.int .i64 a1] rfl jB ?_;(with_reducible refine (F07.calls  g s0_0 s0_1 s0_2 a1 t201 t202 t203 w0 _ ?side1 ?side2 A3.out).mono ?_);(case side1=>repeat (with_reducible first|exact HI0.out|apply IsS50.alloc|apply IsS50.drewN|apply IsS50.drew|apply IsS50.set_1|apply IsS50.set_2));(case side2=>repeat (with_reducible first|exact HB.out|apply za|apply zb|apply zc|refine zd ?_ (IsS50.ge HI0.out)));rintro e w4 ⟨rfl,hi,hb,hk⟩;refine ⟨_,rfl,?_⟩;replace HK:=zh (KeepBut.trans jI hk (.inl rfl));replace HB:=zh (hb);replace HI0:=zh (hi);(try clear hb);(try clear hb2);(try clear hk);(try clear hi)))
 go_ret
 exact ⟨jG,jx,jy,jI⟩


def F8.l0 : Nat→Int→List Int→Int→Option (ByteArray)
 | 0,_,_,_=>none
 | k+1,x0,x5,x6=>if x6 ≥ 0 then (if 0≤(IntKind.u64.wrap (wrap64 (8*x6))) then (if x5.length<140737488355328 then (F8.l0 k x0 (x5 ++ [(shr .i64 x0 (IntKind.u64.wrap (wrap64 (8*x6)))) % 256]) (wrap64 (x6 - 1))) else (none)) else (none)) else (some (strOfNums x5))
def F8.f (k : Nat) (a0 : Int) (a1 : Int) : Option (ByteArray):=F8.l0 k a0 (([] : List Int)) (wrap64 (a1 - 1))
theorem F8.mono_l : ∀ k,(∀ y0 y1 y2,LeO (F8.l0 k y0 y1 y2) (F8.l0 (k+1) y0 y1 y2))
 | 0=>fun _ _ _ r h=>by simp [F8.l0] at h
 | k+1=>by
  have ih0:=F8.mono_l k;intro y0 y1 y2;unfold F8.l0
  repeat' first|(with_reducible first|exact ih0 _ _ _|exact zQ _|exact zN _|refine zP ?_ ?_|refine zO ?_ (fun _=>?_))|refine zP ?_ ?_|refine zO ?_ (fun _=>?_)
theorem F8.mono : ∀ a0 a1 k,LeO (F8.f k a0 a1) (F8.f (k+1) a0 a1):=by
 intro a0 a1 k;have ih0:=F8.mono_l k;unfold F8.f
 repeat' first|(with_reducible first|exact ih0 _ _ _|exact zQ _|exact zN _|refine zP ?_ ?_|refine zO ?_ (fun _=>?_))|refine zP ?_ ?_|refine zO ?_ (fun _=>?_)
set_option maxHeartbeats 8000000 in
set_option maxRecDepth 100000 in
theorem F8.calls (k : Nat) (a0 : Int) (a1 : Int) (r : ByteArray) (w : World) (h : F8.f k a0 a1=some r) :
  Calls Try.prog 68 #[.int .i64 a0,.int .i64 a1] w fun e w' => e = .returned (.string r)∧Below w.heap.size w w':=by
 have HB:=zh (Below.refl w.heap.size w);have H : (F8.l0 k a0 (([] : List Int)) (wrap64 (a1 - 1)))=some r:=h;clear h;obtain ⟨y187,hy187⟩ : ∃ y_ : List Int,y_=(([] : List Int)):=⟨_,rfl⟩;replace H : (F8.l0 k a0 y187 (wrap64 (a1 - 1)))=some r:=by first|(rw [hy187];with_reducible exact H)|(have H2_:=(Option.bind_some _ _).symm.trans H;rw [hy187];with_reducible exact H2_)|(have H2_:=(Option.bind_some _ _).symm.trans H;with_reducible exact H2_)|with_reducible exact H|(rw [hy187];exact H)|exact H
 have Ny187:=zh hy187;clear hy187;have H':=zh H;clear H
 go_enter Try.func68,Try.ntmps68
 go_wp2_with (first|((with_reducible refine zK (N:=7) rfl ?_);refine Kd.R_lit (Kd.int .u8) _ 5 ?hg (N:=7) ?hd (xs:=([] : List Int)) (inner:=[]) (ok:=fun _=>True) (okp:=fun _=>True) ?hr ?hp (fun _ hk=>hk) trivial (Below.refl _ _) (ye _) (by simp) ?_;(case hd=>rfl);(case hg=>rfl);(case hr=>go_simp <;> rfl);(case hp=>exact (Reps.none _ _));intro v188 w3 ho4 hb hg_ hnew_;clear hg_ hnew_;(first|rw [← Ny187.out] at ho4|(simp only [Int.reduceToNat] at ho4;rw [← Ny187.out] at ho4));have HO189:=zh (yy ho4 (zB jD));replace HB:=zh (zC jD hb);clear hb ho4))
 go_loopg [5,6] k (fun kq v5 v6 w' => ∃ (x5_1 : List Int) (x6_1 : Int),v6 = .int .i64 x6_1∧Aside0 (F8.l0 kq a0 x5_1 x6_1=some r)∧Aside0 (kq≤k)∧Aside0 (Kd.R (Kd.int .u8) 5 w' w.heap.size (fun _=>True) v5 x5_1)∧Aside0 (Below w.heap.size w w'))
 case atStart=>exact ⟨(y187),(wrap64 (a1 - 1)),jE,H',⟨ye _⟩,⟨by (with_reducible repeat (first|apply zm|apply zn|apply zo));exact HO189.out⟩,⟨jD⟩⟩
 case round =>
  clear H'
  try clear p2
  obtain ⟨x5_1,x6_1,rfl,HA,HK1,HO_5,HB⟩:=hrel
  cases gk with
  | zero=>exact absurd HA.out (by simp [F8.l0])
  | succ k1 =>
   have H:=HA.out;clear HA;simp only [F8.l0] at H
   by_cases c5 : x6_1 ≥ 0
   ·
    rw [if_pos c5] at H
    have c5b0 : decide (0≤x6_1)=true:=decide_eq_true c5;clear c5;obtain ⟨ji6,hji6⟩ : ∃ j_ : Int,(IntKind.u64.wrap (wrap64 (8*x6_1)))=j_:=⟨_,rfl⟩;replace H : (if 0≤(ji6) then (if x5_1.length<140737488355328 then (F8.l0 k1 a0 (x5_1 ++ [(shr .i64 a0 (ji6)) % 256]) (wrap64 (x6_1 - 1))) else (none)) else (none))=some r:=by first|(rw [hji6] at H;exact H)|(simp only [hji6] at H ⊢;exact H)
    by_cases c7 : 0≤(ji6)
    ·
     rw [if_pos c7] at H
     have c7b0:=eq_true c7;have c7b1 : decide (0≤(ji6))=true:=decide_eq_true c7;clear c7;obtain ⟨ji8,hji8⟩ : ∃ j_ : Int,(shr .i64 a0 (ji6))=j_:=⟨_,rfl⟩;replace H : (if x5_1.length<140737488355328 then (F8.l0 k1 a0 (x5_1 ++ [(ji8) % 256]) (wrap64 (x6_1 - 1))) else (none))=some r:=by first|(rw [hji8] at H;exact H)|(simp only [hji8] at H ⊢;exact H)
     have hji8_ : (a0 / 2 ^ min (ji6).toNat 64)=ji8:=hji8;have hji8z : (ji6)≤64→(a0 / 2 ^ (ji6).toNat)=ji8:=shr_small hji8
     by_cases c9 : x5_1.length<140737488355328
     ·
      rw [if_pos c9] at H
      have LMc9:=zh c9;clear c9;obtain ⟨y190,hy190⟩ : ∃ y_ : List Int,y_=(x5_1 ++ [(ji8) % 256]):=⟨_,rfl⟩;replace H : (F8.l0 k1 a0 y190 (wrap64 (x6_1 - 1)))=some r:=by first|(rw [hy190];with_reducible exact H)|(have H2_:=(Option.bind_some _ _).symm.trans H;rw [hy190];with_reducible exact H2_)|(have H2_:=(Option.bind_some _ _).symm.trans H;with_reducible exact H2_)|with_reducible exact H|(rw [hy190];exact H)|exact H
      have Ny190:=zh hy190;clear hy190;have H':=zh H;clear H
      go_wp2_with (first|((with_reducible refine yB (b:=.append) (xs:=#[.tmp 14,.tmp 21]) rfl ?_);at_builtin;refine Kd.R_append (Kd.int .u8) (w0:=w) w.heap.size rfl (.tmp 14) (.tmp 21) 22 5 (.int .u8 0) 1 rfl Try.underlying22 info5 rfl jC jH u5 x5_1 ((ji8) % 256) [.int .u8 ((ji8) % 256)] (fun _=>True) (fun _=>False) rfl rfl ?aP (fun _ hk=>hk.elim) ?aF ?aO ?aB ?aS ?aL ?_;(case aP=>exact rfl);(case aB=>exact jD);(case aF=>exact (fun _ _=>trivial));(case aO=>exact jM);(case aS=>exact (zB jD));(case aL=>have:=LMc9.out;omega);intro v191 w10 ho hb hg hat;rw [← Ny190.out] at ho;replace HB:=zh (hb);have HO192:=zh (ho);clear HO_5 ho hb hg hat))
      go_roundg k1
      case measure=>have:=HK1.out;omega
      case rel=>exact ⟨(y190),(wrap64 (x6_1 - 1)),jE,H',⟨jN⟩,⟨by (with_reducible repeat (first|apply zm|apply zn|apply zo));exact HO192.out⟩,⟨jD⟩⟩
     rw [if_neg c9] at H;exact absurd H (by simp)
    rw [if_neg c7] at H;exact absurd H (by simp)
   rw [if_neg c5] at H;have c5b0 : decide (0≤x6_1)=false:=decide_eq_false c5;clear c5;obtain rfl:=zU H;have hcv11:=own_string (P:=Try.prog) Try.underlying22 Try.underlying5 Try.underlying9 (Kd.own_of_R HO_5.out)
   go_wp2
   go_ret
   exact ⟨jG,jD⟩


def F0c.f (k : Nat) (a0_0 : Int) (a0_1 : Int) (a0_2 : ByteArray) : Option (ByteArray):=(F8.f k a0_0 1).bind fun t194=>(if a0_0=0 then (some t194) else (if a0_0=1 then ((F8.f k a0_1 1).bind fun t195=>(if t194.size+t195.size≤9223372036854775807 then (some (t194++t195)) else (none))) else (if a0_0=2 then ((F8.f k (wrap64 (a0_1+4611686018427387904)) 8).bind fun t196=>(if t194.size+t196.size≤9223372036854775807 then (some (t194++t196)) else (none))) else ((F8.f k (a0_2.size : Int) 2).bind fun t197=>(if t194.size+t197.size≤9223372036854775807 then (if (t194++t197).size+a0_2.size≤9223372036854775807 then (some ((t194++t197)++a0_2)) else (none)) else (none))))))
theorem F0c.mono : ∀ a0 a1 a2 k,LeO (F0c.f k a0 a1 a2) (F0c.f (k+1) a0 a1 a2):=by
 intro a0 a1 a2 k;unfold F0c.f
 repeat' first|(with_reducible first|exact F8.mono _ _ _|exact zQ _|exact zN _|refine zP ?_ ?_|refine zO ?_ (fun _=>?_))|refine zP ?_ ?_|refine zO ?_ (fun _=>?_)
def F0c.T9 : Bool×List (List Nat×List Nat):=(true,[([],[]),([],[]),([1],[1]),([2],[2]),([3],[3]),([0,4],[0,4]),([],[]),([6],[6]),([5,7],[5,7]),([8,4,0,1,2,3,4,5,6,7,8],[8])])
def F0c.B9 : List Nat:=[0,0,2,6,14,31,0,64,255,511]
theorem F0c.tab9 : rtab .any (opsOf Try.f52 9)=F0c.T9:=by kernel_rfl
theorem F0c.bits9 : waitsOk F0c.T9.2 F0c.B9=true:=by kernel_rfl
set_option maxHeartbeats 8000000 in
set_option maxRecDepth 100000 in
theorem F0c.calls (k : Nat) (a0_0 : Int) (a0_1 : Int) (a0_2 : ByteArray) (r : ByteArray) (w : World) (h : F0c.f k a0_0 a0_1 a0_2=some r) :
  Calls Try.prog 52 #[.agg #[.int .i64 a0_0,.int .i64 a0_1,.string a0_2]] w fun e w' => e = .returned (.string r)∧Below w.heap.size w w':=by
 have hu24:=Try.underlying24;have HB:=zh (Below.refl w.heap.size w);have H : ((F8.f k a0_0 1).bind fun t194=>(if a0_0=0 then (some t194) else (if a0_0=1 then ((F8.f k a0_1 1).bind fun t195=>(if t194.size+t195.size≤9223372036854775807 then (some (t194++t195)) else (none))) else (if a0_0=2 then ((F8.f k (wrap64 (a0_1+4611686018427387904)) 8).bind fun t196=>(if t194.size+t196.size≤9223372036854775807 then (some (t194++t196)) else (none))) else ((F8.f k (a0_2.size : Int) 2).bind fun t197=>(if t194.size+t197.size≤9223372036854775807 then (if (t194++t197).size+a0_2.size≤9223372036854775807 then (some ((t194++t197)++a0_2)) else (none)) else (none)))))))=some r:=h;clear h;replace H:=zT.mp H;obtain ⟨t194,A20,H⟩:=H;have A2:=zh A20;clear A20
 by_cases c3 : a0_0=0
 ·
  rw [if_pos c3] at H
  have c3b0 : (a0_0 == 0)=true:=ya.mpr c3;have c3b1 : (a0_0 != 0)=false:=zX.mpr c3;clear c3;obtain rfl:=zU H
  go_enter Try.func52,Try.ntmps52
  go_wp2_with (first|((with_reducible refine zK (N:=1) rfl ?_);refine zI ?hg (N:=1) ?hd (cs:=#[.int .i64 a0_0,.int .i64 a0_1,.string a0_2]) (t:=24) ?hr ?_;(case hd=>rfl);(case hg=>rfl);(case hr=>go_simp <;> rfl);intro gb193 hg w4 hbox hb;have BK193:=zh (hbox);have hH_:=cH jD hb hg;have GW193:=zh hH_.1;have GE193:=GW193;replace HB:=zh hH_.2;clear hb hbox hg hH_;obtain ⟨hcz5_0,hcz5_1,hcz5_2,hfz5_0,hfz5_1,hfz5_2⟩:=cB3 BK193.out)|((with_reducible refine zJ (f:=68) rfl ?_);refine yj (some 6) rfl rfl Try.func68 jA rfl #[.int .i64 a0_0,.int .i64 1] rfl jB ?_;(with_reducible refine (F8.calls k  a0_0 1 t194 _ A2.out).mono ?_);rintro e w6 ⟨rfl,hb⟩;refine ⟨_,rfl,?_⟩;replace BK193:=zh (cD BK193.out jAr hb);replace HB:=zh (zC jAT hb);(try clear hb);(try clear hb2);(try clear hk);(try clear hi);obtain ⟨hcz7_0,hcz7_1,hcz7_2,hfz7_0,hfz7_1,hfz7_2⟩:=cB3 BK193.out))
  go_ret
  exact ⟨jG,jAT⟩
 rw [if_neg c3] at H;have c3b0 : (a0_0 == 0)=false:=zY.mpr c3;have c3b1 : (a0_0 != 0)=true:=zZ.mpr c3
 by_cases c8 : a0_0=1
 ·
  rw [if_pos c8] at H
  have c8b0 : (a0_0 == 1)=true:=ya.mpr c8;have c8b1 : (a0_0 != 1)=false:=zX.mpr c8;clear c8;replace H:=zT.mp H;obtain ⟨t195,A90,H⟩:=H;have A9:=zh A90;clear A90
  by_cases c10 : t194.size+t195.size≤9223372036854775807
  ·
   rw [if_pos c10] at H
   have c10b0:=eq_true c10;have c10b1 : decide (t194.size+t195.size≤9223372036854775807)=true:=decide_eq_true c10
   try have c10b2 : (9223372036854775807<t194.size+t195.size)=False:=eq_false (Nat.not_lt.2 c10)
   obtain rfl:=zU H
   go_enter Try.func52,Try.ntmps52
   go_wp2_with (first|((with_reducible refine zK (N:=1) rfl ?_);refine zI ?hg (N:=1) ?hd (cs:=#[.int .i64 a0_0,.int .i64 a0_1,.string a0_2]) (t:=24) ?hr ?_;(case hd=>rfl);(case hg=>rfl);(case hr=>go_simp <;> rfl);intro gb193 hg w11 hbox hb;have BK193:=zh (hbox);have hH_:=cH jD hb hg;have GW193:=zh hH_.1;have GE193:=GW193;replace HB:=zh hH_.2;clear hb hbox hg hH_;obtain ⟨hcz12_0,hcz12_1,hcz12_2,hfz12_0,hfz12_1,hfz12_2⟩:=cB3 BK193.out)|((with_reducible refine zJ (f:=68) rfl ?_);refine yj (some 6) rfl rfl Try.func68 jA rfl #[.int .i64 a0_0,.int .i64 1] rfl jB ?_;(with_reducible refine (F8.calls k  a0_0 1 t194 _ A2.out).mono ?_);rintro e w13 ⟨rfl,hb⟩;refine ⟨_,rfl,?_⟩;replace BK193:=zh (cD BK193.out jAr hb);replace HB:=zh (zC jAT hb);(try clear hb);(try clear hb2);(try clear hk);(try clear hi);obtain ⟨hcz14_0,hcz14_1,hcz14_2,hfz14_0,hfz14_1,hfz14_2⟩:=cB3 BK193.out)|((with_reducible refine zJ (f:=68) rfl ?_);refine yj (some 17) rfl rfl Try.func68 jA rfl #[.int .i64 a0_1,.int .i64 1] rfl jB ?_;(with_reducible refine (F8.calls k  a0_1 1 t195 _ A9.out).mono ?_);rintro e w15 ⟨rfl,hb⟩;refine ⟨_,rfl,?_⟩;replace BK193:=zh (cD BK193.out jAr hb);replace HB:=zh (zC jAT hb);(try clear hb);(try clear hb2);(try clear hk);(try clear hi)))
   go_ret
   exact ⟨jG,jAT⟩
  rw [if_neg c10] at H;exact absurd H (by simp)
 rw [if_neg c8] at H;have c8b0 : (a0_0 == 1)=false:=zY.mpr c8;have c8b1 : (a0_0 != 1)=true:=zZ.mpr c8
 by_cases c16 : a0_0=2
 ·
  rw [if_pos c16] at H
  have c16b0 : (a0_0 == 2)=true:=ya.mpr c16;have c16b1 : (a0_0 != 2)=false:=zX.mpr c16;clear c16;replace H:=zT.mp H;obtain ⟨t196,A170,H⟩:=H;have A17:=zh A170;clear A170
  by_cases c18 : t194.size+t196.size≤9223372036854775807
  ·
   rw [if_pos c18] at H
   have c18b0:=eq_true c18;have c18b1 : decide (t194.size+t196.size≤9223372036854775807)=true:=decide_eq_true c18
   try have c18b2 : (9223372036854775807<t194.size+t196.size)=False:=eq_false (Nat.not_lt.2 c18)
   obtain rfl:=zU H
   go_enter Try.func52,Try.ntmps52
   go_wp2_with (first|((with_reducible refine zK (N:=1) rfl ?_);refine zI ?hg (N:=1) ?hd (cs:=#[.int .i64 a0_0,.int .i64 a0_1,.string a0_2]) (t:=24) ?hr ?_;(case hd=>rfl);(case hg=>rfl);(case hr=>go_simp <;> rfl);intro gb193 hg w19 hbox hb;have BK193:=zh (hbox);have hH_:=cH jD hb hg;have GW193:=zh hH_.1;have GE193:=GW193;replace HB:=zh hH_.2;clear hb hbox hg hH_;obtain ⟨hcz20_0,hcz20_1,hcz20_2,hfz20_0,hfz20_1,hfz20_2⟩:=cB3 BK193.out)|((with_reducible refine zJ (f:=68) rfl ?_);refine yj (some 6) rfl rfl Try.func68 jA rfl #[.int .i64 a0_0,.int .i64 1] rfl jB ?_;(with_reducible refine (F8.calls k  a0_0 1 t194 _ A2.out).mono ?_);rintro e w21 ⟨rfl,hb⟩;refine ⟨_,rfl,?_⟩;replace BK193:=zh (cD BK193.out jAr hb);replace HB:=zh (zC jAT hb);(try clear hb);(try clear hb2);(try clear hk);(try clear hi);obtain ⟨hcz22_0,hcz22_1,hcz22_2,hfz22_0,hfz22_1,hfz22_2⟩:=cB3 BK193.out)|((with_reducible refine zJ (f:=68) rfl ?_);refine yj (some 25) rfl rfl Try.func68 jA rfl #[.int .i64 (wrap64 (a0_1+4611686018427387904)),.int .i64 8] rfl jB ?_;(with_reducible refine (F8.calls k  (wrap64 (a0_1+4611686018427387904)) 8 t196 _ A17.out).mono ?_);rintro e w23 ⟨rfl,hb⟩;refine ⟨_,rfl,?_⟩;replace BK193:=zh (cD BK193.out jAr hb);replace HB:=zh (zC jAT hb);(try clear hb);(try clear hb2);(try clear hk);(try clear hi)))
   go_ret
   exact ⟨jG,jAT⟩
  rw [if_neg c18] at H;exact absurd H (by simp)
 rw [if_neg c16] at H;have c16b0 : (a0_0 == 2)=false:=zY.mpr c16;have c16b1 : (a0_0 != 2)=true:=zZ.mpr c16;replace H:=zT.mp H;obtain ⟨t197,A240,H⟩:=H;have A24:=zh A240;clear A240
 by_cases c25 : t194.size+t197.size≤9223372036854775807
 ·
  rw [if_pos c25] at H
  have c25b0:=eq_true c25;have c25b1 : decide (t194.size+t197.size≤9223372036854775807)=true:=decide_eq_true c25
  try have c25b2 : (9223372036854775807<t194.size+t197.size)=False:=eq_false (Nat.not_lt.2 c25)
  by_cases c26 : (t194++t197).size+a0_2.size≤9223372036854775807
  ·
   rw [if_pos c26] at H
   have c26b0:=eq_true c26;have c26b1 : decide ((t194++t197).size+a0_2.size≤9223372036854775807)=true:=decide_eq_true c26
   try have c26b2 : (9223372036854775807<(t194++t197).size+a0_2.size)=False:=eq_false (Nat.not_lt.2 c26)
   (try have c26b4:=c26b2;simp only [ByteArray.size_append] at c26b4);obtain rfl:=zU H
   go_enter Try.func52,Try.ntmps52
   try go_wp2_with (first|((with_reducible refine zK (N:=1) rfl ?_);refine zI ?hg (N:=1) ?hd (cs:=#[.int .i64 a0_0,.int .i64 a0_1,.string a0_2]) (t:=24) ?hr ?_;(case hd=>rfl);(case hg=>rfl);(case hr=>go_simp <;> rfl);intro gb193 hg w27 hbox hb;have BK193:=zh (hbox);have hH_:=cH jD hb hg;have GW193:=zh hH_.1;have GE193:=GW193;replace HB:=zh hH_.2;clear hb hbox hg hH_;obtain ⟨hcz28_0,hcz28_1,hcz28_2,hfz28_0,hfz28_1,hfz28_2⟩:=cB3 BK193.out)|((with_reducible refine zJ (f:=68) rfl ?_);refine yj (some 6) rfl rfl Try.func68 jA rfl #[.int .i64 a0_0,.int .i64 1] rfl jB ?_;(with_reducible refine (F8.calls k  a0_0 1 t194 _ A2.out).mono ?_);rintro e w29 ⟨rfl,hb⟩;refine ⟨_,rfl,?_⟩;replace BK193:=zh (cD BK193.out jAr hb);replace HB:=zh (zC jAT hb);(try clear hb);(try clear hb2);(try clear hk);(try clear hi);obtain ⟨hcz30_0,hcz30_1,hcz30_2,hfz30_0,hfz30_1,hfz30_2⟩:=cB3 BK193.out))
   replace BK193:=zh (zf BK193.out);replace HB:=zh (zc HB.out);refine start_ (n:=10) (S:=fun w' => w'.cell? ⟨gb193,0,none⟩=some (.int .i64 a0_0)∧w'.cell? ⟨gb193,1,none⟩=some (.int .i64 a0_1)∧w'.cell? ⟨gb193,2,none⟩=some (.string a0_2)) (ds:=[]) (bm_ 0 10) jA rfl rfl ⟨(zz BK193.out 0).trans rfl,(zz BK193.out 1).trans rfl,(zz BK193.out 2).trans rfl⟩ (fun hHeld=>?_);refine with_tabW F0c.tab9 F0c.bits9 (fun HT_ HW_=>?_);generalize w29.drew=w31 at BK193 HB hHeld ⊢;refine pure_ (i:=0) (N:=some 27) (v:=?_) (a':=?_) (bm_ 1 10) rfl rfl (any_of HT_.out jA) (fun _ _ _ h=>h) (Or.inl ⟨by rfl,?_⟩) ?_ ?_;rotate_left;exact jb;rotate_left;exact jc
   refine pure_ (i:=1) (N:=some 28) (v:=?_) (a':=?_) (bm_ 2 10) rfl rfl (any_of HT_.out jA) (fun _ _ _ h=>h) (Or.inl ⟨by rfl,?_⟩) ?_ ?_;rotate_left;exact jb;rotate_left;exact jc
   refine pure_ (i:=6) (N:=some 33) (v:=?_) (a':=?_) #[true,true,false,false,false,false,true,false,false,false] rfl rfl (any_of HT_.out jA) (fun _ _ _ h=>h) (Or.inl ⟨by rfl,?_⟩) ?_ ?_;rotate_left;exact jb;rotate_left;exact jc
   refine take_ (i:=2) (N:=some 29) (v:=?_) (a':=?_) #[true,true,true,false,false,false,true,false,false,false] rfl rfl (yo HT_.out HW_.out jA) (fun _ _ _ h=>h) (Or.inl ⟨by rfl,?_⟩) hHeld ?_ ?_;rotate_left
   ·
    rintro w' ⟨s0,s1,s2⟩
    go_simp
    with_reducible rfl
   rotate_left
   exact jc
   refine pure_ (i:=3) (N:=some 30) (v:=?_) (a':=?_) #[true,true,true,true,false,false,true,false,false,false] rfl rfl (any_of HT_.out jA) (fun _ _ _ h=>h) (Or.inl ⟨by rfl,?_⟩) ?_ ?_;rotate_left;exact jb;rotate_left;exact jc
   refine take_ (i:=7) (N:=some 34) (v:=?_) (a':=?_) #[true,true,true,true,false,false,true,true,false,false] rfl rfl (yo HT_.out HW_.out jA) (fun _ _ _ h=>h) (Or.inl ⟨by rfl,?_⟩) hHeld ?_ ?_;rotate_left
   ·
    rintro w' ⟨s0,s1,s2⟩
    go_simp
    with_reducible rfl
   rotate_left
   exact jc
   refine one_ (i:=4) (N:=some 31) #[true,true,true,true,true,false,true,true,false,false] rfl rfl (one_of HT_.out jA) jC (fun K hK=>?_);refine goes_ Try.func68 jA rfl #[.int .i64 (a0_2.size : Int),.int .i64 2] (by rfl) rfl rfl jB ?_
   with_reducible refine (F8.calls k  (a0_2.size : Int) 2 t197 _ A24.out).mono ?_
   rintro e w32 ⟨rfl,hb⟩;refine ⟨_,rfl,?_⟩;replace BK193:=zh (cD BK193.out jAr hb);replace HB:=zh (zC jAT hb);(try clear hb);(try clear hb2);(try clear hk);(try clear hi);refine hK.out _ _ ⟨(zz BK193.out 0).trans rfl,(zz BK193.out 1).trans rfl,(zz BK193.out 2).trans rfl⟩ (fun hHeld=>?_);clear hK K;refine norm_ (a':=?_) ?_ ?_;rotate_left
   ·
    show Act.put _ (some 31) _=_
    simp only [Act.put,zi,zj,zk,zG,zH]
    rfl
   refine pure_ (i:=5) (N:=some 32) (v:=?_) (a':=?_) (bm_ 8 10) rfl rfl (any_of HT_.out jA) (fun _ _ _ h=>h) (Or.inl ⟨by rfl,?_⟩) ?_ ?_;rotate_left;exact jb;rotate_left;exact jc
   refine pure_ (i:=8) (N:=some 35) (v:=?_) (a':=?_) (bm_ 9 10) rfl rfl (any_of HT_.out jA) (fun _ _ _ h=>h) (Or.inl ⟨by rfl,?_⟩) ?_ ?_;rotate_left;exact jb;rotate_left;exact jc
   refine pure_ (i:=9) (N:=some 2) (v:=?_) (a':=?_) (bm_ 10 10) rfl rfl (any_of HT_.out jA) (fun _ _ _ h=>h) (Or.inl ⟨by rfl,?_⟩) ?_ ?_;rotate_left;exact jb;rotate_left;exact jc
   refine done_ (done_of HT_.out jA) ?_
   try go_wp2
   go_ret
   exact ⟨jG,jAT⟩
  rw [if_neg c26] at H;exact absurd H (by simp)
 rw [if_neg c25] at H;exact absurd H (by simp)


def Fj.l0 : Nat→List (S68)→ByteArray→Int→Option (Int×Int×ByteArray)
 | 0,_,_,_=>none
 | k+1,x0,x3,x4=>if x4<(x0.length : Int) then (if 0≤x4 then ((F8.f k (((rd_T68 x0 x4).f0).size : Int) 1).bind fun t206=>(if t206.size+((rd_T68 x0 x4).f0).size≤9223372036854775807 then ((F0c.f k ((rd_T68 x0 x4).f1.f0) ((rd_T68 x0 x4).f1.f1) ((rd_T68 x0 x4).f1.f2)).bind fun t209=>(if (t206++((rd_T68 x0 x4).f0)).size+t209.size≤9223372036854775807 then (if x3.size+((t206++((rd_T68 x0 x4).f0))++t209).size≤9223372036854775807 then (Fj.l0 k x0 (x3++((t206++((rd_T68 x0 x4).f0))++t209)) (wrap64 (x4+1))) else (none)) else (none))) else (none))) else (none)) else (some (5,0,x3))
def Fj.f (k : Nat) (l0 : List (S68)) : Option (Int×Int×ByteArray):=Fj.l0 k l0 (⟨#[]⟩ : ByteArray) 0
theorem Fj.mono_l : ∀ k,(∀ y0 y1 y2,LeO (Fj.l0 k y0 y1 y2) (Fj.l0 (k+1) y0 y1 y2))
 | 0=>fun _ _ _ r h=>by simp [Fj.l0] at h
 | k+1=>by
  have ih0:=Fj.mono_l k;intro y0 y1 y2;unfold Fj.l0
  repeat' first|(with_reducible first|exact ih0 _ _ _|exact F0c.mono _ _ _ _|exact F8.mono _ _ _|exact zQ _|exact zN _|refine zP ?_ ?_|refine zO ?_ (fun _=>?_))|refine zP ?_ ?_|refine zO ?_ (fun _=>?_)
theorem Fj.mono : ∀ a0 k,LeO (Fj.f k a0) (Fj.f (k+1) a0):=by
 intro a0 k;have ih0:=Fj.mono_l k;unfold Fj.f
 repeat' first|(with_reducible first|exact ih0 _ _ _|exact F0c.mono _ _ _ _|exact F8.mono _ _ _|exact zQ _|exact zN _|refine zP ?_ ?_|refine zO ?_ (fun _=>?_))|refine zP ?_ ?_|refine zO ?_ (fun _=>?_)
def Fj.T5 : Bool×List (List Nat×List Nat):=(true,[([],[]),([],[]),([],[]),([1,2],[1,2]),([3],[3]),([4],[4]),([5],[5]),([6],[6]),([],[]),([],[]),([8,9],[8,9]),([10],[10]),([11],[11]),([7,12],[7,12]),([],[]),([],[]),([14,15],[14,15]),([16],[16]),([17],[17]),([18,7],[18]),([13,19],[13,19]),([0,20],[0,20]),([21,19,0,1,2,3,4,5,6,7,8,9,10,11,12,13,14,15,16,17,18,19,20,21],[0,21])])
def Fj.B5 : List Nat:=[0,0,0,6,14,30,62,126,0,0,768,1792,3840,8190,0,0,49152,114688,245760,508158,1048574,2097151,4194303]
theorem Fj.tab5 : rtab .any (opsOf Try.f54 5)=Fj.T5:=by kernel_rfl
theorem Fj.bits5 : waitsOk Fj.T5.2 Fj.B5=true:=by kernel_rfl
set_option maxHeartbeats 8000000 in
set_option maxRecDepth 100000 in
theorem Fj.calls (k : Nat) (A0 : Option Addr) (c0 : Nat) (l0 : List (S68)) (r1 : Int) (r2 : Int) (r3 : ByteArray) (w : World) (hr0 : Kd.C k68 w A0 l0.length l0) (hc0 : l0.length≤c0) (h : Fj.f k l0=some (r1,r2,r3)) :
  Calls Try.prog 54 #[.slice A0 l0.length c0] w fun e w' => e = .returned (.agg #[.int .i64 r1,.int .i64 r2,.string r3])∧Below w.heap.size w w':=by
 have hu24:=Try.underlying24;have HR0:=zh hr0;have HC0:=zh hc0;clear hr0 hc0;have HB:=zh (Below.refl w.heap.size w);have H : (Fj.l0 k l0 (⟨#[]⟩ : ByteArray) 0)=some (r1,r2,r3):=h;clear h;have H':=zh H;clear H
 go_enter Try.func54,Try.ntmps54
 go_wp2_with (first|((with_reducible refine zK (N:=2) rfl ?_);refine zI ?hg (N:=2) ?hd (cs:=#[.int .i64 0,.int .i64 0,.string (⟨#[]⟩ : ByteArray)]) (t:=24) ?hr ?_;(case hd=>rfl);(case hg=>rfl);(case hr=>go_simp <;> rfl);intro gb204 hg w2 hbox hb;have BK204:=zh (hbox);have hH_:=cH jD hb hg;have GW204:=zh hH_.1;have GE204:=GW204;replace HB:=zh hH_.2;clear hb hbox hg hH_))
 go_loopg [3,4] k (fun kq v3 v4 w' => ∃ (x3_1 : ByteArray) (x4_1 : Int),v3 = .string x3_1∧v4 = .int .i64 x4_1∧Aside0 (Fj.l0 kq l0 x3_1 x4_1=some (r1,r2,r3))∧Aside0 (kq≤k)∧Aside0 (w'.heap[gb204]? = some (.cells #[.int .i64 0,.int .i64 0,.string (⟨#[]⟩ : ByteArray)] 24 (0,0)))∧Aside0 (Below w.heap.size w w'))
 case atStart=>exact ⟨((⟨#[]⟩ : ByteArray)),(0),jE,jE,H',⟨ye _⟩,⟨jBS⟩,⟨jBD⟩⟩
 case round =>
  clear H'
  try clear p2
  obtain ⟨x3_1,x4_1,rfl,rfl,HA,HK1,BK204,HB⟩:=hrel
  cases gk with
  | zero=>exact absurd HA.out (by simp [Fj.l0])
  | succ k1 =>
   have H:=HA.out;clear HA;simp only [Fj.l0] at H
   by_cases c3 : x4_1<(l0.length : Int)
   ·
    rw [if_pos c3] at H
    have c3b0 : decide (x4_1<(l0.length : Int))=true:=decide_eq_true c3;clear c3
    by_cases c4 : 0≤x4_1
    ·
     rw [if_pos c4] at H
     have c4b0 : decide (0≤x4_1)=true:=decide_eq_true c4;clear c4;replace H:=zT.mp H;obtain ⟨t206,A50,H⟩:=H;have A5:=zh A50;clear A50
     by_cases c6 : t206.size+((rd_T68 l0 x4_1).f0).size≤9223372036854775807
     ·
      rw [if_pos c6] at H
      have c6b0:=eq_true c6;have c6b1 : decide (t206.size+((rd_T68 l0 x4_1).f0).size≤9223372036854775807)=true:=decide_eq_true c6
      try have c6b2 : (9223372036854775807<t206.size+((rd_T68 l0 x4_1).f0).size)=False:=eq_false (Nat.not_lt.2 c6)
      replace H:=zT.mp H;obtain ⟨t209,A70,H⟩:=H;have A7:=zh A70;clear A70
      by_cases c8 : (t206++((rd_T68 l0 x4_1).f0)).size+t209.size≤9223372036854775807
      ·
       rw [if_pos c8] at H
       have c8b0:=eq_true c8;have c8b1 : decide ((t206++((rd_T68 l0 x4_1).f0)).size+t209.size≤9223372036854775807)=true:=decide_eq_true c8
       try have c8b2 : (9223372036854775807<(t206++((rd_T68 l0 x4_1).f0)).size+t209.size)=False:=eq_false (Nat.not_lt.2 c8)
       (try have c8b4:=c8b2;simp only [ByteArray.size_append] at c8b4)
       by_cases c9 : x3_1.size+((t206++((rd_T68 l0 x4_1).f0))++t209).size≤9223372036854775807
       ·
        rw [if_pos c9] at H
        have c9b0:=eq_true c9;have c9b1 : decide (x3_1.size+((t206++((rd_T68 l0 x4_1).f0))++t209).size≤9223372036854775807)=true:=decide_eq_true c9
        try have c9b2 : (9223372036854775807<x3_1.size+((t206++((rd_T68 l0 x4_1).f0))++t209).size)=False:=eq_false (Nat.not_lt.2 c9)
        (try have c9b4:=c9b2;simp only [ByteArray.size_append] at c9b4);have H':=zh H;clear H
        try go_wp2
        replace BK204:=zh (zf BK204.out);replace HB:=zh (zc HB.out);have p205 : 0≤(x4_1 : Int):=zy jF;have q205 : x4_1<(l0.length : Int):=zy jF;obtain ⟨ad205,e205,hx205_0,hx205_1,hx205_2,hx205_3⟩:=at_T68 HR0.out x4_1 p205 q205;have hw205_3:=hx205_3;have hw205_2:=hx205_2;have hw205_1:=hx205_1;have hw205_0:=hx205_0
        cases e205
        replace hx205_0:=(HB.out.cell (zl w _ hx205_0)).trans hx205_0;replace hx205_1:=(HB.out.cell (zl w _ hx205_1)).trans hx205_1;replace hx205_2:=(HB.out.cell (zl w _ hx205_2)).trans hx205_2;replace hx205_3:=(HB.out.cell (zl w _ hx205_3)).trans hx205_3;replace p205:=eq_true p205;replace q205:=eq_true q205;have p207 : 0≤(x4_1 : Int):=zy jF;have q207 : x4_1<(l0.length : Int):=zy jF;obtain ⟨ad207,e207,hx207_0,hx207_1,hx207_2,hx207_3⟩:=at_T68 HR0.out x4_1 p207 q207;have hw207_3:=hx207_3;have hw207_2:=hx207_2;have hw207_1:=hx207_1;have hw207_0:=hx207_0;obtain rfl : ad205=ad207:=(by injection e207);replace hx207_0:=(HB.out.cell (zl w _ hx207_0)).trans hx207_0;replace hx207_1:=(HB.out.cell (zl w _ hx207_1)).trans hx207_1;replace hx207_2:=(HB.out.cell (zl w _ hx207_2)).trans hx207_2;replace hx207_3:=(HB.out.cell (zl w _ hx207_3)).trans hx207_3;replace p207:=eq_true p207;replace q207:=eq_true q207;have p208 : 0≤(x4_1 : Int):=zy jF;have q208 : x4_1<(l0.length : Int):=zy jF;obtain ⟨ad208,e208,hx208_0,hx208_1,hx208_2,hx208_3⟩:=at_T68 HR0.out x4_1 p208 q208;have hw208_3:=hx208_3;have hw208_2:=hx208_2;have hw208_1:=hx208_1;have hw208_0:=hx208_0;obtain rfl : ad205=ad208:=(by injection e208);replace hx208_0:=(HB.out.cell (zl w _ hx208_0)).trans hx208_0;replace hx208_1:=(HB.out.cell (zl w _ hx208_1)).trans hx208_1;replace hx208_2:=(HB.out.cell (zl w _ hx208_2)).trans hx208_2;replace hx208_3:=(HB.out.cell (zl w _ hx208_3)).trans hx208_3;replace p208:=eq_true p208;replace q208:=eq_true q208;refine start_ (n:=23) (S:=fun w' => w'.cell? (ad205.add ((x4_1).toNat*4))=some (.string ((rd_T68 l0 x4_1).f0))∧w'.cell? ⟨(ad205.add ((x4_1).toNat*4)).block,(ad205.add ((x4_1).toNat*4)).off+1,none⟩=some (.int .i64 ((rd_T68 l0 x4_1).f1.f0))∧w'.cell? ⟨(ad205.add ((x4_1).toNat*4)).block,(ad205.add ((x4_1).toNat*4)).off+2,none⟩=some (.int .i64 ((rd_T68 l0 x4_1).f1.f1))∧w'.cell? ⟨(ad205.add ((x4_1).toNat*4)).block,(ad205.add ((x4_1).toNat*4)).off+3,none⟩=some (.string ((rd_T68 l0 x4_1).f1.f2))∧w'.cell? (ad205.add ((x4_1).toNat*4))=some (.string ((rd_T68 l0 x4_1).f0))∧w'.cell? ⟨(ad205.add ((x4_1).toNat*4)).block,(ad205.add ((x4_1).toNat*4)).off+1,none⟩=some (.int .i64 ((rd_T68 l0 x4_1).f1.f0))∧w'.cell? ⟨(ad205.add ((x4_1).toNat*4)).block,(ad205.add ((x4_1).toNat*4)).off+2,none⟩=some (.int .i64 ((rd_T68 l0 x4_1).f1.f1))∧w'.cell? ⟨(ad205.add ((x4_1).toNat*4)).block,(ad205.add ((x4_1).toNat*4)).off+3,none⟩=some (.string ((rd_T68 l0 x4_1).f1.f2))∧w'.cell? (ad205.add ((x4_1).toNat*4))=some (.string ((rd_T68 l0 x4_1).f0))∧w'.cell? ⟨(ad205.add ((x4_1).toNat*4)).block,(ad205.add ((x4_1).toNat*4)).off+1,none⟩=some (.int .i64 ((rd_T68 l0 x4_1).f1.f0))∧w'.cell? ⟨(ad205.add ((x4_1).toNat*4)).block,(ad205.add ((x4_1).toNat*4)).off+2,none⟩=some (.int .i64 ((rd_T68 l0 x4_1).f1.f1))∧w'.cell? ⟨(ad205.add ((x4_1).toNat*4)).block,(ad205.add ((x4_1).toNat*4)).off+3,none⟩=some (.string ((rd_T68 l0 x4_1).f1.f2))) (ds:=[]) (bm_ 0 23) jA rfl rfl ⟨((HB.out.cell (zl w _ hw205_0)).trans hw205_0),((HB.out.cell (zl w _ hw205_1)).trans hw205_1),((HB.out.cell (zl w _ hw205_2)).trans hw205_2),((HB.out.cell (zl w _ hw205_3)).trans hw205_3),((HB.out.cell (zl w _ hw207_0)).trans hw207_0),((HB.out.cell (zl w _ hw207_1)).trans hw207_1),((HB.out.cell (zl w _ hw207_2)).trans hw207_2),((HB.out.cell (zl w _ hw207_3)).trans hw207_3),((HB.out.cell (zl w _ hw208_0)).trans hw208_0),((HB.out.cell (zl w _ hw208_1)).trans hw208_1),((HB.out.cell (zl w _ hw208_2)).trans hw208_2),((HB.out.cell (zl w _ hw208_3)).trans hw208_3)⟩ (fun hHeld=>?_);refine with_tabW Fj.tab5 Fj.bits5 (fun HT_ HW_=>?_);generalize wr.drew=w10 at BK204 HB hx205_0 hx205_1 hx205_2 hx205_3 hx207_0 hx207_1 hx207_2 hx207_3 hx208_0 hx208_1 hx208_2 hx208_3 hHeld ⊢;refine pure_ (i:=0) (N:=some 11) (v:=?_) (a':=?_) (bm_ 1 23) rfl rfl (any_of HT_.out jA) (fun _ _ _ h=>h) (Or.inl ⟨by rfl,?_⟩) ?_ ?_;rotate_left;exact jb;rotate_left;exact jc
        refine pure_ (i:=1) (N:=some 12) (v:=?_) (a':=?_) (bm_ 2 23) rfl rfl (any_of HT_.out jA) (fun _ _ _ h=>h) (Or.inl ⟨by rfl,?_⟩) ?_ ?_;rotate_left;exact jb;rotate_left;exact jc
        refine pure_ (i:=2) (N:=some 13) (v:=?_) (a':=?_) (bm_ 3 23) rfl rfl (any_of HT_.out jA) (fun _ _ _ h=>h) (Or.inl ⟨by rfl,?_⟩) ?_ ?_;rotate_left;exact jb;rotate_left;exact jc
        refine pure_ (i:=3) (N:=some 14) (v:=?_) (a':=?_) (bm_ 4 23) rfl rfl (any_of HT_.out jA) (fun _ _ _ h=>h) (Or.inl ⟨by rfl,?_⟩) ?_ ?_;rotate_left;exact jb;rotate_left;exact jc
        refine pure_ (i:=4) (N:=some 15) (v:=?_) (a':=?_) (bm_ 5 23) rfl rfl (any_of HT_.out jA) (fun _ _ _ h=>h) (Or.inl ⟨by rfl,?_⟩) ?_ ?_;rotate_left;exact jb;rotate_left;exact jc
        refine pure_ (i:=8) (N:=some 19) (v:=?_) (a':=?_) #[true,true,true,true,true,false,false,false,true,false,false,false,false,false,false,false,false,false,false,false,false,false,false] rfl rfl (any_of HT_.out jA) (fun _ _ _ h=>h) (Or.inl ⟨by rfl,?_⟩) ?_ ?_;rotate_left;exact jb;rotate_left;exact jc
        refine pure_ (i:=9) (N:=some 20) (v:=?_) (a':=?_) #[true,true,true,true,true,false,false,false,true,true,false,false,false,false,false,false,false,false,false,false,false,false,false] rfl rfl (any_of HT_.out jA) (fun _ _ _ h=>h) (Or.inl ⟨by rfl,?_⟩) ?_ ?_;rotate_left;exact jb;rotate_left;exact jc
        refine pure_ (i:=10) (N:=some 21) (v:=?_) (a':=?_) #[true,true,true,true,true,false,false,false,true,true,true,false,false,false,false,false,false,false,false,false,false,false,false] rfl rfl (any_of HT_.out jA) (fun _ _ _ h=>h) (Or.inl ⟨by rfl,?_⟩) ?_ ?_;rotate_left;exact jb;rotate_left;exact jc
        refine pure_ (i:=11) (N:=some 22) (v:=?_) (a':=?_) #[true,true,true,true,true,false,false,false,true,true,true,true,false,false,false,false,false,false,false,false,false,false,false] rfl rfl (any_of HT_.out jA) (fun _ _ _ h=>h) (Or.inl ⟨by rfl,?_⟩) ?_ ?_;rotate_left;exact jb;rotate_left;exact jc
        refine pure_ (i:=14) (N:=some 25) (v:=?_) (a':=?_) #[true,true,true,true,true,false,false,false,true,true,true,true,false,false,true,false,false,false,false,false,false,false,false] rfl rfl (any_of HT_.out jA) (fun _ _ _ h=>h) (Or.inl ⟨by rfl,?_⟩) ?_ ?_;rotate_left;exact jb;rotate_left;exact jc
        refine pure_ (i:=15) (N:=some 26) (v:=?_) (a':=?_) #[true,true,true,true,true,false,false,false,true,true,true,true,false,false,true,true,false,false,false,false,false,false,false] rfl rfl (any_of HT_.out jA) (fun _ _ _ h=>h) (Or.inl ⟨by rfl,?_⟩) ?_ ?_;rotate_left;exact jb;rotate_left;exact jc
        refine pure_ (i:=16) (N:=some 27) (v:=?_) (a':=?_) #[true,true,true,true,true,false,false,false,true,true,true,true,false,false,true,true,true,false,false,false,false,false,false] rfl rfl (any_of HT_.out jA) (fun _ _ _ h=>h) (Or.inl ⟨by rfl,?_⟩) ?_ ?_;rotate_left;exact jb;rotate_left;exact jc
        refine pure_ (i:=17) (N:=some 28) (v:=?_) (a':=?_) #[true,true,true,true,true,false,false,false,true,true,true,true,false,false,true,true,true,true,false,false,false,false,false] rfl rfl (any_of HT_.out jA) (fun _ _ _ h=>h) (Or.inl ⟨by rfl,?_⟩) ?_ ?_;rotate_left;exact jb;rotate_left;exact jc
        refine take_ (i:=5) (N:=some 16) (v:=?_) (a':=?_) #[true,true,true,true,true,true,false,false,true,true,true,true,false,false,true,true,true,true,false,false,false,false,false] rfl rfl (yo HT_.out HW_.out jA) (fun _ _ _ h=>h) (Or.inl ⟨by rfl,?_⟩) hHeld ?_ ?_;rotate_left
        ·
         rintro w' ⟨s0,s1,s2,s3,s4,s5,s6,s7,s8,s9,s10,s11⟩
         go_simp
         with_reducible rfl
        rotate_left
        exact jc
        refine pure_ (i:=6) (N:=some 17) (v:=?_) (a':=?_) #[true,true,true,true,true,true,true,false,true,true,true,true,false,false,true,true,true,true,false,false,false,false,false] rfl rfl (any_of HT_.out jA) (fun _ _ _ h=>h) (Or.inl ⟨by rfl,?_⟩) ?_ ?_;rotate_left;exact jb;rotate_left;exact jc
        refine take_ (i:=12) (N:=some 23) (v:=?_) (a':=?_) #[true,true,true,true,true,true,true,false,true,true,true,true,true,false,true,true,true,true,false,false,false,false,false] rfl rfl (yo HT_.out HW_.out jA) (fun _ _ _ h=>h) (Or.inl ⟨by rfl,?_⟩) hHeld ?_ ?_;rotate_left
        ·
         rintro w' ⟨s0,s1,s2,s3,s4,s5,s6,s7,s8,s9,s10,s11⟩
         go_simp
         with_reducible rfl
        rotate_left
        exact jc
        refine take_ (i:=18) (N:=some 29) (v:=?_) (a':=?_) #[true,true,true,true,true,true,true,false,true,true,true,true,true,false,true,true,true,true,true,false,false,false,false] rfl rfl (yo HT_.out HW_.out jA) (fun _ _ _ h=>h) (Or.inl ⟨by rfl,?_⟩) hHeld ?_ ?_;rotate_left
        ·
         rintro w' ⟨s0,s1,s2,s3,s4,s5,s6,s7,s8,s9,s10,s11⟩
         go_simp
         with_reducible rfl
        rotate_left
        exact jc
        refine one_ (i:=7) (N:=some 18) #[true,true,true,true,true,true,true,true,true,true,true,true,true,false,true,true,true,true,true,false,false,false,false] rfl rfl (one_of HT_.out jA) jC (fun K hK=>?_);refine goes_ Try.func68 jA rfl #[.int .i64 (((rd_T68 l0 x4_1).f0).size : Int),.int .i64 1] (by rfl) rfl rfl jB ?_
        with_reducible refine (F8.calls k1  (((rd_T68 l0 x4_1).f0).size : Int) 1 t206 _ A5.out).mono ?_
        rintro e w11 ⟨rfl,hb⟩;refine ⟨_,rfl,?_⟩;replace BK204:=zh (cD BK204.out jBS hb);replace HB:=zh (zC jBD hb);(try clear hb);(try clear hb2);(try clear hk);(try clear hi);refine hK.out _ _ ⟨((HB.out.cell (zl w _ hw205_0)).trans hw205_0),((HB.out.cell (zl w _ hw205_1)).trans hw205_1),((HB.out.cell (zl w _ hw205_2)).trans hw205_2),((HB.out.cell (zl w _ hw205_3)).trans hw205_3),((HB.out.cell (zl w _ hw207_0)).trans hw207_0),((HB.out.cell (zl w _ hw207_1)).trans hw207_1),((HB.out.cell (zl w _ hw207_2)).trans hw207_2),((HB.out.cell (zl w _ hw207_3)).trans hw207_3),((HB.out.cell (zl w _ hw208_0)).trans hw208_0),((HB.out.cell (zl w _ hw208_1)).trans hw208_1),((HB.out.cell (zl w _ hw208_2)).trans hw208_2),((HB.out.cell (zl w _ hw208_3)).trans hw208_3)⟩ (fun hHeld=>?_);clear hK K;refine norm_ (a':=?_) ?_ ?_;rotate_left
        ·
         show Act.put _ (some 18) _=_
         simp only [Act.put,zi,zj,zk,zG,zH]
         rfl
        refine pure_ (i:=13) (N:=some 24) (v:=?_) (a':=?_) (bm_ 19 23) rfl rfl (any_of HT_.out jA) (fun _ _ _ h=>h) (Or.inl ⟨by rfl,?_⟩) ?_ ?_;rotate_left;exact jb;rotate_left;exact jc
        refine one_ (i:=19) (N:=some 30) (bm_ 20 23) rfl rfl (one_of HT_.out jA) jC (fun K hK=>?_);refine goes_ Try.func52 jA rfl #[.agg #[.int .i64 ((rd_T68 l0 x4_1).f1.f0),.int .i64 ((rd_T68 l0 x4_1).f1.f1),.string ((rd_T68 l0 x4_1).f1.f2)]] (by rfl) rfl rfl jB ?_
        with_reducible refine (F0c.calls k1  ((rd_T68 l0 x4_1).f1.f0) ((rd_T68 l0 x4_1).f1.f1) ((rd_T68 l0 x4_1).f1.f2) t209 _ A7.out).mono ?_
        rintro e w12 ⟨rfl,hb⟩;refine ⟨_,rfl,?_⟩;replace BK204:=zh (cD BK204.out jBS hb);replace HB:=zh (zC jBD hb);(try clear hb);(try clear hb2);(try clear hk);(try clear hi);refine hK.out _ _ ⟨((HB.out.cell (zl w _ hw205_0)).trans hw205_0),((HB.out.cell (zl w _ hw205_1)).trans hw205_1),((HB.out.cell (zl w _ hw205_2)).trans hw205_2),((HB.out.cell (zl w _ hw205_3)).trans hw205_3),((HB.out.cell (zl w _ hw207_0)).trans hw207_0),((HB.out.cell (zl w _ hw207_1)).trans hw207_1),((HB.out.cell (zl w _ hw207_2)).trans hw207_2),((HB.out.cell (zl w _ hw207_3)).trans hw207_3),((HB.out.cell (zl w _ hw208_0)).trans hw208_0),((HB.out.cell (zl w _ hw208_1)).trans hw208_1),((HB.out.cell (zl w _ hw208_2)).trans hw208_2),((HB.out.cell (zl w _ hw208_3)).trans hw208_3)⟩ (fun hHeld=>?_);clear hK K;refine norm_ (a':=?_) ?_ ?_;rotate_left
        ·
         show Act.put _ (some 30) _=_
         simp only [Act.put,zi,zj,zk,zG,zH]
         rfl
        refine pure_ (i:=20) (N:=some 31) (v:=?_) (a':=?_) (bm_ 21 23) rfl rfl (any_of HT_.out jA) (fun _ _ _ h=>h) (Or.inl ⟨by rfl,?_⟩) ?_ ?_;rotate_left;exact jb;rotate_left;exact jc
        refine pure_ (i:=21) (N:=some 32) (v:=?_) (a':=?_) (bm_ 22 23) rfl rfl (any_of HT_.out jA) (fun _ _ _ h=>h) (Or.inl ⟨by rfl,?_⟩) ?_ ?_;rotate_left;exact jb;rotate_left;exact jc
        refine pure_ (i:=22) (N:=some 3) (v:=?_) (a':=?_) (bm_ 23 23) rfl rfl (any_of HT_.out jA) (fun _ _ _ h=>h) (Or.inl ⟨by rfl,?_⟩) ?_ ?_;rotate_left;exact jb;rotate_left;exact jc
        refine done_ (done_of HT_.out jA) ?_
        try go_wp2
        go_roundg k1
        case measure=>have:=HK1.out;omega
        case rel=>exact ⟨(x3_1++((t206++((rd_T68 l0 x4_1).f0))++t209)),(wrap64 (x4_1+1)),jE,jE,H',⟨jN⟩,⟨jBS⟩,⟨jBD⟩⟩
       rw [if_neg c9] at H;exact absurd H (by simp)
      rw [if_neg c8] at H;exact absurd H (by simp)
     rw [if_neg c6] at H;exact absurd H (by simp)
    rw [if_neg c4] at H;exact absurd H (by simp)
   rw [if_neg c3] at H;have c3b0 : decide (x4_1<(l0.length : Int))=false:=decide_eq_false c3;clear c3;simp only [Option.some.injEq,Prod.mk.injEq] at H;obtain ⟨rfl,rfl,rfl⟩:=H;obtain ⟨hcz13_0,hcz13_1,hcz13_2,hfz13_0,hfz13_1,hfz13_2⟩:=cB3 BK204.out
   go_wp2
   refine bodyPost_ret (results_cell_row rfl _ _ gb204 24 #[.int .i64 5,.int .i64 0,.string x3_1] (0,0) _ rfl (by (with_reducible repeat first|apply ze|apply zf|apply zg);refine zL (cs:=#[.int .i64 5,.int .i64 0,.string (⟨#[]⟩ : ByteArray)]) ?_ 2 _ rfl;(with_reducible repeat first|apply ze|apply zf|apply zg);refine zL (cs:=#[.int .i64 5,.int .i64 0,.string (⟨#[]⟩ : ByteArray)]) ?_ 1 _ rfl;(with_reducible repeat first|apply ze|apply zf|apply zg);refine zL (cs:=#[.int .i64 0,.int .i64 0,.string (⟨#[]⟩ : ByteArray)]) ?_ 0 _ rfl;(with_reducible repeat first|apply ze|apply zf|apply zg);exact BK204.out) Try.underlying24 rfl jA) rfl ?_;exact ⟨jG,jBD⟩


def F0m.f (a0 : Int) : Option (Int×Int×ByteArray):=some (2,a0,(⟨#[]⟩ : ByteArray))
set_option maxHeartbeats 8000000 in
set_option maxRecDepth 100000 in
theorem F0m.calls (a0 : Int) (r1 : Int) (r2 : Int) (r3 : ByteArray) (w : World) (h : F0m.f a0=some (r1,r2,r3)) :
  Calls Try.prog 24 #[.int .i64 a0] w fun e w' => e = .returned (.agg #[.int .i64 r1,.int .i64 r2,.string r3])∧Below w.heap.size w w':=by
 have hu24:=Try.underlying24;have HB:=zh (Below.refl w.heap.size w);have H : (some (2,a0,(⟨#[]⟩ : ByteArray)))=some (r1,r2,r3):=h;clear h;simp only [Option.some.injEq,Prod.mk.injEq] at H;obtain ⟨rfl,rfl,rfl⟩:=H
 go_enter Try.func24,Try.ntmps24
 go_wp2_with (first|((with_reducible refine zK (N:=2) rfl ?_);refine zI ?hg (N:=2) ?hd (cs:=#[.int .i64 0,.int .i64 0,.string (⟨#[]⟩ : ByteArray)]) (t:=24) ?hr ?_;(case hd=>rfl);(case hg=>rfl);(case hr=>go_simp <;> rfl);intro gb181 hg w2 hbox hb;have BK181:=zh (hbox);have hH_:=cH jD hb hg;have GW181:=zh hH_.1;have GE181:=GW181;replace HB:=zh hH_.2;clear hb hbox hg hH_;obtain ⟨hcz3_0,hcz3_1,hcz3_2,hfz3_0,hfz3_1,hfz3_2⟩:=cB3 BK181.out))
 refine bodyPost_ret (results_cell_row rfl _ _ gb181 24 #[.int .i64 2,.int .i64 a0,.string (⟨#[]⟩ : ByteArray)] (0,0) _ rfl (by (with_reducible repeat first|apply ze|apply zf|apply zg);refine zL (cs:=#[.int .i64 2,.int .i64 a0,.string (⟨#[]⟩ : ByteArray)]) ?_ 2 _ rfl;(with_reducible repeat first|apply ze|apply zf|apply zg);refine zL (cs:=#[.int .i64 2,.int .i64 0,.string (⟨#[]⟩ : ByteArray)]) ?_ 1 _ rfl;(with_reducible repeat first|apply ze|apply zf|apply zg);refine zL (cs:=#[.int .i64 0,.int .i64 0,.string (⟨#[]⟩ : ByteArray)]) ?_ 0 _ rfl;(with_reducible repeat first|apply ze|apply zf|apply zg);exact BK181.out) Try.underlying24 rfl jA) rfl ?_;exact ⟨jG,by repeat (with_reducible first|exact HB.out|apply za|apply zb|apply zc|refine zd ?_ GE181.out)⟩


def F12.f (a0 : ByteArray) : Option (Int×Int×ByteArray):=some (3,0,a0)
set_option maxHeartbeats 8000000 in
set_option maxRecDepth 100000 in
theorem F12.calls (a0 : ByteArray) (r1 : Int) (r2 : Int) (r3 : ByteArray) (w : World) (h : F12.f a0=some (r1,r2,r3)) :
  Calls Try.prog 25 #[.string a0] w fun e w' => e = .returned (.agg #[.int .i64 r1,.int .i64 r2,.string r3])∧Below w.heap.size w w':=by
 have hu24:=Try.underlying24;have HB:=zh (Below.refl w.heap.size w);have H : (some (3,0,a0))=some (r1,r2,r3):=h;clear h;simp only [Option.some.injEq,Prod.mk.injEq] at H;obtain ⟨rfl,rfl,rfl⟩:=H
 go_enter Try.func25,Try.ntmps25
 go_wp2_with (first|((with_reducible refine zK (N:=2) rfl ?_);refine zI ?hg (N:=2) ?hd (cs:=#[.int .i64 0,.int .i64 0,.string (⟨#[]⟩ : ByteArray)]) (t:=24) ?hr ?_;(case hd=>rfl);(case hg=>rfl);(case hr=>go_simp <;> rfl);intro gb182 hg w2 hbox hb;have BK182:=zh (hbox);have hH_:=cH jD hb hg;have GW182:=zh hH_.1;have GE182:=GW182;replace HB:=zh hH_.2;clear hb hbox hg hH_;obtain ⟨hcz3_0,hcz3_1,hcz3_2,hfz3_0,hfz3_1,hfz3_2⟩:=cB3 BK182.out))
 refine bodyPost_ret (results_cell_row rfl _ _ gb182 24 #[.int .i64 3,.int .i64 0,.string a0] (0,0) _ rfl (by (with_reducible repeat first|apply ze|apply zf|apply zg);refine zL (cs:=#[.int .i64 3,.int .i64 0,.string (⟨#[]⟩ : ByteArray)]) ?_ 2 _ rfl;(with_reducible repeat first|apply ze|apply zf|apply zg);refine zL (cs:=#[.int .i64 3,.int .i64 0,.string (⟨#[]⟩ : ByteArray)]) ?_ 1 _ rfl;(with_reducible repeat first|apply ze|apply zf|apply zg);refine zL (cs:=#[.int .i64 0,.int .i64 0,.string (⟨#[]⟩ : ByteArray)]) ?_ 0 _ rfl;(with_reducible repeat first|apply ze|apply zf|apply zg);exact BK182.out) Try.underlying24 rfl jA) rfl ?_;exact ⟨jG,by repeat (with_reducible first|exact HB.out|apply za|apply zb|apply zc|refine zd ?_ GE182.out)⟩

end Go.Proofs.Ytdjnplkpahgnmaa.Q
end

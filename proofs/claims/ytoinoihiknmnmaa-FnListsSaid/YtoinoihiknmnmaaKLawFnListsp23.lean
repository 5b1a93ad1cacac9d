/- Texts of this claim, merged by a program of this session. -/
import Derived.Test.YtoinoihiknmnmaaKLawFnListsp22
section
namespace Go.Proofs.Ytoinoihiknmnmaa.Q
open Go.RowKit Go.Proofs.YtoinoihiknmnmaaW.PrintWords Go.Proofs.YtoinoihiknmnmaaW.PrintLast Go.Proofs.YtoinoihiknmnmaaW.PrintMore
attribute [local go_sem] max2_int min2_int max_two min_two max_three min_three max_four min_four max2_str min2_str str_geq str_gtr str_leq   -- for this text's walks alone
set_option linter.unusedVariables false
set_option linter.unusedSimpArgs false

mutual
def F2.j0 : Nat→Int→List (S25)→Bool→Option (Bool)
 | 0,_,_,_=>none
 | k+1,x1,x5,x78=>if x78=true then (some false) else (F2.l0 k x1 x5 0)
def F2.l0 : Nat→Int→List (S25)→Int→Option (Bool)
 | 0,_,_,_=>none
 | k+1,x1,x5,x7=>if x7<(x5.length : Int) then (if 0≤x7 then ((F2.f k ((rd_T25 x5 x7).f0) ((rd_T25 x5 x7).f1) ((rd_T25 x5 x7).f2) (wrap64 (x1 - 1))).bind fun t156=>(if t156=true then (F2.l0 k x1 x5 (wrap64 (x7+1))) else (some false))) else (none)) else (some true)
def F2.j2 : Nat→Int→List (S43)→Bool→Option (Bool)
 | 0,_,_,_=>none
 | k+1,x1,x8,x117=>if x117=true then (some false) else (F2.l1 k x1 x8 0)
def F2.l1 : Nat→Int→List (S43)→Int→Option (Bool)
 | 0,_,_,_=>none
 | k+1,x1,x8,x10=>if x10<(x8.length : Int) then (if 0≤x10 then ((F0a.f k ((rd_T43 x8 x10).f0)).bind fun t162=>(if t162=true then (if x10 > 0 then (if 0≤(wrap64 (x10 - 1)) then (if (wrap64 (x10 - 1))<(x8.length : Int) then (if ((Op.bytesLess (((rd_T43 x8 (wrap64 (x10 - 1))).f0).toList) (((rd_T43 x8 x10).f0).toList))=true) then ((F2.f k ((rd_T43 x8 x10).f1.f0) ((rd_T43 x8 x10).f1.f1) ((rd_T43 x8 x10).f1.f2) (wrap64 (x1 - 1))).bind fun t166=>(if t166=true then (F2.l1 k x1 x8 (wrap64 (x10+1))) else (some false))) else (some false)) else (none)) else (none)) else ((F2.f k ((rd_T43 x8 x10).f1.f0) ((rd_T43 x8 x10).f1.f1) ((rd_T43 x8 x10).f1.f2) (wrap64 (x1 - 1))).bind fun t168=>(if t168=true then (F2.l1 k x1 x8 (wrap64 (x10+1))) else (some false)))) else (some false))) else (none)) else (some true)
def F2.f : Nat→Int→Int→ByteArray→Int→Option (Bool)
 | 0,_,_,_,_=>none
 | k+1,a0_0,a0_1,a0_2,a1=>if a0_0=0 then (if a0_1=0 then (some (a0_2.toList == ([] : List UInt8))) else (some false)) else (if a0_0=1 then ((Fy.f a0_1 0 1).bind fun t149=>(if t149=true then (some (a0_2.toList == ([] : List UInt8))) else (some false))) else (if a0_0=2 then ((Fy.f a0_1 (-1000000000000) 1000000000000).bind fun t150=>(if t150=true then (some (a0_2.toList == ([] : List UInt8))) else (some false))) else (if a0_0=3 then (if a0_1=0 then (some (decide ((a0_2.size : Int)≤300))) else (some false)) else (if a0_0=4 then ((Fp.f k a0_2).bind fun bt151=>(if a0_1=0 then (if bt151.2=true then (if (a0_2.size : Int) > 300 then (F2.j0 k a1 bt151.1 true) else (F2.j0 k a1 bt151.1 (a1 == 0))) else (F2.j0 k a1 bt151.1 true)) else (F2.j0 k a1 bt151.1 true))) else (if a0_0=5 then ((Fn.f k a0_2).bind fun bt157=>(if a0_1=0 then (if bt157.2=true then (if (a0_2.size : Int) > 300 then (F2.j2 k a1 bt157.1 true) else (F2.j2 k a1 bt157.1 (a1 == 0))) else (F2.j2 k a1 bt157.1 true)) else (F2.j2 k a1 bt157.1 true))) else (some false))))))
end
theorem F2.mono_l : ∀ k,(∀ y0 y1 y2 y3,LeO (F2.f k y0 y1 y2 y3) (F2.f (k+1) y0 y1 y2 y3))∧(∀ y0 y1 y2,LeO (F2.j0 k y0 y1 y2) (F2.j0 (k+1) y0 y1 y2))∧(∀ y0 y1 y2,LeO (F2.l0 k y0 y1 y2) (F2.l0 (k+1) y0 y1 y2))∧(∀ y0 y1 y2,LeO (F2.j2 k y0 y1 y2) (F2.j2 (k+1) y0 y1 y2))∧(∀ y0 y1 y2,LeO (F2.l1 k y0 y1 y2) (F2.l1 (k+1) y0 y1 y2))
 | 0=>⟨fun _ _ _ _ r h=>by simp [F2.f] at h,fun _ _ _ r h=>by simp [F2.j0] at h,fun _ _ _ r h=>by simp [F2.l0] at h,fun _ _ _ r h=>by simp [F2.j2] at h,fun _ _ _ r h=>by simp [F2.l1] at h⟩
 | k+1=>by
  obtain ⟨ih0,ih1,ih2,ih3,ih4⟩:=F2.mono_l k;refine ⟨?_,?_,?_,?_,?_⟩
  ·
   intro y0 y1 y2 y3
   unfold F2.f
   repeat' first|(with_reducible first|exact ih0 _ _ _ _|exact ih1 _ _ _|exact ih2 _ _ _|exact ih3 _ _ _|exact ih4 _ _ _|exact F0a.mono _ _|exact Fp.mono _ _|exact Fn.mono _ _|exact zQ _|exact zN _|refine zP ?_ ?_|refine zO ?_ (fun _=>?_))|refine zP ?_ ?_|refine zO ?_ (fun _=>?_)
  ·
   intro y0 y1 y2
   unfold F2.j0
   repeat' first|(with_reducible first|exact ih0 _ _ _ _|exact ih1 _ _ _|exact ih2 _ _ _|exact ih3 _ _ _|exact ih4 _ _ _|exact F0a.mono _ _|exact Fp.mono _ _|exact Fn.mono _ _|exact zQ _|exact zN _|refine zP ?_ ?_|refine zO ?_ (fun _=>?_))|refine zP ?_ ?_|refine zO ?_ (fun _=>?_)
  ·
   intro y0 y1 y2
   unfold F2.l0
   repeat' first|(with_reducible first|exact ih0 _ _ _ _|exact ih1 _ _ _|exact ih2 _ _ _|exact ih3 _ _ _|exact ih4 _ _ _|exact F0a.mono _ _|exact Fp.mono _ _|exact Fn.mono _ _|exact zQ _|exact zN _|refine zP ?_ ?_|refine zO ?_ (fun _=>?_))|refine zP ?_ ?_|refine zO ?_ (fun _=>?_)
  ·
   intro y0 y1 y2
   unfold F2.j2
   repeat' first|(with_reducible first|exact ih0 _ _ _ _|exact ih1 _ _ _|exact ih2 _ _ _|exact ih3 _ _ _|exact ih4 _ _ _|exact F0a.mono _ _|exact Fp.mono _ _|exact Fn.mono _ _|exact zQ _|exact zN _|refine zP ?_ ?_|refine zO ?_ (fun _=>?_))|refine zP ?_ ?_|refine zO ?_ (fun _=>?_)
  intro y0 y1 y2;unfold F2.l1
  repeat' first|(with_reducible first|exact ih0 _ _ _ _|exact ih1 _ _ _|exact ih2 _ _ _|exact ih3 _ _ _|exact ih4 _ _ _|exact F0a.mono _ _|exact Fp.mono _ _|exact Fn.mono _ _|exact zQ _|exact zN _|refine zP ?_ ?_|refine zO ?_ (fun _=>?_))|refine zP ?_ ?_|refine zO ?_ (fun _=>?_)
theorem F2.mono : ∀ a0 a1 a2 a3 k,LeO (F2.f k a0 a1 a2 a3) (F2.f (k+1) a0 a1 a2 a3):=by
 intro a0 a1 a2 a3 k;obtain ⟨ih0,ih1,ih2,ih3,ih4⟩:=F2.mono_l k;exact ih0 a0 a1 a2 a3
def F2.T27 : Bool×List (List Nat×List Nat):=(true,[([],[]),([],[]),([0,1],[0,1]),([2],[2]),([3],[3]),([4],[4]),([5],[5]),([6,5],[6]),([7],[7]),([8,7],[7,8]),([9,7,7],[7,9]),([10],[10]),([10],[10]),([12,10],[10,12]),([11,13,10],[10,11,13]),([14,10],[10,14]),([15,10],[10,15]),([10],[10]),([10],[10]),([17,18,10],[10,17,18]),([19,10],[10,19]),([20,10],[10,20]),([16,21,10],[10,16,21]),([10,22,7],[7,10,22]),([7,23],[7,23]),([24,10],[24]),([25],[25]),([25],[25]),([26,27,25],[25,26,27]),([28,25],[25,28]),([29,25],[25,29]),([25],[25]),([31,25],[25,31]),([30,32,25,25],[25,30,32]),([33,25],[25,33]),([25,34],[25,34])])
def F2.B27 : List Nat:=[0,0,3,7,15,31,63,127,255,511,1023,2047,2047,6143,16383,32767,65535,2047,2047,395263,919551,1968127,4194303,8388607,16777215,33554431,67108863,67108863,268435455,536870911,1073741823,67108863,2214592511,8589934591,17179869183,34359738367]
theorem F2.tab27 : rtab .any (opsOf Try.f40 27)=F2.T27:=by kernel_rfl
theorem F2.bits27 : waitsOk F2.T27.2 F2.B27=true:=by kernel_rfl
set_option maxHeartbeats 8000000 in
set_option maxRecDepth 100000 in
theorem F2.calls (k : Nat) : ∀ (a0_0 : Int) (a0_1 : Int) (a0_2 : ByteArray) (a1 : Int) (r : Bool) (w : World) (h : F2.f k a0_0 a0_1 a0_2 a1=some r),
  Calls Try.prog 40 #[.agg #[.int .i64 a0_0,.int .i64 a0_1,.string a0_2],.int .i64 a1] w fun e w' => e = .returned (.bool r)∧Below w.heap.size w w':=by
 induction k using Nat.strongRecOn with
 | _ k ih =>
 intro a0_0 a0_1 a0_2 a1 r w h
 cases k with
 | zero=>exact absurd h (by simp [F2.f])
 | succ k =>
 simp only [F2.f] at h;have hu25:=Try.underlying25;have HB:=zh (Below.refl w.heap.size w);have H : (if a0_0=0 then (if a0_1=0 then (some (a0_2.toList == ([] : List UInt8))) else (some false)) else (if a0_0=1 then ((Fy.f a0_1 0 1).bind fun t149=>(if t149=true then (some (a0_2.toList == ([] : List UInt8))) else (some false))) else (if a0_0=2 then ((Fy.f a0_1 (-1000000000000) 1000000000000).bind fun t150=>(if t150=true then (some (a0_2.toList == ([] : List UInt8))) else (some false))) else (if a0_0=3 then (if a0_1=0 then (some (decide ((a0_2.size : Int)≤300))) else (some false)) else (if a0_0=4 then ((Fp.f k a0_2).bind fun bt151=>(if a0_1=0 then (if bt151.2=true then (if (a0_2.size : Int) > 300 then (F2.j0 k a1 bt151.1 true) else (F2.j0 k a1 bt151.1 (a1 == 0))) else (F2.j0 k a1 bt151.1 true)) else (F2.j0 k a1 bt151.1 true))) else (if a0_0=5 then ((Fn.f k a0_2).bind fun bt157=>(if a0_1=0 then (if bt157.2=true then (if (a0_2.size : Int) > 300 then (F2.j2 k a1 bt157.1 true) else (F2.j2 k a1 bt157.1 (a1 == 0))) else (F2.j2 k a1 bt157.1 true)) else (F2.j2 k a1 bt157.1 true))) else (some false)))))))=some r:=h;clear h
 by_cases c3 : a0_0=0
 ·
  rw [if_pos c3] at H
  have c3b0 : (a0_0 == 0)=true:=ya.mpr c3;have c3b1 : (a0_0 != 0)=false:=zX.mpr c3;clear c3
  by_cases c4 : a0_1=0
  ·
   rw [if_pos c4] at H
   have c4b0 : (a0_1 == 0)=true:=ya.mpr c4;have c4b1 : (a0_1 != 0)=false:=zX.mpr c4;clear c4;obtain rfl:=zU H
   go_enter Try.func40,Try.ntmps40
   go_wp2_with (first|((with_reducible refine zK (N:=2) rfl ?_);(try (refine yz (by rfl) ?_;dsimp only));refine zI ?hg (N:=2) ?hd (cs:=#[.int .i64 a0_0,.int .i64 a0_1,.string a0_2]) (t:=25) ?hr ?_;(case hd=>rfl);(case hg=>rfl);(case hr=>go_simp <;> rfl);intro gb148 hg w5 hbox hb;have BK148:=zh (hbox);have hH_:=cH jG hb hg;have GW148:=zh hH_.1;have GE148:=GW148;replace HB:=zh hH_.2;clear hb hbox hg hH_;obtain ⟨hcz6_0,hcz6_1,hcz6_2,hfz6_0,hfz6_1,hfz6_2⟩:=cB3 BK148.out))
   go_ret
   exact ⟨jF,jN⟩
  rw [if_neg c4] at H;have c4b0 : (a0_1 == 0)=false:=zY.mpr c4;have c4b1 : (a0_1 != 0)=true:=zZ.mpr c4;obtain rfl:=zU H
  go_enter Try.func40,Try.ntmps40
  go_wp2_with (first|((with_reducible refine zK (N:=2) rfl ?_);(try (refine yz (by rfl) ?_;dsimp only));refine zI ?hg (N:=2) ?hd (cs:=#[.int .i64 a0_0,.int .i64 a0_1,.string a0_2]) (t:=25) ?hr ?_;(case hd=>rfl);(case hg=>rfl);(case hr=>go_simp <;> rfl);intro gb148 hg w7 hbox hb;have BK148:=zh (hbox);have hH_:=cH jG hb hg;have GW148:=zh hH_.1;have GE148:=GW148;replace HB:=zh hH_.2;clear hb hbox hg hH_;obtain ⟨hcz8_0,hcz8_1,hcz8_2,hfz8_0,hfz8_1,hfz8_2⟩:=cB3 BK148.out))
  go_ret
  exact ⟨jF,jN⟩
 rw [if_neg c3] at H;have c3b0 : (a0_0 == 0)=false:=zY.mpr c3;have c3b1 : (a0_0 != 0)=true:=zZ.mpr c3
 by_cases c9 : a0_0=1
 ·
  rw [if_pos c9] at H
  have c9b0 : (a0_0 == 1)=true:=ya.mpr c9;have c9b1 : (a0_0 != 1)=false:=zX.mpr c9;clear c9;replace H:=zT.mp H;obtain ⟨t149,A100,H⟩:=H;have A10:=zh A100;clear A100
  by_cases c11 : t149=true
  ·
   subst c11
   rw [if_pos rfl] at H;obtain rfl:=zU H
   go_enter Try.func40,Try.ntmps40
   go_wp2_with (first|((with_reducible refine zK (N:=2) rfl ?_);(try (refine yz (by rfl) ?_;dsimp only));refine zI ?hg (N:=2) ?hd (cs:=#[.int .i64 a0_0,.int .i64 a0_1,.string a0_2]) (t:=25) ?hr ?_;(case hd=>rfl);(case hg=>rfl);(case hr=>go_simp <;> rfl);intro gb148 hg w12 hbox hb;have BK148:=zh (hbox);have hH_:=cH jG hb hg;have GW148:=zh hH_.1;have GE148:=GW148;replace HB:=zh hH_.2;clear hb hbox hg hH_;obtain ⟨hcz13_0,hcz13_1,hcz13_2,hfz13_0,hfz13_1,hfz13_2⟩:=cB3 BK148.out)|((with_reducible refine zJ (f:=63) rfl ?_);refine yj (some 27) rfl rfl Try.func63 jA rfl #[.int .i64 a0_1,.int .i64 0,.int .i64 1] rfl jD ?_;(with_reducible refine (Fy.calls  a0_1 0 1 true _ A10.out).mono ?_);rintro e w' ⟨rfl,⟨nd,rfl⟩⟩;refine ⟨_,rfl,?_⟩))
   go_ret
   exact ⟨jF,jN⟩
  replace c11:=yb.mpr c11;subst c11;rw [if_neg (show ¬ (false=true) by decide)] at H;obtain rfl:=zU H
  go_enter Try.func40,Try.ntmps40
  go_wp2_with (first|((with_reducible refine zK (N:=2) rfl ?_);(try (refine yz (by rfl) ?_;dsimp only));refine zI ?hg (N:=2) ?hd (cs:=#[.int .i64 a0_0,.int .i64 a0_1,.string a0_2]) (t:=25) ?hr ?_;(case hd=>rfl);(case hg=>rfl);(case hr=>go_simp <;> rfl);intro gb148 hg w14 hbox hb;have BK148:=zh (hbox);have hH_:=cH jG hb hg;have GW148:=zh hH_.1;have GE148:=GW148;replace HB:=zh hH_.2;clear hb hbox hg hH_;obtain ⟨hcz15_0,hcz15_1,hcz15_2,hfz15_0,hfz15_1,hfz15_2⟩:=cB3 BK148.out)|((with_reducible refine zJ (f:=63) rfl ?_);refine yj (some 27) rfl rfl Try.func63 jA rfl #[.int .i64 a0_1,.int .i64 0,.int .i64 1] rfl jD ?_;(with_reducible refine (Fy.calls  a0_1 0 1 false _ A10.out).mono ?_);rintro e w' ⟨rfl,⟨nd,rfl⟩⟩;refine ⟨_,rfl,?_⟩))
  go_ret
  exact ⟨jF,jN⟩
 rw [if_neg c9] at H;have c9b0 : (a0_0 == 1)=false:=zY.mpr c9;have c9b1 : (a0_0 != 1)=true:=zZ.mpr c9
 by_cases c16 : a0_0=2
 ·
  rw [if_pos c16] at H
  have c16b0 : (a0_0 == 2)=true:=ya.mpr c16;have c16b1 : (a0_0 != 2)=false:=zX.mpr c16;clear c16;replace H:=zT.mp H;obtain ⟨t150,A170,H⟩:=H;have A17:=zh A170;clear A170
  by_cases c18 : t150=true
  ·
   subst c18
   rw [if_pos rfl] at H;obtain rfl:=zU H
   go_enter Try.func40,Try.ntmps40
   go_wp2_with (first|((with_reducible refine zK (N:=2) rfl ?_);(try (refine yz (by rfl) ?_;dsimp only));refine zI ?hg (N:=2) ?hd (cs:=#[.int .i64 a0_0,.int .i64 a0_1,.string a0_2]) (t:=25) ?hr ?_;(case hd=>rfl);(case hg=>rfl);(case hr=>go_simp <;> rfl);intro gb148 hg w19 hbox hb;have BK148:=zh (hbox);have hH_:=cH jG hb hg;have GW148:=zh hH_.1;have GE148:=GW148;replace HB:=zh hH_.2;clear hb hbox hg hH_;obtain ⟨hcz20_0,hcz20_1,hcz20_2,hfz20_0,hfz20_1,hfz20_2⟩:=cB3 BK148.out)|((with_reducible refine zJ (f:=63) rfl ?_);refine yj (some 37) rfl rfl Try.func63 jA rfl #[.int .i64 a0_1,.int .i64 (-1000000000000),.int .i64 1000000000000] rfl jD ?_;(with_reducible refine (Fy.calls  a0_1 (-1000000000000) 1000000000000 true _ A17.out).mono ?_);rintro e w' ⟨rfl,⟨nd,rfl⟩⟩;refine ⟨_,rfl,?_⟩))
   go_ret
   exact ⟨jF,jN⟩
  replace c18:=yb.mpr c18;subst c18;rw [if_neg (show ¬ (false=true) by decide)] at H;obtain rfl:=zU H
  go_enter Try.func40,Try.ntmps40
  go_wp2_with (first|((with_reducible refine zK (N:=2) rfl ?_);(try (refine yz (by rfl) ?_;dsimp only));refine zI ?hg (N:=2) ?hd (cs:=#[.int .i64 a0_0,.int .i64 a0_1,.string a0_2]) (t:=25) ?hr ?_;(case hd=>rfl);(case hg=>rfl);(case hr=>go_simp <;> rfl);intro gb148 hg w21 hbox hb;have BK148:=zh (hbox);have hH_:=cH jG hb hg;have GW148:=zh hH_.1;have GE148:=GW148;replace HB:=zh hH_.2;clear hb hbox hg hH_;obtain ⟨hcz22_0,hcz22_1,hcz22_2,hfz22_0,hfz22_1,hfz22_2⟩:=cB3 BK148.out)|((with_reducible refine zJ (f:=63) rfl ?_);refine yj (some 37) rfl rfl Try.func63 jA rfl #[.int .i64 a0_1,.int .i64 (-1000000000000),.int .i64 1000000000000] rfl jD ?_;(with_reducible refine (Fy.calls  a0_1 (-1000000000000) 1000000000000 false _ A17.out).mono ?_);rintro e w' ⟨rfl,⟨nd,rfl⟩⟩;refine ⟨_,rfl,?_⟩))
  go_ret
  exact ⟨jF,jN⟩
 rw [if_neg c16] at H;have c16b0 : (a0_0 == 2)=false:=zY.mpr c16;have c16b1 : (a0_0 != 2)=true:=zZ.mpr c16
 by_cases c23 : a0_0=3
 ·
  rw [if_pos c23] at H
  have c23b0 : (a0_0 == 3)=true:=ya.mpr c23;have c23b1 : (a0_0 != 3)=false:=zX.mpr c23;clear c23
  by_cases c24 : a0_1=0
  ·
   rw [if_pos c24] at H
   have c24b0 : (a0_1 == 0)=true:=ya.mpr c24;have c24b1 : (a0_1 != 0)=false:=zX.mpr c24;clear c24;obtain rfl:=zU H
   go_enter Try.func40,Try.ntmps40
   go_wp2_with (first|((with_reducible refine zK (N:=2) rfl ?_);(try (refine yz (by rfl) ?_;dsimp only));refine zI ?hg (N:=2) ?hd (cs:=#[.int .i64 a0_0,.int .i64 a0_1,.string a0_2]) (t:=25) ?hr ?_;(case hd=>rfl);(case hg=>rfl);(case hr=>go_simp <;> rfl);intro gb148 hg w25 hbox hb;have BK148:=zh (hbox);have hH_:=cH jG hb hg;have GW148:=zh hH_.1;have GE148:=GW148;replace HB:=zh hH_.2;clear hb hbox hg hH_;obtain ⟨hcz26_0,hcz26_1,hcz26_2,hfz26_0,hfz26_1,hfz26_2⟩:=cB3 BK148.out))
   go_ret
   exact ⟨jF,jN⟩
  rw [if_neg c24] at H;have c24b0 : (a0_1 == 0)=false:=zY.mpr c24;have c24b1 : (a0_1 != 0)=true:=zZ.mpr c24;obtain rfl:=zU H
  go_enter Try.func40,Try.ntmps40
  go_wp2_with (first|((with_reducible refine zK (N:=2) rfl ?_);(try (refine yz (by rfl) ?_;dsimp only));refine zI ?hg (N:=2) ?hd (cs:=#[.int .i64 a0_0,.int .i64 a0_1,.string a0_2]) (t:=25) ?hr ?_;(case hd=>rfl);(case hg=>rfl);(case hr=>go_simp <;> rfl);intro gb148 hg w27 hbox hb;have BK148:=zh (hbox);have hH_:=cH jG hb hg;have GW148:=zh hH_.1;have GE148:=GW148;replace HB:=zh hH_.2;clear hb hbox hg hH_;obtain ⟨hcz28_0,hcz28_1,hcz28_2,hfz28_0,hfz28_1,hfz28_2⟩:=cB3 BK148.out))
  go_ret
  exact ⟨jF,jN⟩
 rw [if_neg c23] at H;have c23b0 : (a0_0 == 3)=false:=zY.mpr c23;have c23b1 : (a0_0 != 3)=true:=zZ.mpr c23
 by_cases c29 : a0_0=4
 ·
  rw [if_pos c29] at H
  have c29b0 : (a0_0 == 4)=true:=ya.mpr c29;have c29b1 : (a0_0 != 4)=false:=zX.mpr c29;clear c29;replace H:=zT.mp H;obtain ⟨⟨t151,t152⟩,A300,H⟩:=H;have A30:=zh A300;clear A300;have HC31:=zh H;clear H
  go_enter Try.func40,Try.ntmps40
  go_upto_region 12 with (first|((with_reducible refine zK (N:=2) rfl ?_);(try (refine yz (by rfl) ?_;dsimp only));refine zI ?hg (N:=2) ?hd (cs:=#[.int .i64 a0_0,.int .i64 a0_1,.string a0_2]) (t:=25) ?hr ?_;(case hd=>rfl);(case hg=>rfl);(case hr=>go_simp <;> rfl);intro gb148 hg w32 hbox hb;have BK148:=zh (hbox);have hH_:=cH jG hb hg;have GW148:=zh hH_.1;have GE148:=GW148;replace HB:=zh hH_.2;clear hb hbox hg hH_;obtain ⟨hcz33_0,hcz33_1,hcz33_2,hfz33_0,hfz33_1,hfz33_2⟩:=cB3 BK148.out)|((with_reducible refine zJ (f:=64) rfl ?_);refine yj (some 59) rfl rfl Try.func64 jA rfl #[.string a0_2] rfl jD ?_;(with_reducible refine (Fp.calls k  a0_2 t151 t152 _ A30.out).mono ?_);rintro e w34 ⟨v153,rfl,ho0,hb⟩;refine ⟨_,rfl,?_⟩;have HO154:=zh (yy (Kd.R_newB ho0 (g:=gb148) (o:=.cells #[.int .i64 a0_0,.int .i64 a0_1,.string a0_2] 25 (0,0)) ji) (zB jN));replace BK148:=zh (cD BK148.out ji hb);replace HB:=zh (zC jN hb);(try clear hb);(try clear hb2);(try clear hk);(try clear hi);(try clear ho0)))
  (try simp only [Act.put,zi,zj,zk])
  go_cut [78] (fun v78 wc => ∃ (kq : Nat) (x78_30 : Bool),v78 = .bool x78_30∧Aside0 (F2.j0 kq a1 t151 x78_30=some r)∧Aside0 (kq≤k)∧Aside0 (Kd.R k25 25 wc w.heap.size (fun k_=>k_≠gb148) v153 t151)∧Aside0 (wc.heap[gb148]? = some (.cells #[.int .i64 a0_0,.int .i64 a0_1,.string a0_2] 25 (0,0)))∧Aside0 (Below w.heap.size w wc))
  case first =>
   have H:=HC31.out;clear HC31
   by_cases c35 : a0_1=0
   ·
    rw [if_pos c35] at H
    have c35b0 : (a0_1 == 0)=true:=ya.mpr c35;have c35b1 : (a0_1 != 0)=false:=zX.mpr c35;clear c35;(first|rw [c35b0]|(simp only [zG,zH];rw [c35b0])|skip)
    by_cases c36 : t152=true
    ·
     subst c36
     rw [if_pos rfl] at H
     by_cases c37 : (a0_2.size : Int) > 300
     ·
      rw [if_pos c37] at H
      have c37b0 : decide (300<(a0_2.size : Int))=true:=decide_eq_true c37;have c37b1 : decide (300<a0_2.size)=true:=decide_eq_true jH;clear c37;have H':=zh H;clear H;obtain ⟨hcz38_0,hcz38_1,hcz38_2,hfz38_0,hfz38_1,hfz38_2⟩:=cB3 BK148.out
      go_wp2
      go_meet
      case rel=>exact ⟨_,(true),jC,H',⟨jY⟩,⟨jBb⟩,⟨ji⟩,⟨jN⟩⟩
     rw [if_neg c37] at H;have c37b0 : decide (300<(a0_2.size : Int))=false:=decide_eq_false c37;have c37b1 : decide (300<a0_2.size)=false:=decide_eq_false jH;clear c37;have H':=zh H;clear H;obtain ⟨hcz39_0,hcz39_1,hcz39_2,hfz39_0,hfz39_1,hfz39_2⟩:=cB3 BK148.out
     go_wp2
     go_meet
     case rel=>exact ⟨_,((a1 == 0)),jC,H',⟨jY⟩,⟨jBb⟩,⟨ji⟩,⟨jN⟩⟩
    replace c36:=yb.mpr c36;subst c36;rw [if_neg (show ¬ (false=true) by decide)] at H;have H':=zh H;clear H;obtain ⟨hcz40_0,hcz40_1,hcz40_2,hfz40_0,hfz40_1,hfz40_2⟩:=cB3 BK148.out
    go_wp2
    go_meet
    case rel=>exact ⟨_,(true),jC,H',⟨jY⟩,⟨jBb⟩,⟨ji⟩,⟨jN⟩⟩
   rw [if_neg c35] at H;have c35b0 : (a0_1 == 0)=false:=zY.mpr c35;have c35b1 : (a0_1 != 0)=true:=zZ.mpr c35;(first|rw [c35b0]|(simp only [zG,zH];rw [c35b0])|skip);have H':=zh H;clear H;obtain ⟨hcz41_0,hcz41_1,hcz41_2,hfz41_0,hfz41_1,hfz41_2⟩:=cB3 BK148.out
   go_wp2
   go_meet
   case rel=>exact ⟨_,(true),jC,H',⟨jY⟩,⟨jBb⟩,⟨ji⟩,⟨jN⟩⟩
  case rest =>
   clear HC31
   try clear c1 c2
   try clear p2
   try clear c3 c3b0 c3b1 c4 c4b0 c4b1 c6 c9 c9b0 c9b1 c11 c16 c16b0 c16b1 c18 c23 c23b0 c23b1 c24 c24b0 c24b1 c29 c29b0 c29b1 c35 c35b0 c35b1 c36 c37 c37b0 c37b1 c40
   try clear hcz13_0 hcz13_1 hcz13_2
   try clear hcz15_0 hcz15_1 hcz15_2
   try clear hcz20_0 hcz20_1 hcz20_2
   try clear hcz22_0 hcz22_1 hcz22_2
   try clear hcz26_0 hcz26_1 hcz26_2
   try clear hcz28_0 hcz28_1 hcz28_2
   try clear hcz33_0 hcz33_1 hcz33_2
   try clear hcz38_0 hcz38_1 hcz38_2
   try clear hcz39_0 hcz39_1 hcz39_2
   try clear hcz40_0 hcz40_1 hcz40_2
   try clear hcz41_0 hcz41_1 hcz41_2
   try clear hcz6_0 hcz6_1 hcz6_2
   try clear hcz8_0 hcz8_1 hcz8_2
   try clear hfz13_0 hfz13_1 hfz13_2
   try clear hfz15_0 hfz15_1 hfz15_2
   try clear hfz20_0 hfz20_1 hfz20_2
   try clear hfz22_0 hfz22_1 hfz22_2
   try clear hfz26_0 hfz26_1 hfz26_2
   try clear hfz28_0 hfz28_1 hfz28_2
   try clear hfz33_0 hfz33_1 hfz33_2
   try clear hfz38_0 hfz38_1 hfz38_2
   try clear hfz39_0 hfz39_1 hfz39_2
   try clear hfz40_0 hfz40_1 hfz40_2
   try clear hfz41_0 hfz41_1 hfz41_2
   try clear hfz6_0 hfz6_1 hfz6_2
   try clear hfz8_0 hfz8_1 hfz8_2
   obtain ⟨kq,x78_30,rfl,HA,HJ30,HO_5,BK148,HB⟩:=hcut
   cases kq with
   | zero=>exact absurd HA.out (by simp [F2.j0])
   | succ kj30 =>
    have H:=HA.out;clear HA;simp only [F2.j0] at H
    by_cases c42 : x78_30=true
    ·
     subst c42
     rw [if_pos rfl] at H;obtain rfl:=zU H
     go_wp2
     go_ret
     exact ⟨jF,jN⟩
    replace c42:=yb.mpr c42;subst c42;rw [if_neg (show ¬ (false=true) by decide)] at H;have H':=zh H;clear H
    go_wp2
    go_loopg [7] kj30 (fun kq v7 w' => ∃ (x7_2 : Int),v7 = .int .i64 x7_2∧Aside0 (F2.l0 kq a1 t151 x7_2=some r)∧Aside0 (kq≤kj30)∧Aside0 (Kd.R k25 25 w' w.heap.size (fun k_=>k_≠gb148) v153 t151)∧Aside0 (w'.heap[gb148]? = some (.cells #[.int .i64 a0_0,.int .i64 a0_1,.string a0_2] 25 (0,0)))∧Aside0 (Below w.heap.size w w'))
    case atStart=>exact ⟨(0),jC,H',⟨ye _⟩,⟨jI⟩,⟨ji⟩,⟨jN⟩⟩
    case round =>
     clear H'
     try clear c1 c2
     try clear p2
     try clear c3 c3b0 c3b1 c4 c4b0 c4b1 c6 c9 c9b0 c9b1 c11 c16 c16b0 c16b1 c18 c23 c23b0 c23b1 c24 c24b0 c24b1 c29 c29b0 c29b1 c35 c35b0 c35b1 c36 c37 c37b0 c37b1 c40 c42
     try clear hcz13_0 hcz13_1 hcz13_2
     try clear hcz15_0 hcz15_1 hcz15_2
     try clear hcz20_0 hcz20_1 hcz20_2
     try clear hcz22_0 hcz22_1 hcz22_2
     try clear hcz26_0 hcz26_1 hcz26_2
     try clear hcz28_0 hcz28_1 hcz28_2
     try clear hcz33_0 hcz33_1 hcz33_2
     try clear hcz38_0 hcz38_1 hcz38_2
     try clear hcz39_0 hcz39_1 hcz39_2
     try clear hcz40_0 hcz40_1 hcz40_2
     try clear hcz41_0 hcz41_1 hcz41_2
     try clear hcz6_0 hcz6_1 hcz6_2
     try clear hcz8_0 hcz8_1 hcz8_2
     try clear hfz13_0 hfz13_1 hfz13_2
     try clear hfz15_0 hfz15_1 hfz15_2
     try clear hfz20_0 hfz20_1 hfz20_2
     try clear hfz22_0 hfz22_1 hfz22_2
     try clear hfz26_0 hfz26_1 hfz26_2
     try clear hfz28_0 hfz28_1 hfz28_2
     try clear hfz33_0 hfz33_1 hfz33_2
     try clear hfz38_0 hfz38_1 hfz38_2
     try clear hfz39_0 hfz39_1 hfz39_2
     try clear hfz40_0 hfz40_1 hfz40_2
     try clear hfz41_0 hfz41_1 hfz41_2
     try clear hfz6_0 hfz6_1 hfz6_2
     try clear hfz8_0 hfz8_1 hfz8_2
     try clear p2
     obtain ⟨x7_2,rfl,HA,HK2,HO_5,BK148,HB⟩:=hrel
     cases gk with
     | zero=>exact absurd HA.out (by simp [F2.l0])
     | succ k2 =>
      have H:=HA.out;clear HA;simp only [F2.l0] at H
      by_cases c43 : x7_2<(t151.length : Int)
      ·
       rw [if_pos c43] at H
       have c43b0 : decide (x7_2<(t151.length : Int))=true:=decide_eq_true c43;clear c43
       by_cases c44 : 0≤x7_2
       ·
        rw [if_pos c44] at H
        have c44b0 : decide (0≤x7_2)=true:=decide_eq_true c44;clear c44;replace H:=zT.mp H;obtain ⟨t156,A450,H⟩:=H;have A45:=zh A450;clear A450
        by_cases c46 : t156=true
        ·
         subst c46
         rw [if_pos rfl] at H;have H':=zh H;clear H;obtain ⟨Ao47,co47,eo47⟩:=yk HO_5.out;subst eo47;have p155 : 0≤(x7_2 : Int):=zy jE;have q155 : x7_2<(t151.length : Int):=zy jE;obtain ⟨ad155,e155,hx155_0,hx155_1,hx155_2⟩:=at_T25 (yh HO_5.out).2.2 x7_2 p155 q155
         cases e155
         replace p155:=eq_true p155;replace q155:=eq_true q155
         go_wp2_with (first|((with_reducible refine zJ (f:=40) rfl ?_);refine yj (some 91) rfl rfl Try.func40 jA rfl #[.agg #[.int .i64 ((rd_T25 t151 x7_2).f0),.int .i64 ((rd_T25 t151 x7_2).f1),.string ((rd_T25 t151 x7_2).f2)],.int .i64 (wrap64 (a1 - 1))] rfl jD ?_;(with_reducible refine (ih k2 jB6  ((rd_T25 t151 x7_2).f0) ((rd_T25 t151 x7_2).f1) ((rd_T25 t151 x7_2).f2) (wrap64 (a1 - 1)) true _ A45.out).mono ?_);rintro e w48 ⟨rfl,hb⟩;refine ⟨_,rfl,?_⟩;replace HO_5:=zh (yg jI hb);replace BK148:=zh (cD BK148.out ji hb);replace HB:=zh (zC jN hb);(try clear hb);(try clear hb2);(try clear hk);(try clear hi)))
         go_roundg k2
         case measure=>have:=HJ30.out;have:=HK2.out;omega
         case rel=>exact ⟨(wrap64 (x7_2+1)),jC,H',⟨jB6⟩,⟨jI⟩,⟨ji⟩,⟨jN⟩⟩
        replace c46:=yb.mpr c46;subst c46;rw [if_neg (show ¬ (false=true) by decide)] at H;obtain rfl:=zU H;obtain ⟨Ao49,co49,eo49⟩:=yk HO_5.out;subst eo49;have p155 : 0≤(x7_2 : Int):=zy jE;have q155 : x7_2<(t151.length : Int):=zy jE;obtain ⟨ad155,e155,hx155_0,hx155_1,hx155_2⟩:=at_T25 (yh HO_5.out).2.2 x7_2 p155 q155
        cases e155
        replace p155:=eq_true p155;replace q155:=eq_true q155
        go_wp2_with (first|((with_reducible refine zJ (f:=40) rfl ?_);refine yj (some 91) rfl rfl Try.func40 jA rfl #[.agg #[.int .i64 ((rd_T25 t151 x7_2).f0),.int .i64 ((rd_T25 t151 x7_2).f1),.string ((rd_T25 t151 x7_2).f2)],.int .i64 (wrap64 (a1 - 1))] rfl jD ?_;(with_reducible refine (ih k2 jB6  ((rd_T25 t151 x7_2).f0) ((rd_T25 t151 x7_2).f1) ((rd_T25 t151 x7_2).f2) (wrap64 (a1 - 1)) false _ A45.out).mono ?_);rintro e w50 ⟨rfl,hb⟩;refine ⟨_,rfl,?_⟩;replace HO_5:=zh (yg jI hb);replace BK148:=zh (cD BK148.out ji hb);replace HB:=zh (zC jN hb);(try clear hb);(try clear hb2);(try clear hk);(try clear hi)))
        go_ret
        exact ⟨jF,jN⟩
       rw [if_neg c44] at H;exact absurd H (by simp)
      rw [if_neg c43] at H;have c43b0 : decide (x7_2<(t151.length : Int))=false:=decide_eq_false c43;clear c43;obtain rfl:=zU H;obtain ⟨Ao51,co51,eo51⟩:=yk HO_5.out;subst eo51
      go_wp2
      go_ret
      exact ⟨jF,jN⟩
 rw [if_neg c29] at H;have c29b0 : (a0_0 == 4)=false:=zY.mpr c29;have c29b1 : (a0_0 != 4)=true:=zZ.mpr c29
 by_cases c52 : a0_0=5
 ·
  rw [if_pos c52] at H
  have c52b0 : (a0_0 == 5)=true:=ya.mpr c52;have c52b1 : (a0_0 != 5)=false:=zX.mpr c52;clear c52;replace H:=zT.mp H;obtain ⟨⟨t157,t158⟩,A530,H⟩:=H;have A53:=zh A530;clear A530;have HC54:=zh H;clear H
  go_enter Try.func40,Try.ntmps40
  go_upto_region 22 with (first|((with_reducible refine zK (N:=2) rfl ?_);(try (refine yz (by rfl) ?_;dsimp only));refine zI ?hg (N:=2) ?hd (cs:=#[.int .i64 a0_0,.int .i64 a0_1,.string a0_2]) (t:=25) ?hr ?_;(case hd=>rfl);(case hg=>rfl);(case hr=>go_simp <;> rfl);intro gb148 hg w55 hbox hb;have BK148:=zh (hbox);have hH_:=cH jG hb hg;have GW148:=zh hH_.1;have GE148:=GW148;replace HB:=zh hH_.2;clear hb hbox hg hH_;obtain ⟨hcz56_0,hcz56_1,hcz56_2,hfz56_0,hfz56_1,hfz56_2⟩:=cB3 BK148.out)|((with_reducible refine zJ (f:=65) rfl ?_);refine yj (some 98) rfl rfl Try.func65 jA rfl #[.string a0_2] rfl jD ?_;(with_reducible refine (Fn.calls k  a0_2 t157 t158 _ A53.out).mono ?_);rintro e w57 ⟨v159,rfl,ho0,hb⟩;refine ⟨_,rfl,?_⟩;have HO160:=zh (yy ho0 (zB jN));replace BK148:=zh (cD BK148.out ji hb);replace HB:=zh (zC jN hb);(try clear hb);(try clear hb2);(try clear hk);(try clear hi);(try clear ho0)))
  (try simp only [Act.put,zi,zj,zk])
  go_cut [117] (fun v117 wc => ∃ (kq : Nat) (x117_53 : Bool),v117 = .bool x117_53∧Aside0 (F2.j2 kq a1 t157 x117_53=some r)∧Aside0 (kq≤k)∧Aside0 (Kd.R k43 43 wc w.heap.size (fun _=>True) v159 t157)∧Aside0 (wc.heap[gb148]? = some (.cells #[.int .i64 a0_0,.int .i64 a0_1,.string a0_2] 25 (0,0)))∧Aside0 (Below w.heap.size w wc))
  case first =>
   have H:=HC54.out;clear HC54
   by_cases c58 : a0_1=0
   ·
    rw [if_pos c58] at H
    have c58b0 : (a0_1 == 0)=true:=ya.mpr c58;have c58b1 : (a0_1 != 0)=false:=zX.mpr c58;clear c58;(first|rw [c58b0]|(simp only [zG,zH];rw [c58b0])|skip)
    by_cases c59 : t158=true
    ·
     subst c59
     rw [if_pos rfl] at H
     by_cases c60 : (a0_2.size : Int) > 300
     ·
      rw [if_pos c60] at H
      have c60b0 : decide (300<(a0_2.size : Int))=true:=decide_eq_true c60;have c60b1 : decide (300<a0_2.size)=true:=decide_eq_true jH;clear c60;have H':=zh H;clear H;obtain ⟨hcz61_0,hcz61_1,hcz61_2,hfz61_0,hfz61_1,hfz61_2⟩:=cB3 BK148.out
      go_wp2
      go_meet
      case rel=>exact ⟨_,(true),jC,H',⟨jY⟩,⟨jBc⟩,⟨ji⟩,⟨jN⟩⟩
     rw [if_neg c60] at H;have c60b0 : decide (300<(a0_2.size : Int))=false:=decide_eq_false c60;have c60b1 : decide (300<a0_2.size)=false:=decide_eq_false jH;clear c60;have H':=zh H;clear H;obtain ⟨hcz62_0,hcz62_1,hcz62_2,hfz62_0,hfz62_1,hfz62_2⟩:=cB3 BK148.out
     go_wp2
     go_meet
     case rel=>exact ⟨_,((a1 == 0)),jC,H',⟨jY⟩,⟨jBc⟩,⟨ji⟩,⟨jN⟩⟩
    replace c59:=yb.mpr c59;subst c59;rw [if_neg (show ¬ (false=true) by decide)] at H;have H':=zh H;clear H;obtain ⟨hcz63_0,hcz63_1,hcz63_2,hfz63_0,hfz63_1,hfz63_2⟩:=cB3 BK148.out
    go_wp2
    go_meet
    case rel=>exact ⟨_,(true),jC,H',⟨jY⟩,⟨jBc⟩,⟨ji⟩,⟨jN⟩⟩
   rw [if_neg c58] at H;have c58b0 : (a0_1 == 0)=false:=zY.mpr c58;have c58b1 : (a0_1 != 0)=true:=zZ.mpr c58;(first|rw [c58b0]|(simp only [zG,zH];rw [c58b0])|skip);have H':=zh H;clear H;obtain ⟨hcz64_0,hcz64_1,hcz64_2,hfz64_0,hfz64_1,hfz64_2⟩:=cB3 BK148.out
   go_wp2
   go_meet
   case rel=>exact ⟨_,(true),jC,H',⟨jY⟩,⟨jBc⟩,⟨ji⟩,⟨jN⟩⟩
  case rest =>
   clear HC54
   try clear c1
   try clear p1
   try clear q1
   try clear hx1
   try clear c2
   try clear p2
   try clear c3 c3b0 c3b1 c4 c4b0 c4b1 c5 c6
   try clear p6
   try clear c9 c9b0 c9b1 c11
   try clear p15
   try clear q15
   try clear hx15
   try clear c16 c16b0 c16b1 c18 c23 c23b0 c23b1 c24 c24b0 c24b1 c29 c29b0 c29b1 c35 c35b0 c35b1 c36 c37 c37b0 c37b1 c40 c42 c43 c43b0 c44 c44b0 c46 c52 c52b0 c52b1 c58 c58b0 c58b1 c59 c60 c60b0 c60b1 c63 c64
   try clear p64
   try clear hcz13_0 hcz13_1 hcz13_2
   try clear hcz15_0 hcz15_1 hcz15_2
   try clear hcz20_0 hcz20_1 hcz20_2
   try clear hcz22_0 hcz22_1 hcz22_2
   try clear hcz26_0 hcz26_1 hcz26_2
   try clear hcz28_0 hcz28_1 hcz28_2
   try clear hcz33_0 hcz33_1 hcz33_2
   try clear hcz38_0 hcz38_1 hcz38_2
   try clear hcz39_0 hcz39_1 hcz39_2
   try clear hcz40_0 hcz40_1 hcz40_2
   try clear hcz41_0 hcz41_1 hcz41_2
   try clear hcz56_0 hcz56_1 hcz56_2
   try clear hcz61_0 hcz61_1 hcz61_2
   try clear hcz62_0 hcz62_1 hcz62_2
   try clear hcz63_0 hcz63_1 hcz63_2
   try clear hcz64_0 hcz64_1 hcz64_2
   try clear hcz6_0 hcz6_1 hcz6_2
   try clear hcz8_0 hcz8_1 hcz8_2
   try clear hfz13_0 hfz13_1 hfz13_2
   try clear hfz15_0 hfz15_1 hfz15_2
   try clear hfz20_0 hfz20_1 hfz20_2
   try clear hfz22_0 hfz22_1 hfz22_2
   try clear hfz26_0 hfz26_1 hfz26_2
   try clear hfz28_0 hfz28_1 hfz28_2
   try clear hfz33_0 hfz33_1 hfz33_2
   try clear hfz38_0 hfz38_1 hfz38_2
   try clear hfz39_0 hfz39_1 hfz39_2
   try clear hfz40_0 hfz40_1 hfz40_2
   try clear hfz41_0 hfz41_1 hfz41_2
   try clear hfz56_0 hfz56_1 hfz56_2
   try clear hfz61_0 hfz61_1 hfz61_2
   try clear hfz62_0 hfz62_1 hfz62_2
   try clear hfz63_0 hfz63_1 hfz63_2
   try clear hfz64_0 hfz64_1 hfz64_2
   try clear hfz6_0 hfz6_1 hfz6_2
   try clear hfz8_0 hfz8_1 hfz8_2
   try clear hx155_0
   try clear hx155_1
   try clear hx155_2
   try clear p155
   try clear p2
   try clear q155
   obtain ⟨kq,x117_53,rfl,HA,HJ53,HO_8,BK148,HB⟩:=hcut
   cases kq with
   | zero=>exact absurd HA.out (by simp [F2.j2])
   | succ kj53 =>
    have H:=HA.out;clear HA;simp only [F2.j2] at H
    by_cases c65 : x117_53=true
    ·
     subst c65
     rw [if_pos rfl] at H;obtain rfl:=zU H
     go_wp2
     go_ret
     exact ⟨jF,jN⟩
    replace c65:=yb.mpr c65;subst c65;rw [if_neg (show ¬ (false=true) by decide)] at H;have H':=zh H;clear H
    go_wp2
    go_loopg [10] kj53 (fun kq v10 w' => ∃ (x10_2 : Int),v10 = .int .i64 x10_2∧Aside0 (F2.l1 kq a1 t157 x10_2=some r)∧Aside0 (kq≤kj53)∧Aside0 (Kd.R k43 43 w' w.heap.size (fun _=>True) v159 t157)∧Aside0 (w'.heap[gb148]? = some (.cells #[.int .i64 a0_0,.int .i64 a0_1,.string a0_2] 25 (0,0)))∧Aside0 (Below w.heap.size w w'))
    case atStart=>exact ⟨(0),jC,H',⟨ye _⟩,⟨jAt⟩,⟨ji⟩,⟨jN⟩⟩
    case round =>
     clear H'
     try clear c1
     try clear p1
     try clear q1
     try clear hx1
     try clear c2
     try clear p2
     try clear c3 c3b0 c3b1 c4 c4b0 c4b1 c5 c6
     try clear p6
     try clear c9 c9b0 c9b1 c11
     try clear p15
     try clear q15
     try clear hx15
     try clear c16 c16b0 c16b1 c18 c23 c23b0 c23b1 c24 c24b0 c24b1 c29 c29b0 c29b1 c35 c35b0 c35b1 c36 c37 c37b0 c37b1 c40 c42 c43 c43b0 c44 c44b0 c46 c52 c52b0 c52b1 c58 c58b0 c58b1 c59 c60 c60b0 c60b1 c63 c64
     try clear p64
     try clear c65
     try clear hcz13_0 hcz13_1 hcz13_2
     try clear hcz15_0 hcz15_1 hcz15_2
     try clear hcz20_0 hcz20_1 hcz20_2
     try clear hcz22_0 hcz22_1 hcz22_2
     try clear hcz26_0 hcz26_1 hcz26_2
     try clear hcz28_0 hcz28_1 hcz28_2
     try clear hcz33_0 hcz33_1 hcz33_2
     try clear hcz38_0 hcz38_1 hcz38_2
     try clear hcz39_0 hcz39_1 hcz39_2
     try clear hcz40_0 hcz40_1 hcz40_2
     try clear hcz41_0 hcz41_1 hcz41_2
     try clear hcz56_0 hcz56_1 hcz56_2
     try clear hcz61_0 hcz61_1 hcz61_2
     try clear hcz62_0 hcz62_1 hcz62_2
     try clear hcz63_0 hcz63_1 hcz63_2
     try clear hcz64_0 hcz64_1 hcz64_2
     try clear hcz6_0 hcz6_1 hcz6_2
     try clear hcz8_0 hcz8_1 hcz8_2
     try clear hfz13_0 hfz13_1 hfz13_2
     try clear hfz15_0 hfz15_1 hfz15_2
     try clear hfz20_0 hfz20_1 hfz20_2
     try clear hfz22_0 hfz22_1 hfz22_2
     try clear hfz26_0 hfz26_1 hfz26_2
     try clear hfz28_0 hfz28_1 hfz28_2
     try clear hfz33_0 hfz33_1 hfz33_2
     try clear hfz38_0 hfz38_1 hfz38_2
     try clear hfz39_0 hfz39_1 hfz39_2
     try clear hfz40_0 hfz40_1 hfz40_2
     try clear hfz41_0 hfz41_1 hfz41_2
     try clear hfz56_0 hfz56_1 hfz56_2
     try clear hfz61_0 hfz61_1 hfz61_2
     try clear hfz62_0 hfz62_1 hfz62_2
     try clear hfz63_0 hfz63_1 hfz63_2
     try clear hfz64_0 hfz64_1 hfz64_2
     try clear hfz6_0 hfz6_1 hfz6_2
     try clear hfz8_0 hfz8_1 hfz8_2
     try clear hx155_0
     try clear hx155_1
     try clear hx155_2
     try clear p1
     try clear p15
     try clear p155
     try clear p2
     try clear p6
     try clear p64
     try clear q1
     try clear q15
     try clear q155
     obtain ⟨x10_2,rfl,HA,HK2,HO_8,BK148,HB⟩:=hrel
     cases gk with
     | zero=>exact absurd HA.out (by simp [F2.l1])
     | succ k2 =>
      have H:=HA.out;clear HA;simp only [F2.l1] at H
      by_cases c66 : x10_2<(t157.length : Int)
      ·
       rw [if_pos c66] at H
       have c66b0 : decide (x10_2<(t157.length : Int))=true:=decide_eq_true c66;clear c66
       by_cases c67 : 0≤x10_2
       ·
        rw [if_pos c67] at H
        have c67b0 : decide (0≤x10_2)=true:=decide_eq_true c67;clear c67;replace H:=zT.mp H;obtain ⟨t162,A680,H⟩:=H;have A68:=zh A680;clear A680
        by_cases c69 : t162=true
        ·
         subst c69
         rw [if_pos rfl] at H
         by_cases c70 : x10_2 > 0
         ·
          rw [if_pos c70] at H
          have c70b0 : decide (0<x10_2)=true:=decide_eq_true c70;clear c70;obtain ⟨ji71,hji71⟩ : ∃ j_ : Int,(wrap64 (x10_2 - 1))=j_:=⟨_,rfl⟩;replace H : (if 0≤(ji71) then (if (ji71)<(t157.length : Int) then (if ((Op.bytesLess (((rd_T43 t157 (ji71)).f0).toList) (((rd_T43 t157 x10_2).f0).toList))=true) then ((F2.f k2 ((rd_T43 t157 x10_2).f1.f0) ((rd_T43 t157 x10_2).f1.f1) ((rd_T43 t157 x10_2).f1.f2) (wrap64 (a1 - 1))).bind fun t166=>(if t166=true then (F2.l1 k2 a1 t157 (wrap64 (x10_2+1))) else (some false))) else (some false)) else (none)) else (none))=some r:=by first|(rw [hji71] at H;exact H)|(simp only [hji71] at H ⊢;exact H)
          (try rw [hji71] at A68);have hji71w : (IntKind.i64.wrap (x10_2 - 1))=ji71:=(zG _).trans hji71
          by_cases c72 : 0≤(ji71)
          ·
           rw [if_pos c72] at H
           have c72b0 : decide (0≤(ji71))=true:=decide_eq_true c72;clear c72
           by_cases c73 : (ji71)<(t157.length : Int)
           ·
            rw [if_pos c73] at H
            have c73b0 : decide ((ji71)<(t157.length : Int))=true:=decide_eq_true c73;clear c73
            by_cases c74 : ((Op.bytesLess (((rd_T43 t157 (ji71)).f0).toList) (((rd_T43 t157 x10_2).f0).toList))=true)
            ·
             rw [if_pos c74] at H
             have c74b0 : (Op.bytesLess (((rd_T43 t157 (ji71)).f0).toList) (((rd_T43 t157 x10_2).f0).toList))=true:=c74;clear c74;replace H:=zT.mp H;obtain ⟨t166,A750,H⟩:=H;have A75:=zh A750;clear A750
             by_cases c76 : t166=true
             ·
              subst c76
              rw [if_pos rfl] at H;have H':=zh H;clear H;obtain ⟨Ao77,co77,eo77⟩:=yk HO_8.out;subst eo77
              try go_wp2
              replace HO_8:=zh (zo HO_8.out);replace BK148:=zh (zf BK148.out);replace HB:=zh (zc HB.out);have p161 : 0≤(x10_2 : Int):=zy jE;have q161 : x10_2<(t157.length : Int):=zy jE;obtain ⟨ad161,e161,hx161_0,hx161_1,hx161_2,hx161_3⟩:=at_T43 (yh HO_8.out).2.2 x10_2 p161 q161
              cases e161
              replace p161:=eq_true p161;replace q161:=eq_true q161;have p163 : 0≤((ji71) : Int):=zy jE;have q163 : (ji71)<(t157.length : Int):=zy jE;obtain ⟨ad163,e163,hx163_0,hx163_1,hx163_2,hx163_3⟩:=at_T43 (yh HO_8.out).2.2 (ji71) p163 q163;obtain rfl : ad161=ad163:=(by injection e163);replace p163:=eq_true p163;replace q163:=eq_true q163;have p164 : 0≤(x10_2 : Int):=zy jE;have q164 : x10_2<(t157.length : Int):=zy jE;obtain ⟨ad164,e164,hx164_0,hx164_1,hx164_2,hx164_3⟩:=at_T43 (yh HO_8.out).2.2 x10_2 p164 q164;obtain rfl : ad161=ad164:=(by injection e164);replace p164:=eq_true p164;replace q164:=eq_true q164;have p165 : 0≤(x10_2 : Int):=zy jE;have q165 : x10_2<(t157.length : Int):=zy jE;obtain ⟨ad165,e165,hx165_0,hx165_1,hx165_2,hx165_3⟩:=at_T43 (yh HO_8.out).2.2 x10_2 p165 q165;obtain rfl : ad161=ad165:=(by injection e165);replace p165:=eq_true p165;replace q165:=eq_true q165;refine start_ (n:=36) (S:=fun w' => w'.cell? (ad161.add ((x10_2).toNat*4))=some (.string ((rd_T43 t157 x10_2).f0))∧w'.cell? ⟨(ad161.add ((x10_2).toNat*4)).block,(ad161.add ((x10_2).toNat*4)).off+1,none⟩=some (.int .i64 ((rd_T43 t157 x10_2).f1.f0))∧w'.cell? ⟨(ad161.add ((x10_2).toNat*4)).block,(ad161.add ((x10_2).toNat*4)).off+2,none⟩=some (.int .i64 ((rd_T43 t157 x10_2).f1.f1))∧w'.cell? ⟨(ad161.add ((x10_2).toNat*4)).block,(ad161.add ((x10_2).toNat*4)).off+3,none⟩=some (.string ((rd_T43 t157 x10_2).f1.f2))∧w'.cell? (ad161.add (((ji71)).toNat*4))=some (.string ((rd_T43 t157 (ji71)).f0))∧w'.cell? ⟨(ad161.add (((ji71)).toNat*4)).block,(ad161.add (((ji71)).toNat*4)).off+1,none⟩=some (.int .i64 ((rd_T43 t157 (ji71)).f1.f0))∧w'.cell? ⟨(ad161.add (((ji71)).toNat*4)).block,(ad161.add (((ji71)).toNat*4)).off+2,none⟩=some (.int .i64 ((rd_T43 t157 (ji71)).f1.f1))∧w'.cell? ⟨(ad161.add (((ji71)).toNat*4)).block,(ad161.add (((ji71)).toNat*4)).off+3,none⟩=some (.string ((rd_T43 t157 (ji71)).f1.f2))∧w'.cell? (ad161.add ((x10_2).toNat*4))=some (.string ((rd_T43 t157 x10_2).f0))∧w'.cell? ⟨(ad161.add ((x10_2).toNat*4)).block,(ad161.add ((x10_2).toNat*4)).off+1,none⟩=some (.int .i64 ((rd_T43 t157 x10_2).f1.f0))∧w'.cell? ⟨(ad161.add ((x10_2).toNat*4)).block,(ad161.add ((x10_2).toNat*4)).off+2,none⟩=some (.int .i64 ((rd_T43 t157 x10_2).f1.f1))∧w'.cell? ⟨(ad161.add ((x10_2).toNat*4)).block,(ad161.add ((x10_2).toNat*4)).off+3,none⟩=some (.string ((rd_T43 t157 x10_2).f1.f2))∧w'.cell? (ad161.add ((x10_2).toNat*4))=some (.string ((rd_T43 t157 x10_2).f0))∧w'.cell? ⟨(ad161.add ((x10_2).toNat*4)).block,(ad161.add ((x10_2).toNat*4)).off+1,none⟩=some (.int .i64 ((rd_T43 t157 x10_2).f1.f0))∧w'.cell? ⟨(ad161.add ((x10_2).toNat*4)).block,(ad161.add ((x10_2).toNat*4)).off+2,none⟩=some (.int .i64 ((rd_T43 t157 x10_2).f1.f1))∧w'.cell? ⟨(ad161.add ((x10_2).toNat*4)).block,(ad161.add ((x10_2).toNat*4)).off+3,none⟩=some (.string ((rd_T43 t157 x10_2).f1.f2))) (ds:=[]) (bm_ 0 36) jA rfl rfl ⟨hx161_0,hx161_1,hx161_2,hx161_3,hx163_0,hx163_1,hx163_2,hx163_3,hx164_0,hx164_1,hx164_2,hx164_3,hx165_0,hx165_1,hx165_2,hx165_3⟩ (fun hHeld=>?_);refine with_tabW F2.tab27 F2.bits27 (fun HT_ HW_=>?_);generalize wr.drew=w78 at HO_8 BK148 HB hx161_0 hx161_1 hx161_2 hx161_3 hx163_0 hx163_1 hx163_2 hx163_3 hx164_0 hx164_1 hx164_2 hx164_3 hx165_0 hx165_1 hx165_2 hx165_3 hHeld ⊢;refine pure_ (i:=0) (N:=some 124) (v:=?_) (a':=?_) (bm_ 1 36) rfl rfl (any_of HT_.out jA) (fun _ _ _ h=>h) (Or.inl ⟨by rfl,?_⟩) ?_ ?_;rotate_left;exact jb;rotate_left;exact jc
              refine pure_ (i:=1) (N:=some 125) (v:=?_) (a':=?_) (bm_ 2 36) rfl rfl (any_of HT_.out jA) (fun _ _ _ h=>h) (Or.inl ⟨by rfl,?_⟩) ?_ ?_;rotate_left;exact jb;rotate_left;exact jc
              refine pure_ (i:=2) (N:=some 126) (v:=?_) (a':=?_) (bm_ 3 36) rfl rfl (any_of HT_.out jA) (fun _ _ _ h=>h) (Or.inl ⟨by rfl,?_⟩) ?_ ?_;rotate_left;exact jb;rotate_left;exact jc
              refine pure_ (i:=3) (N:=some 127) (v:=?_) (a':=?_) (bm_ 4 36) rfl rfl (any_of HT_.out jA) (fun _ _ _ h=>h) (Or.inl ⟨by rfl,?_⟩) ?_ ?_;rotate_left;exact jb;rotate_left;exact jc
              refine take_ (i:=4) (N:=some 128) (v:=?_) (a':=?_) (bm_ 5 36) rfl rfl (yo HT_.out HW_.out jA) (fun _ _ _ h=>h) (Or.inl ⟨by rfl,?_⟩) hHeld ?_ ?_;rotate_left
              ·
               rintro w' ⟨s0,s1,s2,s3,s4,s5,s6,s7,s8,s9,s10,s11,s12,s13,s14,s15⟩
               go_simp
               with_reducible rfl
              rotate_left
              exact jc
              refine one_ (i:=5) (N:=some 129) (bm_ 6 36) rfl rfl (one_of HT_.out jA) jB (fun K hK=>?_);refine goes_ Try.func19 jA rfl #[.string ((rd_T43 t157 x10_2).f0)] (by rfl) rfl rfl jD ?_
              with_reducible refine (F0a.calls k2  ((rd_T43 t157 x10_2).f0) true _ A68.out).mono ?_
              rintro e w' ⟨rfl,⟨nd,rfl⟩⟩;refine ⟨_,rfl,?_⟩;refine hK.out _ _ ⟨hHeld.1,hHeld.2.1,hHeld.2.2.1,hHeld.2.2.2.1,hHeld.2.2.2.2.1,hHeld.2.2.2.2.2.1,hHeld.2.2.2.2.2.2.1,hHeld.2.2.2.2.2.2.2.1,hHeld.2.2.2.2.2.2.2.2.1,hHeld.2.2.2.2.2.2.2.2.2.1,hHeld.2.2.2.2.2.2.2.2.2.2.1,hHeld.2.2.2.2.2.2.2.2.2.2.2.1,hHeld.2.2.2.2.2.2.2.2.2.2.2.2.1,hHeld.2.2.2.2.2.2.2.2.2.2.2.2.2.1,hHeld.2.2.2.2.2.2.2.2.2.2.2.2.2.2.1,hHeld.2.2.2.2.2.2.2.2.2.2.2.2.2.2.2⟩ (fun hHeld=>?_);clear hK K;refine norm_ (a':=?_) ?_ ?_;rotate_left
              ·
               show Act.put _ (some 129) _=_
               simp only [Act.put,zi,zj,zk,zG,zH]
               rfl
              refine pure_ (i:=6) (N:=some 130) (v:=?_) (a':=?_) (bm_ 7 36) rfl rfl (any_of HT_.out jA) (fun _ _ _ h=>h) (Or.inl ⟨by rfl,?_⟩) ?_ ?_;rotate_left;exact jb;rotate_left;exact jc
              refine pure_ (i:=7) (N:=some 131) (v:=?_) (a':=?_) (bm_ 8 36) rfl rfl (any_of HT_.out jA) (fun _ _ _ h=>h) (Or.inl ⟨by rfl,?_⟩) ?_ ?_;rotate_left;exact jb;rotate_left;exact jc
              refine pure_ (i:=8) (N:=some 132) (v:=?_) (a':=?_) (bm_ 9 36) rfl rfl (any_of HT_.out jA) (fun _ _ _ h=>h) (Or.inl ⟨by rfl,?_⟩) ?_ ?_;rotate_left;exact jb;rotate_left;exact jc
              refine pure_ (i:=9) (N:=some 133) (v:=?_) (a':=?_) (bm_ 10 36) rfl rfl (any_of HT_.out jA) (fun _ _ _ h=>h) (Or.inl ⟨by rfl,?_⟩) ?_ ?_;rotate_left;exact jb;rotate_left;exact jc
              refine pure_ (i:=10) (N:=some 134) (v:=?_) (a':=?_) (bm_ 11 36) rfl rfl (any_of HT_.out jA) (fun _ _ _ h=>h) (Or.inl ⟨by rfl,?_⟩) ?_ ?_;rotate_left;exact jb;rotate_left;exact jc
              refine pure_ (i:=11) (N:=some 135) (v:=?_) (a':=?_) (bm_ 12 36) rfl rfl (any_of HT_.out jA) (fun _ _ _ h=>h) (Or.inl ⟨by rfl,?_⟩) ?_ ?_;rotate_left;exact jb;rotate_left;exact jc
              refine pure_ (i:=12) (N:=some 136) (v:=?_) (a':=?_) (bm_ 13 36) rfl rfl (any_of HT_.out jA) (fun _ _ _ h=>h) (Or.inl ⟨by rfl,?_⟩) ?_ ?_;rotate_left;exact jb;rotate_left;exact jc
              refine pure_ (i:=13) (N:=some 137) (v:=?_) (a':=?_) (bm_ 14 36) rfl rfl (any_of HT_.out jA) (fun _ _ _ h=>h) (Or.inl ⟨by rfl,?_⟩) ?_ ?_;rotate_left;exact jb;rotate_left;exact jc
              refine pure_ (i:=14) (N:=some 138) (v:=?_) (a':=?_) (bm_ 15 36) rfl rfl (any_of HT_.out jA) (fun _ _ _ h=>h) (Or.inl ⟨by rfl,?_⟩) ?_ ?_;rotate_left;exact jb;rotate_left;exact jc
              refine pure_ (i:=15) (N:=some 139) (v:=?_) (a':=?_) (bm_ 16 36) rfl rfl (any_of HT_.out jA) (fun _ _ _ h=>h) (Or.inl ⟨by rfl,?_⟩) ?_ ?_;rotate_left;exact jb;rotate_left;exact jc
              refine pure_ (i:=17) (N:=some 141) (v:=?_) (a':=?_) #[true,true,true,true,true,true,true,true,true,true,true,true,true,true,true,true,false,true,false,false,false,false,false,false,false,false,false,false,false,false,false,false,false,false,false,false] rfl rfl (any_of HT_.out jA) (fun _ _ _ h=>h) (Or.inl ⟨by rfl,?_⟩) ?_ ?_;rotate_left;exact jb;rotate_left;exact jc
              refine pure_ (i:=18) (N:=some 142) (v:=?_) (a':=?_) #[true,true,true,true,true,true,true,true,true,true,true,true,true,true,true,true,false,true,true,false,false,false,false,false,false,false,false,false,false,false,false,false,false,false,false,false] rfl rfl (any_of HT_.out jA) (fun _ _ _ h=>h) (Or.inl ⟨by rfl,?_⟩) ?_ ?_;rotate_left;exact jb;rotate_left;exact jc
              refine pure_ (i:=19) (N:=some 143) (v:=?_) (a':=?_) #[true,true,true,true,true,true,true,true,true,true,true,true,true,true,true,true,false,true,true,true,false,false,false,false,false,false,false,false,false,false,false,false,false,false,false,false] rfl rfl (any_of HT_.out jA) (fun _ _ _ h=>h) (Or.inl ⟨by rfl,?_⟩) ?_ ?_;rotate_left;exact jb;rotate_left;exact jc
              refine pure_ (i:=20) (N:=some 144) (v:=?_) (a':=?_) #[true,true,true,true,true,true,true,true,true,true,true,true,true,true,true,true,false,true,true,true,true,false,false,false,false,false,false,false,false,false,false,false,false,false,false,false] rfl rfl (any_of HT_.out jA) (fun _ _ _ h=>h) (Or.inl ⟨by rfl,?_⟩) ?_ ?_;rotate_left;exact jb;rotate_left;exact jc
              refine take_ (i:=16) (N:=some 140) (v:=?_) (a':=?_) (bm_ 21 36) rfl rfl (yo HT_.out HW_.out jA) (fun _ _ _ h=>h) (Or.inl ⟨by rfl,?_⟩) hHeld ?_ ?_;rotate_left
              ·
               rintro w' ⟨s0,s1,s2,s3,s4,s5,s6,s7,s8,s9,s10,s11,s12,s13,s14,s15⟩
               go_simp
               with_reducible rfl
              rotate_left
              exact jc
              refine take_ (i:=21) (N:=some 145) (v:=?_) (a':=?_) (bm_ 22 36) rfl rfl (yo HT_.out HW_.out jA) (fun _ _ _ h=>h) (Or.inl ⟨by rfl,?_⟩) hHeld ?_ ?_;rotate_left
              ·
               rintro w' ⟨s0,s1,s2,s3,s4,s5,s6,s7,s8,s9,s10,s11,s12,s13,s14,s15⟩
               go_simp
               with_reducible rfl
              rotate_left
              exact jc
              refine pure_ (i:=22) (N:=some 146) (v:=?_) (a':=?_) (bm_ 23 36) rfl rfl (any_of HT_.out jA) (fun _ _ _ h=>h) (Or.inl ⟨by rfl,?_⟩) ?_ ?_;rotate_left;exact jb;rotate_left;exact jc
              refine pure_ (i:=23) (N:=some 147) (v:=?_) (a':=?_) (bm_ 24 36) rfl rfl (any_of HT_.out jA) (fun _ _ _ h=>h) (Or.inl ⟨by rfl,?_⟩) ?_ ?_;rotate_left;exact jb;rotate_left;exact jc
              refine pure_ (i:=24) (N:=some 148) (v:=?_) (a':=?_) (bm_ 25 36) rfl rfl (any_of HT_.out jA) (fun _ _ _ h=>h) (Or.inl ⟨by rfl,?_⟩) ?_ ?_;rotate_left;exact jb;rotate_left;exact jc
              refine pure_ (i:=25) (N:=some 149) (v:=?_) (a':=?_) (bm_ 26 36) rfl rfl (any_of HT_.out jA) (fun _ _ _ h=>h) (Or.inl ⟨by rfl,?_⟩) ?_ ?_;rotate_left;exact jb;rotate_left;exact jc
              refine pure_ (i:=26) (N:=some 150) (v:=?_) (a':=?_) (bm_ 27 36) rfl rfl (any_of HT_.out jA) (fun _ _ _ h=>h) (Or.inl ⟨by rfl,?_⟩) ?_ ?_;rotate_left;exact jb;rotate_left;exact jc
              refine pure_ (i:=27) (N:=some 151) (v:=?_) (a':=?_) (bm_ 28 36) rfl rfl (any_of HT_.out jA) (fun _ _ _ h=>h) (Or.inl ⟨by rfl,?_⟩) ?_ ?_;rotate_left;exact jb;rotate_left;exact jc
              refine pure_ (i:=28) (N:=some 152) (v:=?_) (a':=?_) (bm_ 29 36) rfl rfl (any_of HT_.out jA) (fun _ _ _ h=>h) (Or.inl ⟨by rfl,?_⟩) ?_ ?_;rotate_left;exact jb;rotate_left;exact jc
              refine pure_ (i:=29) (N:=some 153) (v:=?_) (a':=?_) (bm_ 30 36) rfl rfl (any_of HT_.out jA) (fun _ _ _ h=>h) (Or.inl ⟨by rfl,?_⟩) ?_ ?_;rotate_left;exact jb;rotate_left;exact jc
              refine pure_ (i:=31) (N:=some 155) (v:=?_) (a':=?_) #[true,true,true,true,true,true,true,true,true,true,true,true,true,true,true,true,true,true,true,true,true,true,true,true,true,true,true,true,true,true,false,true,false,false,false,false] rfl rfl (any_of HT_.out jA) (fun _ _ _ h=>h) (Or.inl ⟨by rfl,?_⟩) ?_ ?_;rotate_left;exact jb;rotate_left;exact jc
              refine pure_ (i:=32) (N:=some 156) (v:=?_) (a':=?_) #[true,true,true,true,true,true,true,true,true,true,true,true,true,true,true,true,true,true,true,true,true,true,true,true,true,true,true,true,true,true,false,true,true,false,false,false] rfl rfl (any_of HT_.out jA) (fun _ _ _ h=>h) (Or.inl ⟨by rfl,?_⟩) ?_ ?_;rotate_left;exact jb;rotate_left;exact jc
              refine take_ (i:=30) (N:=some 154) (v:=?_) (a':=?_) (bm_ 33 36) rfl rfl (yo HT_.out HW_.out jA) (fun _ _ _ h=>h) (Or.inl ⟨by rfl,?_⟩) hHeld ?_ ?_;rotate_left
              ·
               rintro w' ⟨s0,s1,s2,s3,s4,s5,s6,s7,s8,s9,s10,s11,s12,s13,s14,s15⟩
               go_simp
               with_reducible rfl
              rotate_left
              exact jc
              refine one_ (i:=33) (N:=some 157) (bm_ 34 36) rfl rfl (one_of HT_.out jA) jB (fun K hK=>?_);refine goes_ Try.func40 jA rfl #[.agg #[.int .i64 ((rd_T43 t157 x10_2).f1.f0),.int .i64 ((rd_T43 t157 x10_2).f1.f1),.string ((rd_T43 t157 x10_2).f1.f2)],.int .i64 (wrap64 (a1 - 1))] (by rfl) rfl rfl jD ?_
              with_reducible refine (ih k2 jA5  ((rd_T43 t157 x10_2).f1.f0) ((rd_T43 t157 x10_2).f1.f1) ((rd_T43 t157 x10_2).f1.f2) (wrap64 (a1 - 1)) true _ A75.out).mono ?_
              rintro e w79 ⟨rfl,hb⟩;have HS0_:=(hb.cell (zl _ _ (hHeld.1))).trans (hHeld.1);have HS1_:=(hb.cell (zl _ _ (hHeld.2.1))).trans (hHeld.2.1);have HS2_:=(hb.cell (zl _ _ (hHeld.2.2.1))).trans (hHeld.2.2.1);have HS3_:=(hb.cell (zl _ _ (hHeld.2.2.2.1))).trans (hHeld.2.2.2.1);have HS4_:=(hb.cell (zl _ _ (hHeld.2.2.2.2.1))).trans (hHeld.2.2.2.2.1);have HS5_:=(hb.cell (zl _ _ (hHeld.2.2.2.2.2.1))).trans (hHeld.2.2.2.2.2.1);have HS6_:=(hb.cell (zl _ _ (hHeld.2.2.2.2.2.2.1))).trans (hHeld.2.2.2.2.2.2.1);have HS7_:=(hb.cell (zl _ _ (hHeld.2.2.2.2.2.2.2.1))).trans (hHeld.2.2.2.2.2.2.2.1);have HS8_:=(hb.cell (zl _ _ (hHeld.2.2.2.2.2.2.2.2.1))).trans (hHeld.2.2.2.2.2.2.2.2.1);have HS9_:=(hb.cell (zl _ _ (hHeld.2.2.2.2.2.2.2.2.2.1))).trans (hHeld.2.2.2.2.2.2.2.2.2.1);have HS10_:=(hb.cell (zl _ _ (hHeld.2.2.2.2.2.2.2.2.2.2.1))).trans (hHeld.2.2.2.2.2.2.2.2.2.2.1);have HS11_:=(hb.cell (zl _ _ (hHeld.2.2.2.2.2.2.2.2.2.2.2.1))).trans (hHeld.2.2.2.2.2.2.2.2.2.2.2.1);have HS12_:=(hb.cell (zl _ _ (hHeld.2.2.2.2.2.2.2.2.2.2.2.2.1))).trans (hHeld.2.2.2.2.2.2.2.2.2.2.2.2.1);have HS13_:=(hb.cell (zl _ _ (hHeld.2.2.2.2.2.2.2.2.2.2.2.2.2.1))).trans (hHeld.2.2.2.2.2.2.2.2.2.2.2.2.2.1);have HS14_:=(hb.cell (zl _ _ (hHeld.2.2.2.2.2.2.2.2.2.2.2.2.2.2.1))).trans (hHeld.2.2.2.2.2.2.2.2.2.2.2.2.2.2.1);have HS15_:=(hb.cell (zl _ _ (hHeld.2.2.2.2.2.2.2.2.2.2.2.2.2.2.2))).trans (hHeld.2.2.2.2.2.2.2.2.2.2.2.2.2.2.2);refine ⟨_,rfl,?_⟩;replace HO_8:=zh (yg jAt hb);replace BK148:=zh (cD BK148.out ji hb);replace HB:=zh (zC jN hb);(try clear hb);(try clear hb2);(try clear hk);(try clear hi);refine hK.out _ _ ⟨HS0_,HS1_,HS2_,HS3_,HS4_,HS5_,HS6_,HS7_,HS8_,HS9_,HS10_,HS11_,HS12_,HS13_,HS14_,HS15_⟩ (fun hHeld=>?_);clear hK K;refine norm_ (a':=?_) ?_ ?_;rotate_left
              ·
               show Act.put _ (some 157) _=_
               simp only [Act.put,zi,zj,zk,zG,zH]
               rfl
              refine pure_ (i:=34) (N:=some 158) (v:=?_) (a':=?_) (bm_ 35 36) rfl rfl (any_of HT_.out jA) (fun _ _ _ h=>h) (Or.inl ⟨by rfl,?_⟩) ?_ ?_;rotate_left;exact jb;rotate_left;exact jc
              refine pure_ (i:=35) (N:=some 159) (v:=?_) (a':=?_) (bm_ 36 36) rfl rfl (any_of HT_.out jA) (fun _ _ _ h=>h) (Or.inl ⟨by rfl,?_⟩) ?_ ?_;rotate_left;exact jb;rotate_left;exact jc
              refine done_ (done_of HT_.out jA) ?_
              try go_wp2
              go_roundg k2
              case measure=>have:=HJ53.out;have:=HK2.out;omega
              case rel=>exact ⟨(wrap64 (x10_2+1)),jC,H',⟨jA5⟩,⟨jAt⟩,⟨ji⟩,⟨jN⟩⟩
             replace c76:=yb.mpr c76;subst c76;rw [if_neg (show ¬ (false=true) by decide)] at H;obtain rfl:=zU H;obtain ⟨Ao80,co80,eo80⟩:=yk HO_8.out;subst eo80
             try go_wp2
             replace HO_8:=zh (zo HO_8.out);replace BK148:=zh (zf BK148.out);replace HB:=zh (zc HB.out);have p161 : 0≤(x10_2 : Int):=zy jE;have q161 : x10_2<(t157.length : Int):=zy jE;obtain ⟨ad161,e161,hx161_0,hx161_1,hx161_2,hx161_3⟩:=at_T43 (yh HO_8.out).2.2 x10_2 p161 q161
             cases e161
             replace p161:=eq_true p161;replace q161:=eq_true q161;have p163 : 0≤((ji71) : Int):=zy jE;have q163 : (ji71)<(t157.length : Int):=zy jE;obtain ⟨ad163,e163,hx163_0,hx163_1,hx163_2,hx163_3⟩:=at_T43 (yh HO_8.out).2.2 (ji71) p163 q163;obtain rfl : ad161=ad163:=(by injection e163);replace p163:=eq_true p163;replace q163:=eq_true q163;have p164 : 0≤(x10_2 : Int):=zy jE;have q164 : x10_2<(t157.length : Int):=zy jE;obtain ⟨ad164,e164,hx164_0,hx164_1,hx164_2,hx164_3⟩:=at_T43 (yh HO_8.out).2.2 x10_2 p164 q164;obtain rfl : ad161=ad164:=(by injection e164);replace p164:=eq_true p164;replace q164:=eq_true q164;have p165 : 0≤(x10_2 : Int):=zy jE;have q165 : x10_2<(t157.length : Int):=zy jE;obtain ⟨ad165,e165,hx165_0,hx165_1,hx165_2,hx165_3⟩:=at_T43 (yh HO_8.out).2.2 x10_2 p165 q165;obtain rfl : ad161=ad165:=(by injection e165);replace p165:=eq_true p165;replace q165:=eq_true q165;refine start_ (n:=36) (S:=fun w' => w'.cell? (ad161.add ((x10_2).toNat*4))=some (.string ((rd_T43 t157 x10_2).f0))∧w'.cell? ⟨(ad161.add ((x10_2).toNat*4)).block,(ad161.add ((x10_2).toNat*4)).off+1,none⟩=some (.int .i64 ((rd_T43 t157 x10_2).f1.f0))∧w'.cell? ⟨(ad161.add ((x10_2).toNat*4)).block,(ad161.add ((x10_2).toNat*4)).off+2,none⟩=some (.int .i64 ((rd_T43 t157 x10_2).f1.f1))∧w'.cell? ⟨(ad161.add ((x10_2).toNat*4)).block,(ad161.add ((x10_2).toNat*4)).off+3,none⟩=some (.string ((rd_T43 t157 x10_2).f1.f2))∧w'.cell? (ad161.add (((ji71)).toNat*4))=some (.string ((rd_T43 t157 (ji71)).f0))∧w'.cell? ⟨(ad161.add (((ji71)).toNat*4)).block,(ad161.add (((ji71)).toNat*4)).off+1,none⟩=some (.int .i64 ((rd_T43 t157 (ji71)).f1.f0))∧w'.cell? ⟨(ad161.add (((ji71)).toNat*4)).block,(ad161.add (((ji71)).toNat*4)).off+2,none⟩=some (.int .i64 ((rd_T43 t157 (ji71)).f1.f1))∧w'.cell? ⟨(ad161.add (((ji71)).toNat*4)).block,(ad161.add (((ji71)).toNat*4)).off+3,none⟩=some (.string ((rd_T43 t157 (ji71)).f1.f2))∧w'.cell? (ad161.add ((x10_2).toNat*4))=some (.string ((rd_T43 t157 x10_2).f0))∧w'.cell? ⟨(ad161.add ((x10_2).toNat*4)).block,(ad161.add ((x10_2).toNat*4)).off+1,none⟩=some (.int .i64 ((rd_T43 t157 x10_2).f1.f0))∧w'.cell? ⟨(ad161.add ((x10_2).toNat*4)).block,(ad161.add ((x10_2).toNat*4)).off+2,none⟩=some (.int .i64 ((rd_T43 t157 x10_2).f1.f1))∧w'.cell? ⟨(ad161.add ((x10_2).toNat*4)).block,(ad161.add ((x10_2).toNat*4)).off+3,none⟩=some (.string ((rd_T43 t157 x10_2).f1.f2))∧w'.cell? (ad161.add ((x10_2).toNat*4))=some (.string ((rd_T43 t157 x10_2).f0))∧w'.cell? ⟨(ad161.add ((x10_2).toNat*4)).block,(ad161.add ((x10_2).toNat*4)).off+1,none⟩=some (.int .i64 ((rd_T43 t157 x10_2).f1.f0))∧w'.cell? ⟨(ad161.add ((x10_2).toNat*4)).block,(ad161.add ((x10_2).toNat*4)).off+2,none⟩=some (.int .i64 ((rd_T43 t157 x10_2).f1.f1))∧w'.cell? ⟨(ad161.add ((x10_2).toNat*4)).block,(ad161.add ((x10_2).toNat*4)).off+3,none⟩=some (.string ((rd_T43 t157 x10_2).f1.f2))) (ds:=[]) (bm_ 0 36) jA rfl rfl ⟨hx161_0,hx161_1,hx161_2,hx161_3,hx163_0,hx163_1,hx163_2,hx163_3,hx164_0,hx164_1,hx164_2,hx164_3,hx165_0,hx165_1,hx165_2,hx165_3⟩ (fun hHeld=>?_);refine with_tabW F2.tab27 F2.bits27 (fun HT_ HW_=>?_);generalize wr.drew=w81 at HO_8 BK148 HB hx161_0 hx161_1 hx161_2 hx161_3 hx163_0 hx163_1 hx163_2 hx163_3 hx164_0 hx164_1 hx164_2 hx164_3 hx165_0 hx165_1 hx165_2 hx165_3 hHeld ⊢;refine pure_ (i:=0) (N:=some 124) (v:=?_) (a':=?_) (bm_ 1 36) rfl rfl (any_of HT_.out jA) (fun _ _ _ h=>h) (Or.inl ⟨by rfl,?_⟩) ?_ ?_;rotate_left;exact jb;rotate_left;exact jc
             refine pure_ (i:=1) (N:=some 125) (v:=?_) (a':=?_) (bm_ 2 36) rfl rfl (any_of HT_.out jA) (fun _ _ _ h=>h) (Or.inl ⟨by rfl,?_⟩) ?_ ?_;rotate_left;exact jb;rotate_left;exact jc
             refine pure_ (i:=2) (N:=some 126) (v:=?_) (a':=?_) (bm_ 3 36) rfl rfl (any_of HT_.out jA) (fun _ _ _ h=>h) (Or.inl ⟨by rfl,?_⟩) ?_ ?_;rotate_left;exact jb;rotate_left;exact jc
             refine pure_ (i:=3) (N:=some 127) (v:=?_) (a':=?_) (bm_ 4 36) rfl rfl (any_of HT_.out jA) (fun _ _ _ h=>h) (Or.inl ⟨by rfl,?_⟩) ?_ ?_;rotate_left;exact jb;rotate_left;exact jc
             refine take_ (i:=4) (N:=some 128) (v:=?_) (a':=?_) (bm_ 5 36) rfl rfl (yo HT_.out HW_.out jA) (fun _ _ _ h=>h) (Or.inl ⟨by rfl,?_⟩) hHeld ?_ ?_;rotate_left
             ·
              rintro w' ⟨s0,s1,s2,s3,s4,s5,s6,s7,s8,s9,s10,s11,s12,s13,s14,s15⟩
              go_simp
              with_reducible rfl
             rotate_left
             exact jc
             refine one_ (i:=5) (N:=some 129) (bm_ 6 36) rfl rfl (one_of HT_.out jA) jB (fun K hK=>?_);refine goes_ Try.func19 jA rfl #[.string ((rd_T43 t157 x10_2).f0)] (by rfl) rfl rfl jD ?_
             with_reducible refine (F0a.calls k2  ((rd_T43 t157 x10_2).f0) true _ A68.out).mono ?_
             rintro e w' ⟨rfl,⟨nd,rfl⟩⟩;refine ⟨_,rfl,?_⟩;refine hK.out _ _ ⟨hHeld.1,hHeld.2.1,hHeld.2.2.1,hHeld.2.2.2.1,hHeld.2.2.2.2.1,hHeld.2.2.2.2.2.1,hHeld.2.2.2.2.2.2.1,hHeld.2.2.2.2.2.2.2.1,hHeld.2.2.2.2.2.2.2.2.1,hHeld.2.2.2.2.2.2.2.2.2.1,hHeld.2.2.2.2.2.2.2.2.2.2.1,hHeld.2.2.2.2.2.2.2.2.2.2.2.1,hHeld.2.2.2.2.2.2.2.2.2.2.2.2.1,hHeld.2.2.2.2.2.2.2.2.2.2.2.2.2.1,hHeld.2.2.2.2.2.2.2.2.2.2.2.2.2.2.1,hHeld.2.2.2.2.2.2.2.2.2.2.2.2.2.2.2⟩ (fun hHeld=>?_);clear hK K;refine norm_ (a':=?_) ?_ ?_;rotate_left
             ·
              show Act.put _ (some 129) _=_
              simp only [Act.put,zi,zj,zk,zG,zH]
              rfl
             refine pure_ (i:=6) (N:=some 130) (v:=?_) (a':=?_) (bm_ 7 36) rfl rfl (any_of HT_.out jA) (fun _ _ _ h=>h) (Or.inl ⟨by rfl,?_⟩) ?_ ?_;rotate_left;exact jb;rotate_left;exact jc
             refine pure_ (i:=7) (N:=some 131) (v:=?_) (a':=?_) (bm_ 8 36) rfl rfl (any_of HT_.out jA) (fun _ _ _ h=>h) (Or.inl ⟨by rfl,?_⟩) ?_ ?_;rotate_left;exact jb;rotate_left;exact jc
             refine pure_ (i:=8) (N:=some 132) (v:=?_) (a':=?_) (bm_ 9 36) rfl rfl (any_of HT_.out jA) (fun _ _ _ h=>h) (Or.inl ⟨by rfl,?_⟩) ?_ ?_;rotate_left;exact jb;rotate_left;exact jc
             refine pure_ (i:=9) (N:=some 133) (v:=?_) (a':=?_) (bm_ 10 36) rfl rfl (any_of HT_.out jA) (fun _ _ _ h=>h) (Or.inl ⟨by rfl,?_⟩) ?_ ?_;rotate_left;exact jb;rotate_left;exact jc
             refine pure_ (i:=10) (N:=some 134) (v:=?_) (a':=?_) (bm_ 11 36) rfl rfl (any_of HT_.out jA) (fun _ _ _ h=>h) (Or.inl ⟨by rfl,?_⟩) ?_ ?_;rotate_left;exact jb;rotate_left;exact jc
             refine pure_ (i:=11) (N:=some 135) (v:=?_) (a':=?_) (bm_ 12 36) rfl rfl (any_of HT_.out jA) (fun _ _ _ h=>h) (Or.inl ⟨by rfl,?_⟩) ?_ ?_;rotate_left;exact jb;rotate_left;exact jc
             refine pure_ (i:=12) (N:=some 136) (v:=?_) (a':=?_) (bm_ 13 36) rfl rfl (any_of HT_.out jA) (fun _ _ _ h=>h) (Or.inl ⟨by rfl,?_⟩) ?_ ?_;rotate_left;exact jb;rotate_left;exact jc
             refine pure_ (i:=13) (N:=some 137) (v:=?_) (a':=?_) (bm_ 14 36) rfl rfl (any_of HT_.out jA) (fun _ _ _ h=>h) (Or.inl ⟨by rfl,?_⟩) ?_ ?_;rotate_left;exact jb;rotate_left;exact jc
             refine pure_ (i:=14) (N:=some 138) (v:=?_) (a':=?_) (bm_ 15 36) rfl rfl (any_of HT_.out jA) (fun _ _ _ h=>h) (Or.inl ⟨by rfl,?_⟩) ?_ ?_;rotate_left;exact jb;rotate_left;exact jc
             refine pure_ (i:=15) (N:=some 139) (v:=?_) (a':=?_) (bm_ 16 36) rfl rfl (any_of HT_.out jA) (fun _ _ _ h=>h) (Or.inl ⟨by rfl,?_⟩) ?_ ?_;rotate_left;exact jb;rotate_left;exact jc
             refine pure_ (i:=17) (N:=some 141) (v:=?_) (a':=?_) #[true,true,true,true,true,true,true,true,true,true,true,true,true,true,true,true,false,true,false,false,false,false,false,false,false,false,false,false,false,false,false,false,false,false,false,false] rfl rfl (any_of HT_.out jA) (fun _ _ _ h=>h) (Or.inl ⟨by rfl,?_⟩) ?_ ?_;rotate_left;exact jb;rotate_left;exact jc
             refine pure_ (i:=18) (N:=some 142) (v:=?_) (a':=?_) #[true,true,true,true,true,true,true,true,true,true,true,true,true,true,true,true,false,true,true,false,false,false,false,false,false,false,false,false,false,false,false,false,false,false,false,false] rfl rfl (any_of HT_.out jA) (fun _ _ _ h=>h) (Or.inl ⟨by rfl,?_⟩) ?_ ?_;rotate_left;exact jb;rotate_left;exact jc
             refine pure_ (i:=19) (N:=some 143) (v:=?_) (a':=?_) #[true,true,true,true,true,true,true,true,true,true,true,true,true,true,true,true,false,true,true,true,false,false,false,false,false,false,false,false,false,false,false,false,false,false,false,false] rfl rfl (any_of HT_.out jA) (fun _ _ _ h=>h) (Or.inl ⟨by rfl,?_⟩) ?_ ?_;rotate_left;exact jb;rotate_left;exact jc
             refine pure_ (i:=20) (N:=some 144) (v:=?_) (a':=?_) #[true,true,true,true,true,true,true,true,true,true,true,true,true,true,true,true,false,true,true,true,true,false,false,false,false,false,false,false,false,false,false,false,false,false,false,false] rfl rfl (any_of HT_.out jA) (fun _ _ _ h=>h) (Or.inl ⟨by rfl,?_⟩) ?_ ?_;rotate_left;exact jb;rotate_left;exact jc
             refine take_ (i:=16) (N:=some 140) (v:=?_) (a':=?_) (bm_ 21 36) rfl rfl (yo HT_.out HW_.out jA) (fun _ _ _ h=>h) (Or.inl ⟨by rfl,?_⟩) hHeld ?_ ?_;rotate_left
             ·
              rintro w' ⟨s0,s1,s2,s3,s4,s5,s6,s7,s8,s9,s10,s11,s12,s13,s14,s15⟩
              go_simp
              with_reducible rfl
             rotate_left
             exact jc
             refine take_ (i:=21) (N:=some 145) (v:=?_) (a':=?_) (bm_ 22 36) rfl rfl (yo HT_.out HW_.out jA) (fun _ _ _ h=>h) (Or.inl ⟨by rfl,?_⟩) hHeld ?_ ?_;rotate_left
             ·
              rintro w' ⟨s0,s1,s2,s3,s4,s5,s6,s7,s8,s9,s10,s11,s12,s13,s14,s15⟩
              go_simp
              with_reducible rfl
             rotate_left
             exact jc
             refine pure_ (i:=22) (N:=some 146) (v:=?_) (a':=?_) (bm_ 23 36) rfl rfl (any_of HT_.out jA) (fun _ _ _ h=>h) (Or.inl ⟨by rfl,?_⟩) ?_ ?_;rotate_left;exact jb;rotate_left;exact jc
             refine pure_ (i:=23) (N:=some 147) (v:=?_) (a':=?_) (bm_ 24 36) rfl rfl (any_of HT_.out jA) (fun _ _ _ h=>h) (Or.inl ⟨by rfl,?_⟩) ?_ ?_;rotate_left;exact jb;rotate_left;exact jc
             refine pure_ (i:=24) (N:=some 148) (v:=?_) (a':=?_) (bm_ 25 36) rfl rfl (any_of HT_.out jA) (fun _ _ _ h=>h) (Or.inl ⟨by rfl,?_⟩) ?_ ?_;rotate_left;exact jb;rotate_left;exact jc
             refine pure_ (i:=25) (N:=some 149) (v:=?_) (a':=?_) (bm_ 26 36) rfl rfl (any_of HT_.out jA) (fun _ _ _ h=>h) (Or.inl ⟨by rfl,?_⟩) ?_ ?_;rotate_left;exact jb;rotate_left;exact jc
             refine pure_ (i:=26) (N:=some 150) (v:=?_) (a':=?_) (bm_ 27 36) rfl rfl (any_of HT_.out jA) (fun _ _ _ h=>h) (Or.inl ⟨by rfl,?_⟩) ?_ ?_;rotate_left;exact jb;rotate_left;exact jc
             refine pure_ (i:=27) (N:=some 151) (v:=?_) (a':=?_) (bm_ 28 36) rfl rfl (any_of HT_.out jA) (fun _ _ _ h=>h) (Or.inl ⟨by rfl,?_⟩) ?_ ?_;rotate_left;exact jb;rotate_left;exact jc
             refine pure_ (i:=28) (N:=some 152) (v:=?_) (a':=?_) (bm_ 29 36) rfl rfl (any_of HT_.out jA) (fun _ _ _ h=>h) (Or.inl ⟨by rfl,?_⟩) ?_ ?_;rotate_left;exact jb;rotate_left;exact jc
             refine pure_ (i:=29) (N:=some 153) (v:=?_) (a':=?_) (bm_ 30 36) rfl rfl (any_of HT_.out jA) (fun _ _ _ h=>h) (Or.inl ⟨by rfl,?_⟩) ?_ ?_;rotate_left;exact jb;rotate_left;exact jc
             refine pure_ (i:=31) (N:=some 155) (v:=?_) (a':=?_) #[true,true,true,true,true,true,true,true,true,true,true,true,true,true,true,true,true,true,true,true,true,true,true,true,true,true,true,true,true,true,false,true,false,false,false,false] rfl rfl (any_of HT_.out jA) (fun _ _ _ h=>h) (Or.inl ⟨by rfl,?_⟩) ?_ ?_;rotate_left;exact jb;rotate_left;exact jc
             refine pure_ (i:=32) (N:=some 156) (v:=?_) (a':=?_) #[true,true,true,true,true,true,true,true,true,true,true,true,true,true,true,true,true,true,true,true,true,true,true,true,true,true,true,true,true,true,false,true,true,false,false,false] rfl rfl (any_of HT_.out jA) (fun _ _ _ h=>h) (Or.inl ⟨by rfl,?_⟩) ?_ ?_;rotate_left;exact jb;rotate_left;exact jc
             refine take_ (i:=30) (N:=some 154) (v:=?_) (a':=?_) (bm_ 33 36) rfl rfl (yo HT_.out HW_.out jA) (fun _ _ _ h=>h) (Or.inl ⟨by rfl,?_⟩) hHeld ?_ ?_;rotate_left
             ·
              rintro w' ⟨s0,s1,s2,s3,s4,s5,s6,s7,s8,s9,s10,s11,s12,s13,s14,s15⟩
              go_simp
              with_reducible rfl
             rotate_left
             exact jc
             refine one_ (i:=33) (N:=some 157) (bm_ 34 36) rfl rfl (one_of HT_.out jA) jB (fun K hK=>?_);refine goes_ Try.func40 jA rfl #[.agg #[.int .i64 ((rd_T43 t157 x10_2).f1.f0),.int .i64 ((rd_T43 t157 x10_2).f1.f1),.string ((rd_T43 t157 x10_2).f1.f2)],.int .i64 (wrap64 (a1 - 1))] (by rfl) rfl rfl jD ?_
             with_reducible refine (ih k2 jA5  ((rd_T43 t157 x10_2).f1.f0) ((rd_T43 t157 x10_2).f1.f1) ((rd_T43 t157 x10_2).f1.f2) (wrap64 (a1 - 1)) false _ A75.out).mono ?_
             rintro e w82 ⟨rfl,hb⟩;have HS0_:=(hb.cell (zl _ _ (hHeld.1))).trans (hHeld.1);have HS1_:=(hb.cell (zl _ _ (hHeld.2.1))).trans (hHeld.2.1);have HS2_:=(hb.cell (zl _ _ (hHeld.2.2.1))).trans (hHeld.2.2.1);have HS3_:=(hb.cell (zl _ _ (hHeld.2.2.2.1))).trans (hHeld.2.2.2.1);have HS4_:=(hb.cell (zl _ _ (hHeld.2.2.2.2.1))).trans (hHeld.2.2.2.2.1);have HS5_:=(hb.cell (zl _ _ (hHeld.2.2.2.2.2.1))).trans (hHeld.2.2.2.2.2.1);have HS6_:=(hb.cell (zl _ _ (hHeld.2.2.2.2.2.2.1))).trans (hHeld.2.2.2.2.2.2.1);have HS7_:=(hb.cell (zl _ _ (hHeld.2.2.2.2.2.2.2.1))).trans (hHeld.2.2.2.2.2.2.2.1);have HS8_:=(hb.cell (zl _ _ (hHeld.2.2.2.2.2.2.2.2.1))).trans (hHeld.2.2.2.2.2.2.2.2.1);have HS9_:=(hb.cell (zl _ _ (hHeld.2.2.2.2.2.2.2.2.2.1))).trans (hHeld.2.2.2.2.2.2.2.2.2.1);have HS10_:=(hb.cell (zl _ _ (hHeld.2.2.2.2.2.2.2.2.2.2.1))).trans (hHeld.2.2.2.2.2.2.2.2.2.2.1);have HS11_:=(hb.cell (zl _ _ (hHeld.2.2.2.2.2.2.2.2.2.2.2.1))).trans (hHeld.2.2.2.2.2.2.2.2.2.2.2.1);have HS12_:=(hb.cell (zl _ _ (hHeld.2.2.2.2.2.2.2.2.2.2.2.2.1))).trans (hHeld.2.2.2.2.2.2.2.2.2.2.2.2.1);have HS13_:=(hb.cell (zl _ _ (hHeld.2.2.2.2.2.2.2.2.2.2.2.2.2.1))).trans (hHeld.2.2.2.2.2.2.2.2.2.2.2.2.2.1);have HS14_:=(hb.cell (zl _ _ (hHeld.2.2.2.2.2.2.2.2.2.2.2.2.2.2.1))).trans (hHeld.2.2.2.2.2.2.2.2.2.2.2.2.2.2.1);have HS15_:=(hb.cell (zl _ _ (hHeld.2.2.2.2.2.2.2.2.2.2.2.2.2.2.2))).trans (hHeld.2.2.2.2.2.2.2.2.2.2.2.2.2.2.2);refine ⟨_,rfl,?_⟩;replace HO_8:=zh (yg jAt hb);replace BK148:=zh (cD BK148.out ji hb);replace HB:=zh (zC jN hb);(try clear hb);(try clear hb2);(try clear hk);(try clear hi);refine hK.out _ _ ⟨HS0_,HS1_,HS2_,HS3_,HS4_,HS5_,HS6_,HS7_,HS8_,HS9_,HS10_,HS11_,HS12_,HS13_,HS14_,HS15_⟩ (fun hHeld=>?_);clear hK K;refine norm_ (a':=?_) ?_ ?_;rotate_left
             ·
              show Act.put _ (some 157) _=_
              simp only [Act.put,zi,zj,zk,zG,zH]
              rfl
             refine pure_ (i:=34) (N:=some 158) (v:=?_) (a':=?_) (bm_ 35 36) rfl rfl (any_of HT_.out jA) (fun _ _ _ h=>h) (Or.inl ⟨by rfl,?_⟩) ?_ ?_;rotate_left;exact jb;rotate_left;exact jc
             refine pure_ (i:=35) (N:=some 159) (v:=?_) (a':=?_) (bm_ 36 36) rfl rfl (any_of HT_.out jA) (fun _ _ _ h=>h) (Or.inl ⟨by rfl,?_⟩) ?_ ?_;rotate_left;exact jb;rotate_left;exact jc
             refine done_ (done_of HT_.out jA) ?_
             try go_wp2
             go_ret
             exact ⟨jCp,jN⟩
            rw [if_neg c74] at H;have c74b0 : (Op.bytesLess (((rd_T43 t157 (ji71)).f0).toList) (((rd_T43 t157 x10_2).f0).toList))=false:=by simpa using c74
            clear c74;obtain rfl:=zU H;obtain ⟨Ao83,co83,eo83⟩:=yk HO_8.out;subst eo83
            try go_wp2
            replace HO_8:=zh (zo HO_8.out);replace BK148:=zh (zf BK148.out);replace HB:=zh (zc HB.out);have p161 : 0≤(x10_2 : Int):=zy jE;have q161 : x10_2<(t157.length : Int):=zy jE;obtain ⟨ad161,e161,hx161_0,hx161_1,hx161_2,hx161_3⟩:=at_T43 (yh HO_8.out).2.2 x10_2 p161 q161
            cases e161
            replace p161:=eq_true p161;replace q161:=eq_true q161;have p163 : 0≤((ji71) : Int):=zy jE;have q163 : (ji71)<(t157.length : Int):=zy jE;obtain ⟨ad163,e163,hx163_0,hx163_1,hx163_2,hx163_3⟩:=at_T43 (yh HO_8.out).2.2 (ji71) p163 q163;obtain rfl : ad161=ad163:=(by injection e163);replace p163:=eq_true p163;replace q163:=eq_true q163;have p164 : 0≤(x10_2 : Int):=zy jE;have q164 : x10_2<(t157.length : Int):=zy jE;obtain ⟨ad164,e164,hx164_0,hx164_1,hx164_2,hx164_3⟩:=at_T43 (yh HO_8.out).2.2 x10_2 p164 q164;obtain rfl : ad161=ad164:=(by injection e164);replace p164:=eq_true p164;replace q164:=eq_true q164;refine start_ (n:=36) (S:=fun w' => w'.cell? (ad161.add ((x10_2).toNat*4))=some (.string ((rd_T43 t157 x10_2).f0))∧w'.cell? ⟨(ad161.add ((x10_2).toNat*4)).block,(ad161.add ((x10_2).toNat*4)).off+1,none⟩=some (.int .i64 ((rd_T43 t157 x10_2).f1.f0))∧w'.cell? ⟨(ad161.add ((x10_2).toNat*4)).block,(ad161.add ((x10_2).toNat*4)).off+2,none⟩=some (.int .i64 ((rd_T43 t157 x10_2).f1.f1))∧w'.cell? ⟨(ad161.add ((x10_2).toNat*4)).block,(ad161.add ((x10_2).toNat*4)).off+3,none⟩=some (.string ((rd_T43 t157 x10_2).f1.f2))∧w'.cell? (ad161.add (((ji71)).toNat*4))=some (.string ((rd_T43 t157 (ji71)).f0))∧w'.cell? ⟨(ad161.add (((ji71)).toNat*4)).block,(ad161.add (((ji71)).toNat*4)).off+1,none⟩=some (.int .i64 ((rd_T43 t157 (ji71)).f1.f0))∧w'.cell? ⟨(ad161.add (((ji71)).toNat*4)).block,(ad161.add (((ji71)).toNat*4)).off+2,none⟩=some (.int .i64 ((rd_T43 t157 (ji71)).f1.f1))∧w'.cell? ⟨(ad161.add (((ji71)).toNat*4)).block,(ad161.add (((ji71)).toNat*4)).off+3,none⟩=some (.string ((rd_T43 t157 (ji71)).f1.f2))∧w'.cell? (ad161.add ((x10_2).toNat*4))=some (.string ((rd_T43 t157 x10_2).f0))∧w'.cell? ⟨(ad161.add ((x10_2).toNat*4)).block,(ad161.add ((x10_2).toNat*4)).off+1,none⟩=some (.int .i64 ((rd_T43 t157 x10_2).f1.f0))∧w'.cell? ⟨(ad161.add ((x10_2).toNat*4)).block,(ad161.add ((x10_2).toNat*4)).off+2,none⟩=some (.int .i64 ((rd_T43 t157 x10_2).f1.f1))∧w'.cell? ⟨(ad161.add ((x10_2).toNat*4)).block,(ad161.add ((x10_2).toNat*4)).off+3,none⟩=some (.string ((rd_T43 t157 x10_2).f1.f2))) (ds:=[]) (bm_ 0 36) jA rfl rfl ⟨hx161_0,hx161_1,hx161_2,hx161_3,hx163_0,hx163_1,hx163_2,hx163_3,hx164_0,hx164_1,hx164_2,hx164_3⟩ (fun hHeld=>?_);refine with_tabW F2.tab27 F2.bits27 (fun HT_ HW_=>?_);generalize wr.drew=w84 at HO_8 BK148 HB hx161_0 hx161_1 hx161_2 hx161_3 hx163_0 hx163_1 hx163_2 hx163_3 hx164_0 hx164_1 hx164_2 hx164_3 hHeld ⊢;refine pure_ (i:=0) (N:=some 124) (v:=?_) (a':=?_) (bm_ 1 36) rfl rfl (any_of HT_.out jA) (fun _ _ _ h=>h) (Or.inl ⟨by rfl,?_⟩) ?_ ?_;rotate_left;exact jb;rotate_left;exact jc
            refine pure_ (i:=1) (N:=some 125) (v:=?_) (a':=?_) (bm_ 2 36) rfl rfl (any_of HT_.out jA) (fun _ _ _ h=>h) (Or.inl ⟨by rfl,?_⟩) ?_ ?_;rotate_left;exact jb;rotate_left;exact jc
            refine pure_ (i:=2) (N:=some 126) (v:=?_) (a':=?_) (bm_ 3 36) rfl rfl (any_of HT_.out jA) (fun _ _ _ h=>h) (Or.inl ⟨by rfl,?_⟩) ?_ ?_;rotate_left;exact jb;rotate_left;exact jc
            refine pure_ (i:=3) (N:=some 127) (v:=?_) (a':=?_) (bm_ 4 36) rfl rfl (any_of HT_.out jA) (fun _ _ _ h=>h) (Or.inl ⟨by rfl,?_⟩) ?_ ?_;rotate_left;exact jb;rotate_left;exact jc
            refine take_ (i:=4) (N:=some 128) (v:=?_) (a':=?_) (bm_ 5 36) rfl rfl (yo HT_.out HW_.out jA) (fun _ _ _ h=>h) (Or.inl ⟨by rfl,?_⟩) hHeld ?_ ?_;rotate_left
            ·
             rintro w' ⟨s0,s1,s2,s3,s4,s5,s6,s7,s8,s9,s10,s11⟩
             go_simp
             with_reducible rfl
            rotate_left
            exact jc
            refine one_ (i:=5) (N:=some 129) (bm_ 6 36) rfl rfl (one_of HT_.out jA) jB (fun K hK=>?_);refine goes_ Try.func19 jA rfl #[.string ((rd_T43 t157 x10_2).f0)] (by rfl) rfl rfl jD ?_
            with_reducible refine (F0a.calls k2  ((rd_T43 t157 x10_2).f0) true _ A68.out).mono ?_
            rintro e w' ⟨rfl,⟨nd,rfl⟩⟩;refine ⟨_,rfl,?_⟩;refine hK.out _ _ ⟨hHeld.1,hHeld.2.1,hHeld.2.2.1,hHeld.2.2.2.1,hHeld.2.2.2.2.1,hHeld.2.2.2.2.2.1,hHeld.2.2.2.2.2.2.1,hHeld.2.2.2.2.2.2.2.1,hHeld.2.2.2.2.2.2.2.2.1,hHeld.2.2.2.2.2.2.2.2.2.1,hHeld.2.2.2.2.2.2.2.2.2.2.1,hHeld.2.2.2.2.2.2.2.2.2.2.2⟩ (fun hHeld=>?_);clear hK K;refine norm_ (a':=?_) ?_ ?_;rotate_left
            ·
             show Act.put _ (some 129) _=_
             simp only [Act.put,zi,zj,zk,zG,zH]
             rfl
            refine pure_ (i:=6) (N:=some 130) (v:=?_) (a':=?_) (bm_ 7 36) rfl rfl (any_of HT_.out jA) (fun _ _ _ h=>h) (Or.inl ⟨by rfl,?_⟩) ?_ ?_;rotate_left;exact jb;rotate_left;exact jc
            refine pure_ (i:=7) (N:=some 131) (v:=?_) (a':=?_) (bm_ 8 36) rfl rfl (any_of HT_.out jA) (fun _ _ _ h=>h) (Or.inl ⟨by rfl,?_⟩) ?_ ?_;rotate_left;exact jb;rotate_left;exact jc
            refine pure_ (i:=8) (N:=some 132) (v:=?_) (a':=?_) (bm_ 9 36) rfl rfl (any_of HT_.out jA) (fun _ _ _ h=>h) (Or.inl ⟨by rfl,?_⟩) ?_ ?_;rotate_left;exact jb;rotate_left;exact jc
            refine pure_ (i:=9) (N:=some 133) (v:=?_) (a':=?_) (bm_ 10 36) rfl rfl (any_of HT_.out jA) (fun _ _ _ h=>h) (Or.inl ⟨by rfl,?_⟩) ?_ ?_;rotate_left;exact jb;rotate_left;exact jc
            refine pure_ (i:=10) (N:=some 134) (v:=?_) (a':=?_) (bm_ 11 36) rfl rfl (any_of HT_.out jA) (fun _ _ _ h=>h) (Or.inl ⟨by rfl,?_⟩) ?_ ?_;rotate_left;exact jb;rotate_left;exact jc
            refine pure_ (i:=11) (N:=some 135) (v:=?_) (a':=?_) (bm_ 12 36) rfl rfl (any_of HT_.out jA) (fun _ _ _ h=>h) (Or.inl ⟨by rfl,?_⟩) ?_ ?_;rotate_left;exact jb;rotate_left;exact jc
            refine pure_ (i:=12) (N:=some 136) (v:=?_) (a':=?_) (bm_ 13 36) rfl rfl (any_of HT_.out jA) (fun _ _ _ h=>h) (Or.inl ⟨by rfl,?_⟩) ?_ ?_;rotate_left;exact jb;rotate_left;exact jc
            refine pure_ (i:=13) (N:=some 137) (v:=?_) (a':=?_) (bm_ 14 36) rfl rfl (any_of HT_.out jA) (fun _ _ _ h=>h) (Or.inl ⟨by rfl,?_⟩) ?_ ?_;rotate_left;exact jb;rotate_left;exact jc
            refine pure_ (i:=14) (N:=some 138) (v:=?_) (a':=?_) (bm_ 15 36) rfl rfl (any_of HT_.out jA) (fun _ _ _ h=>h) (Or.inl ⟨by rfl,?_⟩) ?_ ?_;rotate_left;exact jb;rotate_left;exact jc
            refine pure_ (i:=15) (N:=some 139) (v:=?_) (a':=?_) (bm_ 16 36) rfl rfl (any_of HT_.out jA) (fun _ _ _ h=>h) (Or.inl ⟨by rfl,?_⟩) ?_ ?_;rotate_left;exact jb;rotate_left;exact jc
            refine pure_ (i:=17) (N:=some 141) (v:=?_) (a':=?_) #[true,true,true,true,true,true,true,true,true,true,true,true,true,true,true,true,false,true,false,false,false,false,false,false,false,false,false,false,false,false,false,false,false,false,false,false] rfl rfl (any_of HT_.out jA) (fun _ _ _ h=>h) (Or.inl ⟨by rfl,?_⟩) ?_ ?_;rotate_left;exact jb;rotate_left;exact jc
            refine pure_ (i:=18) (N:=some 142) (v:=?_) (a':=?_) #[true,true,true,true,true,true,true,true,true,true,true,true,true,true,true,true,false,true,true,false,false,false,false,false,false,false,false,false,false,false,false,false,false,false,false,false] rfl rfl (any_of HT_.out jA) (fun _ _ _ h=>h) (Or.inl ⟨by rfl,?_⟩) ?_ ?_;rotate_left;exact jb;rotate_left;exact jc
            refine pure_ (i:=19) (N:=some 143) (v:=?_) (a':=?_) #[true,true,true,true,true,true,true,true,true,true,true,true,true,true,true,true,false,true,true,true,false,false,false,false,false,false,false,false,false,false,false,false,false,false,false,false] rfl rfl (any_of HT_.out jA) (fun _ _ _ h=>h) (Or.inl ⟨by rfl,?_⟩) ?_ ?_;rotate_left;exact jb;rotate_left;exact jc
            refine pure_ (i:=20) (N:=some 144) (v:=?_) (a':=?_) #[true,true,true,true,true,true,true,true,true,true,true,true,true,true,true,true,false,true,true,true,true,false,false,false,false,false,false,false,false,false,false,false,false,false,false,false] rfl rfl (any_of HT_.out jA) (fun _ _ _ h=>h) (Or.inl ⟨by rfl,?_⟩) ?_ ?_;rotate_left;exact jb;rotate_left;exact jc
            refine take_ (i:=16) (N:=some 140) (v:=?_) (a':=?_) (bm_ 21 36) rfl rfl (yo HT_.out HW_.out jA) (fun _ _ _ h=>h) (Or.inl ⟨by rfl,?_⟩) hHeld ?_ ?_;rotate_left
            ·
             rintro w' ⟨s0,s1,s2,s3,s4,s5,s6,s7,s8,s9,s10,s11⟩
             go_simp
             with_reducible rfl
            rotate_left
            exact jc
            refine take_ (i:=21) (N:=some 145) (v:=?_) (a':=?_) (bm_ 22 36) rfl rfl (yo HT_.out HW_.out jA) (fun _ _ _ h=>h) (Or.inl ⟨by rfl,?_⟩) hHeld ?_ ?_;rotate_left
            ·
             rintro w' ⟨s0,s1,s2,s3,s4,s5,s6,s7,s8,s9,s10,s11⟩
             go_simp
             with_reducible rfl
            rotate_left
            exact jc
            refine pure_ (i:=22) (N:=some 146) (v:=?_) (a':=?_) (bm_ 23 36) rfl rfl (any_of HT_.out jA) (fun _ _ _ h=>h) (Or.inl ⟨by rfl,?_⟩) ?_ ?_;rotate_left;exact jb;rotate_left;exact jc
            refine pure_ (i:=23) (N:=some 147) (v:=?_) (a':=?_) (bm_ 24 36) rfl rfl (any_of HT_.out jA) (fun _ _ _ h=>h) (Or.inl ⟨by rfl,?_⟩) ?_ ?_;rotate_left;exact jb;rotate_left;exact jc
            refine pure_ (i:=24) (N:=some 148) (v:=?_) (a':=?_) (bm_ 25 36) rfl rfl (any_of HT_.out jA) (fun _ _ _ h=>h) (Or.inl ⟨by rfl,?_⟩) ?_ ?_;rotate_left;exact jb;rotate_left;exact jc
            refine pure_ (i:=25) (N:=some 149) (v:=?_) (a':=?_) (bm_ 26 36) rfl rfl (any_of HT_.out jA) (fun _ _ _ h=>h) (Or.inl ⟨by rfl,?_⟩) ?_ ?_;rotate_left;exact jb;rotate_left;exact jc
            refine pure_ (i:=26) (N:=some 150) (v:=undef) (a':=?_) (bm_ 27 36) rfl rfl (any_of HT_.out jA) (fun _ _ _ h=>h) (Or.inr ⟨by rfl,rfl⟩) ?_ ?_;rotate_left
            exact jc
            refine pure_ (i:=27) (N:=some 151) (v:=undef) (a':=?_) (bm_ 28 36) rfl rfl (any_of HT_.out jA) (fun _ _ _ h=>h) (Or.inr ⟨by rfl,rfl⟩) ?_ ?_;rotate_left
            exact jc
            refine pure_ (i:=28) (N:=some 152) (v:=undef) (a':=?_) (bm_ 29 36) rfl rfl (any_of HT_.out jA) (fun _ _ _ h=>h) (Or.inr ⟨by rfl,rfl⟩) ?_ ?_;rotate_left
            exact jc
            refine pure_ (i:=29) (N:=some 153) (v:=undef) (a':=?_) (bm_ 30 36) rfl rfl (any_of HT_.out jA) (fun _ _ _ h=>h) (Or.inr ⟨by rfl,rfl⟩) ?_ ?_;rotate_left
            exact jc
            refine pure_ (i:=30) (N:=some 154) (v:=undef) (a':=?_) (bm_ 31 36) rfl rfl (any_of HT_.out jA) (fun _ _ _ h=>h) (Or.inr ⟨by rfl,rfl⟩) ?_ ?_;rotate_left
            exact jc
            refine pure_ (i:=31) (N:=some 155) (v:=undef) (a':=?_) (bm_ 32 36) rfl rfl (any_of HT_.out jA) (fun _ _ _ h=>h) (Or.inr ⟨by rfl,rfl⟩) ?_ ?_;rotate_left
            exact jc
            refine pure_ (i:=32) (N:=some 156) (v:=undef) (a':=?_) (bm_ 33 36) rfl rfl (any_of HT_.out jA) (fun _ _ _ h=>h) (Or.inr ⟨by rfl,rfl⟩) ?_ ?_;rotate_left
            exact jc
            refine pure_ (i:=33) (N:=some 157) (v:=undef) (a':=?_) (bm_ 34 36) rfl rfl (any_of HT_.out jA) (fun _ _ _ h=>h) (Or.inr ⟨by rfl,rfl⟩) ?_ ?_;rotate_left
            exact jc
            refine pure_ (i:=34) (N:=some 158) (v:=undef) (a':=?_) (bm_ 35 36) rfl rfl (any_of HT_.out jA) (fun _ _ _ h=>h) (Or.inr ⟨by rfl,rfl⟩) ?_ ?_;rotate_left
            exact jc
            refine pure_ (i:=35) (N:=some 159) (v:=?_) (a':=?_) (bm_ 36 36) rfl rfl (any_of HT_.out jA) (fun _ _ _ h=>h) (Or.inl ⟨by rfl,?_⟩) ?_ ?_;rotate_left;exact jb;rotate_left;exact jc
            refine done_ (done_of HT_.out jA) ?_
            try go_wp2
            go_ret
            exact ⟨jCp,jN⟩
           rw [if_neg c73] at H;exact absurd H (by simp)
          rw [if_neg c72] at H;exact absurd H (by simp)
         rw [if_neg c70] at H;have c70b0 : decide (0<x10_2)=false:=decide_eq_false c70;clear c70;replace H:=zT.mp H;obtain ⟨t168,A850,H⟩:=H;have A85:=zh A850;clear A850
         by_cases c86 : t168=true
         ·
          subst c86
          rw [if_pos rfl] at H;have H':=zh H;clear H;obtain ⟨Ao87,co87,eo87⟩:=yk HO_8.out;subst eo87
          try go_wp2
          replace HO_8:=zh (zo HO_8.out);replace BK148:=zh (zf BK148.out);replace HB:=zh (zc HB.out);have p161 : 0≤(x10_2 : Int):=zy jE;have q161 : x10_2<(t157.length : Int):=zy jE;obtain ⟨ad161,e161,hx161_0,hx161_1,hx161_2,hx161_3⟩:=at_T43 (yh HO_8.out).2.2 x10_2 p161 q161
          cases e161
          replace p161:=eq_true p161;replace q161:=eq_true q161;have p167 : 0≤(x10_2 : Int):=zy jE;have q167 : x10_2<(t157.length : Int):=zy jE;obtain ⟨ad167,e167,hx167_0,hx167_1,hx167_2,hx167_3⟩:=at_T43 (yh HO_8.out).2.2 x10_2 p167 q167;obtain rfl : ad161=ad167:=(by injection e167);replace p167:=eq_true p167;replace q167:=eq_true q167;refine start_ (n:=36) (S:=fun w' => w'.cell? (ad161.add ((x10_2).toNat*4))=some (.string ((rd_T43 t157 x10_2).f0))∧w'.cell? ⟨(ad161.add ((x10_2).toNat*4)).block,(ad161.add ((x10_2).toNat*4)).off+1,none⟩=some (.int .i64 ((rd_T43 t157 x10_2).f1.f0))∧w'.cell? ⟨(ad161.add ((x10_2).toNat*4)).block,(ad161.add ((x10_2).toNat*4)).off+2,none⟩=some (.int .i64 ((rd_T43 t157 x10_2).f1.f1))∧w'.cell? ⟨(ad161.add ((x10_2).toNat*4)).block,(ad161.add ((x10_2).toNat*4)).off+3,none⟩=some (.string ((rd_T43 t157 x10_2).f1.f2))∧w'.cell? (ad161.add ((x10_2).toNat*4))=some (.string ((rd_T43 t157 x10_2).f0))∧w'.cell? ⟨(ad161.add ((x10_2).toNat*4)).block,(ad161.add ((x10_2).toNat*4)).off+1,none⟩=some (.int .i64 ((rd_T43 t157 x10_2).f1.f0))∧w'.cell? ⟨(ad161.add ((x10_2).toNat*4)).block,(ad161.add ((x10_2).toNat*4)).off+2,none⟩=some (.int .i64 ((rd_T43 t157 x10_2).f1.f1))∧w'.cell? ⟨(ad161.add ((x10_2).toNat*4)).block,(ad161.add ((x10_2).toNat*4)).off+3,none⟩=some (.string ((rd_T43 t157 x10_2).f1.f2))) (ds:=[]) (bm_ 0 36) jA rfl rfl ⟨hx161_0,hx161_1,hx161_2,hx161_3,hx167_0,hx167_1,hx167_2,hx167_3⟩ (fun hHeld=>?_);refine with_tabW F2.tab27 F2.bits27 (fun HT_ HW_=>?_);generalize wr.drew=w88 at HO_8 BK148 HB hx161_0 hx161_1 hx161_2 hx161_3 hx167_0 hx167_1 hx167_2 hx167_3 hHeld ⊢;refine pure_ (i:=0) (N:=some 124) (v:=?_) (a':=?_) (bm_ 1 36) rfl rfl (any_of HT_.out jA) (fun _ _ _ h=>h) (Or.inl ⟨by rfl,?_⟩) ?_ ?_;rotate_left;exact jb;rotate_left;exact jc
          refine pure_ (i:=1) (N:=some 125) (v:=?_) (a':=?_) (bm_ 2 36) rfl rfl (any_of HT_.out jA) (fun _ _ _ h=>h) (Or.inl ⟨by rfl,?_⟩) ?_ ?_;rotate_left;exact jb;rotate_left;exact jc
          refine pure_ (i:=2) (N:=some 126) (v:=?_) (a':=?_) (bm_ 3 36) rfl rfl (any_of HT_.out jA) (fun _ _ _ h=>h) (Or.inl ⟨by rfl,?_⟩) ?_ ?_;rotate_left;exact jb;rotate_left;exact jc
          refine pure_ (i:=3) (N:=some 127) (v:=?_) (a':=?_) (bm_ 4 36) rfl rfl (any_of HT_.out jA) (fun _ _ _ h=>h) (Or.inl ⟨by rfl,?_⟩) ?_ ?_;rotate_left;exact jb;rotate_left;exact jc
          refine take_ (i:=4) (N:=some 128) (v:=?_) (a':=?_) (bm_ 5 36) rfl rfl (yo HT_.out HW_.out jA) (fun _ _ _ h=>h) (Or.inl ⟨by rfl,?_⟩) hHeld ?_ ?_;rotate_left
          ·
           rintro w' ⟨s0,s1,s2,s3,s4,s5,s6,s7⟩
           go_simp
           with_reducible rfl
          rotate_left
          exact jc
          refine one_ (i:=5) (N:=some 129) (bm_ 6 36) rfl rfl (one_of HT_.out jA) jB (fun K hK=>?_);refine goes_ Try.func19 jA rfl #[.string ((rd_T43 t157 x10_2).f0)] (by rfl) rfl rfl jD ?_
          with_reducible refine (F0a.calls k2  ((rd_T43 t157 x10_2).f0) true _ A68.out).mono ?_
          rintro e w' ⟨rfl,⟨nd,rfl⟩⟩;refine ⟨_,rfl,?_⟩;refine hK.out _ _ ⟨hHeld.1,hHeld.2.1,hHeld.2.2.1,hHeld.2.2.2.1,hHeld.2.2.2.2.1,hHeld.2.2.2.2.2.1,hHeld.2.2.2.2.2.2.1,hHeld.2.2.2.2.2.2.2⟩ (fun hHeld=>?_);clear hK K;refine norm_ (a':=?_) ?_ ?_;rotate_left
          ·
           show Act.put _ (some 129) _=_
           simp only [Act.put,zi,zj,zk,zG,zH]
           rfl
          refine pure_ (i:=6) (N:=some 130) (v:=?_) (a':=?_) (bm_ 7 36) rfl rfl (any_of HT_.out jA) (fun _ _ _ h=>h) (Or.inl ⟨by rfl,?_⟩) ?_ ?_;rotate_left;exact jb;rotate_left;exact jc
          refine pure_ (i:=7) (N:=some 131) (v:=?_) (a':=?_) (bm_ 8 36) rfl rfl (any_of HT_.out jA) (fun _ _ _ h=>h) (Or.inl ⟨by rfl,?_⟩) ?_ ?_;rotate_left;exact jb;rotate_left;exact jc
          refine pure_ (i:=8) (N:=some 132) (v:=?_) (a':=?_) (bm_ 9 36) rfl rfl (any_of HT_.out jA) (fun _ _ _ h=>h) (Or.inl ⟨by rfl,?_⟩) ?_ ?_;rotate_left;exact jb;rotate_left;exact jc
          refine pure_ (i:=9) (N:=some 133) (v:=?_) (a':=?_) (bm_ 10 36) rfl rfl (any_of HT_.out jA) (fun _ _ _ h=>h) (Or.inl ⟨by rfl,?_⟩) ?_ ?_;rotate_left;exact jb;rotate_left;exact jc
          refine pure_ (i:=10) (N:=some 134) (v:=?_) (a':=?_) (bm_ 11 36) rfl rfl (any_of HT_.out jA) (fun _ _ _ h=>h) (Or.inl ⟨by rfl,?_⟩) ?_ ?_;rotate_left;exact jb;rotate_left;exact jc
          refine pure_ (i:=11) (N:=some 135) (v:=undef) (a':=?_) (bm_ 12 36) rfl rfl (any_of HT_.out jA) (fun _ _ _ h=>h) (Or.inr ⟨by rfl,rfl⟩) ?_ ?_;rotate_left
          exact jc
          refine pure_ (i:=12) (N:=some 136) (v:=undef) (a':=?_) (bm_ 13 36) rfl rfl (any_of HT_.out jA) (fun _ _ _ h=>h) (Or.inr ⟨by rfl,rfl⟩) ?_ ?_;rotate_left
          exact jc
          refine pure_ (i:=13) (N:=some 137) (v:=undef) (a':=?_) (bm_ 14 36) rfl rfl (any_of HT_.out jA) (fun _ _ _ h=>h) (Or.inr ⟨by rfl,rfl⟩) ?_ ?_;rotate_left
          exact jc
          refine pure_ (i:=14) (N:=some 138) (v:=undef) (a':=?_) (bm_ 15 36) rfl rfl (any_of HT_.out jA) (fun _ _ _ h=>h) (Or.inr ⟨by rfl,rfl⟩) ?_ ?_;rotate_left
          exact jc
          refine pure_ (i:=15) (N:=some 139) (v:=undef) (a':=?_) (bm_ 16 36) rfl rfl (any_of HT_.out jA) (fun _ _ _ h=>h) (Or.inr ⟨by rfl,rfl⟩) ?_ ?_;rotate_left
          exact jc
          refine pure_ (i:=16) (N:=some 140) (v:=undef) (a':=?_) (bm_ 17 36) rfl rfl (any_of HT_.out jA) (fun _ _ _ h=>h) (Or.inr ⟨by rfl,rfl⟩) ?_ ?_;rotate_left
          exact jc
          refine pure_ (i:=17) (N:=some 141) (v:=undef) (a':=?_) (bm_ 18 36) rfl rfl (any_of HT_.out jA) (fun _ _ _ h=>h) (Or.inr ⟨by rfl,rfl⟩) ?_ ?_;rotate_left
          exact jc
          refine pure_ (i:=18) (N:=some 142) (v:=undef) (a':=?_) (bm_ 19 36) rfl rfl (any_of HT_.out jA) (fun _ _ _ h=>h) (Or.inr ⟨by rfl,rfl⟩) ?_ ?_;rotate_left
          exact jc
          refine pure_ (i:=19) (N:=some 143) (v:=undef) (a':=?_) (bm_ 20 36) rfl rfl (any_of HT_.out jA) (fun _ _ _ h=>h) (Or.inr ⟨by rfl,rfl⟩) ?_ ?_;rotate_left
          exact jc
          refine pure_ (i:=20) (N:=some 144) (v:=undef) (a':=?_) (bm_ 21 36) rfl rfl (any_of HT_.out jA) (fun _ _ _ h=>h) (Or.inr ⟨by rfl,rfl⟩) ?_ ?_;rotate_left
          exact jc
          refine pure_ (i:=21) (N:=some 145) (v:=undef) (a':=?_) (bm_ 22 36) rfl rfl (any_of HT_.out jA) (fun _ _ _ h=>h) (Or.inr ⟨by rfl,rfl⟩) ?_ ?_;rotate_left
          exact jc
          refine pure_ (i:=22) (N:=some 146) (v:=undef) (a':=?_) (bm_ 23 36) rfl rfl (any_of HT_.out jA) (fun _ _ _ h=>h) (Or.inr ⟨by rfl,rfl⟩) ?_ ?_;rotate_left
          exact jc
          refine pure_ (i:=23) (N:=some 147) (v:=?_) (a':=?_) (bm_ 24 36) rfl rfl (any_of HT_.out jA) (fun _ _ _ h=>h) (Or.inl ⟨by rfl,?_⟩) ?_ ?_;rotate_left;exact jb;rotate_left;exact jc
          refine pure_ (i:=24) (N:=some 148) (v:=?_) (a':=?_) (bm_ 25 36) rfl rfl (any_of HT_.out jA) (fun _ _ _ h=>h) (Or.inl ⟨by rfl,?_⟩) ?_ ?_;rotate_left;exact jb;rotate_left;exact jc
          refine pure_ (i:=25) (N:=some 149) (v:=?_) (a':=?_) (bm_ 26 36) rfl rfl (any_of HT_.out jA) (fun _ _ _ h=>h) (Or.inl ⟨by rfl,?_⟩) ?_ ?_;rotate_left;exact jb;rotate_left;exact jc
          refine pure_ (i:=26) (N:=some 150) (v:=?_) (a':=?_) (bm_ 27 36) rfl rfl (any_of HT_.out jA) (fun _ _ _ h=>h) (Or.inl ⟨by rfl,?_⟩) ?_ ?_;rotate_left;exact jb;rotate_left;exact jc
          refine pure_ (i:=27) (N:=some 151) (v:=?_) (a':=?_) (bm_ 28 36) rfl rfl (any_of HT_.out jA) (fun _ _ _ h=>h) (Or.inl ⟨by rfl,?_⟩) ?_ ?_;rotate_left;exact jb;rotate_left;exact jc
          refine pure_ (i:=28) (N:=some 152) (v:=?_) (a':=?_) (bm_ 29 36) rfl rfl (any_of HT_.out jA) (fun _ _ _ h=>h) (Or.inl ⟨by rfl,?_⟩) ?_ ?_;rotate_left;exact jb;rotate_left;exact jc
          refine pure_ (i:=29) (N:=some 153) (v:=?_) (a':=?_) (bm_ 30 36) rfl rfl (any_of HT_.out jA) (fun _ _ _ h=>h) (Or.inl ⟨by rfl,?_⟩) ?_ ?_;rotate_left;exact jb;rotate_left;exact jc
          refine pure_ (i:=31) (N:=some 155) (v:=?_) (a':=?_) #[true,true,true,true,true,true,true,true,true,true,true,true,true,true,true,true,true,true,true,true,true,true,true,true,true,true,true,true,true,true,false,true,false,false,false,false] rfl rfl (any_of HT_.out jA) (fun _ _ _ h=>h) (Or.inl ⟨by rfl,?_⟩) ?_ ?_;rotate_left;exact jb;rotate_left;exact jc
          refine pure_ (i:=32) (N:=some 156) (v:=?_) (a':=?_) #[true,true,true,true,true,true,true,true,true,true,true,true,true,true,true,true,true,true,true,true,true,true,true,true,true,true,true,true,true,true,false,true,true,false,false,false] rfl rfl (any_of HT_.out jA) (fun _ _ _ h=>h) (Or.inl ⟨by rfl,?_⟩) ?_ ?_;rotate_left;exact jb;rotate_left;exact jc
          refine take_ (i:=30) (N:=some 154) (v:=?_) (a':=?_) (bm_ 33 36) rfl rfl (yo HT_.out HW_.out jA) (fun _ _ _ h=>h) (Or.inl ⟨by rfl,?_⟩) hHeld ?_ ?_;rotate_left
          ·
           rintro w' ⟨s0,s1,s2,s3,s4,s5,s6,s7⟩
           go_simp
           with_reducible rfl
          rotate_left
          exact jc
          refine one_ (i:=33) (N:=some 157) (bm_ 34 36) rfl rfl (one_of HT_.out jA) jB (fun K hK=>?_);refine goes_ Try.func40 jA rfl #[.agg #[.int .i64 ((rd_T43 t157 x10_2).f1.f0),.int .i64 ((rd_T43 t157 x10_2).f1.f1),.string ((rd_T43 t157 x10_2).f1.f2)],.int .i64 (wrap64 (a1 - 1))] (by rfl) rfl rfl jD ?_
          with_reducible refine (ih k2 jA5  ((rd_T43 t157 x10_2).f1.f0) ((rd_T43 t157 x10_2).f1.f1) ((rd_T43 t157 x10_2).f1.f2) (wrap64 (a1 - 1)) true _ A85.out).mono ?_
          rintro e w89 ⟨rfl,hb⟩;have HS0_:=(hb.cell (zl _ _ (hHeld.1))).trans (hHeld.1);have HS1_:=(hb.cell (zl _ _ (hHeld.2.1))).trans (hHeld.2.1);have HS2_:=(hb.cell (zl _ _ (hHeld.2.2.1))).trans (hHeld.2.2.1);have HS3_:=(hb.cell (zl _ _ (hHeld.2.2.2.1))).trans (hHeld.2.2.2.1);have HS4_:=(hb.cell (zl _ _ (hHeld.2.2.2.2.1))).trans (hHeld.2.2.2.2.1);have HS5_:=(hb.cell (zl _ _ (hHeld.2.2.2.2.2.1))).trans (hHeld.2.2.2.2.2.1);have HS6_:=(hb.cell (zl _ _ (hHeld.2.2.2.2.2.2.1))).trans (hHeld.2.2.2.2.2.2.1);have HS7_:=(hb.cell (zl _ _ (hHeld.2.2.2.2.2.2.2))).trans (hHeld.2.2.2.2.2.2.2);refine ⟨_,rfl,?_⟩;replace HO_8:=zh (yg jAt hb);replace BK148:=zh (cD BK148.out ji hb);replace HB:=zh (zC jN hb);(try clear hb);(try clear hb2);(try clear hk);(try clear hi);refine hK.out _ _ ⟨HS0_,HS1_,HS2_,HS3_,HS4_,HS5_,HS6_,HS7_⟩ (fun hHeld=>?_);clear hK K;refine norm_ (a':=?_) ?_ ?_;rotate_left
          ·
           show Act.put _ (some 157) _=_
           simp only [Act.put,zi,zj,zk,zG,zH]
           rfl
          refine pure_ (i:=34) (N:=some 158) (v:=?_) (a':=?_) (bm_ 35 36) rfl rfl (any_of HT_.out jA) (fun _ _ _ h=>h) (Or.inl ⟨by rfl,?_⟩) ?_ ?_;rotate_left;exact jb;rotate_left;exact jc
          refine pure_ (i:=35) (N:=some 159) (v:=?_) (a':=?_) (bm_ 36 36) rfl rfl (any_of HT_.out jA) (fun _ _ _ h=>h) (Or.inl ⟨by rfl,?_⟩) ?_ ?_;rotate_left;exact jb;rotate_left;exact jc
          refine done_ (done_of HT_.out jA) ?_
          try go_wp2
          go_roundg k2
          case measure=>have:=HJ53.out;have:=HK2.out;omega
          case rel=>exact ⟨(wrap64 (x10_2+1)),jC,H',⟨jA5⟩,⟨jAt⟩,⟨ji⟩,⟨jN⟩⟩
         replace c86:=yb.mpr c86;subst c86;rw [if_neg (show ¬ (false=true) by decide)] at H;obtain rfl:=zU H;obtain ⟨Ao90,co90,eo90⟩:=yk HO_8.out;subst eo90
         try go_wp2
         replace HO_8:=zh (zo HO_8.out);replace BK148:=zh (zf BK148.out);replace HB:=zh (zc HB.out);have p161 : 0≤(x10_2 : Int):=zy jE;have q161 : x10_2<(t157.length : Int):=zy jE;obtain ⟨ad161,e161,hx161_0,hx161_1,hx161_2,hx161_3⟩:=at_T43 (yh HO_8.out).2.2 x10_2 p161 q161
         cases e161
         replace p161:=eq_true p161;replace q161:=eq_true q161;have p167 : 0≤(x10_2 : Int):=zy jE;have q167 : x10_2<(t157.length : Int):=zy jE;obtain ⟨ad167,e167,hx167_0,hx167_1,hx167_2,hx167_3⟩:=at_T43 (yh HO_8.out).2.2 x10_2 p167 q167;obtain rfl : ad161=ad167:=(by injection e167);replace p167:=eq_true p167;replace q167:=eq_true q167;refine start_ (n:=36) (S:=fun w' => w'.cell? (ad161.add ((x10_2).toNat*4))=some (.string ((rd_T43 t157 x10_2).f0))∧w'.cell? ⟨(ad161.add ((x10_2).toNat*4)).block,(ad161.add ((x10_2).toNat*4)).off+1,none⟩=some (.int .i64 ((rd_T43 t157 x10_2).f1.f0))∧w'.cell? ⟨(ad161.add ((x10_2).toNat*4)).block,(ad161.add ((x10_2).toNat*4)).off+2,none⟩=some (.int .i64 ((rd_T43 t157 x10_2).f1.f1))∧w'.cell? ⟨(ad161.add ((x10_2).toNat*4)).block,(ad161.add ((x10_2).toNat*4)).off+3,none⟩=some (.string ((rd_T43 t157 x10_2).f1.f2))∧w'.cell? (ad161.add ((x10_2).toNat*4))=some (.string ((rd_T43 t157 x10_2).f0))∧w'.cell? ⟨(ad161.add ((x10_2).toNat*4)).block,(ad161.add ((x10_2).toNat*4)).off+1,none⟩=some (.int .i64 ((rd_T43 t157 x10_2).f1.f0))∧w'.cell? ⟨(ad161.add ((x10_2).toNat*4)).block,(ad161.add ((x10_2).toNat*4)).off+2,none⟩=some (.int .i64 ((rd_T43 t157 x10_2).f1.f1))∧w'.cell? ⟨(ad161.add ((x10_2).toNat*4)).block,(ad161.add ((x10_2).toNat*4)).off+3,none⟩=some (.string ((rd_T43 t157 x10_2).f1.f2))) (ds:=[]) (bm_ 0 36) jA rfl rfl ⟨hx161_0,hx161_1,hx161_2,hx161_3,hx167_0,hx167_1,hx167_2,hx167_3⟩ (fun hHeld=>?_);refine with_tabW F2.tab27 F2.bits27 (fun HT_ HW_=>?_);generalize wr.drew=w91 at HO_8 BK148 HB hx161_0 hx161_1 hx161_2 hx161_3 hx167_0 hx167_1 hx167_2 hx167_3 hHeld ⊢;refine pure_ (i:=0) (N:=some 124) (v:=?_) (a':=?_) (bm_ 1 36) rfl rfl (any_of HT_.out jA) (fun _ _ _ h=>h) (Or.inl ⟨by rfl,?_⟩) ?_ ?_;rotate_left;exact jb;rotate_left;exact jc
         refine pure_ (i:=1) (N:=some 125) (v:=?_) (a':=?_) (bm_ 2 36) rfl rfl (any_of HT_.out jA) (fun _ _ _ h=>h) (Or.inl ⟨by rfl,?_⟩) ?_ ?_;rotate_left;exact jb;rotate_left;exact jc
         refine pure_ (i:=2) (N:=some 126) (v:=?_) (a':=?_) (bm_ 3 36) rfl rfl (any_of HT_.out jA) (fun _ _ _ h=>h) (Or.inl ⟨by rfl,?_⟩) ?_ ?_;rotate_left;exact jb;rotate_left;exact jc
         refine pure_ (i:=3) (N:=some 127) (v:=?_) (a':=?_) (bm_ 4 36) rfl rfl (any_of HT_.out jA) (fun _ _ _ h=>h) (Or.inl ⟨by rfl,?_⟩) ?_ ?_;rotate_left;exact jb;rotate_left;exact jc
         refine take_ (i:=4) (N:=some 128) (v:=?_) (a':=?_) (bm_ 5 36) rfl rfl (yo HT_.out HW_.out jA) (fun _ _ _ h=>h) (Or.inl ⟨by rfl,?_⟩) hHeld ?_ ?_;rotate_left
         ·
          rintro w' ⟨s0,s1,s2,s3,s4,s5,s6,s7⟩
          go_simp
          with_reducible rfl
         rotate_left
         exact jc
         refine one_ (i:=5) (N:=some 129) (bm_ 6 36) rfl rfl (one_of HT_.out jA) jB (fun K hK=>?_);refine goes_ Try.func19 jA rfl #[.string ((rd_T43 t157 x10_2).f0)] (by rfl) rfl rfl jD ?_
         with_reducible refine (F0a.calls k2  ((rd_T43 t157 x10_2).f0) true _ A68.out).mono ?_
         rintro e w' ⟨rfl,⟨nd,rfl⟩⟩;refine ⟨_,rfl,?_⟩;refine hK.out _ _ ⟨hHeld.1,hHeld.2.1,hHeld.2.2.1,hHeld.2.2.2.1,hHeld.2.2.2.2.1,hHeld.2.2.2.2.2.1,hHeld.2.2.2.2.2.2.1,hHeld.2.2.2.2.2.2.2⟩ (fun hHeld=>?_);clear hK K;refine norm_ (a':=?_) ?_ ?_;rotate_left
         ·
          show Act.put _ (some 129) _=_
          simp only [Act.put,zi,zj,zk,zG,zH]
          rfl
         refine pure_ (i:=6) (N:=some 130) (v:=?_) (a':=?_) (bm_ 7 36) rfl rfl (any_of HT_.out jA) (fun _ _ _ h=>h) (Or.inl ⟨by rfl,?_⟩) ?_ ?_;rotate_left;exact jb;rotate_left;exact jc
         refine pure_ (i:=7) (N:=some 131) (v:=?_) (a':=?_) (bm_ 8 36) rfl rfl (any_of HT_.out jA) (fun _ _ _ h=>h) (Or.inl ⟨by rfl,?_⟩) ?_ ?_;rotate_left;exact jb;rotate_left;exact jc
         refine pure_ (i:=8) (N:=some 132) (v:=?_) (a':=?_) (bm_ 9 36) rfl rfl (any_of HT_.out jA) (fun _ _ _ h=>h) (Or.inl ⟨by rfl,?_⟩) ?_ ?_;rotate_left;exact jb;rotate_left;exact jc
         refine pure_ (i:=9) (N:=some 133) (v:=?_) (a':=?_) (bm_ 10 36) rfl rfl (any_of HT_.out jA) (fun _ _ _ h=>h) (Or.inl ⟨by rfl,?_⟩) ?_ ?_;rotate_left;exact jb;rotate_left;exact jc
         refine pure_ (i:=10) (N:=some 134) (v:=?_) (a':=?_) (bm_ 11 36) rfl rfl (any_of HT_.out jA) (fun _ _ _ h=>h) (Or.inl ⟨by rfl,?_⟩) ?_ ?_;rotate_left;exact jb;rotate_left;exact jc
         refine pure_ (i:=11) (N:=some 135) (v:=undef) (a':=?_) (bm_ 12 36) rfl rfl (any_of HT_.out jA) (fun _ _ _ h=>h) (Or.inr ⟨by rfl,rfl⟩) ?_ ?_;rotate_left
         exact jc
         refine pure_ (i:=12) (N:=some 136) (v:=undef) (a':=?_) (bm_ 13 36) rfl rfl (any_of HT_.out jA) (fun _ _ _ h=>h) (Or.inr ⟨by rfl,rfl⟩) ?_ ?_;rotate_left
         exact jc
         refine pure_ (i:=13) (N:=some 137) (v:=undef) (a':=?_) (bm_ 14 36) rfl rfl (any_of HT_.out jA) (fun _ _ _ h=>h) (Or.inr ⟨by rfl,rfl⟩) ?_ ?_;rotate_left
         exact jc
         refine pure_ (i:=14) (N:=some 138) (v:=undef) (a':=?_) (bm_ 15 36) rfl rfl (any_of HT_.out jA) (fun _ _ _ h=>h) (Or.inr ⟨by rfl,rfl⟩) ?_ ?_;rotate_left
         exact jc
         refine pure_ (i:=15) (N:=some 139) (v:=undef) (a':=?_) (bm_ 16 36) rfl rfl (any_of HT_.out jA) (fun _ _ _ h=>h) (Or.inr ⟨by rfl,rfl⟩) ?_ ?_;rotate_left
         exact jc
         refine pure_ (i:=16) (N:=some 140) (v:=undef) (a':=?_) (bm_ 17 36) rfl rfl (any_of HT_.out jA) (fun _ _ _ h=>h) (Or.inr ⟨by rfl,rfl⟩) ?_ ?_;rotate_left
         exact jc
         refine pure_ (i:=17) (N:=some 141) (v:=undef) (a':=?_) (bm_ 18 36) rfl rfl (any_of HT_.out jA) (fun _ _ _ h=>h) (Or.inr ⟨by rfl,rfl⟩) ?_ ?_;rotate_left
         exact jc
         refine pure_ (i:=18) (N:=some 142) (v:=undef) (a':=?_) (bm_ 19 36) rfl rfl (any_of HT_.out jA) (fun _ _ _ h=>h) (Or.inr ⟨by rfl,rfl⟩) ?_ ?_;rotate_left
         exact jc
         refine pure_ (i:=19) (N:=some 143) (v:=undef) (a':=?_) (bm_ 20 36) rfl rfl (any_of HT_.out jA) (fun _ _ _ h=>h) (Or.inr ⟨by rfl,rfl⟩) ?_ ?_;rotate_left
         exact jc
         refine pure_ (i:=20) (N:=some 144) (v:=undef) (a':=?_) (bm_ 21 36) rfl rfl (any_of HT_.out jA) (fun _ _ _ h=>h) (Or.inr ⟨by rfl,rfl⟩) ?_ ?_;rotate_left
         exact jc
         refine pure_ (i:=21) (N:=some 145) (v:=undef) (a':=?_) (bm_ 22 36) rfl rfl (any_of HT_.out jA) (fun _ _ _ h=>h) (Or.inr ⟨by rfl,rfl⟩) ?_ ?_;rotate_left
         exact jc
         refine pure_ (i:=22) (N:=some 146) (v:=undef) (a':=?_) (bm_ 23 36) rfl rfl (any_of HT_.out jA) (fun _ _ _ h=>h) (Or.inr ⟨by rfl,rfl⟩) ?_ ?_;rotate_left
         exact jc
         refine pure_ (i:=23) (N:=some 147) (v:=?_) (a':=?_) (bm_ 24 36) rfl rfl (any_of HT_.out jA) (fun _ _ _ h=>h) (Or.inl ⟨by rfl,?_⟩) ?_ ?_;rotate_left;exact jb;rotate_left;exact jc
         refine pure_ (i:=24) (N:=some 148) (v:=?_) (a':=?_) (bm_ 25 36) rfl rfl (any_of HT_.out jA) (fun _ _ _ h=>h) (Or.inl ⟨by rfl,?_⟩) ?_ ?_;rotate_left;exact jb;rotate_left;exact jc
         refine pure_ (i:=25) (N:=some 149) (v:=?_) (a':=?_) (bm_ 26 36) rfl rfl (any_of HT_.out jA) (fun _ _ _ h=>h) (Or.inl ⟨by rfl,?_⟩) ?_ ?_;rotate_left;exact jb;rotate_left;exact jc
         refine pure_ (i:=26) (N:=some 150) (v:=?_) (a':=?_) (bm_ 27 36) rfl rfl (any_of HT_.out jA) (fun _ _ _ h=>h) (Or.inl ⟨by rfl,?_⟩) ?_ ?_;rotate_left;exact jb;rotate_left;exact jc
         refine pure_ (i:=27) (N:=some 151) (v:=?_) (a':=?_) (bm_ 28 36) rfl rfl (any_of HT_.out jA) (fun _ _ _ h=>h) (Or.inl ⟨by rfl,?_⟩) ?_ ?_;rotate_left;exact jb;rotate_left;exact jc
         refine pure_ (i:=28) (N:=some 152) (v:=?_) (a':=?_) (bm_ 29 36) rfl rfl (any_of HT_.out jA) (fun _ _ _ h=>h) (Or.inl ⟨by rfl,?_⟩) ?_ ?_;rotate_left;exact jb;rotate_left;exact jc
         refine pure_ (i:=29) (N:=some 153) (v:=?_) (a':=?_) (bm_ 30 36) rfl rfl (any_of HT_.out jA) (fun _ _ _ h=>h) (Or.inl ⟨by rfl,?_⟩) ?_ ?_;rotate_left;exact jb;rotate_left;exact jc
         refine pure_ (i:=31) (N:=some 155) (v:=?_) (a':=?_) #[true,true,true,true,true,true,true,true,true,true,true,true,true,true,true,true,true,true,true,true,true,true,true,true,true,true,true,true,true,true,false,true,false,false,false,false] rfl rfl (any_of HT_.out jA) (fun _ _ _ h=>h) (Or.inl ⟨by rfl,?_⟩) ?_ ?_;rotate_left;exact jb;rotate_left;exact jc
         refine pure_ (i:=32) (N:=some 156) (v:=?_) (a':=?_) #[true,true,true,true,true,true,true,true,true,true,true,true,true,true,true,true,true,true,true,true,true,true,true,true,true,true,true,true,true,true,false,true,true,false,false,false] rfl rfl (any_of HT_.out jA) (fun _ _ _ h=>h) (Or.inl ⟨by rfl,?_⟩) ?_ ?_;rotate_left;exact jb;rotate_left;exact jc
         refine take_ (i:=30) (N:=some 154) (v:=?_) (a':=?_) (bm_ 33 36) rfl rfl (yo HT_.out HW_.out jA) (fun _ _ _ h=>h) (Or.inl ⟨by rfl,?_⟩) hHeld ?_ ?_;rotate_left
         ·
          rintro w' ⟨s0,s1,s2,s3,s4,s5,s6,s7⟩
          go_simp
          with_reducible rfl
         rotate_left
         exact jc
         refine one_ (i:=33) (N:=some 157) (bm_ 34 36) rfl rfl (one_of HT_.out jA) jB (fun K hK=>?_);refine goes_ Try.func40 jA rfl #[.agg #[.int .i64 ((rd_T43 t157 x10_2).f1.f0),.int .i64 ((rd_T43 t157 x10_2).f1.f1),.string ((rd_T43 t157 x10_2).f1.f2)],.int .i64 (wrap64 (a1 - 1))] (by rfl) rfl rfl jD ?_
         with_reducible refine (ih k2 jA5  ((rd_T43 t157 x10_2).f1.f0) ((rd_T43 t157 x10_2).f1.f1) ((rd_T43 t157 x10_2).f1.f2) (wrap64 (a1 - 1)) false _ A85.out).mono ?_
         rintro e w92 ⟨rfl,hb⟩;have HS0_:=(hb.cell (zl _ _ (hHeld.1))).trans (hHeld.1);have HS1_:=(hb.cell (zl _ _ (hHeld.2.1))).trans (hHeld.2.1);have HS2_:=(hb.cell (zl _ _ (hHeld.2.2.1))).trans (hHeld.2.2.1);have HS3_:=(hb.cell (zl _ _ (hHeld.2.2.2.1))).trans (hHeld.2.2.2.1);have HS4_:=(hb.cell (zl _ _ (hHeld.2.2.2.2.1))).trans (hHeld.2.2.2.2.1);have HS5_:=(hb.cell (zl _ _ (hHeld.2.2.2.2.2.1))).trans (hHeld.2.2.2.2.2.1);have HS6_:=(hb.cell (zl _ _ (hHeld.2.2.2.2.2.2.1))).trans (hHeld.2.2.2.2.2.2.1);have HS7_:=(hb.cell (zl _ _ (hHeld.2.2.2.2.2.2.2))).trans (hHeld.2.2.2.2.2.2.2);refine ⟨_,rfl,?_⟩;replace HO_8:=zh (yg jAt hb);replace BK148:=zh (cD BK148.out ji hb);replace HB:=zh (zC jN hb);(try clear hb);(try clear hb2);(try clear hk);(try clear hi);refine hK.out _ _ ⟨HS0_,HS1_,HS2_,HS3_,HS4_,HS5_,HS6_,HS7_⟩ (fun hHeld=>?_);clear hK K;refine norm_ (a':=?_) ?_ ?_;rotate_left
         ·
          show Act.put _ (some 157) _=_
          simp only [Act.put,zi,zj,zk,zG,zH]
          rfl
         refine pure_ (i:=34) (N:=some 158) (v:=?_) (a':=?_) (bm_ 35 36) rfl rfl (any_of HT_.out jA) (fun _ _ _ h=>h) (Or.inl ⟨by rfl,?_⟩) ?_ ?_;rotate_left;exact jb;rotate_left;exact jc
         refine pure_ (i:=35) (N:=some 159) (v:=?_) (a':=?_) (bm_ 36 36) rfl rfl (any_of HT_.out jA) (fun _ _ _ h=>h) (Or.inl ⟨by rfl,?_⟩) ?_ ?_;rotate_left;exact jb;rotate_left;exact jc
         refine done_ (done_of HT_.out jA) ?_
         try go_wp2
         go_ret
         exact ⟨jF,jN⟩
        replace c69:=yb.mpr c69;subst c69;rw [if_neg (show ¬ (false=true) by decide)] at H;obtain rfl:=zU H;obtain ⟨Ao93,co93,eo93⟩:=yk HO_8.out;subst eo93
        try go_wp2
        replace HO_8:=zh (zo HO_8.out);replace BK148:=zh (zf BK148.out);replace HB:=zh (zc HB.out);have p161 : 0≤(x10_2 : Int):=zy jE;have q161 : x10_2<(t157.length : Int):=zy jE;obtain ⟨ad161,e161,hx161_0,hx161_1,hx161_2,hx161_3⟩:=at_T43 (yh HO_8.out).2.2 x10_2 p161 q161
        cases e161
        replace p161:=eq_true p161;replace q161:=eq_true q161;refine start_ (n:=36) (S:=fun w' => w'.cell? (ad161.add ((x10_2).toNat*4))=some (.string ((rd_T43 t157 x10_2).f0))∧w'.cell? ⟨(ad161.add ((x10_2).toNat*4)).block,(ad161.add ((x10_2).toNat*4)).off+1,none⟩=some (.int .i64 ((rd_T43 t157 x10_2).f1.f0))∧w'.cell? ⟨(ad161.add ((x10_2).toNat*4)).block,(ad161.add ((x10_2).toNat*4)).off+2,none⟩=some (.int .i64 ((rd_T43 t157 x10_2).f1.f1))∧w'.cell? ⟨(ad161.add ((x10_2).toNat*4)).block,(ad161.add ((x10_2).toNat*4)).off+3,none⟩=some (.string ((rd_T43 t157 x10_2).f1.f2))) (ds:=[]) (bm_ 0 36) jA rfl rfl ⟨hx161_0,hx161_1,hx161_2,hx161_3⟩ (fun hHeld=>?_);refine with_tabW F2.tab27 F2.bits27 (fun HT_ HW_=>?_);generalize wr.drew=w94 at HO_8 BK148 HB hx161_0 hx161_1 hx161_2 hx161_3 hHeld ⊢;refine pure_ (i:=0) (N:=some 124) (v:=?_) (a':=?_) (bm_ 1 36) rfl rfl (any_of HT_.out jA) (fun _ _ _ h=>h) (Or.inl ⟨by rfl,?_⟩) ?_ ?_;rotate_left;exact jb;rotate_left;exact jc
        refine pure_ (i:=1) (N:=some 125) (v:=?_) (a':=?_) (bm_ 2 36) rfl rfl (any_of HT_.out jA) (fun _ _ _ h=>h) (Or.inl ⟨by rfl,?_⟩) ?_ ?_;rotate_left;exact jb;rotate_left;exact jc
        refine pure_ (i:=2) (N:=some 126) (v:=?_) (a':=?_) (bm_ 3 36) rfl rfl (any_of HT_.out jA) (fun _ _ _ h=>h) (Or.inl ⟨by rfl,?_⟩) ?_ ?_;rotate_left;exact jb;rotate_left;exact jc
        refine pure_ (i:=3) (N:=some 127) (v:=?_) (a':=?_) (bm_ 4 36) rfl rfl (any_of HT_.out jA) (fun _ _ _ h=>h) (Or.inl ⟨by rfl,?_⟩) ?_ ?_;rotate_left;exact jb;rotate_left;exact jc
        refine take_ (i:=4) (N:=some 128) (v:=?_) (a':=?_) (bm_ 5 36) rfl rfl (yo HT_.out HW_.out jA) (fun _ _ _ h=>h) (Or.inl ⟨by rfl,?_⟩) hHeld ?_ ?_;rotate_left
        ·
         rintro w' ⟨s0,s1,s2,s3⟩
         go_simp
         with_reducible rfl
        rotate_left
        exact jc
        refine one_ (i:=5) (N:=some 129) (bm_ 6 36) rfl rfl (one_of HT_.out jA) jB (fun K hK=>?_);refine goes_ Try.func19 jA rfl #[.string ((rd_T43 t157 x10_2).f0)] (by rfl) rfl rfl jD ?_
        with_reducible refine (F0a.calls k2  ((rd_T43 t157 x10_2).f0) false _ A68.out).mono ?_
        rintro e w' ⟨rfl,⟨nd,rfl⟩⟩;refine ⟨_,rfl,?_⟩;refine hK.out _ _ ⟨hHeld.1,hHeld.2.1,hHeld.2.2.1,hHeld.2.2.2⟩ (fun hHeld=>?_);clear hK K;refine norm_ (a':=?_) ?_ ?_;rotate_left
        ·
         show Act.put _ (some 129) _=_
         simp only [Act.put,zi,zj,zk,zG,zH]
         rfl
        refine pure_ (i:=6) (N:=some 130) (v:=?_) (a':=?_) (bm_ 7 36) rfl rfl (any_of HT_.out jA) (fun _ _ _ h=>h) (Or.inl ⟨by rfl,?_⟩) ?_ ?_;rotate_left;exact jb;rotate_left;exact jc
        refine pure_ (i:=7) (N:=some 131) (v:=?_) (a':=?_) (bm_ 8 36) rfl rfl (any_of HT_.out jA) (fun _ _ _ h=>h) (Or.inl ⟨by rfl,?_⟩) ?_ ?_;rotate_left;exact jb;rotate_left;exact jc
        refine pure_ (i:=8) (N:=some 132) (v:=undef) (a':=?_) (bm_ 9 36) rfl rfl (any_of HT_.out jA) (fun _ _ _ h=>h) (Or.inr ⟨by rfl,rfl⟩) ?_ ?_;rotate_left
        exact jc
        refine pure_ (i:=9) (N:=some 133) (v:=undef) (a':=?_) (bm_ 10 36) rfl rfl (any_of HT_.out jA) (fun _ _ _ h=>h) (Or.inr ⟨by rfl,rfl⟩) ?_ ?_;rotate_left
        exact jc
        refine pure_ (i:=10) (N:=some 134) (v:=undef) (a':=?_) (bm_ 11 36) rfl rfl (any_of HT_.out jA) (fun _ _ _ h=>h) (Or.inr ⟨by rfl,rfl⟩) ?_ ?_;rotate_left
        exact jc
        refine pure_ (i:=11) (N:=some 135) (v:=undef) (a':=?_) (bm_ 12 36) rfl rfl (any_of HT_.out jA) (fun _ _ _ h=>h) (Or.inr ⟨by rfl,rfl⟩) ?_ ?_;rotate_left
        exact jc
        refine pure_ (i:=12) (N:=some 136) (v:=undef) (a':=?_) (bm_ 13 36) rfl rfl (any_of HT_.out jA) (fun _ _ _ h=>h) (Or.inr ⟨by rfl,rfl⟩) ?_ ?_;rotate_left
        exact jc
        refine pure_ (i:=13) (N:=some 137) (v:=undef) (a':=?_) (bm_ 14 36) rfl rfl (any_of HT_.out jA) (fun _ _ _ h=>h) (Or.inr ⟨by rfl,rfl⟩) ?_ ?_;rotate_left
        exact jc
        refine pure_ (i:=14) (N:=some 138) (v:=undef) (a':=?_) (bm_ 15 36) rfl rfl (any_of HT_.out jA) (fun _ _ _ h=>h) (Or.inr ⟨by rfl,rfl⟩) ?_ ?_;rotate_left
        exact jc
        refine pure_ (i:=15) (N:=some 139) (v:=undef) (a':=?_) (bm_ 16 36) rfl rfl (any_of HT_.out jA) (fun _ _ _ h=>h) (Or.inr ⟨by rfl,rfl⟩) ?_ ?_;rotate_left
        exact jc
        refine pure_ (i:=16) (N:=some 140) (v:=undef) (a':=?_) (bm_ 17 36) rfl rfl (any_of HT_.out jA) (fun _ _ _ h=>h) (Or.inr ⟨by rfl,rfl⟩) ?_ ?_;rotate_left
        exact jc
        refine pure_ (i:=17) (N:=some 141) (v:=undef) (a':=?_) (bm_ 18 36) rfl rfl (any_of HT_.out jA) (fun _ _ _ h=>h) (Or.inr ⟨by rfl,rfl⟩) ?_ ?_;rotate_left
        exact jc
        refine pure_ (i:=18) (N:=some 142) (v:=undef) (a':=?_) (bm_ 19 36) rfl rfl (any_of HT_.out jA) (fun _ _ _ h=>h) (Or.inr ⟨by rfl,rfl⟩) ?_ ?_;rotate_left
        exact jc
        refine pure_ (i:=19) (N:=some 143) (v:=undef) (a':=?_) (bm_ 20 36) rfl rfl (any_of HT_.out jA) (fun _ _ _ h=>h) (Or.inr ⟨by rfl,rfl⟩) ?_ ?_;rotate_left
        exact jc
        refine pure_ (i:=20) (N:=some 144) (v:=undef) (a':=?_) (bm_ 21 36) rfl rfl (any_of HT_.out jA) (fun _ _ _ h=>h) (Or.inr ⟨by rfl,rfl⟩) ?_ ?_;rotate_left
        exact jc
        refine pure_ (i:=21) (N:=some 145) (v:=undef) (a':=?_) (bm_ 22 36) rfl rfl (any_of HT_.out jA) (fun _ _ _ h=>h) (Or.inr ⟨by rfl,rfl⟩) ?_ ?_;rotate_left
        exact jc
        refine pure_ (i:=22) (N:=some 146) (v:=undef) (a':=?_) (bm_ 23 36) rfl rfl (any_of HT_.out jA) (fun _ _ _ h=>h) (Or.inr ⟨by rfl,rfl⟩) ?_ ?_;rotate_left
        exact jc
        refine pure_ (i:=23) (N:=some 147) (v:=undef) (a':=?_) (bm_ 24 36) rfl rfl (any_of HT_.out jA) (fun _ _ _ h=>h) (Or.inr ⟨by rfl,rfl⟩) ?_ ?_;rotate_left
        exact jc
        refine pure_ (i:=24) (N:=some 148) (v:=?_) (a':=?_) (bm_ 25 36) rfl rfl (any_of HT_.out jA) (fun _ _ _ h=>h) (Or.inl ⟨by rfl,?_⟩) ?_ ?_;rotate_left;exact jb;rotate_left;exact jc
        refine pure_ (i:=25) (N:=some 149) (v:=?_) (a':=?_) (bm_ 26 36) rfl rfl (any_of HT_.out jA) (fun _ _ _ h=>h) (Or.inl ⟨by rfl,?_⟩) ?_ ?_;rotate_left;exact jb;rotate_left;exact jc
        refine pure_ (i:=26) (N:=some 150) (v:=undef) (a':=?_) (bm_ 27 36) rfl rfl (any_of HT_.out jA) (fun _ _ _ h=>h) (Or.inr ⟨by rfl,rfl⟩) ?_ ?_;rotate_left
        exact jc
        refine pure_ (i:=27) (N:=some 151) (v:=undef) (a':=?_) (bm_ 28 36) rfl rfl (any_of HT_.out jA) (fun _ _ _ h=>h) (Or.inr ⟨by rfl,rfl⟩) ?_ ?_;rotate_left
        exact jc
        refine pure_ (i:=28) (N:=some 152) (v:=undef) (a':=?_) (bm_ 29 36) rfl rfl (any_of HT_.out jA) (fun _ _ _ h=>h) (Or.inr ⟨by rfl,rfl⟩) ?_ ?_;rotate_left
        exact jc
        refine pure_ (i:=29) (N:=some 153) (v:=undef) (a':=?_) (bm_ 30 36) rfl rfl (any_of HT_.out jA) (fun _ _ _ h=>h) (Or.inr ⟨by rfl,rfl⟩) ?_ ?_;rotate_left
        exact jc
        refine pure_ (i:=30) (N:=some 154) (v:=undef) (a':=?_) (bm_ 31 36) rfl rfl (any_of HT_.out jA) (fun _ _ _ h=>h) (Or.inr ⟨by rfl,rfl⟩) ?_ ?_;rotate_left
        exact jc
        refine pure_ (i:=31) (N:=some 155) (v:=undef) (a':=?_) (bm_ 32 36) rfl rfl (any_of HT_.out jA) (fun _ _ _ h=>h) (Or.inr ⟨by rfl,rfl⟩) ?_ ?_;rotate_left
        exact jc
        refine pure_ (i:=32) (N:=some 156) (v:=undef) (a':=?_) (bm_ 33 36) rfl rfl (any_of HT_.out jA) (fun _ _ _ h=>h) (Or.inr ⟨by rfl,rfl⟩) ?_ ?_;rotate_left
        exact jc
        refine pure_ (i:=33) (N:=some 157) (v:=undef) (a':=?_) (bm_ 34 36) rfl rfl (any_of HT_.out jA) (fun _ _ _ h=>h) (Or.inr ⟨by rfl,rfl⟩) ?_ ?_;rotate_left
        exact jc
        refine pure_ (i:=34) (N:=some 158) (v:=undef) (a':=?_) (bm_ 35 36) rfl rfl (any_of HT_.out jA) (fun _ _ _ h=>h) (Or.inr ⟨by rfl,rfl⟩) ?_ ?_;rotate_left
        exact jc
        refine pure_ (i:=35) (N:=some 159) (v:=?_) (a':=?_) (bm_ 36 36) rfl rfl (any_of HT_.out jA) (fun _ _ _ h=>h) (Or.inl ⟨by rfl,?_⟩) ?_ ?_;rotate_left;exact jb;rotate_left;exact jc
        refine done_ (done_of HT_.out jA) ?_
        try go_wp2
        go_ret
        exact ⟨jF,jN⟩
       rw [if_neg c67] at H;exact absurd H (by simp)
      rw [if_neg c66] at H;have c66b0 : decide (x10_2<(t157.length : Int))=false:=decide_eq_false c66;clear c66;obtain rfl:=zU H;obtain ⟨Ao95,co95,eo95⟩:=yk HO_8.out;subst eo95
      go_wp2
      go_ret
      exact ⟨jF,jN⟩
 rw [if_neg c52] at H;have c52b0 : (a0_0 == 5)=false:=zY.mpr c52;have c52b1 : (a0_0 != 5)=true:=zZ.mpr c52;obtain rfl:=zU H
 go_enter Try.func40,Try.ntmps40
 go_wp2_with (first|((with_reducible refine zK (N:=2) rfl ?_);(try (refine yz (by rfl) ?_;dsimp only));refine zI ?hg (N:=2) ?hd (cs:=#[.int .i64 a0_0,.int .i64 a0_1,.string a0_2]) (t:=25) ?hr ?_;(case hd=>rfl);(case hg=>rfl);(case hr=>go_simp <;> rfl);intro gb148 hg w96 hbox hb;have BK148:=zh (hbox);have hH_:=cH jG hb hg;have GW148:=zh hH_.1;have GE148:=GW148;replace HB:=zh hH_.2;clear hb hbox hg hH_;obtain ⟨hcz97_0,hcz97_1,hcz97_2,hfz97_0,hfz97_1,hfz97_2⟩:=cB3 BK148.out))
 go_ret
 exact ⟨jF,jN⟩

end Go.Proofs.Ytoinoihiknmnmaa.Q
end
section
namespace Go.Proofs.Ytoinoihiknmnmaa.Q
open Go.RowKit Go.Proofs.YtoinoihiknmnmaaW.PrintWords Go.Proofs.YtoinoihiknmnmaaW.PrintLast Go.Proofs.YtoinoihiknmnmaaW.PrintMore
attribute [local go_sem] max2_int min2_int max_two min_two max_three min_three max_four min_four max2_str min2_str str_geq str_gtr str_leq
set_option linter.unusedVariables false
set_option linter.unusedSimpArgs false

def Fr.f (k : Nat) (a0_0 : Int) (a0_1 : Int) (a0_2 : ByteArray) : Option (Bool):=if (a0_2.size : Int)≤65536 then ((F2.f k a0_0 a0_1 a0_2 5).bind fun t170=>(some t170)) else (some false)
theorem Fr.mono : ∀ a0 a1 a2 k,LeO (Fr.f k a0 a1 a2) (Fr.f (k+1) a0 a1 a2):=by
 intro a0 a1 a2 k;unfold Fr.f
 repeat' first|(with_reducible first|exact F2.mono _ _ _ _ _|exact zQ _|exact zN _|refine zP ?_ ?_|refine zO ?_ (fun _=>?_))|refine zP ?_ ?_|refine zO ?_ (fun _=>?_)
set_option maxHeartbeats 8000000 in
set_option maxRecDepth 100000 in
theorem Fr.calls (k : Nat) (a0_0 : Int) (a0_1 : Int) (a0_2 : ByteArray) (r : Bool) (w : World) (h : Fr.f k a0_0 a0_1 a0_2=some r) :
  Calls Try.prog 20 #[.agg #[.int .i64 a0_0,.int .i64 a0_1,.string a0_2]] w fun e w' => e = .returned (.bool r)∧Below w.heap.size w w':=by
 have hu25:=Try.underlying25;have HB:=zh (Below.refl w.heap.size w);have H : (if (a0_2.size : Int)≤65536 then ((F2.f k a0_0 a0_1 a0_2 5).bind fun t170=>(some t170)) else (some false))=some r:=h;clear h
 by_cases c2 : (a0_2.size : Int)≤65536
 ·
  rw [if_pos c2] at H
  have c2b0 : decide ((a0_2.size : Int)≤65536)=true:=decide_eq_true c2;have c2b1 : decide (a0_2.size≤65536)=true:=decide_eq_true jH;clear c2;replace H:=zT.mp H;obtain ⟨t170,A30,H⟩:=H;have A3:=zh A30;clear A30;obtain rfl:=zU H
  go_enter Try.func20,Try.ntmps20
  go_wp2_with (first|((with_reducible refine zK (N:=1) rfl ?_);refine zI ?hg (N:=1) ?hd (cs:=#[.int .i64 a0_0,.int .i64 a0_1,.string a0_2]) (t:=25) ?hr ?_;(case hd=>rfl);(case hg=>rfl);(case hr=>go_simp <;> rfl);intro gb169 hg w4 hbox hb;have BK169:=zh (hbox);have hH_:=cH jG hb hg;have GW169:=zh hH_.1;have GE169:=GW169;replace HB:=zh hH_.2;clear hb hbox hg hH_;obtain ⟨hcz5_0,hcz5_1,hcz5_2,hfz5_0,hfz5_1,hfz5_2⟩:=cB3 BK169.out)|(go_at_call 40;(with_reducible refine (F2.calls k  a0_0 a0_1 a0_2 5 t170 _ A3.out).mono ?_);rintro e w6 ⟨rfl,hb⟩;replace BK169:=zh (cD BK169.out (by (with_reducible repeat first|apply ze|apply zf|apply zg);exact BK169.out) hb);replace HB:=zh (zC jB7 hb);(try clear hb);(try clear hb2);(try clear hk);(try clear hi)))
  go_ret
  exact ⟨jF,jB7⟩
 rw [if_neg c2] at H;have c2b0 : decide ((a0_2.size : Int)≤65536)=false:=decide_eq_false c2;have c2b1 : decide (a0_2.size≤65536)=false:=decide_eq_false jH;clear c2;obtain rfl:=zU H
 go_enter Try.func20,Try.ntmps20
 go_wp2_with (first|((with_reducible refine zK (N:=1) rfl ?_);refine zI ?hg (N:=1) ?hd (cs:=#[.int .i64 a0_0,.int .i64 a0_1,.string a0_2]) (t:=25) ?hr ?_;(case hd=>rfl);(case hg=>rfl);(case hr=>go_simp <;> rfl);intro gb169 hg w7 hbox hb;have BK169:=zh (hbox);have hH_:=cH jG hb hg;have GW169:=zh hH_.1;have GE169:=GW169;replace HB:=zh hH_.2;clear hb hbox hg hH_;obtain ⟨hcz8_0,hcz8_1,hcz8_2,hfz8_0,hfz8_1,hfz8_2⟩:=cB3 BK169.out))
 go_ret
 exact ⟨jF,jB7⟩


def Fb.l0 : Nat→Int→List Int→Int→Option (ByteArray)
 | 0,_,_,_=>none
 | k+1,x0,x5,x6=>if x6 ≥ 0 then (if 0≤(IntKind.u64.wrap (wrap64 (8*x6))) then (if x5.length<140737488355328 then (Fb.l0 k x0 (x5 ++ [(shr .i64 x0 (IntKind.u64.wrap (wrap64 (8*x6)))) % 256]) (wrap64 (x6 - 1))) else (none)) else (none)) else (some (strOfNums x5))
def Fb.f (k : Nat) (a0 : Int) (a1 : Int) : Option (ByteArray):=Fb.l0 k a0 (([] : List Int)) (wrap64 (a1 - 1))
theorem Fb.mono_l : ∀ k,(∀ y0 y1 y2,LeO (Fb.l0 k y0 y1 y2) (Fb.l0 (k+1) y0 y1 y2))
 | 0=>fun _ _ _ r h=>by simp [Fb.l0] at h
 | k+1=>by
  have ih0:=Fb.mono_l k;intro y0 y1 y2;unfold Fb.l0
  repeat' first|(with_reducible first|exact ih0 _ _ _|exact zQ _|exact zN _|refine zP ?_ ?_|refine zO ?_ (fun _=>?_))|refine zP ?_ ?_|refine zO ?_ (fun _=>?_)
theorem Fb.mono : ∀ a0 a1 k,LeO (Fb.f k a0 a1) (Fb.f (k+1) a0 a1):=by
 intro a0 a1 k;have ih0:=Fb.mono_l k;unfold Fb.f
 repeat' first|(with_reducible first|exact ih0 _ _ _|exact zQ _|exact zN _|refine zP ?_ ?_|refine zO ?_ (fun _=>?_))|refine zP ?_ ?_|refine zO ?_ (fun _=>?_)
set_option maxHeartbeats 8000000 in
set_option maxRecDepth 100000 in
theorem Fb.calls (k : Nat) (a0 : Int) (a1 : Int) (r : ByteArray) (w : World) (h : Fb.f k a0 a1=some r) :
  Calls Try.prog 41 #[.int .i64 a0,.int .i64 a1] w fun e w' => e = .returned (.string r)∧Below w.heap.size w w':=by
 have HB:=zh (Below.refl w.heap.size w);have H : (Fb.l0 k a0 (([] : List Int)) (wrap64 (a1 - 1)))=some r:=h;clear h;obtain ⟨y174,hy174⟩ : ∃ y_ : List Int,y_=(([] : List Int)):=⟨_,rfl⟩;replace H : (Fb.l0 k a0 y174 (wrap64 (a1 - 1)))=some r:=by first|(rw [hy174];with_reducible exact H)|(have H2_:=(Option.bind_some _ _).symm.trans H;rw [hy174];with_reducible exact H2_)|(have H2_:=(Option.bind_some _ _).symm.trans H;with_reducible exact H2_)|with_reducible exact H|(rw [hy174];exact H)|exact H
 have Ny174:=zh hy174;clear hy174;have H':=zh H;clear H
 go_enter Try.func41,Try.ntmps41
 go_wp2_with (first|((with_reducible refine zK (N:=7) rfl ?_);refine Kd.R_lit (Kd.int .u8) _ 5 ?hg (N:=7) ?hd (xs:=([] : List Int)) (inner:=[]) (ok:=fun _=>True) (okp:=fun _=>True) ?hr ?hp (fun _ hk=>hk) trivial (Below.refl _ _) (ye _) (by simp) ?_;(case hd=>rfl);(case hg=>rfl);(case hr=>go_simp <;> rfl);(case hp=>exact (Reps.none _ _));intro v175 w3 ho4 hb hg_ hnew_;clear hg_ hnew_;(first|rw [← Ny174.out] at ho4|(simp only [Int.reduceToNat] at ho4;rw [← Ny174.out] at ho4));have HO176:=zh (yy ho4 (zB jG));replace HB:=zh (zC jG hb);clear hb ho4))
 go_loopg [5,6] k (fun kq v5 v6 w' => ∃ (x5_1 : List Int) (x6_1 : Int),v6 = .int .i64 x6_1∧Aside0 (Fb.l0 kq a0 x5_1 x6_1=some r)∧Aside0 (kq≤k)∧Aside0 (Kd.R (Kd.int .u8) 5 w' w.heap.size (fun _=>True) v5 x5_1)∧Aside0 (Below w.heap.size w w'))
 case atStart=>exact ⟨(y174),(wrap64 (a1 - 1)),jC,H',⟨ye _⟩,⟨by (with_reducible repeat (first|apply zm|apply zn|apply zo));exact HO176.out⟩,⟨jG⟩⟩
 case round =>
  clear H'
  try clear p2
  try clear c4
  obtain ⟨x5_1,x6_1,rfl,HA,HK1,HO_5,HB⟩:=hrel
  cases gk with
  | zero=>exact absurd HA.out (by simp [Fb.l0])
  | succ k1 =>
   have H:=HA.out;clear HA;simp only [Fb.l0] at H
   by_cases c5 : x6_1 ≥ 0
   ·
    rw [if_pos c5] at H
    have c5b0 : decide (0≤x6_1)=true:=decide_eq_true c5;clear c5;obtain ⟨ji6,hji6⟩ : ∃ j_ : Int,(IntKind.u64.wrap (wrap64 (8*x6_1)))=j_:=⟨_,rfl⟩;replace H : (if 0≤(ji6) then (if x5_1.length<140737488355328 then (Fb.l0 k1 a0 (x5_1 ++ [(shr .i64 a0 (ji6)) % 256]) (wrap64 (x6_1 - 1))) else (none)) else (none))=some r:=by first|(rw [hji6] at H;exact H)|(simp only [hji6] at H ⊢;exact H)
    by_cases c7 : 0≤(ji6)
    ·
     rw [if_pos c7] at H
     have c7b0:=eq_true c7;have c7b1 : decide (0≤(ji6))=true:=decide_eq_true c7;clear c7;obtain ⟨ji8,hji8⟩ : ∃ j_ : Int,(shr .i64 a0 (ji6))=j_:=⟨_,rfl⟩;replace H : (if x5_1.length<140737488355328 then (Fb.l0 k1 a0 (x5_1 ++ [(ji8) % 256]) (wrap64 (x6_1 - 1))) else (none))=some r:=by first|(rw [hji8] at H;exact H)|(simp only [hji8] at H ⊢;exact H)
     have hji8_ : (a0 / 2 ^ min (ji6).toNat 64)=ji8:=hji8;have hji8z : (ji6)≤64→(a0 / 2 ^ (ji6).toNat)=ji8:=shr_small hji8
     by_cases c9 : x5_1.length<140737488355328
     ·
      rw [if_pos c9] at H
      have LMc9:=zh c9;clear c9;obtain ⟨y177,hy177⟩ : ∃ y_ : List Int,y_=(x5_1 ++ [(ji8) % 256]):=⟨_,rfl⟩;replace H : (Fb.l0 k1 a0 y177 (wrap64 (x6_1 - 1)))=some r:=by first|(rw [hy177];with_reducible exact H)|(have H2_:=(Option.bind_some _ _).symm.trans H;rw [hy177];with_reducible exact H2_)|(have H2_:=(Option.bind_some _ _).symm.trans H;with_reducible exact H2_)|with_reducible exact H|(rw [hy177];exact H)|exact H
      have Ny177:=zh hy177;clear hy177;have H':=zh H;clear H
      go_wp2_with (first|((with_reducible refine yB (b:=.append) (xs:=#[.tmp 14,.tmp 21]) rfl ?_);at_builtin;refine Kd.R_append (Kd.int .u8) (w0:=w) w.heap.size rfl (.tmp 14) (.tmp 21) 33 5 (.int .u8 0) 1 rfl Try.underlying33 info5 rfl jB jH u5 x5_1 ((ji8) % 256) [.int .u8 ((ji8) % 256)] (fun _=>True) (fun _=>False) rfl rfl ?aP (fun _ hk=>hk.elim) ?aF ?aO ?aB ?aS ?aL ?_;(case aP=>exact rfl);(case aB=>exact jG);(case aF=>exact (fun _ _=>trivial));(case aO=>exact jI);(case aS=>exact (zB jG));(case aL=>have:=LMc9.out;omega);intro v178 w10 ho hb hg hat;rw [← Ny177.out] at ho;replace HB:=zh (hb);have HO179:=zh (ho);clear HO_5 ho hb hg hat))
      go_roundg k1
      case measure=>have:=HK1.out;omega
      case rel=>exact ⟨(y177),(wrap64 (x6_1 - 1)),jC,H',⟨jZ⟩,⟨by (with_reducible repeat (first|apply zm|apply zn|apply zo));exact HO179.out⟩,⟨jG⟩⟩
     rw [if_neg c9] at H;exact absurd H (by simp)
    rw [if_neg c7] at H;exact absurd H (by simp)
   rw [if_neg c5] at H;have c5b0 : decide (0≤x6_1)=false:=decide_eq_false c5;clear c5;obtain rfl:=zU H;have hcv11:=own_string (P:=Try.prog) Try.underlying33 Try.underlying5 Try.underlying9 (Kd.own_of_R HO_5.out)
   go_wp2
   go_ret
   exact ⟨jF,jG⟩


def F07.f (k : Nat) (a0_0 : Int) (a0_1 : Int) (a0_2 : ByteArray) : Option (ByteArray):=(Fb.f k a0_0 1).bind fun t181=>(if a0_0=0 then (some t181) else (if a0_0=1 then ((Fb.f k a0_1 1).bind fun t182=>(if t181.size+t182.size≤9223372036854775807 then (some (t181++t182)) else (none))) else (if a0_0=2 then ((Fb.f k (wrap64 (a0_1+4611686018427387904)) 8).bind fun t183=>(if t181.size+t183.size≤9223372036854775807 then (some (t181++t183)) else (none))) else ((Fb.f k (a0_2.size : Int) 2).bind fun t184=>(if t181.size+t184.size≤9223372036854775807 then (if (t181++t184).size+a0_2.size≤9223372036854775807 then (some ((t181++t184)++a0_2)) else (none)) else (none))))))
theorem F07.mono : ∀ a0 a1 a2 k,LeO (F07.f k a0 a1 a2) (F07.f (k+1) a0 a1 a2):=by
 intro a0 a1 a2 k;unfold F07.f
 repeat' first|(with_reducible first|exact Fb.mono _ _ _|exact zQ _|exact zN _|refine zP ?_ ?_|refine zO ?_ (fun _=>?_))|refine zP ?_ ?_|refine zO ?_ (fun _=>?_)
def F07.T9 : Bool×List (List Nat×List Nat):=(true,[([],[]),([],[]),([1],[1]),([2],[2]),([3],[3]),([0,4],[0,4]),([],[]),([6],[6]),([5,7],[5,7]),([8,4,0,1,2,3,4,5,6,7,8],[8])])
def F07.B9 : List Nat:=[0,0,2,6,14,31,0,64,255,511]
theorem F07.tab9 : rtab .any (opsOf Try.f42 9)=F07.T9:=by kernel_rfl
theorem F07.bits9 : waitsOk F07.T9.2 F07.B9=true:=by kernel_rfl
set_option maxHeartbeats 8000000 in
set_option maxRecDepth 100000 in
theorem F07.calls (k : Nat) (a0_0 : Int) (a0_1 : Int) (a0_2 : ByteArray) (r : ByteArray) (w : World) (h : F07.f k a0_0 a0_1 a0_2=some r) :
  Calls Try.prog 42 #[.agg #[.int .i64 a0_0,.int .i64 a0_1,.string a0_2]] w fun e w' => e = .returned (.string r)∧Below w.heap.size w w':=by
 have hu25:=Try.underlying25;have HB:=zh (Below.refl w.heap.size w);have H : ((Fb.f k a0_0 1).bind fun t181=>(if a0_0=0 then (some t181) else (if a0_0=1 then ((Fb.f k a0_1 1).bind fun t182=>(if t181.size+t182.size≤9223372036854775807 then (some (t181++t182)) else (none))) else (if a0_0=2 then ((Fb.f k (wrap64 (a0_1+4611686018427387904)) 8).bind fun t183=>(if t181.size+t183.size≤9223372036854775807 then (some (t181++t183)) else (none))) else ((Fb.f k (a0_2.size : Int) 2).bind fun t184=>(if t181.size+t184.size≤9223372036854775807 then (if (t181++t184).size+a0_2.size≤9223372036854775807 then (some ((t181++t184)++a0_2)) else (none)) else (none)))))))=some r:=h;clear h;replace H:=zT.mp H;obtain ⟨t181,A20,H⟩:=H;have A2:=zh A20;clear A20
 by_cases c3 : a0_0=0
 ·
  rw [if_pos c3] at H
  have c3b0 : (a0_0 == 0)=true:=ya.mpr c3;have c3b1 : (a0_0 != 0)=false:=zX.mpr c3;clear c3;obtain rfl:=zU H
  go_enter Try.func42,Try.ntmps42
  go_wp2_with (first|((with_reducible refine zK (N:=1) rfl ?_);refine zI ?hg (N:=1) ?hd (cs:=#[.int .i64 a0_0,.int .i64 a0_1,.string a0_2]) (t:=25) ?hr ?_;(case hd=>rfl);(case hg=>rfl);(case hr=>go_simp <;> rfl);intro gb180 hg w4 hbox hb;have BK180:=zh (hbox);have hH_:=cH jG hb hg;have GW180:=zh hH_.1;have GE180:=GW180;replace HB:=zh hH_.2;clear hb hbox hg hH_;obtain ⟨hcz5_0,hcz5_1,hcz5_2,hfz5_0,hfz5_1,hfz5_2⟩:=cB3 BK180.out)|((with_reducible refine zJ (f:=41) rfl ?_);refine yj (some 6) rfl rfl Try.func41 jA rfl #[.int .i64 a0_0,.int .i64 1] rfl jD ?_;(with_reducible refine (Fb.calls k  a0_0 1 t181 _ A2.out).mono ?_);rintro e w6 ⟨rfl,hb⟩;refine ⟨_,rfl,?_⟩;replace BK180:=zh (cD BK180.out jAu hb);replace HB:=zh (zC jAW hb);(try clear hb);(try clear hb2);(try clear hk);(try clear hi);obtain ⟨hcz7_0,hcz7_1,hcz7_2,hfz7_0,hfz7_1,hfz7_2⟩:=cB3 BK180.out))
  go_ret
  exact ⟨jF,jAW⟩
 rw [if_neg c3] at H;have c3b0 : (a0_0 == 0)=false:=zY.mpr c3;have c3b1 : (a0_0 != 0)=true:=zZ.mpr c3
 by_cases c8 : a0_0=1
 ·
  rw [if_pos c8] at H
  have c8b0 : (a0_0 == 1)=true:=ya.mpr c8;have c8b1 : (a0_0 != 1)=false:=zX.mpr c8;clear c8;replace H:=zT.mp H;obtain ⟨t182,A90,H⟩:=H;have A9:=zh A90;clear A90
  by_cases c10 : t181.size+t182.size≤9223372036854775807
  ·
   rw [if_pos c10] at H
   have c10b0:=eq_true c10;have c10b1 : decide (t181.size+t182.size≤9223372036854775807)=true:=decide_eq_true c10
   try have c10b2 : (9223372036854775807<t181.size+t182.size)=False:=eq_false (Nat.not_lt.2 c10)
   obtain rfl:=zU H
   go_enter Try.func42,Try.ntmps42
   go_wp2_with (first|((with_reducible refine zK (N:=1) rfl ?_);refine zI ?hg (N:=1) ?hd (cs:=#[.int .i64 a0_0,.int .i64 a0_1,.string a0_2]) (t:=25) ?hr ?_;(case hd=>rfl);(case hg=>rfl);(case hr=>go_simp <;> rfl);intro gb180 hg w11 hbox hb;have BK180:=zh (hbox);have hH_:=cH jG hb hg;have GW180:=zh hH_.1;have GE180:=GW180;replace HB:=zh hH_.2;clear hb hbox hg hH_;obtain ⟨hcz12_0,hcz12_1,hcz12_2,hfz12_0,hfz12_1,hfz12_2⟩:=cB3 BK180.out)|((with_reducible refine zJ (f:=41) rfl ?_);refine yj (some 6) rfl rfl Try.func41 jA rfl #[.int .i64 a0_0,.int .i64 1] rfl jD ?_;(with_reducible refine (Fb.calls k  a0_0 1 t181 _ A2.out).mono ?_);rintro e w13 ⟨rfl,hb⟩;refine ⟨_,rfl,?_⟩;replace BK180:=zh (cD BK180.out jAu hb);replace HB:=zh (zC jAW hb);(try clear hb);(try clear hb2);(try clear hk);(try clear hi);obtain ⟨hcz14_0,hcz14_1,hcz14_2,hfz14_0,hfz14_1,hfz14_2⟩:=cB3 BK180.out)|((with_reducible refine zJ (f:=41) rfl ?_);refine yj (some 17) rfl rfl Try.func41 jA rfl #[.int .i64 a0_1,.int .i64 1] rfl jD ?_;(with_reducible refine (Fb.calls k  a0_1 1 t182 _ A9.out).mono ?_);rintro e w15 ⟨rfl,hb⟩;refine ⟨_,rfl,?_⟩;replace BK180:=zh (cD BK180.out jAu hb);replace HB:=zh (zC jAW hb);(try clear hb);(try clear hb2);(try clear hk);(try clear hi)))
   go_ret
   exact ⟨jF,jAW⟩
  rw [if_neg c10] at H;exact absurd H (by simp)
 rw [if_neg c8] at H;have c8b0 : (a0_0 == 1)=false:=zY.mpr c8;have c8b1 : (a0_0 != 1)=true:=zZ.mpr c8
 by_cases c16 : a0_0=2
 ·
  rw [if_pos c16] at H
  have c16b0 : (a0_0 == 2)=true:=ya.mpr c16;have c16b1 : (a0_0 != 2)=false:=zX.mpr c16;clear c16;replace H:=zT.mp H;obtain ⟨t183,A170,H⟩:=H;have A17:=zh A170;clear A170
  by_cases c18 : t181.size+t183.size≤9223372036854775807
  ·
   rw [if_pos c18] at H
   have c18b0:=eq_true c18;have c18b1 : decide (t181.size+t183.size≤9223372036854775807)=true:=decide_eq_true c18
   try have c18b2 : (9223372036854775807<t181.size+t183.size)=False:=eq_false (Nat.not_lt.2 c18)
   obtain rfl:=zU H
   go_enter Try.func42,Try.ntmps42
   go_wp2_with (first|((with_reducible refine zK (N:=1) rfl ?_);refine zI ?hg (N:=1) ?hd (cs:=#[.int .i64 a0_0,.int .i64 a0_1,.string a0_2]) (t:=25) ?hr ?_;(case hd=>rfl);(case hg=>rfl);(case hr=>go_simp <;> rfl);intro gb180 hg w19 hbox hb;have BK180:=zh (hbox);have hH_:=cH jG hb hg;have GW180:=zh hH_.1;have GE180:=GW180;replace HB:=zh hH_.2;clear hb hbox hg hH_;obtain ⟨hcz20_0,hcz20_1,hcz20_2,hfz20_0,hfz20_1,hfz20_2⟩:=cB3 BK180.out)|((with_reducible refine zJ (f:=41) rfl ?_);refine yj (some 6) rfl rfl Try.func41 jA rfl #[.int .i64 a0_0,.int .i64 1] rfl jD ?_;(with_reducible refine (Fb.calls k  a0_0 1 t181 _ A2.out).mono ?_);rintro e w21 ⟨rfl,hb⟩;refine ⟨_,rfl,?_⟩;replace BK180:=zh (cD BK180.out jAu hb);replace HB:=zh (zC jAW hb);(try clear hb);(try clear hb2);(try clear hk);(try clear hi);obtain ⟨hcz22_0,hcz22_1,hcz22_2,hfz22_0,hfz22_1,hfz22_2⟩:=cB3 BK180.out)|((with_reducible refine zJ (f:=41) rfl ?_);refine yj (some 25) rfl rfl Try.func41 jA rfl #[.int .i64 (wrap64 (a0_1+4611686018427387904)),.int .i64 8] rfl jD ?_;(with_reducible refine (Fb.calls k  (wrap64 (a0_1+4611686018427387904)) 8 t183 _ A17.out).mono ?_);rintro e w23 ⟨rfl,hb⟩;refine ⟨_,rfl,?_⟩;replace BK180:=zh (cD BK180.out jAu hb);replace HB:=zh (zC jAW hb);(try clear hb);(try clear hb2);(try clear hk);(try clear hi)))
   go_ret
   exact ⟨jF,jAW⟩
  rw [if_neg c18] at H;exact absurd H (by simp)
 rw [if_neg c16] at H;have c16b0 : (a0_0 == 2)=false:=zY.mpr c16;have c16b1 : (a0_0 != 2)=true:=zZ.mpr c16;replace H:=zT.mp H;obtain ⟨t184,A240,H⟩:=H;have A24:=zh A240;clear A240
 by_cases c25 : t181.size+t184.size≤9223372036854775807
 ·
  rw [if_pos c25] at H
  have c25b0:=eq_true c25;have c25b1 : decide (t181.size+t184.size≤9223372036854775807)=true:=decide_eq_true c25
  try have c25b2 : (9223372036854775807<t181.size+t184.size)=False:=eq_false (Nat.not_lt.2 c25)
  by_cases c26 : (t181++t184).size+a0_2.size≤9223372036854775807
  ·
   rw [if_pos c26] at H
   have c26b0:=eq_true c26;have c26b1 : decide ((t181++t184).size+a0_2.size≤9223372036854775807)=true:=decide_eq_true c26
   try have c26b2 : (9223372036854775807<(t181++t184).size+a0_2.size)=False:=eq_false (Nat.not_lt.2 c26)
   (try have c26b4:=c26b2;simp only [ByteArray.size_append] at c26b4);obtain rfl:=zU H
   go_enter Try.func42,Try.ntmps42
   try go_wp2_with (first|((with_reducible refine zK (N:=1) rfl ?_);refine zI ?hg (N:=1) ?hd (cs:=#[.int .i64 a0_0,.int .i64 a0_1,.string a0_2]) (t:=25) ?hr ?_;(case hd=>rfl);(case hg=>rfl);(case hr=>go_simp <;> rfl);intro gb180 hg w27 hbox hb;have BK180:=zh (hbox);have hH_:=cH jG hb hg;have GW180:=zh hH_.1;have GE180:=GW180;replace HB:=zh hH_.2;clear hb hbox hg hH_;obtain ⟨hcz28_0,hcz28_1,hcz28_2,hfz28_0,hfz28_1,hfz28_2⟩:=cB3 BK180.out)|((with_reducible refine zJ (f:=41) rfl ?_);refine yj (some 6) rfl rfl Try.func41 jA rfl #[.int .i64 a0_0,.int .i64 1] rfl jD ?_;(with_reducible refine (Fb.calls k  a0_0 1 t181 _ A2.out).mono ?_);rintro e w29 ⟨rfl,hb⟩;refine ⟨_,rfl,?_⟩;replace BK180:=zh (cD BK180.out jAu hb);replace HB:=zh (zC jAW hb);(try clear hb);(try clear hb2);(try clear hk);(try clear hi);obtain ⟨hcz30_0,hcz30_1,hcz30_2,hfz30_0,hfz30_1,hfz30_2⟩:=cB3 BK180.out))
   replace BK180:=zh (zf BK180.out);replace HB:=zh (zc HB.out);refine start_ (n:=10) (S:=fun w' => w'.cell? ⟨gb180,0,none⟩=some (.int .i64 a0_0)∧w'.cell? ⟨gb180,1,none⟩=some (.int .i64 a0_1)∧w'.cell? ⟨gb180,2,none⟩=some (.string a0_2)) (ds:=[]) (bm_ 0 10) jA rfl rfl ⟨(zz BK180.out 0).trans rfl,(zz BK180.out 1).trans rfl,(zz BK180.out 2).trans rfl⟩ (fun hHeld=>?_);refine with_tabW F07.tab9 F07.bits9 (fun HT_ HW_=>?_);generalize w29.drew=w31 at BK180 HB hHeld ⊢;refine pure_ (i:=0) (N:=some 27) (v:=?_) (a':=?_) (bm_ 1 10) rfl rfl (any_of HT_.out jA) (fun _ _ _ h=>h) (Or.inl ⟨by rfl,?_⟩) ?_ ?_;rotate_left;exact jb;rotate_left;exact jc
   refine pure_ (i:=1) (N:=some 28) (v:=?_) (a':=?_) (bm_ 2 10) rfl rfl (any_of HT_.out jA) (fun _ _ _ h=>h) (Or.inl ⟨by rfl,?_⟩) ?_ ?_;rotate_left;exact jb;rotate_left;exact jc
   refine pure_ (i:=6) (N:=some 33) (v:=?_) (a':=?_) #[true,true,false,false,false,false,true,false,false,false] rfl rfl (any_of HT_.out jA) (fun _ _ _ h=>h) (Or.inl ⟨by rfl,?_⟩) ?_ ?_;rotate_left;exact jb;rotate_left;exact jc
   refine take_ (i:=2) (N:=some 29) (v:=?_) (a':=?_) #[true,true,true,false,false,false,true,false,false,false] rfl rfl (yo HT_.out HW_.out jA) (fun _ _ _ h=>h) (Or.inl ⟨by rfl,?_⟩) hHeld ?_ ?_;rotate_left
   ·
    rintro w' ⟨s0,s1,s2⟩
    go_simp
    with_reducible rfl
   rotate_left
   exact jc
   refine pure_ (i:=3) (N:=some 30) (v:=?_) (a':=?_) #[true,true,true,true,false,false,true,false,false,false] rfl rfl (any_of HT_.out jA) (fun _ _ _ h=>h) (Or.inl ⟨by rfl,?_⟩) ?_ ?_;rotate_left;exact jb;rotate_left;exact jc
   refine take_ (i:=7) (N:=some 34) (v:=?_) (a':=?_) #[true,true,true,true,false,false,true,true,false,false] rfl rfl (yo HT_.out HW_.out jA) (fun _ _ _ h=>h) (Or.inl ⟨by rfl,?_⟩) hHeld ?_ ?_;rotate_left
   ·
    rintro w' ⟨s0,s1,s2⟩
    go_simp
    with_reducible rfl
   rotate_left
   exact jc
   refine one_ (i:=4) (N:=some 31) #[true,true,true,true,true,false,true,true,false,false] rfl rfl (one_of HT_.out jA) jB (fun K hK=>?_);refine goes_ Try.func41 jA rfl #[.int .i64 (a0_2.size : Int),.int .i64 2] (by rfl) rfl rfl jD ?_
   with_reducible refine (Fb.calls k  (a0_2.size : Int) 2 t184 _ A24.out).mono ?_
   rintro e w32 ⟨rfl,hb⟩;refine ⟨_,rfl,?_⟩;replace BK180:=zh (cD BK180.out jAu hb);replace HB:=zh (zC jAW hb);(try clear hb);(try clear hb2);(try clear hk);(try clear hi);refine hK.out _ _ ⟨(zz BK180.out 0).trans rfl,(zz BK180.out 1).trans rfl,(zz BK180.out 2).trans rfl⟩ (fun hHeld=>?_);clear hK K;refine norm_ (a':=?_) ?_ ?_;rotate_left
   ·
    show Act.put _ (some 31) _=_
    simp only [Act.put,zi,zj,zk,zG,zH]
    rfl
   refine pure_ (i:=5) (N:=some 32) (v:=?_) (a':=?_) (bm_ 8 10) rfl rfl (any_of HT_.out jA) (fun _ _ _ h=>h) (Or.inl ⟨by rfl,?_⟩) ?_ ?_;rotate_left;exact jb;rotate_left;exact jc
   refine pure_ (i:=8) (N:=some 35) (v:=?_) (a':=?_) (bm_ 9 10) rfl rfl (any_of HT_.out jA) (fun _ _ _ h=>h) (Or.inl ⟨by rfl,?_⟩) ?_ ?_;rotate_left;exact jb;rotate_left;exact jc
   refine pure_ (i:=9) (N:=some 2) (v:=?_) (a':=?_) (bm_ 10 10) rfl rfl (any_of HT_.out jA) (fun _ _ _ h=>h) (Or.inl ⟨by rfl,?_⟩) ?_ ?_;rotate_left;exact jb;rotate_left;exact jc
   refine done_ (done_of HT_.out jA) ?_
   try go_wp2
   go_ret
   exact ⟨jF,jAW⟩
  rw [if_neg c26] at H;exact absurd H (by simp)
 rw [if_neg c25] at H;exact absurd H (by simp)


def Fa.l0 : Nat→List (S43)→ByteArray→Int→Option (Int×Int×ByteArray)
 | 0,_,_,_=>none
 | k+1,x0,x3,x4=>if x4<(x0.length : Int) then (if 0≤x4 then ((Fb.f k (((rd_T43 x0 x4).f0).size : Int) 1).bind fun t187=>(if t187.size+((rd_T43 x0 x4).f0).size≤9223372036854775807 then ((F07.f k ((rd_T43 x0 x4).f1.f0) ((rd_T43 x0 x4).f1.f1) ((rd_T43 x0 x4).f1.f2)).bind fun t190=>(if (t187++((rd_T43 x0 x4).f0)).size+t190.size≤9223372036854775807 then (if x3.size+((t187++((rd_T43 x0 x4).f0))++t190).size≤9223372036854775807 then (Fa.l0 k x0 (x3++((t187++((rd_T43 x0 x4).f0))++t190)) (wrap64 (x4+1))) else (none)) else (none))) else (none))) else (none)) else (some (5,0,x3))
def Fa.f (k : Nat) (l0 : List (S43)) : Option (Int×Int×ByteArray):=Fa.l0 k l0 (⟨#[]⟩ : ByteArray) 0
theorem Fa.mono_l : ∀ k,(∀ y0 y1 y2,LeO (Fa.l0 k y0 y1 y2) (Fa.l0 (k+1) y0 y1 y2))
 | 0=>fun _ _ _ r h=>by simp [Fa.l0] at h
 | k+1=>by
  have ih0:=Fa.mono_l k;intro y0 y1 y2;unfold Fa.l0
  repeat' first|(with_reducible first|exact ih0 _ _ _|exact Fb.mono _ _ _|exact F07.mono _ _ _ _|exact zQ _|exact zN _|refine zP ?_ ?_|refine zO ?_ (fun _=>?_))|refine zP ?_ ?_|refine zO ?_ (fun _=>?_)
theorem Fa.mono : ∀ a0 k,LeO (Fa.f k a0) (Fa.f (k+1) a0):=by
 intro a0 k;have ih0:=Fa.mono_l k;unfold Fa.f
 repeat' first|(with_reducible first|exact ih0 _ _ _|exact Fb.mono _ _ _|exact F07.mono _ _ _ _|exact zQ _|exact zN _|refine zP ?_ ?_|refine zO ?_ (fun _=>?_))|refine zP ?_ ?_|refine zO ?_ (fun _=>?_)
def Fa.T5 : Bool×List (List Nat×List Nat):=(true,[([],[]),([],[]),([],[]),([1,2],[1,2]),([3],[3]),([4],[4]),([5],[5]),([6],[6]),([],[]),([],[]),([8,9],[8,9]),([10],[10]),([11],[11]),([7,12],[7,12]),([],[]),([],[]),([14,15],[14,15]),([16],[16]),([17],[17]),([18,7],[18]),([13,19],[13,19]),([0,20],[0,20]),([21,19,0,1,2,3,4,5,6,7,8,9,10,11,12,13,14,15,16,17,18,19,20,21],[0,21])])
def Fa.B5 : List Nat:=[0,0,0,6,14,30,62,126,0,0,768,1792,3840,8190,0,0,49152,114688,245760,508158,1048574,2097151,4194303]
theorem Fa.tab5 : rtab .any (opsOf Try.f22 5)=Fa.T5:=by kernel_rfl
theorem Fa.bits5 : waitsOk Fa.T5.2 Fa.B5=true:=by kernel_rfl
set_option maxHeartbeats 8000000 in
set_option maxRecDepth 100000 in
theorem Fa.calls (k : Nat) (A0 : Option Addr) (c0 : Nat) (l0 : List (S43)) (r1 : Int) (r2 : Int) (r3 : ByteArray) (w : World) (hr0 : Kd.C k43 w A0 l0.length l0) (hc0 : l0.length≤c0) (h : Fa.f k l0=some (r1,r2,r3)) :
  Calls Try.prog 22 #[.slice A0 l0.length c0] w fun e w' => e = .returned (.agg #[.int .i64 r1,.int .i64 r2,.string r3])∧Below w.heap.size w w':=by
 have hu25:=Try.underlying25;have HR0:=zh hr0;have HC0:=zh hc0;clear hr0 hc0;have HB:=zh (Below.refl w.heap.size w);have H : (Fa.l0 k l0 (⟨#[]⟩ : ByteArray) 0)=some (r1,r2,r3):=h;clear h;have H':=zh H;clear H
 go_enter Try.func22,Try.ntmps22
 go_wp2_with (first|((with_reducible refine zK (N:=2) rfl ?_);refine zI ?hg (N:=2) ?hd (cs:=#[.int .i64 0,.int .i64 0,.string (⟨#[]⟩ : ByteArray)]) (t:=25) ?hr ?_;(case hd=>rfl);(case hg=>rfl);(case hr=>go_simp <;> rfl);intro gb185 hg w2 hbox hb;have BK185:=zh (hbox);have hH_:=cH jG hb hg;have GW185:=zh hH_.1;have GE185:=GW185;replace HB:=zh hH_.2;clear hb hbox hg hH_))
 go_loopg [3,4] k (fun kq v3 v4 w' => ∃ (x3_1 : ByteArray) (x4_1 : Int),v3 = .string x3_1∧v4 = .int .i64 x4_1∧Aside0 (Fa.l0 kq l0 x3_1 x4_1=some (r1,r2,r3))∧Aside0 (kq≤k)∧Aside0 (w'.heap[gb185]? = some (.cells #[.int .i64 0,.int .i64 0,.string (⟨#[]⟩ : ByteArray)] 25 (0,0)))∧Aside0 (Below w.heap.size w w'))
 case atStart=>exact ⟨((⟨#[]⟩ : ByteArray)),(0),jC,jC,H',⟨ye _⟩,⟨jBd⟩,⟨jBJ⟩⟩
 case round =>
  clear H'
  try clear c2
  try clear p2
  obtain ⟨x3_1,x4_1,rfl,rfl,HA,HK1,BK185,HB⟩:=hrel
  cases gk with
  | zero=>exact absurd HA.out (by simp [Fa.l0])
  | succ k1 =>
   have H:=HA.out;clear HA;simp only [Fa.l0] at H
   by_cases c3 : x4_1<(l0.length : Int)
   ·
    rw [if_pos c3] at H
    have c3b0 : decide (x4_1<(l0.length : Int))=true:=decide_eq_true c3;clear c3
    by_cases c4 : 0≤x4_1
    ·
     rw [if_pos c4] at H
     have c4b0 : decide (0≤x4_1)=true:=decide_eq_true c4;clear c4;replace H:=zT.mp H;obtain ⟨t187,A50,H⟩:=H;have A5:=zh A50;clear A50
     by_cases c6 : t187.size+((rd_T43 l0 x4_1).f0).size≤9223372036854775807
     ·
      rw [if_pos c6] at H
      have c6b0:=eq_true c6;have c6b1 : decide (t187.size+((rd_T43 l0 x4_1).f0).size≤9223372036854775807)=true:=decide_eq_true c6
      try have c6b2 : (9223372036854775807<t187.size+((rd_T43 l0 x4_1).f0).size)=False:=eq_false (Nat.not_lt.2 c6)
      replace H:=zT.mp H;obtain ⟨t190,A70,H⟩:=H;have A7:=zh A70;clear A70
      by_cases c8 : (t187++((rd_T43 l0 x4_1).f0)).size+t190.size≤9223372036854775807
      ·
       rw [if_pos c8] at H
       have c8b0:=eq_true c8;have c8b1 : decide ((t187++((rd_T43 l0 x4_1).f0)).size+t190.size≤9223372036854775807)=true:=decide_eq_true c8
       try have c8b2 : (9223372036854775807<(t187++((rd_T43 l0 x4_1).f0)).size+t190.size)=False:=eq_false (Nat.not_lt.2 c8)
       (try have c8b4:=c8b2;simp only [ByteArray.size_append] at c8b4)
       by_cases c9 : x3_1.size+((t187++((rd_T43 l0 x4_1).f0))++t190).size≤9223372036854775807
       ·
        rw [if_pos c9] at H
        have c9b0:=eq_true c9;have c9b1 : decide (x3_1.size+((t187++((rd_T43 l0 x4_1).f0))++t190).size≤9223372036854775807)=true:=decide_eq_true c9
        try have c9b2 : (9223372036854775807<x3_1.size+((t187++((rd_T43 l0 x4_1).f0))++t190).size)=False:=eq_false (Nat.not_lt.2 c9)
        (try have c9b4:=c9b2;simp only [ByteArray.size_append] at c9b4);have H':=zh H;clear H
        try go_wp2
        replace BK185:=zh (zf BK185.out);replace HB:=zh (zc HB.out);have p186 : 0≤(x4_1 : Int):=zy jE;have q186 : x4_1<(l0.length : Int):=zy jE;obtain ⟨ad186,e186,hx186_0,hx186_1,hx186_2,hx186_3⟩:=at_T43 HR0.out x4_1 p186 q186;have hw186_3:=hx186_3;have hw186_2:=hx186_2;have hw186_1:=hx186_1;have hw186_0:=hx186_0
        cases e186
        replace hx186_0:=(HB.out.cell (zl w _ hx186_0)).trans hx186_0;replace hx186_1:=(HB.out.cell (zl w _ hx186_1)).trans hx186_1;replace hx186_2:=(HB.out.cell (zl w _ hx186_2)).trans hx186_2;replace hx186_3:=(HB.out.cell (zl w _ hx186_3)).trans hx186_3;replace p186:=eq_true p186;replace q186:=eq_true q186;have p188 : 0≤(x4_1 : Int):=zy jE;have q188 : x4_1<(l0.length : Int):=zy jE;obtain ⟨ad188,e188,hx188_0,hx188_1,hx188_2,hx188_3⟩:=at_T43 HR0.out x4_1 p188 q188;have hw188_3:=hx188_3;have hw188_2:=hx188_2;have hw188_1:=hx188_1;have hw188_0:=hx188_0;obtain rfl : ad186=ad188:=(by injection e188);replace hx188_0:=(HB.out.cell (zl w _ hx188_0)).trans hx188_0;replace hx188_1:=(HB.out.cell (zl w _ hx188_1)).trans hx188_1;replace hx188_2:=(HB.out.cell (zl w _ hx188_2)).trans hx188_2;replace hx188_3:=(HB.out.cell (zl w _ hx188_3)).trans hx188_3;replace p188:=eq_true p188;replace q188:=eq_true q188;have p189 : 0≤(x4_1 : Int):=zy jE;have q189 : x4_1<(l0.length : Int):=zy jE;obtain ⟨ad189,e189,hx189_0,hx189_1,hx189_2,hx189_3⟩:=at_T43 HR0.out x4_1 p189 q189;have hw189_3:=hx189_3;have hw189_2:=hx189_2;have hw189_1:=hx189_1;have hw189_0:=hx189_0;obtain rfl : ad186=ad189:=(by injection e189);replace hx189_0:=(HB.out.cell (zl w _ hx189_0)).trans hx189_0;replace hx189_1:=(HB.out.cell (zl w _ hx189_1)).trans hx189_1;replace hx189_2:=(HB.out.cell (zl w _ hx189_2)).trans hx189_2;replace hx189_3:=(HB.out.cell (zl w _ hx189_3)).trans hx189_3;replace p189:=eq_true p189;replace q189:=eq_true q189;refine start_ (n:=23) (S:=fun w' => w'.cell? (ad186.add ((x4_1).toNat*4))=some (.string ((rd_T43 l0 x4_1).f0))∧w'.cell? ⟨(ad186.add ((x4_1).toNat*4)).block,(ad186.add ((x4_1).toNat*4)).off+1,none⟩=some (.int .i64 ((rd_T43 l0 x4_1).f1.f0))∧w'.cell? ⟨(ad186.add ((x4_1).toNat*4)).block,(ad186.add ((x4_1).toNat*4)).off+2,none⟩=some (.int .i64 ((rd_T43 l0 x4_1).f1.f1))∧w'.cell? ⟨(ad186.add ((x4_1).toNat*4)).block,(ad186.add ((x4_1).toNat*4)).off+3,none⟩=some (.string ((rd_T43 l0 x4_1).f1.f2))∧w'.cell? (ad186.add ((x4_1).toNat*4))=some (.string ((rd_T43 l0 x4_1).f0))∧w'.cell? ⟨(ad186.add ((x4_1).toNat*4)).block,(ad186.add ((x4_1).toNat*4)).off+1,none⟩=some (.int .i64 ((rd_T43 l0 x4_1).f1.f0))∧w'.cell? ⟨(ad186.add ((x4_1).toNat*4)).block,(ad186.add ((x4_1).toNat*4)).off+2,none⟩=some (.int .i64 ((rd_T43 l0 x4_1).f1.f1))∧w'.cell? ⟨(ad186.add ((x4_1).toNat*4)).block,(ad186.add ((x4_1).toNat*4)).off+3,none⟩=some (.string ((rd_T43 l0 x4_1).f1.f2))∧w'.cell? (ad186.add ((x4_1).toNat*4))=some (.string ((rd_T43 l0 x4_1).f0))∧w'.cell? ⟨(ad186.add ((x4_1).toNat*4)).block,(ad186.add ((x4_1).toNat*4)).off+1,none⟩=some (.int .i64 ((rd_T43 l0 x4_1).f1.f0))∧w'.cell? ⟨(ad186.add ((x4_1).toNat*4)).block,(ad186.add ((x4_1).toNat*4)).off+2,none⟩=some (.int .i64 ((rd_T43 l0 x4_1).f1.f1))∧w'.cell? ⟨(ad186.add ((x4_1).toNat*4)).block,(ad186.add ((x4_1).toNat*4)).off+3,none⟩=some (.string ((rd_T43 l0 x4_1).f1.f2))) (ds:=[]) (bm_ 0 23) jA rfl rfl ⟨((HB.out.cell (zl w _ hw186_0)).trans hw186_0),((HB.out.cell (zl w _ hw186_1)).trans hw186_1),((HB.out.cell (zl w _ hw186_2)).trans hw186_2),((HB.out.cell (zl w _ hw186_3)).trans hw186_3),((HB.out.cell (zl w _ hw188_0)).trans hw188_0),((HB.out.cell (zl w _ hw188_1)).trans hw188_1),((HB.out.cell (zl w _ hw188_2)).trans hw188_2),((HB.out.cell (zl w _ hw188_3)).trans hw188_3),((HB.out.cell (zl w _ hw189_0)).trans hw189_0),((HB.out.cell (zl w _ hw189_1)).trans hw189_1),((HB.out.cell (zl w _ hw189_2)).trans hw189_2),((HB.out.cell (zl w _ hw189_3)).trans hw189_3)⟩ (fun hHeld=>?_);refine with_tabW Fa.tab5 Fa.bits5 (fun HT_ HW_=>?_);generalize wr.drew=w10 at BK185 HB hx186_0 hx186_1 hx186_2 hx186_3 hx188_0 hx188_1 hx188_2 hx188_3 hx189_0 hx189_1 hx189_2 hx189_3 hHeld ⊢;refine pure_ (i:=0) (N:=some 11) (v:=?_) (a':=?_) (bm_ 1 23) rfl rfl (any_of HT_.out jA) (fun _ _ _ h=>h) (Or.inl ⟨by rfl,?_⟩) ?_ ?_;rotate_left;exact jb;rotate_left;exact jc
        refine pure_ (i:=1) (N:=some 12) (v:=?_) (a':=?_) (bm_ 2 23) rfl rfl (any_of HT_.out jA) (fun _ _ _ h=>h) (Or.inl ⟨by rfl,?_⟩) ?_ ?_;rotate_left;exact jb;rotate_left;exact jc
        refine pure_ (i:=2) (N:=some 13) (v:=?_) (a':=?_) (bm_ 3 23) rfl rfl (any_of HT_.out jA) (fun _ _ _ h=>h) (Or.inl ⟨by rfl,?_⟩) ?_ ?_;rotate_left;exact jb;rotate_left;exact jc
        refine pure_ (i:=3) (N:=some 14) (v:=?_) (a':=?_) (bm_ 4 23) rfl rfl (any_of HT_.out jA) (fun _ _ _ h=>h) (Or.inl ⟨by rfl,?_⟩) ?_ ?_;rotate_left;exact jb;rotate_left;exact jc
        refine pure_ (i:=4) (N:=some 15) (v:=?_) (a':=?_) (bm_ 5 23) rfl rfl (any_of HT_.out jA) (fun _ _ _ h=>h) (Or.inl ⟨by rfl,?_⟩) ?_ ?_;rotate_left;exact jb;rotate_left;exact jc
        refine pure_ (i:=8) (N:=some 19) (v:=?_) (a':=?_) #[true,true,true,true,true,false,false,false,true,false,false,false,false,false,false,false,false,false,false,false,false,false,false] rfl rfl (any_of HT_.out jA) (fun _ _ _ h=>h) (Or.inl ⟨by rfl,?_⟩) ?_ ?_;rotate_left;exact jb;rotate_left;exact jc
        refine pure_ (i:=9) (N:=some 20) (v:=?_) (a':=?_) #[true,true,true,true,true,false,false,false,true,true,false,false,false,false,false,false,false,false,false,false,false,false,false] rfl rfl (any_of HT_.out jA) (fun _ _ _ h=>h) (Or.inl ⟨by rfl,?_⟩) ?_ ?_;rotate_left;exact jb;rotate_left;exact jc
        refine pure_ (i:=10) (N:=some 21) (v:=?_) (a':=?_) #[true,true,true,true,true,false,false,false,true,true,true,false,false,false,false,false,false,false,false,false,false,false,false] rfl rfl (any_of HT_.out jA) (fun _ _ _ h=>h) (Or.inl ⟨by rfl,?_⟩) ?_ ?_;rotate_left;exact jb;rotate_left;exact jc
        refine pure_ (i:=11) (N:=some 22) (v:=?_) (a':=?_) #[true,true,true,true,true,false,false,false,true,true,true,true,false,false,false,false,false,false,false,false,false,false,false] rfl rfl (any_of HT_.out jA) (fun _ _ _ h=>h) (Or.inl ⟨by rfl,?_⟩) ?_ ?_;rotate_left;exact jb;rotate_left;exact jc
        refine pure_ (i:=14) (N:=some 25) (v:=?_) (a':=?_) #[true,true,true,true,true,false,false,false,true,true,true,true,false,false,true,false,false,false,false,false,false,false,false] rfl rfl (any_of HT_.out jA) (fun _ _ _ h=>h) (Or.inl ⟨by rfl,?_⟩) ?_ ?_;rotate_left;exact jb;rotate_left;exact jc
        refine pure_ (i:=15) (N:=some 26) (v:=?_) (a':=?_) #[true,true,true,true,true,false,false,false,true,true,true,true,false,false,true,true,false,false,false,false,false,false,false] rfl rfl (any_of HT_.out jA) (fun _ _ _ h=>h) (Or.inl ⟨by rfl,?_⟩) ?_ ?_;rotate_left;exact jb;rotate_left;exact jc
        refine pure_ (i:=16) (N:=some 27) (v:=?_) (a':=?_) #[true,true,true,true,true,false,false,false,true,true,true,true,false,false,true,true,true,false,false,false,false,false,false] rfl rfl (any_of HT_.out jA) (fun _ _ _ h=>h) (Or.inl ⟨by rfl,?_⟩) ?_ ?_;rotate_left;exact jb;rotate_left;exact jc
        refine pure_ (i:=17) (N:=some 28) (v:=?_) (a':=?_) #[true,true,true,true,true,false,false,false,true,true,true,true,false,false,true,true,true,true,false,false,false,false,false] rfl rfl (any_of HT_.out jA) (fun _ _ _ h=>h) (Or.inl ⟨by rfl,?_⟩) ?_ ?_;rotate_left;exact jb;rotate_left;exact jc
        refine take_ (i:=5) (N:=some 16) (v:=?_) (a':=?_) #[true,true,true,true,true,true,false,false,true,true,true,true,false,false,true,true,true,true,false,false,false,false,false] rfl rfl (yo HT_.out HW_.out jA) (fun _ _ _ h=>h) (Or.inl ⟨by rfl,?_⟩) hHeld ?_ ?_;rotate_left
        ·
         rintro w' ⟨s0,s1,s2,s3,s4,s5,s6,s7,s8,s9,s10,s11⟩
         go_simp
         with_reducible rfl
        rotate_left
        exact jc
        refine pure_ (i:=6) (N:=some 17) (v:=?_) (a':=?_) #[true,true,true,true,true,true,true,false,true,true,true,true,false,false,true,true,true,true,false,false,false,false,false] rfl rfl (any_of HT_.out jA) (fun _ _ _ h=>h) (Or.inl ⟨by rfl,?_⟩) ?_ ?_;rotate_left;exact jb;rotate_left;exact jc
        refine take_ (i:=12) (N:=some 23) (v:=?_) (a':=?_) #[true,true,true,true,true,true,true,false,true,true,true,true,true,false,true,true,true,true,false,false,false,false,false] rfl rfl (yo HT_.out HW_.out jA) (fun _ _ _ h=>h) (Or.inl ⟨by rfl,?_⟩) hHeld ?_ ?_;rotate_left
        ·
         rintro w' ⟨s0,s1,s2,s3,s4,s5,s6,s7,s8,s9,s10,s11⟩
         go_simp
         with_reducible rfl
        rotate_left
        exact jc
        refine take_ (i:=18) (N:=some 29) (v:=?_) (a':=?_) #[true,true,true,true,true,true,true,false,true,true,true,true,true,false,true,true,true,true,true,false,false,false,false] rfl rfl (yo HT_.out HW_.out jA) (fun _ _ _ h=>h) (Or.inl ⟨by rfl,?_⟩) hHeld ?_ ?_;rotate_left
        ·
         rintro w' ⟨s0,s1,s2,s3,s4,s5,s6,s7,s8,s9,s10,s11⟩
         go_simp
         with_reducible rfl
        rotate_left
        exact jc
        refine one_ (i:=7) (N:=some 18) #[true,true,true,true,true,true,true,true,true,true,true,true,true,false,true,true,true,true,true,false,false,false,false] rfl rfl (one_of HT_.out jA) jB (fun K hK=>?_);refine goes_ Try.func41 jA rfl #[.int .i64 (((rd_T43 l0 x4_1).f0).size : Int),.int .i64 1] (by rfl) rfl rfl jD ?_
        with_reducible refine (Fb.calls k1  (((rd_T43 l0 x4_1).f0).size : Int) 1 t187 _ A5.out).mono ?_
        rintro e w11 ⟨rfl,hb⟩;refine ⟨_,rfl,?_⟩;replace BK185:=zh (cD BK185.out jBd hb);replace HB:=zh (zC jBJ hb);(try clear hb);(try clear hb2);(try clear hk);(try clear hi);refine hK.out _ _ ⟨((HB.out.cell (zl w _ hw186_0)).trans hw186_0),((HB.out.cell (zl w _ hw186_1)).trans hw186_1),((HB.out.cell (zl w _ hw186_2)).trans hw186_2),((HB.out.cell (zl w _ hw186_3)).trans hw186_3),((HB.out.cell (zl w _ hw188_0)).trans hw188_0),((HB.out.cell (zl w _ hw188_1)).trans hw188_1),((HB.out.cell (zl w _ hw188_2)).trans hw188_2),((HB.out.cell (zl w _ hw188_3)).trans hw188_3),((HB.out.cell (zl w _ hw189_0)).trans hw189_0),((HB.out.cell (zl w _ hw189_1)).trans hw189_1),((HB.out.cell (zl w _ hw189_2)).trans hw189_2),((HB.out.cell (zl w _ hw189_3)).trans hw189_3)⟩ (fun hHeld=>?_);clear hK K;refine norm_ (a':=?_) ?_ ?_;rotate_left
        ·
         show Act.put _ (some 18) _=_
         simp only [Act.put,zi,zj,zk,zG,zH]
         rfl
        refine pure_ (i:=13) (N:=some 24) (v:=?_) (a':=?_) (bm_ 19 23) rfl rfl (any_of HT_.out jA) (fun _ _ _ h=>h) (Or.inl ⟨by rfl,?_⟩) ?_ ?_;rotate_left;exact jb;rotate_left;exact jc
        refine one_ (i:=19) (N:=some 30) (bm_ 20 23) rfl rfl (one_of HT_.out jA) jB (fun K hK=>?_);refine goes_ Try.func42 jA rfl #[.agg #[.int .i64 ((rd_T43 l0 x4_1).f1.f0),.int .i64 ((rd_T43 l0 x4_1).f1.f1),.string ((rd_T43 l0 x4_1).f1.f2)]] (by rfl) rfl rfl jD ?_
        with_reducible refine (F07.calls k1  ((rd_T43 l0 x4_1).f1.f0) ((rd_T43 l0 x4_1).f1.f1) ((rd_T43 l0 x4_1).f1.f2) t190 _ A7.out).mono ?_
        rintro e w12 ⟨rfl,hb⟩;refine ⟨_,rfl,?_⟩;replace BK185:=zh (cD BK185.out jBd hb);replace HB:=zh (zC jBJ hb);(try clear hb);(try clear hb2);(try clear hk);(try clear hi);refine hK.out _ _ ⟨((HB.out.cell (zl w _ hw186_0)).trans hw186_0),((HB.out.cell (zl w _ hw186_1)).trans hw186_1),((HB.out.cell (zl w _ hw186_2)).trans hw186_2),((HB.out.cell (zl w _ hw186_3)).trans hw186_3),((HB.out.cell (zl w _ hw188_0)).trans hw188_0),((HB.out.cell (zl w _ hw188_1)).trans hw188_1),((HB.out.cell (zl w _ hw188_2)).trans hw188_2),((HB.out.cell (zl w _ hw188_3)).trans hw188_3),((HB.out.cell (zl w _ hw189_0)).trans hw189_0),((HB.out.cell (zl w _ hw189_1)).trans hw189_1),((HB.out.cell (zl w _ hw189_2)).trans hw189_2),((HB.out.cell (zl w _ hw189_3)).trans hw189_3)⟩ (fun hHeld=>?_);clear hK K;refine norm_ (a':=?_) ?_ ?_;rotate_left
        ·
         show Act.put _ (some 30) _=_
         simp only [Act.put,zi,zj,zk,zG,zH]
         rfl
        refine pure_ (i:=20) (N:=some 31) (v:=?_) (a':=?_) (bm_ 21 23) rfl rfl (any_of HT_.out jA) (fun _ _ _ h=>h) (Or.inl ⟨by rfl,?_⟩) ?_ ?_;rotate_left;exact jb;rotate_left;exact jc
        refine pure_ (i:=21) (N:=some 32) (v:=?_) (a':=?_) (bm_ 22 23) rfl rfl (any_of HT_.out jA) (fun _ _ _ h=>h) (Or.inl ⟨by rfl,?_⟩) ?_ ?_;rotate_left;exact jb;rotate_left;exact jc
        refine pure_ (i:=22) (N:=some 3) (v:=?_) (a':=?_) (bm_ 23 23) rfl rfl (any_of HT_.out jA) (fun _ _ _ h=>h) (Or.inl ⟨by rfl,?_⟩) ?_ ?_;rotate_left;exact jb;rotate_left;exact jc
        refine done_ (done_of HT_.out jA) ?_
        try go_wp2
        go_roundg k1
        case measure=>have:=HK1.out;omega
        case rel=>exact ⟨(x3_1++((t187++((rd_T43 l0 x4_1).f0))++t190)),(wrap64 (x4_1+1)),jC,jC,H',⟨jZ⟩,⟨jBd⟩,⟨jBJ⟩⟩
       rw [if_neg c9] at H;exact absurd H (by simp)
      rw [if_neg c8] at H;exact absurd H (by simp)
     rw [if_neg c6] at H;exact absurd H (by simp)
    rw [if_neg c4] at H;exact absurd H (by simp)
   rw [if_neg c3] at H;have c3b0 : decide (x4_1<(l0.length : Int))=false:=decide_eq_false c3;clear c3;simp only [Option.some.injEq,Prod.mk.injEq] at H;obtain ⟨rfl,rfl,rfl⟩:=H;obtain ⟨hcz13_0,hcz13_1,hcz13_2,hfz13_0,hfz13_1,hfz13_2⟩:=cB3 BK185.out
   go_wp2
   refine bodyPost_ret (results_cell_row rfl _ _ gb185 25 #[.int .i64 5,.int .i64 0,.string x3_1] (0,0) _ rfl (by (with_reducible repeat first|apply ze|apply zf|apply zg);refine zL (cs:=#[.int .i64 5,.int .i64 0,.string (⟨#[]⟩ : ByteArray)]) ?_ 2 _ rfl;(with_reducible repeat first|apply ze|apply zf|apply zg);refine zL (cs:=#[.int .i64 5,.int .i64 0,.string (⟨#[]⟩ : ByteArray)]) ?_ 1 _ rfl;(with_reducible repeat first|apply ze|apply zf|apply zg);refine zL (cs:=#[.int .i64 0,.int .i64 0,.string (⟨#[]⟩ : ByteArray)]) ?_ 0 _ rfl;(with_reducible repeat first|apply ze|apply zf|apply zg);exact BK185.out) Try.underlying25 rfl jA) rfl ?_;exact ⟨jF,jBJ⟩


def Fd.f (s0_0 : List Int) (s0_1 : Int) (s0_2 : Int) : Option (Int×Int×Int):=if (wrap64 (s0_1+1))≤(s0_0.length : Int) then (if 0≤(wrap64 ((wrap64 (s0_1+1)) - 1)) then (if (wrap64 ((wrap64 (s0_1+1)) - 1))<(s0_0.length : Int) then (some (wrap64 (rd s0_0 (wrap64 ((wrap64 (s0_1+1)) - 1))),wrap64 (s0_1+1),Int.tmod (wrap64 ((wrap64 ((wrap64 (s0_2*31))+(wrap64 (rd s0_0 (wrap64 ((wrap64 (s0_1+1)) - 1))))))+7)) 2147483648)) else (none)) else (none)) else (if (wrap64 (s0_1+1)) > 3000 then (some (0,wrap64 (s0_1+1),s0_2)) else (some (Int.tmod (wrap64 (Int.tdiv (Int.tmod (wrap64 ((wrap64 (s0_2*1103515245))+12345)) 2147483648) 65536)) 256,wrap64 (s0_1+1),Int.tmod (wrap64 ((wrap64 (s0_2*1103515245))+12345)) 2147483648)))
def Fd.T2 : Bool×List (List Nat×List Nat):=(true,[([],[]),([0],[0]),([1],[1]),([2],[2]),([],[]),([4],[4]),([5],[5]),([6],[6]),([7],[7]),([3,8],[3,8])])
def Fd.B2 : List Nat:=[0,1,3,7,0,16,48,112,240,511]
theorem Fd.tab2 : rtab .any (opsOf Try.f76 2)=Fd.T2:=by kernel_rfl
theorem Fd.bits2 : waitsOk Fd.T2.2 Fd.B2=true:=by kernel_rfl
def Fd.T3 : Bool×List (List Nat×List Nat):=(true,[([],[]),([],[]),([1],[1]),([2],[2]),([3],[3]),([4],[4]),([],[]),([6],[6]),([7],[7]),([8],[8]),([],[]),([10],[10]),([11],[11]),([12],[12]),([13],[13]),([9,14],[9,14]),([15],[15]),([16],[16]),([5,17],[5,17]),([18],[18]),([19],[19]),([0,0,1,2,3,4,5,6,7,8,9,10,11,12,13,14,15,16,17,18,19,20],[0]),([21,0,1,2,3,4,5,6,7,8,9,10,11,12,13,14,15,16,17,18,19,20],[21]),([22,20,0,1,2,3,4,5,6,7,8,9,10,11,12,13,14,15,16,17,18,19,20],[20,22])])
def Fd.B3 : List Nat:=[0,0,2,6,14,30,0,64,192,448,0,1024,3072,7168,15360,32704,65472,131008,262142,524286,1048574,2097151,4194303,8388607]
theorem Fd.tab3 : rtab .any (opsOf Try.f76 3)=Fd.T3:=by kernel_rfl
theorem Fd.bits3 : waitsOk Fd.T3.2 Fd.B3=true:=by kernel_rfl
def Fd.T4 : Bool×List (List Nat×List Nat):=(true,[([],[]),([0],[0]),([1],[1]),([2],[2]),([],[]),([4],[4]),([5],[5]),([6],[6]),([7],[7]),([3,8],[3,8]),([9],[9]),([10],[10]),([11,0,1,2,3,4,5,6,7,8,9,10,11],[11])])
def Fd.B4 : List Nat:=[0,1,3,7,0,16,48,112,240,511,1023,2047,4095]
theorem Fd.tab4 : rtab .any (opsOf Try.f76 4)=Fd.T4:=by kernel_rfl
theorem Fd.bits4 : waitsOk Fd.T4.2 Fd.B4=true:=by kernel_rfl
set_option maxHeartbeats 8000000 in
set_option maxRecDepth 100000 in
theorem Fd.calls (g : Nat) (s0_0 : List Int) (s0_1 : Int) (s0_2 : Int) (r1 : Int) (r2 : Int) (r3 : Int) (w0 w : World) (hI : IsS81 w0 w g s0_0 s0_1 s0_2) (hB : Below w0.heap.size w0 w) (h : Fd.f s0_0 s0_1 s0_2=some (r1,r2,r3)) :
  Calls Try.prog 76 #[.pointer (some ⟨g,0,none⟩)] w fun e w' => e = .returned (.int .i64 r1)∧IsS81 w0 w' g s0_0 r2 r3∧Below w0.heap.size w0 w' ∧ KeepBut w w' g none:=by
 have HI0:=zh hI;have HK:=zh (KeepBut.refl w g none);have HL:=zh hB.size;clear hI;have HW0:=zh hB.size;have HB:=zh hB;clear hB;have H : (if (wrap64 (s0_1+1))≤(s0_0.length : Int) then (if 0≤(wrap64 ((wrap64 (s0_1+1)) - 1)) then (if (wrap64 ((wrap64 (s0_1+1)) - 1))<(s0_0.length : Int) then (some (wrap64 (rd s0_0 (wrap64 ((wrap64 (s0_1+1)) - 1))),wrap64 (s0_1+1),Int.tmod (wrap64 ((wrap64 ((wrap64 (s0_2*31))+(wrap64 (rd s0_0 (wrap64 ((wrap64 (s0_1+1)) - 1))))))+7)) 2147483648)) else (none)) else (none)) else (if (wrap64 (s0_1+1)) > 3000 then (some (0,wrap64 (s0_1+1),s0_2)) else (some (Int.tmod (wrap64 (Int.tdiv (Int.tmod (wrap64 ((wrap64 (s0_2*1103515245))+12345)) 2147483648) 65536)) 256,wrap64 (s0_1+1),Int.tmod (wrap64 ((wrap64 (s0_2*1103515245))+12345)) 2147483648))))=some (r1,r2,r3):=h;clear h
 by_cases c2 : (wrap64 (s0_1+1))≤(s0_0.length : Int)
 ·
  rw [if_pos c2] at H
  have c2b0 : decide ((wrap64 (s0_1+1))≤(s0_0.length : Int))=true:=decide_eq_true c2;clear c2;obtain ⟨ji3,hji3⟩ : ∃ j_ : Int,(wrap64 ((wrap64 (s0_1+1)) - 1))=j_:=⟨_,rfl⟩;replace H : (if 0≤(ji3) then (if (ji3)<(s0_0.length : Int) then (some (wrap64 (rd s0_0 (ji3)),wrap64 (s0_1+1),Int.tmod (wrap64 ((wrap64 ((wrap64 (s0_2*31))+(wrap64 (rd s0_0 (ji3)))))+7)) 2147483648)) else (none)) else (none))=some (r1,r2,r3):=by first|(rw [hji3] at H;exact H)|(simp only [hji3] at H ⊢;exact H)
  have hji3w : (IntKind.i64.wrap ((wrap64 (s0_1+1)) - 1))=ji3:=(zG _).trans hji3
  by_cases c4 : 0≤(ji3)
  ·
   rw [if_pos c4] at H
   have c4b0 : decide (0≤(ji3))=true:=decide_eq_true c4;clear c4
   by_cases c5 : (ji3)<(s0_0.length : Int)
   ·
    rw [if_pos c5] at H
    have c5b0 : decide ((ji3)<(s0_0.length : Int))=true:=decide_eq_true c5;clear c5;simp only [Option.some.injEq,Prod.mk.injEq] at H;obtain ⟨rfl,rfl,rfl⟩:=H;obtain ⟨ASz6_0,cSz6_0,HGz6,hgz6,HSz6_0⟩:=HI0.out;have hcz6_0:=cellS81_0 HGz6;have hcz6_1:=cellS81_1 HGz6;have hcz6_2:=cellS81_2 HGz6;have hfz6_1:=zA HGz6 1;have hfz6_2:=zA HGz6 2;clear HGz6 hgz6
    go_enter Try.func76,Try.ntmps76
    try go_wp2
    have n0_ : Aside0 (IsS81 w0 (w.setCell ⟨g,1,none⟩ (.int .i64 (wrap64 (s0_1+1)))) g s0_0 (wrap64 (s0_1+1)) s0_2):=⟨jv⟩;have n1_ : Aside0 (KeepBut w (w.setCell ⟨g,1,none⟩ (.int .i64 (wrap64 (s0_1+1)))) g none):=⟨jT⟩;have n2_ : Aside0 (Below w0.heap.size w0 (w.setCell ⟨g,1,none⟩ (.int .i64 (wrap64 (s0_1+1))))):=⟨jw⟩;(try clear HI0);(try clear HK);(try clear HB);generalize (w.setCell ⟨g,1,none⟩ (.int .i64 (wrap64 (s0_1+1))))=w7 at n0_ n1_ n2_ ⊢;have HI0:=n0_;have HK:=n1_;have HB:=n2_;clear n0_ n1_ n2_;replace HI0:=zh (IsS81.drew HI0.out);replace HK:=zh (yx HK.out);replace HB:=zh (zc HB.out);obtain ⟨ASz9_0,cSz9_0,HGz9,hgz9,HSz9_0⟩:=HI0.out;have hcz9_0:=cellS81_0 HGz9;have hcz9_1:=cellS81_1 HGz9;have hcz9_2:=cellS81_2 HGz9;have hfz9_1:=zA HGz9 1;have hfz9_2:=zA HGz9 2;clear HGz9 hgz9;refine start_ (n:=10) (S:=fun w' => w'.cell? ⟨g,0,none⟩=some (.slice ASz9_0 s0_0.length cSz9_0)∧w'.cell? ⟨g,1,none⟩=some (.int .i64 (wrap64 (s0_1+1)))∧w'.cell? ⟨g,2,none⟩=some (.int .i64 s0_2)) (ds:=[]) (bm_ 0 10) jA rfl rfl ⟨hcz9_0,hcz9_1,hcz9_2⟩ (fun hHeld=>?_);refine with_tabW Fd.tab2 Fd.bits2 (fun HT_ HW_=>?_);generalize w7.drew=w8 at HI0 HK HB hHeld ⊢;refine pure_ (i:=0) (N:=some 10) (v:=?_) (a':=?_) (bm_ 1 10) rfl rfl (any_of HT_.out jA) (fun _ _ _ h=>h) (Or.inl ⟨by rfl,?_⟩) ?_ ?_;rotate_left;exact jb;rotate_left;exact jc
    refine pure_ (i:=1) (N:=some 11) (v:=?_) (a':=?_) (bm_ 2 10) rfl rfl (any_of HT_.out jA) (fun _ _ _ h=>h) (Or.inl ⟨by rfl,?_⟩) ?_ ?_;rotate_left;exact jb;rotate_left;exact jc
    refine pure_ (i:=2) (N:=some 12) (v:=?_) (a':=?_) (bm_ 3 10) rfl rfl (any_of HT_.out jA) (fun _ _ _ h=>h) (Or.inl ⟨by rfl,?_⟩) ?_ ?_;rotate_left;exact jb;rotate_left;exact jc
    refine pure_ (i:=4) (N:=some 14) (v:=?_) (a':=?_) #[true,true,true,false,true,false,false,false,false,false] rfl rfl (any_of HT_.out jA) (fun _ _ _ h=>h) (Or.inl ⟨by rfl,?_⟩) ?_ ?_;rotate_left;exact jb;rotate_left;exact jc
    refine pure_ (i:=5) (N:=some 15) (v:=?_) (a':=?_) #[true,true,true,false,true,true,false,false,false,false] rfl rfl (any_of HT_.out jA) (fun _ _ _ h=>h) (Or.inl ⟨by rfl,?_⟩) ?_ ?_;rotate_left;exact jb;rotate_left;exact jc
    refine pure_ (i:=6) (N:=some 16) (v:=?_) (a':=?_) #[true,true,true,false,true,true,true,false,false,false] rfl rfl (any_of HT_.out jA) (fun _ _ _ h=>h) (Or.inl ⟨by rfl,?_⟩) ?_ ?_;rotate_left;exact jb;rotate_left;exact jc
    refine take_ (i:=3) (N:=some 13) (v:=?_) (a':=?_) (bm_ 7 10) rfl rfl (yo HT_.out HW_.out jA) (fun _ _ _ h=>h) (Or.inl ⟨by rfl,?_⟩) hHeld ?_ ?_;rotate_left
    ·
     rintro w' ⟨s0,s1,s2⟩
     go_simp
     with_reducible rfl
    rotate_left
    exact jc
    refine take_ (i:=7) (N:=some 17) (v:=?_) (a':=?_) (bm_ 8 10) rfl rfl (yo HT_.out HW_.out jA) (fun _ _ _ h=>h) (Or.inl ⟨by rfl,?_⟩) hHeld ?_ ?_;rotate_left
    ·
     rintro w' ⟨s0,s1,s2⟩
     go_simp
     with_reducible rfl
    rotate_left
    exact jc
    refine pure_ (i:=8) (N:=some 18) (v:=?_) (a':=?_) (bm_ 9 10) rfl rfl (any_of HT_.out jA) (fun _ _ _ h=>h) (Or.inl ⟨by rfl,?_⟩) ?_ ?_;rotate_left;exact jb;rotate_left;exact jc
    refine pure_ (i:=9) (N:=some 19) (v:=?_) (a':=?_) (bm_ 10 10) rfl rfl (any_of HT_.out jA) (fun _ _ _ h=>h) (Or.inl ⟨by rfl,?_⟩) ?_ ?_;rotate_left;exact jb;rotate_left;exact jc
    refine done_ (done_of HT_.out jA) ?_
    try go_wp2
    replace HI0:=zh (IsS81.drew HI0.out);replace HK:=zh (yx HK.out);replace HB:=zh (zc HB.out);obtain ⟨ASz11_0,cSz11_0,HGz11,hgz11,HSz11_0⟩:=HI0.out;have hcz11_0:=cellS81_0 HGz11;have hcz11_1:=cellS81_1 HGz11;have hcz11_2:=cellS81_2 HGz11;have hfz11_1:=zA HGz11 1;have hfz11_2:=zA HGz11 2;clear HGz11 hgz11;have p458 : 0≤((ji3) : Int):=zy jE;have q458 : (ji3)<(s0_0.length : Int):=zy jE;obtain ⟨ad458,e458,hx458_0⟩:=Kd.at_int HSz11_0 (ji3) p458 q458;have hw458_0:=hx458_0
    cases e458
    replace hx458_0:=pw_cell_below HB.out hx458_0;replace p458:=eq_true p458;replace q458:=eq_true q458;refine start_ (n:=24) (S:=fun w' => w'.cell? ⟨g,0,none⟩=some (.slice (some ad458) s0_0.length cSz11_0)∧w'.cell? ⟨g,1,none⟩=some (.int .i64 (wrap64 (s0_1+1)))∧w'.cell? ⟨g,2,none⟩=some (.int .i64 s0_2)∧w'.cell? (ad458.add ((ji3)).toNat)=some (.int .u8 (rd s0_0 (ji3)))) (ds:=[23]) (bm_ 0 24) jA rfl rfl ⟨hcz11_0,hcz11_1,hcz11_2,((HB.out.cell (zl w0 _ hw458_0)).trans hw458_0)⟩ (fun hHeld=>?_);refine with_tabW Fd.tab3 Fd.bits3 (fun HT_ HW_=>?_);generalize w8.drew=w10 at HI0 HK HB hx458_0 hHeld ⊢;refine pure_ (i:=0) (N:=some 20) (v:=?_) (a':=?_) (bm_ 1 24) rfl rfl (any_of HT_.out jA) (fun _ _ _ h=>h) (Or.inl ⟨by rfl,?_⟩) ?_ ?_;rotate_left;exact jb;rotate_left;exact jc
    refine pure_ (i:=1) (N:=some 21) (v:=?_) (a':=?_) (bm_ 2 24) rfl rfl (any_of HT_.out jA) (fun _ _ _ h=>h) (Or.inl ⟨by rfl,?_⟩) ?_ ?_;rotate_left;exact jb;rotate_left;exact jc
    refine pure_ (i:=2) (N:=some 22) (v:=?_) (a':=?_) (bm_ 3 24) rfl rfl (any_of HT_.out jA) (fun _ _ _ h=>h) (Or.inl ⟨by rfl,?_⟩) ?_ ?_;rotate_left;exact jb;rotate_left;exact jc
    refine pure_ (i:=3) (N:=some 23) (v:=?_) (a':=?_) (bm_ 4 24) rfl rfl (any_of HT_.out jA) (fun _ _ _ h=>h) (Or.inl ⟨by rfl,?_⟩) ?_ ?_;rotate_left;exact jb;rotate_left;exact jc
    refine pure_ (i:=6) (N:=some 26) (v:=?_) (a':=?_) #[true,true,true,true,false,false,true,false,false,false,false,false,false,false,false,false,false,false,false,false,false,false,false,false] rfl rfl (any_of HT_.out jA) (fun _ _ _ h=>h) (Or.inl ⟨by rfl,?_⟩) ?_ ?_;rotate_left;exact jb;rotate_left;exact jc
    refine pure_ (i:=7) (N:=some 27) (v:=?_) (a':=?_) #[true,true,true,true,false,false,true,true,false,false,false,false,false,false,false,false,false,false,false,false,false,false,false,false] rfl rfl (any_of HT_.out jA) (fun _ _ _ h=>h) (Or.inl ⟨by rfl,?_⟩) ?_ ?_;rotate_left;exact jb;rotate_left;exact jc
    refine pure_ (i:=8) (N:=some 28) (v:=?_) (a':=?_) #[true,true,true,true,false,false,true,true,true,false,false,false,false,false,false,false,false,false,false,false,false,false,false,false] rfl rfl (any_of HT_.out jA) (fun _ _ _ h=>h) (Or.inl ⟨by rfl,?_⟩) ?_ ?_;rotate_left;exact jb;rotate_left;exact jc
    refine pure_ (i:=10) (N:=some 30) (v:=?_) (a':=?_) #[true,true,true,true,false,false,true,true,true,false,true,false,false,false,false,false,false,false,false,false,false,false,false,false] rfl rfl (any_of HT_.out jA) (fun _ _ _ h=>h) (Or.inl ⟨by rfl,?_⟩) ?_ ?_;rotate_left;exact jb;rotate_left;exact jc
    refine pure_ (i:=11) (N:=some 31) (v:=?_) (a':=?_) #[true,true,true,true,false,false,true,true,true,false,true,true,false,false,false,false,false,false,false,false,false,false,false,false] rfl rfl (any_of HT_.out jA) (fun _ _ _ h=>h) (Or.inl ⟨by rfl,?_⟩) ?_ ?_;rotate_left;exact jb;rotate_left;exact jc
    refine pure_ (i:=12) (N:=some 32) (v:=?_) (a':=?_) #[true,true,true,true,false,false,true,true,true,false,true,true,true,false,false,false,false,false,false,false,false,false,false,false] rfl rfl (any_of HT_.out jA) (fun _ _ _ h=>h) (Or.inl ⟨by rfl,?_⟩) ?_ ?_;rotate_left;exact jb;rotate_left;exact jc
    refine take_ (i:=4) (N:=some 24) (v:=?_) (a':=?_) #[true,true,true,true,true,false,true,true,true,false,true,true,true,false,false,false,false,false,false,false,false,false,false,false] rfl rfl (yo HT_.out HW_.out jA) (fun _ _ _ h=>h) (Or.inl ⟨by rfl,?_⟩) hHeld ?_ ?_;rotate_left
    ·
     rintro w' ⟨s0,s1,s2,s3⟩
     go_simp
     with_reducible rfl
    rotate_left
    exact jc
    refine pure_ (i:=5) (N:=some 25) (v:=?_) (a':=?_) #[true,true,true,true,true,true,true,true,true,false,true,true,true,false,false,false,false,false,false,false,false,false,false,false] rfl rfl (any_of HT_.out jA) (fun _ _ _ h=>h) (Or.inl ⟨by rfl,?_⟩) ?_ ?_;rotate_left;exact jb;rotate_left;exact jc
    refine take_ (i:=9) (N:=some 29) (v:=?_) (a':=?_) (bm_ 13 24) rfl rfl (yo HT_.out HW_.out jA) (fun _ _ _ h=>h) (Or.inl ⟨by rfl,?_⟩) hHeld ?_ ?_;rotate_left
    ·
     rintro w' ⟨s0,s1,s2,s3⟩
     go_simp
     with_reducible rfl
    rotate_left
    exact jc
    refine take_ (i:=13) (N:=some 33) (v:=?_) (a':=?_) (bm_ 14 24) rfl rfl (yo HT_.out HW_.out jA) (fun _ _ _ h=>h) (Or.inl ⟨by rfl,?_⟩) hHeld ?_ ?_;rotate_left
    ·
     rintro w' ⟨s0,s1,s2,s3⟩
     go_simp
     with_reducible rfl
    rotate_left
    exact jc
    refine pure_ (i:=14) (N:=some 34) (v:=?_) (a':=?_) (bm_ 15 24) rfl rfl (any_of HT_.out jA) (fun _ _ _ h=>h) (Or.inl ⟨by rfl,?_⟩) ?_ ?_;rotate_left;exact jb;rotate_left;exact jc
    refine pure_ (i:=15) (N:=some 35) (v:=?_) (a':=?_) (bm_ 16 24) rfl rfl (any_of HT_.out jA) (fun _ _ _ h=>h) (Or.inl ⟨by rfl,?_⟩) ?_ ?_;rotate_left;exact jb;rotate_left;exact jc
    refine take_ (i:=16) (N:=some 36) (v:=?_) (a':=?_) (bm_ 17 24) rfl rfl (yo HT_.out HW_.out jA) (fun _ _ _ h=>h) (Or.inl ⟨by rfl,?_⟩) hHeld ?_ ?_;rotate_left
    ·
     rintro w' ⟨s0,s1,s2,s3⟩
     go_simp
     with_reducible rfl
    rotate_left
    exact jc
    refine pure_ (i:=17) (N:=some 37) (v:=?_) (a':=?_) (bm_ 18 24) rfl rfl (any_of HT_.out jA) (fun _ _ _ h=>h) (Or.inl ⟨by rfl,?_⟩) ?_ ?_;rotate_left;exact jb;rotate_left;exact jc
    refine pure_ (i:=18) (N:=some 38) (v:=?_) (a':=?_) (bm_ 19 24) rfl rfl (any_of HT_.out jA) (fun _ _ _ h=>h) (Or.inl ⟨by rfl,?_⟩) ?_ ?_;rotate_left;exact jb;rotate_left;exact jc
    refine pure_ (i:=19) (N:=some 39) (v:=?_) (a':=?_) (bm_ 20 24) rfl rfl (any_of HT_.out jA) (fun _ _ _ h=>h) (Or.inl ⟨by rfl,?_⟩) ?_ ?_;rotate_left;exact jb;rotate_left;exact jc
    refine pure_ (i:=20) (N:=some 40) (v:=?_) (a':=?_) (bm_ 21 24) rfl rfl (any_of HT_.out jA) (fun _ _ _ h=>h) (Or.inl ⟨by rfl,?_⟩) ?_ ?_;rotate_left;exact jb;rotate_left;exact jc
    refine pure_ (i:=21) (N:=some 41) (v:=?_) (a':=?_) (bm_ 22 24) rfl rfl (any_of HT_.out jA) (fun _ _ _ h=>h) (Or.inl ⟨by rfl,?_⟩) ?_ ?_;rotate_left;exact jb;rotate_left;exact jc
    refine pure_ (i:=22) (N:=some 42) (v:=?_) (a':=?_) (bm_ 23 24) rfl rfl (any_of HT_.out jA) (fun _ _ _ h=>h) (Or.inl ⟨by rfl,?_⟩) ?_ ?_;rotate_left;exact jb;rotate_left;exact jc
    refine last_ (i:=23) (N:=none) (bm_ 24 24) rfl rfl (one_of HT_.out jA) jB (fun K hK=>?_);obtain ⟨ASs12_0,cSs12_0,HGs12,hgs12,HSs12_0⟩:=HI0.out;have hcs12:=cellS81_2 HGs12;have hfs12:=zA HGs12 2;refine skip_ (w1:=?_) (by rfl) rfl ?_ ?_;rotate_left
    ·
     go_simp
     rfl
    refine hK.out _ _ ?_;clear hK K;refine done_ (done_of HT_.out jA) ?_
    try go_wp2
    have n0_ : Aside0 (IsS81 w0 (w10.setCell ⟨g,2,none⟩ (.int .i64 (Int.tmod (wrap64 ((wrap64 ((wrap64 (s0_2*31))+(wrap64 (rd s0_0 (ji3)))))+7)) 2147483648))) g s0_0 (wrap64 (s0_1+1)) (Int.tmod (wrap64 ((wrap64 ((wrap64 (s0_2*31))+(wrap64 (rd s0_0 (ji3)))))+7)) 2147483648)):=⟨jv⟩;have n1_ : Aside0 (KeepBut w (w10.setCell ⟨g,2,none⟩ (.int .i64 (Int.tmod (wrap64 ((wrap64 ((wrap64 (s0_2*31))+(wrap64 (rd s0_0 (ji3)))))+7)) 2147483648))) g none):=⟨jT⟩;have n2_ : Aside0 (Below w0.heap.size w0 (w10.setCell ⟨g,2,none⟩ (.int .i64 (Int.tmod (wrap64 ((wrap64 ((wrap64 (s0_2*31))+(wrap64 (rd s0_0 (ji3)))))+7)) 2147483648)))):=⟨jw⟩;(try clear HI0);(try clear HK);(try clear HB);generalize (w10.setCell ⟨g,2,none⟩ (.int .i64 (Int.tmod (wrap64 ((wrap64 ((wrap64 (s0_2*31))+(wrap64 (rd s0_0 (ji3)))))+7)) 2147483648)))=w13 at n0_ n1_ n2_ ⊢;have HI0:=n0_;have HK:=n1_;have HB:=n2_;clear n0_ n1_ n2_;replace HI0:=zh (IsS81.drew HI0.out);replace HK:=zh (yx HK.out);replace HB:=zh (zc HB.out);obtain ⟨ASz15_0,cSz15_0,HGz15,hgz15,HSz15_0⟩:=HI0.out;have hcz15_0:=cellS81_0 HGz15;have hcz15_1:=cellS81_1 HGz15;have hcz15_2:=cellS81_2 HGz15;have hfz15_1:=zA HGz15 1;have hfz15_2:=zA HGz15 2;clear HGz15 hgz15;have p459 : 0≤((ji3) : Int):=zy jE;have q459 : (ji3)<(s0_0.length : Int):=zy jE;obtain ⟨ad459,e459,hx459_0⟩:=Kd.at_int HSz15_0 (ji3) p459 q459;have hw459_0:=hx459_0
    cases e459
    replace hx459_0:=pw_cell_below HB.out hx459_0;replace p459:=eq_true p459;replace q459:=eq_true q459;refine start_ (n:=13) (S:=fun w' => w'.cell? ⟨g,0,none⟩=some (.slice (some ad459) s0_0.length cSz15_0)∧w'.cell? ⟨g,1,none⟩=some (.int .i64 (wrap64 (s0_1+1)))∧w'.cell? ⟨g,2,none⟩=some (.int .i64 (Int.tmod (wrap64 ((wrap64 ((wrap64 (s0_2*31))+(wrap64 (rd s0_0 (ji3)))))+7)) 2147483648))∧w'.cell? (ad459.add ((ji3)).toNat)=some (.int .u8 (rd s0_0 (ji3)))) (ds:=[]) (bm_ 0 13) jA rfl rfl ⟨hcz15_0,hcz15_1,hcz15_2,((HB.out.cell (zl w0 _ hw459_0)).trans hw459_0)⟩ (fun hHeld=>?_);refine with_tabW Fd.tab4 Fd.bits4 (fun HT_ HW_=>?_);generalize w13.drew=w14 at HI0 HK HB hx459_0 hHeld ⊢;refine pure_ (i:=0) (N:=some 43) (v:=?_) (a':=?_) (bm_ 1 13) rfl rfl (any_of HT_.out jA) (fun _ _ _ h=>h) (Or.inl ⟨by rfl,?_⟩) ?_ ?_;rotate_left;exact jb;rotate_left;exact jc
    refine pure_ (i:=1) (N:=some 44) (v:=?_) (a':=?_) (bm_ 2 13) rfl rfl (any_of HT_.out jA) (fun _ _ _ h=>h) (Or.inl ⟨by rfl,?_⟩) ?_ ?_;rotate_left;exact jb;rotate_left;exact jc
    refine pure_ (i:=2) (N:=some 45) (v:=?_) (a':=?_) (bm_ 3 13) rfl rfl (any_of HT_.out jA) (fun _ _ _ h=>h) (Or.inl ⟨by rfl,?_⟩) ?_ ?_;rotate_left;exact jb;rotate_left;exact jc
    refine pure_ (i:=4) (N:=some 47) (v:=?_) (a':=?_) #[true,true,true,false,true,false,false,false,false,false,false,false,false] rfl rfl (any_of HT_.out jA) (fun _ _ _ h=>h) (Or.inl ⟨by rfl,?_⟩) ?_ ?_;rotate_left;exact jb;rotate_left;exact jc
    refine pure_ (i:=5) (N:=some 48) (v:=?_) (a':=?_) #[true,true,true,false,true,true,false,false,false,false,false,false,false] rfl rfl (any_of HT_.out jA) (fun _ _ _ h=>h) (Or.inl ⟨by rfl,?_⟩) ?_ ?_;rotate_left;exact jb;rotate_left;exact jc
    refine pure_ (i:=6) (N:=some 49) (v:=?_) (a':=?_) #[true,true,true,false,true,true,true,false,false,false,false,false,false] rfl rfl (any_of HT_.out jA) (fun _ _ _ h=>h) (Or.inl ⟨by rfl,?_⟩) ?_ ?_;rotate_left;exact jb;rotate_left;exact jc
    refine take_ (i:=3) (N:=some 46) (v:=?_) (a':=?_) (bm_ 7 13) rfl rfl (yo HT_.out HW_.out jA) (fun _ _ _ h=>h) (Or.inl ⟨by rfl,?_⟩) hHeld ?_ ?_;rotate_left
    ·
     rintro w' ⟨s0,s1,s2,s3⟩
     go_simp
     with_reducible rfl
    rotate_left
    exact jc
    refine take_ (i:=7) (N:=some 50) (v:=?_) (a':=?_) (bm_ 8 13) rfl rfl (yo HT_.out HW_.out jA) (fun _ _ _ h=>h) (Or.inl ⟨by rfl,?_⟩) hHeld ?_ ?_;rotate_left
    ·
     rintro w' ⟨s0,s1,s2,s3⟩
     go_simp
     with_reducible rfl
    rotate_left
    exact jc
    refine pure_ (i:=8) (N:=some 51) (v:=?_) (a':=?_) (bm_ 9 13) rfl rfl (any_of HT_.out jA) (fun _ _ _ h=>h) (Or.inl ⟨by rfl,?_⟩) ?_ ?_;rotate_left;exact jb;rotate_left;exact jc
    refine pure_ (i:=9) (N:=some 52) (v:=?_) (a':=?_) (bm_ 10 13) rfl rfl (any_of HT_.out jA) (fun _ _ _ h=>h) (Or.inl ⟨by rfl,?_⟩) ?_ ?_;rotate_left;exact jb;rotate_left;exact jc
    refine take_ (i:=10) (N:=some 53) (v:=?_) (a':=?_) (bm_ 11 13) rfl rfl (yo HT_.out HW_.out jA) (fun _ _ _ h=>h) (Or.inl ⟨by rfl,?_⟩) hHeld ?_ ?_;rotate_left
    ·
     rintro w' ⟨s0,s1,s2,s3⟩
     go_simp
     with_reducible rfl
    rotate_left
    exact jc
    refine pure_ (i:=11) (N:=some 54) (v:=?_) (a':=?_) (bm_ 12 13) rfl rfl (any_of HT_.out jA) (fun _ _ _ h=>h) (Or.inl ⟨by rfl,?_⟩) ?_ ?_;rotate_left;exact jb;rotate_left;exact jc
    refine pure_ (i:=12) (N:=some 2) (v:=?_) (a':=?_) (bm_ 13 13) rfl rfl (any_of HT_.out jA) (fun _ _ _ h=>h) (Or.inl ⟨by rfl,?_⟩) ?_ ?_;rotate_left;exact jb;rotate_left;exact jc
    refine done_ (done_of HT_.out jA) ?_
    try go_wp2
    go_ret
    exact ⟨by first|rfl|(simp [yt,yu] <;> rfl)|(simp only [← hji3];first|rfl|(simp [yt,yu] <;> rfl))|(simp [*,yt,yu] <;> rfl),jv,jw,jT⟩
   rw [if_neg c5] at H;exact absurd H (by simp)
  rw [if_neg c4] at H;exact absurd H (by simp)
 rw [if_neg c2] at H;have c2b0 : decide ((wrap64 (s0_1+1))≤(s0_0.length : Int))=false:=decide_eq_false c2;clear c2
 by_cases c16 : (wrap64 (s0_1+1)) > 3000
 ·
  rw [if_pos c16] at H
  have c16b0 : decide (3000<(wrap64 (s0_1+1)))=true:=decide_eq_true c16;clear c16;simp only [Option.some.injEq,Prod.mk.injEq] at H;obtain ⟨rfl,rfl,rfl⟩:=H;obtain ⟨ASz17_0,cSz17_0,HGz17,hgz17,HSz17_0⟩:=HI0.out;have hcz17_0:=cellS81_0 HGz17;have hcz17_1:=cellS81_1 HGz17;have hcz17_2:=cellS81_2 HGz17;have hfz17_1:=zA HGz17 1;have hfz17_2:=zA HGz17 2;clear HGz17 hgz17
  go_enter Try.func76,Try.ntmps76
  try go_wp2
  have n0_ : Aside0 (IsS81 w0 (w.setCell ⟨g,1,none⟩ (.int .i64 (wrap64 (s0_1+1)))) g s0_0 (wrap64 (s0_1+1)) s0_2):=⟨jv⟩;have n1_ : Aside0 (KeepBut w (w.setCell ⟨g,1,none⟩ (.int .i64 (wrap64 (s0_1+1)))) g none):=⟨jT⟩;have n2_ : Aside0 (Below w0.heap.size w0 (w.setCell ⟨g,1,none⟩ (.int .i64 (wrap64 (s0_1+1))))):=⟨jw⟩;(try clear HI0);(try clear HK);(try clear HB);generalize (w.setCell ⟨g,1,none⟩ (.int .i64 (wrap64 (s0_1+1))))=w18 at n0_ n1_ n2_ ⊢;have HI0:=n0_;have HK:=n1_;have HB:=n2_;clear n0_ n1_ n2_;replace HI0:=zh (IsS81.drew HI0.out);replace HK:=zh (yx HK.out);replace HB:=zh (zc HB.out);obtain ⟨ASz20_0,cSz20_0,HGz20,hgz20,HSz20_0⟩:=HI0.out;have hcz20_0:=cellS81_0 HGz20;have hcz20_1:=cellS81_1 HGz20;have hcz20_2:=cellS81_2 HGz20;have hfz20_1:=zA HGz20 1;have hfz20_2:=zA HGz20 2;clear HGz20 hgz20;refine start_ (n:=10) (S:=fun w' => w'.cell? ⟨g,0,none⟩=some (.slice ASz20_0 s0_0.length cSz20_0)∧w'.cell? ⟨g,1,none⟩=some (.int .i64 (wrap64 (s0_1+1)))∧w'.cell? ⟨g,2,none⟩=some (.int .i64 s0_2)) (ds:=[]) (bm_ 0 10) jA rfl rfl ⟨hcz20_0,hcz20_1,hcz20_2⟩ (fun hHeld=>?_);refine with_tabW Fd.tab2 Fd.bits2 (fun HT_ HW_=>?_);generalize w18.drew=w19 at HI0 HK HB hHeld ⊢;refine pure_ (i:=0) (N:=some 10) (v:=?_) (a':=?_) (bm_ 1 10) rfl rfl (any_of HT_.out jA) (fun _ _ _ h=>h) (Or.inl ⟨by rfl,?_⟩) ?_ ?_;rotate_left;exact jb;rotate_left;exact jc
  refine pure_ (i:=1) (N:=some 11) (v:=?_) (a':=?_) (bm_ 2 10) rfl rfl (any_of HT_.out jA) (fun _ _ _ h=>h) (Or.inl ⟨by rfl,?_⟩) ?_ ?_;rotate_left;exact jb;rotate_left;exact jc
  refine pure_ (i:=2) (N:=some 12) (v:=?_) (a':=?_) (bm_ 3 10) rfl rfl (any_of HT_.out jA) (fun _ _ _ h=>h) (Or.inl ⟨by rfl,?_⟩) ?_ ?_;rotate_left;exact jb;rotate_left;exact jc
  refine pure_ (i:=4) (N:=some 14) (v:=?_) (a':=?_) #[true,true,true,false,true,false,false,false,false,false] rfl rfl (any_of HT_.out jA) (fun _ _ _ h=>h) (Or.inl ⟨by rfl,?_⟩) ?_ ?_;rotate_left;exact jb;rotate_left;exact jc
  refine pure_ (i:=5) (N:=some 15) (v:=?_) (a':=?_) #[true,true,true,false,true,true,false,false,false,false] rfl rfl (any_of HT_.out jA) (fun _ _ _ h=>h) (Or.inl ⟨by rfl,?_⟩) ?_ ?_;rotate_left;exact jb;rotate_left;exact jc
  refine pure_ (i:=6) (N:=some 16) (v:=?_) (a':=?_) #[true,true,true,false,true,true,true,false,false,false] rfl rfl (any_of HT_.out jA) (fun _ _ _ h=>h) (Or.inl ⟨by rfl,?_⟩) ?_ ?_;rotate_left;exact jb;rotate_left;exact jc
  refine take_ (i:=3) (N:=some 13) (v:=?_) (a':=?_) (bm_ 7 10) rfl rfl (yo HT_.out HW_.out jA) (fun _ _ _ h=>h) (Or.inl ⟨by rfl,?_⟩) hHeld ?_ ?_;rotate_left
  ·
   rintro w' ⟨s0,s1,s2⟩
   go_simp
   with_reducible rfl
  rotate_left
  exact jc
  refine take_ (i:=7) (N:=some 17) (v:=?_) (a':=?_) (bm_ 8 10) rfl rfl (yo HT_.out HW_.out jA) (fun _ _ _ h=>h) (Or.inl ⟨by rfl,?_⟩) hHeld ?_ ?_;rotate_left
  ·
   rintro w' ⟨s0,s1,s2⟩
   go_simp
   with_reducible rfl
  rotate_left
  exact jc
  refine pure_ (i:=8) (N:=some 18) (v:=?_) (a':=?_) (bm_ 9 10) rfl rfl (any_of HT_.out jA) (fun _ _ _ h=>h) (Or.inl ⟨by rfl,?_⟩) ?_ ?_;rotate_left;exact jb;rotate_left;exact jc
  refine pure_ (i:=9) (N:=some 19) (v:=?_) (a':=?_) (bm_ 10 10) rfl rfl (any_of HT_.out jA) (fun _ _ _ h=>h) (Or.inl ⟨by rfl,?_⟩) ?_ ?_;rotate_left;exact jb;rotate_left;exact jc
  refine done_ (done_of HT_.out jA) ?_;obtain ⟨ASz21_0,cSz21_0,HGz21,hgz21,HSz21_0⟩:=HI0.out;have hcz21_0:=cellS81_0 HGz21;have hcz21_1:=cellS81_1 HGz21;have hcz21_2:=cellS81_2 HGz21;have hfz21_1:=zA HGz21 1;have hfz21_2:=zA HGz21 2;clear HGz21 hgz21
  try go_wp2
  go_ret
  exact ⟨jF,jv,jw,jT⟩
 rw [if_neg c16] at H;have c16b0 : decide (3000<(wrap64 (s0_1+1)))=false:=decide_eq_false c16;clear c16;simp only [Option.some.injEq,Prod.mk.injEq] at H;obtain ⟨rfl,rfl,rfl⟩:=H;obtain ⟨ASz22_0,cSz22_0,HGz22,hgz22,HSz22_0⟩:=HI0.out;have hcz22_0:=cellS81_0 HGz22;have hcz22_1:=cellS81_1 HGz22;have hcz22_2:=cellS81_2 HGz22;have hfz22_1:=zA HGz22 1;have hfz22_2:=zA HGz22 2;clear HGz22 hgz22
 go_enter Try.func76,Try.ntmps76
 try go_wp2
 have n0_ : Aside0 (IsS81 w0 (w.setCell ⟨g,1,none⟩ (.int .i64 (wrap64 (s0_1+1)))) g s0_0 (wrap64 (s0_1+1)) s0_2):=⟨jv⟩;have n1_ : Aside0 (KeepBut w (w.setCell ⟨g,1,none⟩ (.int .i64 (wrap64 (s0_1+1)))) g none):=⟨jT⟩;have n2_ : Aside0 (Below w0.heap.size w0 (w.setCell ⟨g,1,none⟩ (.int .i64 (wrap64 (s0_1+1))))):=⟨jw⟩;(try clear HI0);(try clear HK);(try clear HB);generalize (w.setCell ⟨g,1,none⟩ (.int .i64 (wrap64 (s0_1+1))))=w23 at n0_ n1_ n2_ ⊢;have HI0:=n0_;have HK:=n1_;have HB:=n2_;clear n0_ n1_ n2_;replace HI0:=zh (IsS81.drew HI0.out);replace HK:=zh (yx HK.out);replace HB:=zh (zc HB.out);obtain ⟨ASz25_0,cSz25_0,HGz25,hgz25,HSz25_0⟩:=HI0.out;have hcz25_0:=cellS81_0 HGz25;have hcz25_1:=cellS81_1 HGz25;have hcz25_2:=cellS81_2 HGz25;have hfz25_1:=zA HGz25 1;have hfz25_2:=zA HGz25 2;clear HGz25 hgz25;refine start_ (n:=10) (S:=fun w' => w'.cell? ⟨g,0,none⟩=some (.slice ASz25_0 s0_0.length cSz25_0)∧w'.cell? ⟨g,1,none⟩=some (.int .i64 (wrap64 (s0_1+1)))∧w'.cell? ⟨g,2,none⟩=some (.int .i64 s0_2)) (ds:=[]) (bm_ 0 10) jA rfl rfl ⟨hcz25_0,hcz25_1,hcz25_2⟩ (fun hHeld=>?_);refine with_tabW Fd.tab2 Fd.bits2 (fun HT_ HW_=>?_);generalize w23.drew=w24 at HI0 HK HB hHeld ⊢;refine pure_ (i:=0) (N:=some 10) (v:=?_) (a':=?_) (bm_ 1 10) rfl rfl (any_of HT_.out jA) (fun _ _ _ h=>h) (Or.inl ⟨by rfl,?_⟩) ?_ ?_;rotate_left;exact jb;rotate_left;exact jc
 refine pure_ (i:=1) (N:=some 11) (v:=?_) (a':=?_) (bm_ 2 10) rfl rfl (any_of HT_.out jA) (fun _ _ _ h=>h) (Or.inl ⟨by rfl,?_⟩) ?_ ?_;rotate_left;exact jb;rotate_left;exact jc
 refine pure_ (i:=2) (N:=some 12) (v:=?_) (a':=?_) (bm_ 3 10) rfl rfl (any_of HT_.out jA) (fun _ _ _ h=>h) (Or.inl ⟨by rfl,?_⟩) ?_ ?_;rotate_left;exact jb;rotate_left;exact jc
 refine pure_ (i:=4) (N:=some 14) (v:=?_) (a':=?_) #[true,true,true,false,true,false,false,false,false,false] rfl rfl (any_of HT_.out jA) (fun _ _ _ h=>h) (Or.inl ⟨by rfl,?_⟩) ?_ ?_;rotate_left;exact jb;rotate_left;exact jc
 refine pure_ (i:=5) (N:=some 15) (v:=?_) (a':=?_) #[true,true,true,false,true,true,false,false,false,false] rfl rfl (any_of HT_.out jA) (fun _ _ _ h=>h) (Or.inl ⟨by rfl,?_⟩) ?_ ?_;rotate_left;exact jb;rotate_left;exact jc
 refine pure_ (i:=6) (N:=some 16) (v:=?_) (a':=?_) #[true,true,true,false,true,true,true,false,false,false] rfl rfl (any_of HT_.out jA) (fun _ _ _ h=>h) (Or.inl ⟨by rfl,?_⟩) ?_ ?_;rotate_left;exact jb;rotate_left;exact jc
 refine take_ (i:=3) (N:=some 13) (v:=?_) (a':=?_) (bm_ 7 10) rfl rfl (yo HT_.out HW_.out jA) (fun _ _ _ h=>h) (Or.inl ⟨by rfl,?_⟩) hHeld ?_ ?_;rotate_left
 ·
  rintro w' ⟨s0,s1,s2⟩
  go_simp
  with_reducible rfl
 rotate_left
 exact jc
 refine take_ (i:=7) (N:=some 17) (v:=?_) (a':=?_) (bm_ 8 10) rfl rfl (yo HT_.out HW_.out jA) (fun _ _ _ h=>h) (Or.inl ⟨by rfl,?_⟩) hHeld ?_ ?_;rotate_left
 ·
  rintro w' ⟨s0,s1,s2⟩
  go_simp
  with_reducible rfl
 rotate_left
 exact jc
 refine pure_ (i:=8) (N:=some 18) (v:=?_) (a':=?_) (bm_ 9 10) rfl rfl (any_of HT_.out jA) (fun _ _ _ h=>h) (Or.inl ⟨by rfl,?_⟩) ?_ ?_;rotate_left;exact jb;rotate_left;exact jc
 refine pure_ (i:=9) (N:=some 19) (v:=?_) (a':=?_) (bm_ 10 10) rfl rfl (any_of HT_.out jA) (fun _ _ _ h=>h) (Or.inl ⟨by rfl,?_⟩) ?_ ?_;rotate_left;exact jb;rotate_left;exact jc
 refine done_ (done_of HT_.out jA) ?_;obtain ⟨ASz26_0,cSz26_0,HGz26,hgz26,HSz26_0⟩:=HI0.out;have hcz26_0:=cellS81_0 HGz26;have hcz26_1:=cellS81_1 HGz26;have hcz26_2:=cellS81_2 HGz26;have hfz26_1:=zA HGz26 1;have hfz26_2:=zA HGz26 2;clear HGz26 hgz26
 try go_wp2
 go_ret
 exact ⟨jF,jv,jw,jT⟩


def F04.f (s0_0 : List Int) (s0_1 : Int) (s0_2 : Int) (a1 : Int) : Option (Int×Int×Int):=if a1≤1 then (some (0,s0_1,s0_2)) else (if a1≤256 then ((Fd.f s0_0 s0_1 s0_2).bind fun bt460=>(if a1=0 then (none) else (some (Int.tmod bt460.1 a1,bt460.2.1,bt460.2.2)))) else ((Fd.f s0_0 s0_1 s0_2).bind fun bt463=>((Fd.f s0_0 bt463.2.1 bt463.2.2).bind fun bt466=>((Fd.f s0_0 bt466.2.1 bt466.2.2).bind fun bt469=>(if a1=0 then (none) else (some (Int.tmod (wrap64 ((wrap64 ((wrap64 (bt463.1*65536))+(wrap64 (bt466.1*256))))+bt469.1)) a1,bt469.2.1,bt469.2.2)))))))
set_option maxHeartbeats 8000000 in
set_option maxRecDepth 100000 in
theorem F04.calls (g : Nat) (s0_0 : List Int) (s0_1 : Int) (s0_2 : Int) (a1 : Int) (r1 : Int) (r2 : Int) (r3 : Int) (w0 w : World) (hI : IsS81 w0 w g s0_0 s0_1 s0_2) (hB : Below w0.heap.size w0 w) (h : F04.f s0_0 s0_1 s0_2 a1=some (r1,r2,r3)) :
  Calls Try.prog 52 #[.pointer (some ⟨g,0,none⟩),.int .i64 a1] w fun e w' => e = .returned (.int .i64 r1)∧IsS81 w0 w' g s0_0 r2 r3∧Below w0.heap.size w0 w' ∧ KeepBut w w' g none:=by
 have HI0:=zh hI;have HK:=zh (KeepBut.refl w g none);have HL:=zh hB.size;clear hI;have HW0:=zh hB.size;have HB:=zh hB;clear hB;have H : (if a1≤1 then (some (0,s0_1,s0_2)) else (if a1≤256 then ((Fd.f s0_0 s0_1 s0_2).bind fun bt460=>(if a1=0 then (none) else (some (Int.tmod bt460.1 a1,bt460.2.1,bt460.2.2)))) else ((Fd.f s0_0 s0_1 s0_2).bind fun bt463=>((Fd.f s0_0 bt463.2.1 bt463.2.2).bind fun bt466=>((Fd.f s0_0 bt466.2.1 bt466.2.2).bind fun bt469=>(if a1=0 then (none) else (some (Int.tmod (wrap64 ((wrap64 ((wrap64 (bt463.1*65536))+(wrap64 (bt466.1*256))))+bt469.1)) a1,bt469.2.1,bt469.2.2))))))))=some (r1,r2,r3):=h;clear h
 by_cases c3 : a1≤1
 ·
  rw [if_pos c3] at H
  have c3b0 : decide (a1≤1)=true:=decide_eq_true c3;clear c3;simp only [Option.some.injEq,Prod.mk.injEq] at H;obtain ⟨rfl,rfl,rfl⟩:=H
  go_enter Try.func52,Try.ntmps52
  go_wp2
  go_ret
  exact ⟨jF,jv,jw,jT⟩
 rw [if_neg c3] at H;have c3b0 : decide (a1≤1)=false:=decide_eq_false c3;clear c3
 by_cases c4 : a1≤256
 ·
  rw [if_pos c4] at H
  have c4b0 : decide (a1≤256)=true:=decide_eq_true c4;clear c4;replace H:=zT.mp H;obtain ⟨⟨t460,t461,t462⟩,A50,H⟩:=H;have A5:=zh A50;clear A50
  by_cases c6 : a1=0
  ·
   rw [if_pos c6] at H
   exact absurd H (by simp)
  rw [if_neg c6] at H;have c6b0 : (a1 == 0)=false:=zY.mpr c6;have c6b1 : (a1 != 0)=true:=zZ.mpr c6;simp only [Option.some.injEq,Prod.mk.injEq] at H;obtain ⟨rfl,rfl,rfl⟩:=H
  go_enter Try.func52,Try.ntmps52
  go_wp2_with (first|((with_reducible refine zJ (f:=76) rfl ?_);refine yj (some 13) rfl rfl Try.func76 jA rfl #[.pointer (some ⟨g,0,none⟩)] rfl jD ?_;(with_reducible refine (Fd.calls  g s0_0 s0_1 s0_2 t460 t461 t462 w0 _ ?side1 ?side2 A5.out).mono ?_);(case side1=>repeat (with_reducible first|exact HI0.out|apply IsS81.alloc|apply IsS81.drewN|apply IsS81.drew|apply IsS81.set_1|apply IsS81.set_2));(case side2=>repeat (with_reducible first|exact HB.out|apply za|apply zb|apply zc|refine zd ?_ (IsS81.ge HI0.out)));rintro e w7 ⟨rfl,hi,hb,hk⟩;refine ⟨_,rfl,?_⟩;replace HK:=zh (KeepBut.trans jT hk (.inl rfl));replace HB:=zh (hb);replace HI0:=zh (hi);(try clear hb);(try clear hb2);(try clear hk);(try clear hi)))
  go_ret
  exact ⟨jF,jv,jw,jT⟩
 rw [if_neg c4] at H;have c4b0 : decide (a1≤256)=false:=decide_eq_false c4;clear c4;replace H:=zT.mp H;obtain ⟨⟨t463,t464,t465⟩,A80,H⟩:=H;have A8:=zh A80;clear A80;replace H:=zT.mp H;obtain ⟨⟨t466,t467,t468⟩,A90,H⟩:=H;have A9:=zh A90;clear A90;replace H:=zT.mp H;obtain ⟨⟨t469,t470,t471⟩,A100,H⟩:=H;have A10:=zh A100;clear A100
 by_cases c11 : a1=0
 ·
  rw [if_pos c11] at H
  exact absurd H (by simp)
 rw [if_neg c11] at H;have c11b0 : (a1 == 0)=false:=zY.mpr c11;have c11b1 : (a1 != 0)=true:=zZ.mpr c11;simp only [Option.some.injEq,Prod.mk.injEq] at H;obtain ⟨rfl,rfl,rfl⟩:=H
 go_enter Try.func52,Try.ntmps52
 go_wp2_with (first|((with_reducible refine zJ (f:=76) rfl ?_);refine yj (some 17) rfl rfl Try.func76 jA rfl #[.pointer (some ⟨g,0,none⟩)] rfl jD ?_;(with_reducible refine (Fd.calls  g s0_0 s0_1 s0_2 t463 t464 t465 w0 _ ?side1 ?side2 A8.out).mono ?_);(case side1=>repeat (with_reducible first|exact HI0.out|apply IsS81.alloc|apply IsS81.drewN|apply IsS81.drew|apply IsS81.set_1|apply IsS81.set_2));(case side2=>repeat (with_reducible first|exact HB.out|apply za|apply zb|apply zc|refine zd ?_ (IsS81.ge HI0.out)));rintro e w12 ⟨rfl,hi,hb,hk⟩;refine ⟨_,rfl,?_⟩;replace HK:=zh (KeepBut.trans jT hk (.inl rfl));replace HB:=zh (hb);replace HI0:=zh (hi);(try clear hb);(try clear hb2);(try clear hk);(try clear hi))|((with_reducible refine zJ (f:=76) rfl ?_);refine yj (some 19) rfl rfl Try.func76 jA rfl #[.pointer (some ⟨g,0,none⟩)] rfl jD ?_;(with_reducible refine (Fd.calls  g s0_0 t464 t465 t466 t467 t468 w0 _ ?side1 ?side2 A9.out).mono ?_);(case side1=>repeat (with_reducible first|exact HI0.out|apply IsS81.alloc|apply IsS81.drewN|apply IsS81.drew|apply IsS81.set_1|apply IsS81.set_2));(case side2=>repeat (with_reducible first|exact HB.out|apply za|apply zb|apply zc|refine zd ?_ (IsS81.ge HI0.out)));rintro e w13 ⟨rfl,hi,hb,hk⟩;refine ⟨_,rfl,?_⟩;replace HK:=zh (KeepBut.trans jT hk (.inl rfl));replace HB:=zh (hb);replace HI0:=zh (hi);(try clear hb);(try clear hb2);(try clear hk);(try clear hi))|((with_reducible refine zJ (f:=76) rfl ?_);refine yj (some 21) rfl rfl Try.func76 jA rfl #[.pointer (some ⟨g,0,none⟩)] rfl jD ?_;(with_reducible refine (Fd.calls  g s0_0 t467 t468 t469 t470 t471 w0 _ ?side1 ?side2 A10.out).mono ?_);(case side1=>repeat (with_reducible first|exact HI0.out|apply IsS81.alloc|apply IsS81.drewN|apply IsS81.drew|apply IsS81.set_1|apply IsS81.set_2));(case side2=>repeat (with_reducible first|exact HB.out|apply za|apply zb|apply zc|refine zd ?_ (IsS81.ge HI0.out)));rintro e w14 ⟨rfl,hi,hb,hk⟩;refine ⟨_,rfl,?_⟩;replace HK:=zh (KeepBut.trans jT hk (.inl rfl));replace HB:=zh (hb);replace HI0:=zh (hi);(try clear hb);(try clear hb2);(try clear hk);(try clear hi)))
 go_ret
 exact ⟨jF,jv,jw,jT⟩


def F0u.f (s0_0 : List Int) (s0_1 : Int) (s0_2 : Int) (a1 : Int) : Option (Bool×Int×Int):=(F04.f s0_0 s0_1 s0_2 a1).bind fun bt478=>(some ((bt478.1 == (wrap64 (a1 - 1))),bt478.2.1,bt478.2.2))
set_option maxHeartbeats 8000000 in
set_option maxRecDepth 100000 in
theorem F0u.calls (g : Nat) (s0_0 : List Int) (s0_1 : Int) (s0_2 : Int) (a1 : Int) (r1 : Bool) (r2 : Int) (r3 : Int) (w0 w : World) (hI : IsS81 w0 w g s0_0 s0_1 s0_2) (hB : Below w0.heap.size w0 w) (h : F0u.f s0_0 s0_1 s0_2 a1=some (r1,r2,r3)) :
  Calls Try.prog 77 #[.pointer (some ⟨g,0,none⟩),.int .i64 a1] w fun e w' => e = .returned (.bool r1)∧IsS81 w0 w' g s0_0 r2 r3∧Below w0.heap.size w0 w' ∧ KeepBut w w' g none:=by
 have HI0:=zh hI;have HK:=zh (KeepBut.refl w g none);have HL:=zh hB.size;clear hI;have HW0:=zh hB.size;have HB:=zh hB;clear hB;have H : ((F04.f s0_0 s0_1 s0_2 a1).bind fun bt478=>(some ((bt478.1 == (wrap64 (a1 - 1))),bt478.2.1,bt478.2.2)))=some (r1,r2,r3):=h;clear h;replace H:=zT.mp H;obtain ⟨⟨t478,t479,t480⟩,A30,H⟩:=H;have A3:=zh A30;clear A30;simp only [Option.some.injEq,Prod.mk.injEq] at H;obtain ⟨rfl,rfl,rfl⟩:=H
 go_enter Try.func77,Try.ntmps77
 go_wp2_with (first|((with_reducible refine zJ (f:=52) rfl ?_);refine yj (some 7) rfl rfl Try.func52 jA rfl #[.pointer (some ⟨g,0,none⟩),.int .i64 a1] rfl jD ?_;(with_reducible refine (F04.calls  g s0_0 s0_1 s0_2 a1 t478 t479 t480 w0 _ ?side1 ?side2 A3.out).mono ?_);(case side1=>repeat (with_reducible first|exact HI0.out|apply IsS81.alloc|apply IsS81.drewN|apply IsS81.drew|apply IsS81.set_1|apply IsS81.set_2));(case side2=>repeat (with_reducible first|exact HB.out|apply za|apply zb|apply zc|refine zd ?_ (IsS81.ge HI0.out)));rintro e w4 ⟨rfl,hi,hb,hk⟩;refine ⟨_,rfl,?_⟩;replace HK:=zh (KeepBut.trans jT hk (.inl rfl));replace HB:=zh (hb);replace HI0:=zh (hi);(try clear hb);(try clear hb2);(try clear hk);(try clear hi)))
 go_ret
 exact ⟨jF,jv,jw,jT⟩

end Go.Proofs.Ytoinoihiknmnmaa.Q
end

/- Texts of this claim, merged by a program of this session. -/
import Derived.Test.YtoinoihiknmnmaaKLawFnExactDocOfp22
section
namespace Go.Proofs.Ytoinoihiknmnmaa.Q
open Go.RowKit Go.Proofs.YtoinoihiknmnmaaW.PrintWords Go.Proofs.YtoinoihiknmnmaaW.PrintLast Go.Proofs.YtoinoihiknmnmaaW.PrintMore
attribute [local go_sem] max2_int min2_int max_two min_two max_three min_three max_four min_four max2_str min2_str str_geq str_gtr str_leq   -- for this text's walks alone
set_option linter.unusedVariables false
set_option linter.unusedSimpArgs false

mutual
def F1.j0 : Nat→Int→List (S25)→Bool→Option (Bool)
 | 0,_,_,_=>none
 | k+1,x1,x5,x78=>if x78=true then (some false) else (F1.l0 k x1 x5 0)
def F1.l0 : Nat→Int→List (S25)→Int→Option (Bool)
 | 0,_,_,_=>none
 | k+1,x1,x5,x7=>if x7<(x5.length : Int) then (if 0≤x7 then ((F1.f k ((rd_T25 x5 x7).f0) ((rd_T25 x5 x7).f1) ((rd_T25 x5 x7).f2) (wrap64 (x1 - 1))).bind fun t156=>(if t156=true then (F1.l0 k x1 x5 (wrap64 (x7+1))) else (some false))) else (none)) else (some true)
def F1.j2 : Nat→Int→List (S43)→Bool→Option (Bool)
 | 0,_,_,_=>none
 | k+1,x1,x8,x117=>if x117=true then (some false) else (F1.l1 k x1 x8 0)
def F1.l1 : Nat→Int→List (S43)→Int→Option (Bool)
 | 0,_,_,_=>none
 | k+1,x1,x8,x10=>if x10<(x8.length : Int) then (if 0≤x10 then ((Fy.f k ((rd_T43 x8 x10).f0)).bind fun t162=>(if t162=true then (if x10 > 0 then (if 0≤(wrap64 (x10 - 1)) then (if (wrap64 (x10 - 1))<(x8.length : Int) then (if ((Op.bytesLess (((rd_T43 x8 (wrap64 (x10 - 1))).f0).toList) (((rd_T43 x8 x10).f0).toList))=true) then ((F1.f k ((rd_T43 x8 x10).f1.f0) ((rd_T43 x8 x10).f1.f1) ((rd_T43 x8 x10).f1.f2) (wrap64 (x1 - 1))).bind fun t166=>(if t166=true then (F1.l1 k x1 x8 (wrap64 (x10+1))) else (some false))) else (some false)) else (none)) else (none)) else ((F1.f k ((rd_T43 x8 x10).f1.f0) ((rd_T43 x8 x10).f1.f1) ((rd_T43 x8 x10).f1.f2) (wrap64 (x1 - 1))).bind fun t168=>(if t168=true then (F1.l1 k x1 x8 (wrap64 (x10+1))) else (some false)))) else (some false))) else (none)) else (some true)
def F1.f : Nat→Int→Int→ByteArray→Int→Option (Bool)
 | 0,_,_,_,_=>none
 | k+1,a0_0,a0_1,a0_2,a1=>if a0_0=0 then (if a0_1=0 then (some (a0_2.toList == ([] : List UInt8))) else (some false)) else (if a0_0=1 then ((F09.f a0_1 0 1).bind fun t149=>(if t149=true then (some (a0_2.toList == ([] : List UInt8))) else (some false))) else (if a0_0=2 then ((F09.f a0_1 (-1000000000000) 1000000000000).bind fun t150=>(if t150=true then (some (a0_2.toList == ([] : List UInt8))) else (some false))) else (if a0_0=3 then (if a0_1=0 then (some (decide ((a0_2.size : Int)≤300))) else (some false)) else (if a0_0=4 then ((Fm.f k a0_2).bind fun bt151=>(if a0_1=0 then (if bt151.2=true then (if (a0_2.size : Int) > 300 then (F1.j0 k a1 bt151.1 true) else (F1.j0 k a1 bt151.1 (a1 == 0))) else (F1.j0 k a1 bt151.1 true)) else (F1.j0 k a1 bt151.1 true))) else (if a0_0=5 then ((Fl.f k a0_2).bind fun bt157=>(if a0_1=0 then (if bt157.2=true then (if (a0_2.size : Int) > 300 then (F1.j2 k a1 bt157.1 true) else (F1.j2 k a1 bt157.1 (a1 == 0))) else (F1.j2 k a1 bt157.1 true)) else (F1.j2 k a1 bt157.1 true))) else (some false))))))
end
theorem F1.mono_l : ∀ k,(∀ y0 y1 y2 y3,LeO (F1.f k y0 y1 y2 y3) (F1.f (k+1) y0 y1 y2 y3))∧(∀ y0 y1 y2,LeO (F1.j0 k y0 y1 y2) (F1.j0 (k+1) y0 y1 y2))∧(∀ y0 y1 y2,LeO (F1.l0 k y0 y1 y2) (F1.l0 (k+1) y0 y1 y2))∧(∀ y0 y1 y2,LeO (F1.j2 k y0 y1 y2) (F1.j2 (k+1) y0 y1 y2))∧(∀ y0 y1 y2,LeO (F1.l1 k y0 y1 y2) (F1.l1 (k+1) y0 y1 y2))
 | 0=>⟨fun _ _ _ _ r h=>by simp [F1.f] at h,fun _ _ _ r h=>by simp [F1.j0] at h,fun _ _ _ r h=>by simp [F1.l0] at h,fun _ _ _ r h=>by simp [F1.j2] at h,fun _ _ _ r h=>by simp [F1.l1] at h⟩
 | k+1=>by
  obtain ⟨ih0,ih1,ih2,ih3,ih4⟩:=F1.mono_l k;refine ⟨?_,?_,?_,?_,?_⟩
  ·
   intro y0 y1 y2 y3
   unfold F1.f
   repeat' first|(with_reducible first|exact ih0 _ _ _ _|exact ih1 _ _ _|exact ih2 _ _ _|exact ih3 _ _ _|exact ih4 _ _ _|exact Fy.mono _ _|exact Fm.mono _ _|exact Fl.mono _ _|exact zQ _|exact zN _|refine zP ?_ ?_|refine zO ?_ (fun _=>?_))|refine zP ?_ ?_|refine zO ?_ (fun _=>?_)
  ·
   intro y0 y1 y2
   unfold F1.j0
   repeat' first|(with_reducible first|exact ih0 _ _ _ _|exact ih1 _ _ _|exact ih2 _ _ _|exact ih3 _ _ _|exact ih4 _ _ _|exact Fy.mono _ _|exact Fm.mono _ _|exact Fl.mono _ _|exact zQ _|exact zN _|refine zP ?_ ?_|refine zO ?_ (fun _=>?_))|refine zP ?_ ?_|refine zO ?_ (fun _=>?_)
  ·
   intro y0 y1 y2
   unfold F1.l0
   repeat' first|(with_reducible first|exact ih0 _ _ _ _|exact ih1 _ _ _|exact ih2 _ _ _|exact ih3 _ _ _|exact ih4 _ _ _|exact Fy.mono _ _|exact Fm.mono _ _|exact Fl.mono _ _|exact zQ _|exact zN _|refine zP ?_ ?_|refine zO ?_ (fun _=>?_))|refine zP ?_ ?_|refine zO ?_ (fun _=>?_)
  ·
   intro y0 y1 y2
   unfold F1.j2
   repeat' first|(with_reducible first|exact ih0 _ _ _ _|exact ih1 _ _ _|exact ih2 _ _ _|exact ih3 _ _ _|exact ih4 _ _ _|exact Fy.mono _ _|exact Fm.mono _ _|exact Fl.mono _ _|exact zQ _|exact zN _|refine zP ?_ ?_|refine zO ?_ (fun _=>?_))|refine zP ?_ ?_|refine zO ?_ (fun _=>?_)
  intro y0 y1 y2;unfold F1.l1
  repeat' first|(with_reducible first|exact ih0 _ _ _ _|exact ih1 _ _ _|exact ih2 _ _ _|exact ih3 _ _ _|exact ih4 _ _ _|exact Fy.mono _ _|exact Fm.mono _ _|exact Fl.mono _ _|exact zQ _|exact zN _|refine zP ?_ ?_|refine zO ?_ (fun _=>?_))|refine zP ?_ ?_|refine zO ?_ (fun _=>?_)
theorem F1.mono : ∀ a0 a1 a2 a3 k,LeO (F1.f k a0 a1 a2 a3) (F1.f (k+1) a0 a1 a2 a3):=by
 intro a0 a1 a2 a3 k;obtain ⟨ih0,ih1,ih2,ih3,ih4⟩:=F1.mono_l k;exact ih0 a0 a1 a2 a3
def F1.T27 : Bool×List (List Nat×List Nat):=(true,[([],[]),([],[]),([0,1],[0,1]),([2],[2]),([3],[3]),([4],[4]),([5],[5]),([6,5],[6]),([7],[7]),([8,7],[7,8]),([9,7,7],[7,9]),([10],[10]),([10],[10]),([12,10],[10,12]),([11,13,10],[10,11,13]),([14,10],[10,14]),([15,10],[10,15]),([10],[10]),([10],[10]),([17,18,10],[10,17,18]),([19,10],[10,19]),([20,10],[10,20]),([16,21,10],[10,16,21]),([10,22,7],[7,10,22]),([7,23],[7,23]),([24,10],[24]),([25],[25]),([25],[25]),([26,27,25],[25,26,27]),([28,25],[25,28]),([29,25],[25,29]),([25],[25]),([31,25],[25,31]),([30,32,25,25],[25,30,32]),([33,25],[25,33]),([25,34],[25,34])])
def F1.B27 : List Nat:=[0,0,3,7,15,31,63,127,255,511,1023,2047,2047,6143,16383,32767,65535,2047,2047,395263,919551,1968127,4194303,8388607,16777215,33554431,67108863,67108863,268435455,536870911,1073741823,67108863,2214592511,8589934591,17179869183,34359738367]
theorem F1.tab27 : rtab .any (opsOf Try.f40 27)=F1.T27:=by kernel_rfl
theorem F1.bits27 : waitsOk F1.T27.2 F1.B27=true:=by kernel_rfl
set_option maxHeartbeats 8000000 in
set_option maxRecDepth 100000 in
theorem F1.calls (k : Nat) : ∀ (a0_0 : Int) (a0_1 : Int) (a0_2 : ByteArray) (a1 : Int) (r : Bool) (w : World) (h : F1.f k a0_0 a0_1 a0_2 a1=some r),
  Calls Try.prog 40 #[.agg #[.int .i64 a0_0,.int .i64 a0_1,.string a0_2],.int .i64 a1] w fun e w' => e = .returned (.bool r)∧Below w.heap.size w w':=by
 induction k using Nat.strongRecOn with
 | _ k ih =>
 intro a0_0 a0_1 a0_2 a1 r w h
 cases k with
 | zero=>exact absurd h (by simp [F1.f])
 | succ k =>
 simp only [F1.f] at h;have hu25:=Try.underlying25;have HB:=zh (Below.refl w.heap.size w);have H : (if a0_0=0 then (if a0_1=0 then (some (a0_2.toList == ([] : List UInt8))) else (some false)) else (if a0_0=1 then ((F09.f a0_1 0 1).bind fun t149=>(if t149=true then (some (a0_2.toList == ([] : List UInt8))) else (some false))) else (if a0_0=2 then ((F09.f a0_1 (-1000000000000) 1000000000000).bind fun t150=>(if t150=true then (some (a0_2.toList == ([] : List UInt8))) else (some false))) else (if a0_0=3 then (if a0_1=0 then (some (decide ((a0_2.size : Int)≤300))) else (some false)) else (if a0_0=4 then ((Fm.f k a0_2).bind fun bt151=>(if a0_1=0 then (if bt151.2=true then (if (a0_2.size : Int) > 300 then (F1.j0 k a1 bt151.1 true) else (F1.j0 k a1 bt151.1 (a1 == 0))) else (F1.j0 k a1 bt151.1 true)) else (F1.j0 k a1 bt151.1 true))) else (if a0_0=5 then ((Fl.f k a0_2).bind fun bt157=>(if a0_1=0 then (if bt157.2=true then (if (a0_2.size : Int) > 300 then (F1.j2 k a1 bt157.1 true) else (F1.j2 k a1 bt157.1 (a1 == 0))) else (F1.j2 k a1 bt157.1 true)) else (F1.j2 k a1 bt157.1 true))) else (some false)))))))=some r:=h;clear h
 by_cases c3 : a0_0=0
 ·
  rw [if_pos c3] at H
  have c3b0 : (a0_0 == 0)=true:=ya.mpr c3;have c3b1 : (a0_0 != 0)=false:=zX.mpr c3;clear c3
  by_cases c4 : a0_1=0
  ·
   rw [if_pos c4] at H
   have c4b0 : (a0_1 == 0)=true:=ya.mpr c4;have c4b1 : (a0_1 != 0)=false:=zX.mpr c4;clear c4;obtain rfl:=zU H
   go_enter Try.func40,Try.ntmps40
   go_wp2_with (first|((with_reducible refine zK (N:=2) rfl ?_);(try (refine yz (by rfl) ?_;dsimp only));refine zI ?hg (N:=2) ?hd (cs:=#[.int .i64 a0_0,.int .i64 a0_1,.string a0_2]) (t:=25) ?hr ?_;(case hd=>rfl);(case hg=>rfl);(case hr=>go_simp <;> rfl);intro gb148 hg w5 hbox hb;have BK148:=zh (hbox);have hH_:=cH (by repeat (with_reducible first|exact HB.out|apply za|apply zb|apply zc)) hb hg;have GW148:=zh hH_.1;have GE148:=GW148;replace HB:=zh hH_.2;clear hb hbox hg hH_;obtain ⟨hcz6_0,hcz6_1,hcz6_2,hfz6_0,hfz6_1,hfz6_2⟩:=cB3 BK148.out))
   go_ret
   exact ⟨by first|rfl|(simp [yt,yu] <;> rfl)|(simp [*,yt,yu] <;> rfl),by repeat (with_reducible first|exact HB.out|apply za|apply zb|apply zc|refine zd ?_ GE148.out)⟩
  rw [if_neg c4] at H;have c4b0 : (a0_1 == 0)=false:=zY.mpr c4;have c4b1 : (a0_1 != 0)=true:=zZ.mpr c4;obtain rfl:=zU H
  go_enter Try.func40,Try.ntmps40
  go_wp2_with (first|((with_reducible refine zK (N:=2) rfl ?_);(try (refine yz (by rfl) ?_;dsimp only));refine zI ?hg (N:=2) ?hd (cs:=#[.int .i64 a0_0,.int .i64 a0_1,.string a0_2]) (t:=25) ?hr ?_;(case hd=>rfl);(case hg=>rfl);(case hr=>go_simp <;> rfl);intro gb148 hg w7 hbox hb;have BK148:=zh (hbox);have hH_:=cH (by repeat (with_reducible first|exact HB.out|apply za|apply zb|apply zc)) hb hg;have GW148:=zh hH_.1;have GE148:=GW148;replace HB:=zh hH_.2;clear hb hbox hg hH_;obtain ⟨hcz8_0,hcz8_1,hcz8_2,hfz8_0,hfz8_1,hfz8_2⟩:=cB3 BK148.out))
  go_ret
  exact ⟨by first|rfl|(simp [yt,yu] <;> rfl)|(simp [*,yt,yu] <;> rfl),by repeat (with_reducible first|exact HB.out|apply za|apply zb|apply zc|refine zd ?_ GE148.out)⟩
 rw [if_neg c3] at H;have c3b0 : (a0_0 == 0)=false:=zY.mpr c3;have c3b1 : (a0_0 != 0)=true:=zZ.mpr c3
 by_cases c9 : a0_0=1
 ·
  rw [if_pos c9] at H
  have c9b0 : (a0_0 == 1)=true:=ya.mpr c9;have c9b1 : (a0_0 != 1)=false:=zX.mpr c9;clear c9;replace H:=zT.mp H;obtain ⟨t149,A100,H⟩:=H;replace H : (if t149=true then (some (a0_2.toList == ([] : List UInt8))) else (some false))=some r:=H;have A10:=zh A100;clear A100
  by_cases c11 : t149=true
  ·
   subst c11
   have H1 : (some (a0_2.toList == ([] : List UInt8)))=some r:=by rw [if_pos rfl] at H;exact H
   clear H;have H:=H1;clear H1;obtain rfl:=zU H
   go_enter Try.func40,Try.ntmps40
   go_wp2_with (first|((with_reducible refine zK (N:=2) rfl ?_);(try (refine yz (by rfl) ?_;dsimp only));refine zI ?hg (N:=2) ?hd (cs:=#[.int .i64 a0_0,.int .i64 a0_1,.string a0_2]) (t:=25) ?hr ?_;(case hd=>rfl);(case hg=>rfl);(case hr=>go_simp <;> rfl);intro gb148 hg w12 hbox hb;have BK148:=zh (hbox);have hH_:=cH (by repeat (with_reducible first|exact HB.out|apply za|apply zb|apply zc)) hb hg;have GW148:=zh hH_.1;have GE148:=GW148;replace HB:=zh hH_.2;clear hb hbox hg hH_;obtain ⟨hcz13_0,hcz13_1,hcz13_2,hfz13_0,hfz13_1,hfz13_2⟩:=cB3 BK148.out)|((with_reducible refine zJ (f:=63) rfl ?_);refine yj (some 27) rfl rfl Try.func63 (by kernel_rfl) rfl #[.int .i64 a0_1,.int .i64 0,.int .i64 1] rfl (by (try simp only [zt,zu,zv]);first|done|rfl|(simp only [zw,zx];rfl)|(simp only [yr,ys,zV,zW];rfl)) ?_;(with_reducible refine (F09.calls  a0_1 0 1 true _ A10.out).mono ?_);rintro e w' ⟨rfl,⟨nd,rfl⟩⟩;refine ⟨_,rfl,?_⟩))
   go_ret
   exact ⟨by first|rfl|(simp [yt,yu] <;> rfl)|(simp [*,yt,yu] <;> rfl),by repeat (with_reducible first|exact HB.out|apply za|apply zb|apply zc|refine zd ?_ GE148.out)⟩
  replace c11:=yb.mpr c11;subst c11;have H1 : (some false)=some r:=by rw [if_neg (show ¬ (false=true) by decide)] at H;exact H
  clear H;have H:=H1;clear H1;obtain rfl:=zU H
  go_enter Try.func40,Try.ntmps40
  go_wp2_with (first|((with_reducible refine zK (N:=2) rfl ?_);(try (refine yz (by rfl) ?_;dsimp only));refine zI ?hg (N:=2) ?hd (cs:=#[.int .i64 a0_0,.int .i64 a0_1,.string a0_2]) (t:=25) ?hr ?_;(case hd=>rfl);(case hg=>rfl);(case hr=>go_simp <;> rfl);intro gb148 hg w14 hbox hb;have BK148:=zh (hbox);have hH_:=cH (by repeat (with_reducible first|exact HB.out|apply za|apply zb|apply zc)) hb hg;have GW148:=zh hH_.1;have GE148:=GW148;replace HB:=zh hH_.2;clear hb hbox hg hH_;obtain ⟨hcz15_0,hcz15_1,hcz15_2,hfz15_0,hfz15_1,hfz15_2⟩:=cB3 BK148.out)|((with_reducible refine zJ (f:=63) rfl ?_);refine yj (some 27) rfl rfl Try.func63 (by kernel_rfl) rfl #[.int .i64 a0_1,.int .i64 0,.int .i64 1] rfl (by (try simp only [zt,zu,zv]);first|done|rfl|(simp only [zw,zx];rfl)|(simp only [yr,ys,zV,zW];rfl)) ?_;(with_reducible refine (F09.calls  a0_1 0 1 false _ A10.out).mono ?_);rintro e w' ⟨rfl,⟨nd,rfl⟩⟩;refine ⟨_,rfl,?_⟩))
  go_ret
  exact ⟨by first|rfl|(simp [yt,yu] <;> rfl)|(simp [*,yt,yu] <;> rfl),by repeat (with_reducible first|exact HB.out|apply za|apply zb|apply zc|refine zd ?_ GE148.out)⟩
 rw [if_neg c9] at H;have c9b0 : (a0_0 == 1)=false:=zY.mpr c9;have c9b1 : (a0_0 != 1)=true:=zZ.mpr c9
 by_cases c16 : a0_0=2
 ·
  rw [if_pos c16] at H
  have c16b0 : (a0_0 == 2)=true:=ya.mpr c16;have c16b1 : (a0_0 != 2)=false:=zX.mpr c16;clear c16;replace H:=zT.mp H;obtain ⟨t150,A170,H⟩:=H;replace H : (if t150=true then (some (a0_2.toList == ([] : List UInt8))) else (some false))=some r:=H;have A17:=zh A170;clear A170
  by_cases c18 : t150=true
  ·
   subst c18
   have H1 : (some (a0_2.toList == ([] : List UInt8)))=some r:=by rw [if_pos rfl] at H;exact H
   clear H;have H:=H1;clear H1;obtain rfl:=zU H
   go_enter Try.func40,Try.ntmps40
   go_wp2_with (first|((with_reducible refine zK (N:=2) rfl ?_);(try (refine yz (by rfl) ?_;dsimp only));refine zI ?hg (N:=2) ?hd (cs:=#[.int .i64 a0_0,.int .i64 a0_1,.string a0_2]) (t:=25) ?hr ?_;(case hd=>rfl);(case hg=>rfl);(case hr=>go_simp <;> rfl);intro gb148 hg w19 hbox hb;have BK148:=zh (hbox);have hH_:=cH (by repeat (with_reducible first|exact HB.out|apply za|apply zb|apply zc)) hb hg;have GW148:=zh hH_.1;have GE148:=GW148;replace HB:=zh hH_.2;clear hb hbox hg hH_;obtain ⟨hcz20_0,hcz20_1,hcz20_2,hfz20_0,hfz20_1,hfz20_2⟩:=cB3 BK148.out)|((with_reducible refine zJ (f:=63) rfl ?_);refine yj (some 37) rfl rfl Try.func63 (by kernel_rfl) rfl #[.int .i64 a0_1,.int .i64 (-1000000000000),.int .i64 1000000000000] rfl (by (try simp only [zt,zu,zv]);first|done|rfl|(simp only [zw,zx];rfl)|(simp only [yr,ys,zV,zW];rfl)) ?_;(with_reducible refine (F09.calls  a0_1 (-1000000000000) 1000000000000 true _ A17.out).mono ?_);rintro e w' ⟨rfl,⟨nd,rfl⟩⟩;refine ⟨_,rfl,?_⟩))
   go_ret
   exact ⟨by first|rfl|(simp [yt,yu] <;> rfl)|(simp [*,yt,yu] <;> rfl),by repeat (with_reducible first|exact HB.out|apply za|apply zb|apply zc|refine zd ?_ GE148.out)⟩
  replace c18:=yb.mpr c18;subst c18;have H1 : (some false)=some r:=by rw [if_neg (show ¬ (false=true) by decide)] at H;exact H
  clear H;have H:=H1;clear H1;obtain rfl:=zU H
  go_enter Try.func40,Try.ntmps40
  go_wp2_with (first|((with_reducible refine zK (N:=2) rfl ?_);(try (refine yz (by rfl) ?_;dsimp only));refine zI ?hg (N:=2) ?hd (cs:=#[.int .i64 a0_0,.int .i64 a0_1,.string a0_2]) (t:=25) ?hr ?_;(case hd=>rfl);(case hg=>rfl);(case hr=>go_simp <;> rfl);intro gb148 hg w21 hbox hb;have BK148:=zh (hbox);have hH_:=cH (by repeat (with_reducible first|exact HB.out|apply za|apply zb|apply zc)) hb hg;have GW148:=zh hH_.1;have GE148:=GW148;replace HB:=zh hH_.2;clear hb hbox hg hH_;obtain ⟨hcz22_0,hcz22_1,hcz22_2,hfz22_0,hfz22_1,hfz22_2⟩:=cB3 BK148.out)|((with_reducible refine zJ (f:=63) rfl ?_);refine yj (some 37) rfl rfl Try.func63 (by kernel_rfl) rfl #[.int .i64 a0_1,.int .i64 (-1000000000000),.int .i64 1000000000000] rfl (by (try simp only [zt,zu,zv]);first|done|rfl|(simp only [zw,zx];rfl)|(simp only [yr,ys,zV,zW];rfl)) ?_;(with_reducible refine (F09.calls  a0_1 (-1000000000000) 1000000000000 false _ A17.out).mono ?_);rintro e w' ⟨rfl,⟨nd,rfl⟩⟩;refine ⟨_,rfl,?_⟩))
  go_ret
  exact ⟨by first|rfl|(simp [yt,yu] <;> rfl)|(simp [*,yt,yu] <;> rfl),by repeat (with_reducible first|exact HB.out|apply za|apply zb|apply zc|refine zd ?_ GE148.out)⟩
 rw [if_neg c16] at H;have c16b0 : (a0_0 == 2)=false:=zY.mpr c16;have c16b1 : (a0_0 != 2)=true:=zZ.mpr c16
 by_cases c23 : a0_0=3
 ·
  rw [if_pos c23] at H
  have c23b0 : (a0_0 == 3)=true:=ya.mpr c23;have c23b1 : (a0_0 != 3)=false:=zX.mpr c23;clear c23
  by_cases c24 : a0_1=0
  ·
   rw [if_pos c24] at H
   have c24b0 : (a0_1 == 0)=true:=ya.mpr c24;have c24b1 : (a0_1 != 0)=false:=zX.mpr c24;clear c24;obtain rfl:=zU H
   go_enter Try.func40,Try.ntmps40
   go_wp2_with (first|((with_reducible refine zK (N:=2) rfl ?_);(try (refine yz (by rfl) ?_;dsimp only));refine zI ?hg (N:=2) ?hd (cs:=#[.int .i64 a0_0,.int .i64 a0_1,.string a0_2]) (t:=25) ?hr ?_;(case hd=>rfl);(case hg=>rfl);(case hr=>go_simp <;> rfl);intro gb148 hg w25 hbox hb;have BK148:=zh (hbox);have hH_:=cH (by repeat (with_reducible first|exact HB.out|apply za|apply zb|apply zc)) hb hg;have GW148:=zh hH_.1;have GE148:=GW148;replace HB:=zh hH_.2;clear hb hbox hg hH_;obtain ⟨hcz26_0,hcz26_1,hcz26_2,hfz26_0,hfz26_1,hfz26_2⟩:=cB3 BK148.out))
   go_ret
   exact ⟨by first|rfl|(simp [yt,yu] <;> rfl)|(simp [*,yt,yu] <;> rfl),by repeat (with_reducible first|exact HB.out|apply za|apply zb|apply zc|refine zd ?_ GE148.out)⟩
  rw [if_neg c24] at H;have c24b0 : (a0_1 == 0)=false:=zY.mpr c24;have c24b1 : (a0_1 != 0)=true:=zZ.mpr c24;obtain rfl:=zU H
  go_enter Try.func40,Try.ntmps40
  go_wp2_with (first|((with_reducible refine zK (N:=2) rfl ?_);(try (refine yz (by rfl) ?_;dsimp only));refine zI ?hg (N:=2) ?hd (cs:=#[.int .i64 a0_0,.int .i64 a0_1,.string a0_2]) (t:=25) ?hr ?_;(case hd=>rfl);(case hg=>rfl);(case hr=>go_simp <;> rfl);intro gb148 hg w27 hbox hb;have BK148:=zh (hbox);have hH_:=cH (by repeat (with_reducible first|exact HB.out|apply za|apply zb|apply zc)) hb hg;have GW148:=zh hH_.1;have GE148:=GW148;replace HB:=zh hH_.2;clear hb hbox hg hH_;obtain ⟨hcz28_0,hcz28_1,hcz28_2,hfz28_0,hfz28_1,hfz28_2⟩:=cB3 BK148.out))
  go_ret
  exact ⟨by first|rfl|(simp [yt,yu] <;> rfl)|(simp [*,yt,yu] <;> rfl),by repeat (with_reducible first|exact HB.out|apply za|apply zb|apply zc|refine zd ?_ GE148.out)⟩
 rw [if_neg c23] at H;have c23b0 : (a0_0 == 3)=false:=zY.mpr c23;have c23b1 : (a0_0 != 3)=true:=zZ.mpr c23
 by_cases c29 : a0_0=4
 ·
  rw [if_pos c29] at H
  have c29b0 : (a0_0 == 4)=true:=ya.mpr c29;have c29b1 : (a0_0 != 4)=false:=zX.mpr c29;clear c29;replace H:=zT.mp H;obtain ⟨⟨t151,t152⟩,A300,H⟩:=H;replace H : (if a0_1=0 then (if t152=true then (if (a0_2.size : Int) > 300 then (F1.j0 k a1 t151 true) else (F1.j0 k a1 t151 (a1 == 0))) else (F1.j0 k a1 t151 true)) else (F1.j0 k a1 t151 true))=some r:=H;have A30:=zh A300;clear A300;have HC31:=zh H;clear H
  go_enter Try.func40,Try.ntmps40
  go_upto_region 12 with (first|((with_reducible refine zK (N:=2) rfl ?_);(try (refine yz (by rfl) ?_;dsimp only));refine zI ?hg (N:=2) ?hd (cs:=#[.int .i64 a0_0,.int .i64 a0_1,.string a0_2]) (t:=25) ?hr ?_;(case hd=>rfl);(case hg=>rfl);(case hr=>go_simp <;> rfl);intro gb148 hg w32 hbox hb;have BK148:=zh (hbox);have hH_:=cH (by repeat (with_reducible first|exact HB.out|apply za|apply zb|apply zc)) hb hg;have GW148:=zh hH_.1;have GE148:=GW148;replace HB:=zh hH_.2;clear hb hbox hg hH_;obtain ⟨hcz33_0,hcz33_1,hcz33_2,hfz33_0,hfz33_1,hfz33_2⟩:=cB3 BK148.out)|((with_reducible refine zJ (f:=64) rfl ?_);refine yj (some 59) rfl rfl Try.func64 (by kernel_rfl) rfl #[.string a0_2] rfl (by (try simp only [zt,zu,zv]);first|done|rfl|(simp only [zw,zx];rfl)|(simp only [yr,ys,zV,zW];rfl)) ?_;(with_reducible refine (Fm.calls k  a0_2 t151 t152 _ A30.out).mono ?_);rintro e w34 ⟨v153,rfl,ho0,hb⟩;refine ⟨_,rfl,?_⟩;have HO154:=zh (yy (Kd.R_newB ho0 (g:=gb148) (o:=.cells #[.int .i64 a0_0,.int .i64 a0_1,.string a0_2] 25 (0,0)) (by (with_reducible repeat first|apply ze|apply zf|apply zg);exact BK148.out)) (zB (by repeat (with_reducible first|exact HB.out|apply za|apply zb|apply zc|refine zd ?_ GE148.out))));replace BK148:=zh (cD BK148.out (by (with_reducible repeat first|apply ze|apply zf|apply zg);exact BK148.out) hb);replace HB:=zh (zC (by repeat (with_reducible first|exact HB.out|apply za|apply zb|apply zc|refine zd ?_ GE148.out)) hb);(try clear hb);(try clear hb2);(try clear hk);(try clear hi);(try clear ho0)))
  (try simp only [Act.put,zi,zj,zk])
  go_cut [78] (fun v78 wc => ∃ (kq : Nat) (x78_30 : Bool),v78 = .bool x78_30∧Aside0 (F1.j0 kq a1 t151 x78_30=some r)∧Aside0 (kq≤k)∧Aside0 (Kd.R k25 25 wc w.heap.size (fun k_=>k_≠gb148) v153 t151)∧Aside0 (wc.heap[gb148]? = some (.cells #[.int .i64 a0_0,.int .i64 a0_1,.string a0_2] 25 (0,0)))∧Aside0 (Below w.heap.size w wc))
  case first =>
   have H:=HC31.out;clear HC31
   by_cases c35 : a0_1=0
   ·
    rw [if_pos c35] at H
    have c35b0 : (a0_1 == 0)=true:=ya.mpr c35;have c35b1 : (a0_1 != 0)=false:=zX.mpr c35;clear c35;(first|rw [c35b0]|(simp only [zG,zH];rw [c35b0])|skip)
    by_cases c36 : t152=true
    ·
     subst c36
     have H1 : (if (a0_2.size : Int) > 300 then (F1.j0 k a1 t151 true) else (F1.j0 k a1 t151 (a1 == 0)))=some r:=by rw [if_pos rfl] at H;exact H
     clear H;have H:=H1;clear H1
     by_cases c37 : (a0_2.size : Int) > 300
     ·
      rw [if_pos c37] at H
      have c37b0 : decide (300<(a0_2.size : Int))=true:=decide_eq_true c37;have c37b1 : decide (300<a0_2.size)=true:=decide_eq_true (by omega);clear c37;have H':=zh H;clear H;obtain ⟨hcz38_0,hcz38_1,hcz38_2,hfz38_0,hfz38_1,hfz38_2⟩:=cB3 BK148.out
      go_wp2
      go_meet
      case rel=>exact ⟨_,(true),(by first|rfl|(simp;done)|(simp [*];done)),H',⟨by first|omega|exact ye _⟩,⟨by (with_reducible repeat (first|apply zm|apply zn|apply zo));exact zM HO154.out (fun _ hk=>hk.2)⟩,⟨by (with_reducible repeat first|apply ze|apply zf|apply zg);exact BK148.out⟩,⟨by repeat (with_reducible first|exact HB.out|apply za|apply zb|apply zc|refine zd ?_ GE148.out)⟩⟩
     rw [if_neg c37] at H;have c37b0 : decide (300<(a0_2.size : Int))=false:=decide_eq_false c37;have c37b1 : decide (300<a0_2.size)=false:=decide_eq_false (by omega);clear c37;have H':=zh H;clear H;obtain ⟨hcz39_0,hcz39_1,hcz39_2,hfz39_0,hfz39_1,hfz39_2⟩:=cB3 BK148.out
     go_wp2
     go_meet
     case rel=>exact ⟨_,((a1 == 0)),(by first|rfl|(simp;done)|(simp [*];done)),H',⟨by first|omega|exact ye _⟩,⟨by (with_reducible repeat (first|apply zm|apply zn|apply zo));exact zM HO154.out (fun _ hk=>hk.2)⟩,⟨by (with_reducible repeat first|apply ze|apply zf|apply zg);exact BK148.out⟩,⟨by repeat (with_reducible first|exact HB.out|apply za|apply zb|apply zc|refine zd ?_ GE148.out)⟩⟩
    replace c36:=yb.mpr c36;subst c36;have H1 : (F1.j0 k a1 t151 true)=some r:=by rw [if_neg (show ¬ (false=true) by decide)] at H;exact H
    clear H;have H:=H1;clear H1;have H':=zh H;clear H;obtain ⟨hcz40_0,hcz40_1,hcz40_2,hfz40_0,hfz40_1,hfz40_2⟩:=cB3 BK148.out
    go_wp2
    go_meet
    case rel=>exact ⟨_,(true),(by first|rfl|(simp;done)|(simp [*];done)),H',⟨by first|omega|exact ye _⟩,⟨by (with_reducible repeat (first|apply zm|apply zn|apply zo));exact zM HO154.out (fun _ hk=>hk.2)⟩,⟨by (with_reducible repeat first|apply ze|apply zf|apply zg);exact BK148.out⟩,⟨by repeat (with_reducible first|exact HB.out|apply za|apply zb|apply zc|refine zd ?_ GE148.out)⟩⟩
   rw [if_neg c35] at H;have c35b0 : (a0_1 == 0)=false:=zY.mpr c35;have c35b1 : (a0_1 != 0)=true:=zZ.mpr c35;(first|rw [c35b0]|(simp only [zG,zH];rw [c35b0])|skip);have H':=zh H;clear H;obtain ⟨hcz41_0,hcz41_1,hcz41_2,hfz41_0,hfz41_1,hfz41_2⟩:=cB3 BK148.out
   go_wp2
   go_meet
   case rel=>exact ⟨_,(true),(by first|rfl|(simp;done)|(simp [*];done)),H',⟨by first|omega|exact ye _⟩,⟨by (with_reducible repeat (first|apply zm|apply zn|apply zo));exact zM HO154.out (fun _ hk=>hk.2)⟩,⟨by (with_reducible repeat first|apply ze|apply zf|apply zg);exact BK148.out⟩,⟨by repeat (with_reducible first|exact HB.out|apply za|apply zb|apply zc|refine zd ?_ GE148.out)⟩⟩
  case rest =>
   clear HC31
   try clear c1 c2
   try clear p2
   try clear c3 c3b0 c3b1 c4 c4b0 c4b1 c6 c9 c9b0 c9b1 c11 c16 c16b0 c16b1 c18 c23 c23b0 c23b1 c24 c24b0 c24b1 c29 c29b0 c29b1 c35 c35b0 c35b1 c36 c37 c37b0 c37b1 c40
   try clear hcz13_0 hcz13_1 hcz13_2
   try clear hcz15_0 hcz15_1 hcz15_2
   try clear hcz20_0 hcz20_1 hcz20_2
   try clear hcz22_0 hcz22_1 hcz22_2
   try clear hcz26_0 hcz26_1 hcz26_2
   try clear hcz28_0 hcz28_1 hcz28_2
   try clear hcz33_0 hcz33_1 hcz33_2
   try clear hcz38_0 hcz38_1 hcz38_2
   try clear hcz39_0 hcz39_1 hcz39_2
   try clear hcz40_0 hcz40_1 hcz40_2
   try clear hcz41_0 hcz41_1 hcz41_2
   try clear hcz6_0 hcz6_1 hcz6_2
   try clear hcz8_0 hcz8_1 hcz8_2
   try clear hfz13_0 hfz13_1 hfz13_2
   try clear hfz15_0 hfz15_1 hfz15_2
   try clear hfz20_0 hfz20_1 hfz20_2
   try clear hfz22_0 hfz22_1 hfz22_2
   try clear hfz26_0 hfz26_1 hfz26_2
   try clear hfz28_0 hfz28_1 hfz28_2
   try clear hfz33_0 hfz33_1 hfz33_2
   try clear hfz38_0 hfz38_1 hfz38_2
   try clear hfz39_0 hfz39_1 hfz39_2
   try clear hfz40_0 hfz40_1 hfz40_2
   try clear hfz41_0 hfz41_1 hfz41_2
   try clear hfz6_0 hfz6_1 hfz6_2
   try clear hfz8_0 hfz8_1 hfz8_2
   obtain ⟨kq,x78_30,rfl,HA,HJ30,HO_5,BK148,HB⟩:=hcut
   cases kq with
   | zero=>exact absurd HA.out (by simp [F1.j0])
   | succ kj30 =>
    have H:=HA.out;clear HA;simp only [F1.j0] at H
    by_cases c42 : x78_30=true
    ·
     subst c42
     have H1 : (some false)=some r:=by rw [if_pos rfl] at H;exact H
     clear H;have H:=H1;clear H1;obtain rfl:=zU H
     go_wp2
     go_ret
     exact ⟨by first|rfl|(simp [yt,yu] <;> rfl)|(simp [*,yt,yu] <;> rfl),by repeat (with_reducible first|exact HB.out|apply za|apply zb|apply zc|refine zd ?_ GE148.out)⟩
    replace c42:=yb.mpr c42;subst c42;have H1 : (F1.l0 kj30 a1 t151 0)=some r:=by rw [if_neg (show ¬ (false=true) by decide)] at H;exact H
    clear H;have H:=H1;clear H1;have H':=zh H;clear H
    go_wp2
    go_loopg [7] kj30 (fun kq v7 w' => ∃ (x7_2 : Int),v7 = .int .i64 x7_2∧Aside0 (F1.l0 kq a1 t151 x7_2=some r)∧Aside0 (kq≤kj30)∧Aside0 (Kd.R k25 25 w' w.heap.size (fun k_=>k_≠gb148) v153 t151)∧Aside0 (w'.heap[gb148]? = some (.cells #[.int .i64 a0_0,.int .i64 a0_1,.string a0_2] 25 (0,0)))∧Aside0 (Below w.heap.size w w'))
    case atStart=>exact ⟨(0),(by first|rfl|(simp;done)|(simp [*];done)),H',⟨ye _⟩,⟨by (with_reducible repeat (first|apply zm|apply zn|apply zo));exact HO_5.out⟩,⟨by (with_reducible repeat first|apply ze|apply zf|apply zg);exact BK148.out⟩,⟨by repeat (with_reducible first|exact HB.out|apply za|apply zb|apply zc|refine zd ?_ GE148.out)⟩⟩
    case round =>
     clear H'
     try clear c1 c2
     try clear p2
     try clear c3 c3b0 c3b1 c4 c4b0 c4b1 c6 c9 c9b0 c9b1 c11 c16 c16b0 c16b1 c18 c23 c23b0 c23b1 c24 c24b0 c24b1 c29 c29b0 c29b1 c35 c35b0 c35b1 c36 c37 c37b0 c37b1 c40 c42
     try clear hcz13_0 hcz13_1 hcz13_2
     try clear hcz15_0 hcz15_1 hcz15_2
     try clear hcz20_0 hcz20_1 hcz20_2
     try clear hcz22_0 hcz22_1 hcz22_2
     try clear hcz26_0 hcz26_1 hcz26_2
     try clear hcz28_0 hcz28_1 hcz28_2
     try clear hcz33_0 hcz33_1 hcz33_2
     try clear hcz38_0 hcz38_1 hcz38_2
     try clear hcz39_0 hcz39_1 hcz39_2
     try clear hcz40_0 hcz40_1 hcz40_2
     try clear hcz41_0 hcz41_1 hcz41_2
     try clear hcz6_0 hcz6_1 hcz6_2
     try clear hcz8_0 hcz8_1 hcz8_2
     try clear hfz13_0 hfz13_1 hfz13_2
     try clear hfz15_0 hfz15_1 hfz15_2
     try clear hfz20_0 hfz20_1 hfz20_2
     try clear hfz22_0 hfz22_1 hfz22_2
     try clear hfz26_0 hfz26_1 hfz26_2
     try clear hfz28_0 hfz28_1 hfz28_2
     try clear hfz33_0 hfz33_1 hfz33_2
     try clear hfz38_0 hfz38_1 hfz38_2
     try clear hfz39_0 hfz39_1 hfz39_2
     try clear hfz40_0 hfz40_1 hfz40_2
     try clear hfz41_0 hfz41_1 hfz41_2
     try clear hfz6_0 hfz6_1 hfz6_2
     try clear hfz8_0 hfz8_1 hfz8_2
     try clear p2
     obtain ⟨x7_2,rfl,HA,HK2,HO_5,BK148,HB⟩:=hrel
     cases gk with
     | zero=>exact absurd HA.out (by simp [F1.l0])
     | succ k2 =>
      have H:=HA.out;clear HA;simp only [F1.l0] at H
      by_cases c43 : x7_2<(t151.length : Int)
      ·
       rw [if_pos c43] at H
       have c43b0 : decide (x7_2<(t151.length : Int))=true:=decide_eq_true c43;clear c43
       by_cases c44 : 0≤x7_2
       ·
        rw [if_pos c44] at H
        have c44b0 : decide (0≤x7_2)=true:=decide_eq_true c44;clear c44;replace H:=zT.mp H;obtain ⟨t156,A450,H⟩:=H;replace H : (if t156=true then (F1.l0 k2 a1 t151 (wrap64 (x7_2+1))) else (some false))=some r:=H;have A45:=zh A450;clear A450
        by_cases c46 : t156=true
        ·
         subst c46
         have H1 : (F1.l0 k2 a1 t151 (wrap64 (x7_2+1)))=some r:=by rw [if_pos rfl] at H;exact H
         clear H;have H:=H1;clear H1;have H':=zh H;clear H;obtain ⟨Ao47,co47,eo47⟩:=yk HO_5.out;subst eo47;have p155 : 0≤(x7_2 : Int):=zy (by first|(with_reducible assumption)|assumption);have q155 : x7_2<(t151.length : Int):=zy (by first|(with_reducible assumption)|assumption);obtain ⟨ad155,e155,hx155_0,hx155_1,hx155_2⟩:=at_T25 (yh HO_5.out).2.2 x7_2 p155 q155
         cases e155
         replace p155:=eq_true p155;replace q155:=eq_true q155
         go_wp2_with (first|((with_reducible refine zJ (f:=40) rfl ?_);refine yj (some 91) rfl rfl Try.func40 (by kernel_rfl) rfl #[.agg #[.int .i64 ((rd_T25 t151 x7_2).f0),.int .i64 ((rd_T25 t151 x7_2).f1),.string ((rd_T25 t151 x7_2).f2)],.int .i64 (wrap64 (a1 - 1))] rfl (by (try simp only [zt,zu,zv]);first|done|rfl|(simp only [zw,zx];rfl)|(simp only [yr,ys,zV,zW];rfl)) ?_;(with_reducible refine (ih k2 (by have:=HJ30.out;have:=HK2.out;omega)  ((rd_T25 t151 x7_2).f0) ((rd_T25 t151 x7_2).f1) ((rd_T25 t151 x7_2).f2) (wrap64 (a1 - 1)) true _ A45.out).mono ?_);rintro e w48 ⟨rfl,hb⟩;refine ⟨_,rfl,?_⟩;replace HO_5:=zh (yg (by (with_reducible repeat (first|apply zm|apply zn|apply zo));exact HO_5.out) hb);replace BK148:=zh (cD BK148.out (by (with_reducible repeat first|apply ze|apply zf|apply zg);exact BK148.out) hb);replace HB:=zh (zC (by repeat (with_reducible first|exact HB.out|apply za|apply zb|apply zc|refine zd ?_ GE148.out)) hb);(try clear hb);(try clear hb2);(try clear hk);(try clear hi)))
         go_roundg k2
         case measure=>have:=HJ30.out;have:=HK2.out;omega
         case rel=>exact ⟨(wrap64 (x7_2+1)),(by first|rfl|(simp;done)|(simp [*];done)),H',⟨by have:=HJ30.out;have:=HK2.out;omega⟩,⟨by (with_reducible repeat (first|apply zm|apply zn|apply zo));exact HO_5.out⟩,⟨by (with_reducible repeat first|apply ze|apply zf|apply zg);exact BK148.out⟩,⟨by repeat (with_reducible first|exact HB.out|apply za|apply zb|apply zc|refine zd ?_ GE148.out)⟩⟩
        replace c46:=yb.mpr c46;subst c46;have H1 : (some false)=some r:=by rw [if_neg (show ¬ (false=true) by decide)] at H;exact H
        clear H;have H:=H1;clear H1;obtain rfl:=zU H;obtain ⟨Ao49,co49,eo49⟩:=yk HO_5.out;subst eo49;have p155 : 0≤(x7_2 : Int):=zy (by first|(with_reducible assumption)|assumption);have q155 : x7_2<(t151.length : Int):=zy (by first|(with_reducible assumption)|assumption);obtain ⟨ad155,e155,hx155_0,hx155_1,hx155_2⟩:=at_T25 (yh HO_5.out).2.2 x7_2 p155 q155
        cases e155
        replace p155:=eq_true p155;replace q155:=eq_true q155
        go_wp2_with (first|((with_reducible refine zJ (f:=40) rfl ?_);refine yj (some 91) rfl rfl Try.func40 (by kernel_rfl) rfl #[.agg #[.int .i64 ((rd_T25 t151 x7_2).f0),.int .i64 ((rd_T25 t151 x7_2).f1),.string ((rd_T25 t151 x7_2).f2)],.int .i64 (wrap64 (a1 - 1))] rfl (by (try simp only [zt,zu,zv]);first|done|rfl|(simp only [zw,zx];rfl)|(simp only [yr,ys,zV,zW];rfl)) ?_;(with_reducible refine (ih k2 (by have:=HJ30.out;have:=HK2.out;omega)  ((rd_T25 t151 x7_2).f0) ((rd_T25 t151 x7_2).f1) ((rd_T25 t151 x7_2).f2) (wrap64 (a1 - 1)) false _ A45.out).mono ?_);rintro e w50 ⟨rfl,hb⟩;refine ⟨_,rfl,?_⟩;replace HO_5:=zh (yg (by (with_reducible repeat (first|apply zm|apply zn|apply zo));exact HO_5.out) hb);replace BK148:=zh (cD BK148.out (by (with_reducible repeat first|apply ze|apply zf|apply zg);exact BK148.out) hb);replace HB:=zh (zC (by repeat (with_reducible first|exact HB.out|apply za|apply zb|apply zc|refine zd ?_ GE148.out)) hb);(try clear hb);(try clear hb2);(try clear hk);(try clear hi)))
        go_ret
        exact ⟨by first|rfl|(simp [yt,yu] <;> rfl)|(simp [*,yt,yu] <;> rfl),by repeat (with_reducible first|exact HB.out|apply za|apply zb|apply zc|refine zd ?_ GE148.out)⟩
       rw [if_neg c44] at H;exact absurd H (by simp)
      rw [if_neg c43] at H;have c43b0 : decide (x7_2<(t151.length : Int))=false:=decide_eq_false c43;clear c43;obtain rfl:=zU H;obtain ⟨Ao51,co51,eo51⟩:=yk HO_5.out;subst eo51
      go_wp2
      go_ret
      exact ⟨by first|rfl|(simp [yt,yu] <;> rfl)|(simp [*,yt,yu] <;> rfl),by repeat (with_reducible first|exact HB.out|apply za|apply zb|apply zc|refine zd ?_ GE148.out)⟩
 rw [if_neg c29] at H;have c29b0 : (a0_0 == 4)=false:=zY.mpr c29;have c29b1 : (a0_0 != 4)=true:=zZ.mpr c29
 by_cases c52 : a0_0=5
 ·
  rw [if_pos c52] at H
  have c52b0 : (a0_0 == 5)=true:=ya.mpr c52;have c52b1 : (a0_0 != 5)=false:=zX.mpr c52;clear c52;replace H:=zT.mp H;obtain ⟨⟨t157,t158⟩,A530,H⟩:=H;replace H : (if a0_1=0 then (if t158=true then (if (a0_2.size : Int) > 300 then (F1.j2 k a1 t157 true) else (F1.j2 k a1 t157 (a1 == 0))) else (F1.j2 k a1 t157 true)) else (F1.j2 k a1 t157 true))=some r:=H;have A53:=zh A530;clear A530;have HC54:=zh H;clear H
  go_enter Try.func40,Try.ntmps40
  go_upto_region 22 with (first|((with_reducible refine zK (N:=2) rfl ?_);(try (refine yz (by rfl) ?_;dsimp only));refine zI ?hg (N:=2) ?hd (cs:=#[.int .i64 a0_0,.int .i64 a0_1,.string a0_2]) (t:=25) ?hr ?_;(case hd=>rfl);(case hg=>rfl);(case hr=>go_simp <;> rfl);intro gb148 hg w55 hbox hb;have BK148:=zh (hbox);have hH_:=cH (by repeat (with_reducible first|exact HB.out|apply za|apply zb|apply zc)) hb hg;have GW148:=zh hH_.1;have GE148:=GW148;replace HB:=zh hH_.2;clear hb hbox hg hH_;obtain ⟨hcz56_0,hcz56_1,hcz56_2,hfz56_0,hfz56_1,hfz56_2⟩:=cB3 BK148.out)|((with_reducible refine zJ (f:=65) rfl ?_);refine yj (some 98) rfl rfl Try.func65 (by kernel_rfl) rfl #[.string a0_2] rfl (by (try simp only [zt,zu,zv]);first|done|rfl|(simp only [zw,zx];rfl)|(simp only [yr,ys,zV,zW];rfl)) ?_;(with_reducible refine (Fl.calls k  a0_2 t157 t158 _ A53.out).mono ?_);rintro e w57 ⟨v159,rfl,ho0,hb⟩;refine ⟨_,rfl,?_⟩;have HO160:=zh (yy ho0 (zB (by repeat (with_reducible first|exact HB.out|apply za|apply zb|apply zc|refine zd ?_ GE148.out))));replace BK148:=zh (cD BK148.out (by (with_reducible repeat first|apply ze|apply zf|apply zg);exact BK148.out) hb);replace HB:=zh (zC (by repeat (with_reducible first|exact HB.out|apply za|apply zb|apply zc|refine zd ?_ GE148.out)) hb);(try clear hb);(try clear hb2);(try clear hk);(try clear hi);(try clear ho0)))
  (try simp only [Act.put,zi,zj,zk])
  go_cut [117] (fun v117 wc => ∃ (kq : Nat) (x117_53 : Bool),v117 = .bool x117_53∧Aside0 (F1.j2 kq a1 t157 x117_53=some r)∧Aside0 (kq≤k)∧Aside0 (Kd.R k43 43 wc w.heap.size (fun _=>True) v159 t157)∧Aside0 (wc.heap[gb148]? = some (.cells #[.int .i64 a0_0,.int .i64 a0_1,.string a0_2] 25 (0,0)))∧Aside0 (Below w.heap.size w wc))
  case first =>
   have H:=HC54.out;clear HC54
   by_cases c58 : a0_1=0
   ·
    rw [if_pos c58] at H
    have c58b0 : (a0_1 == 0)=true:=ya.mpr c58;have c58b1 : (a0_1 != 0)=false:=zX.mpr c58;clear c58;(first|rw [c58b0]|(simp only [zG,zH];rw [c58b0])|skip)
    by_cases c59 : t158=true
    ·
     subst c59
     have H1 : (if (a0_2.size : Int) > 300 then (F1.j2 k a1 t157 true) else (F1.j2 k a1 t157 (a1 == 0)))=some r:=by rw [if_pos rfl] at H;exact H
     clear H;have H:=H1;clear H1
     by_cases c60 : (a0_2.size : Int) > 300
     ·
      rw [if_pos c60] at H
      have c60b0 : decide (300<(a0_2.size : Int))=true:=decide_eq_true c60;have c60b1 : decide (300<a0_2.size)=true:=decide_eq_true (by omega);clear c60;have H':=zh H;clear H;obtain ⟨hcz61_0,hcz61_1,hcz61_2,hfz61_0,hfz61_1,hfz61_2⟩:=cB3 BK148.out
      go_wp2
      go_meet
      case rel=>exact ⟨_,(true),(by first|rfl|(simp;done)|(simp [*];done)),H',⟨by first|omega|exact ye _⟩,⟨by (with_reducible repeat (first|apply zm|apply zn|apply zo));exact HO160.out⟩,⟨by (with_reducible repeat first|apply ze|apply zf|apply zg);exact BK148.out⟩,⟨by repeat (with_reducible first|exact HB.out|apply za|apply zb|apply zc|refine zd ?_ GE148.out)⟩⟩
     rw [if_neg c60] at H;have c60b0 : decide (300<(a0_2.size : Int))=false:=decide_eq_false c60;have c60b1 : decide (300<a0_2.size)=false:=decide_eq_false (by omega);clear c60;have H':=zh H;clear H;obtain ⟨hcz62_0,hcz62_1,hcz62_2,hfz62_0,hfz62_1,hfz62_2⟩:=cB3 BK148.out
     go_wp2
     go_meet
     case rel=>exact ⟨_,((a1 == 0)),(by first|rfl|(simp;done)|(simp [*];done)),H',⟨by first|omega|exact ye _⟩,⟨by (with_reducible repeat (first|apply zm|apply zn|apply zo));exact HO160.out⟩,⟨by (with_reducible repeat first|apply ze|apply zf|apply zg);exact BK148.out⟩,⟨by repeat (with_reducible first|exact HB.out|apply za|apply zb|apply zc|refine zd ?_ GE148.out)⟩⟩
    replace c59:=yb.mpr c59;subst c59;have H1 : (F1.j2 k a1 t157 true)=some r:=by rw [if_neg (show ¬ (false=true) by decide)] at H;exact H
    clear H;have H:=H1;clear H1;have H':=zh H;clear H;obtain ⟨hcz63_0,hcz63_1,hcz63_2,hfz63_0,hfz63_1,hfz63_2⟩:=cB3 BK148.out
    go_wp2
    go_meet
    case rel=>exact ⟨_,(true),(by first|rfl|(simp;done)|(simp [*];done)),H',⟨by first|omega|exact ye _⟩,⟨by (with_reducible repeat (first|apply zm|apply zn|apply zo));exact HO160.out⟩,⟨by (with_reducible repeat first|apply ze|apply zf|apply zg);exact BK148.out⟩,⟨by repeat (with_reducible first|exact HB.out|apply za|apply zb|apply zc|refine zd ?_ GE148.out)⟩⟩
   rw [if_neg c58] at H;have c58b0 : (a0_1 == 0)=false:=zY.mpr c58;have c58b1 : (a0_1 != 0)=true:=zZ.mpr c58;(first|rw [c58b0]|(simp only [zG,zH];rw [c58b0])|skip);have H':=zh H;clear H;obtain ⟨hcz64_0,hcz64_1,hcz64_2,hfz64_0,hfz64_1,hfz64_2⟩:=cB3 BK148.out
   go_wp2
   go_meet
   case rel=>exact ⟨_,(true),(by first|rfl|(simp;done)|(simp [*];done)),H',⟨by first|omega|exact ye _⟩,⟨by (with_reducible repeat (first|apply zm|apply zn|apply zo));exact HO160.out⟩,⟨by (with_reducible repeat first|apply ze|apply zf|apply zg);exact BK148.out⟩,⟨by repeat (with_reducible first|exact HB.out|apply za|apply zb|apply zc|refine zd ?_ GE148.out)⟩⟩
  case rest =>
   clear HC54
   try clear c1
   try clear p1
   try clear q1
   try clear hx1
   try clear c2
   try clear p2
   try clear c3 c3b0 c3b1 c4 c4b0 c4b1 c5 c6
   try clear p6
   try clear c9 c9b0 c9b1 c11
   try clear p15
   try clear q15
   try clear hx15
   try clear c16 c16b0 c16b1 c18 c23 c23b0 c23b1 c24 c24b0 c24b1 c29 c29b0 c29b1 c35 c35b0 c35b1 c36 c37 c37b0 c37b1 c40 c42 c43 c43b0 c44 c44b0 c46 c52 c52b0 c52b1 c58 c58b0 c58b1 c59 c60 c60b0 c60b1 c63 c64
   try clear p64
   try clear hcz13_0 hcz13_1 hcz13_2
   try clear hcz15_0 hcz15_1 hcz15_2
   try clear hcz20_0 hcz20_1 hcz20_2
   try clear hcz22_0 hcz22_1 hcz22_2
   try clear hcz26_0 hcz26_1 hcz26_2
   try clear hcz28_0 hcz28_1 hcz28_2
   try clear hcz33_0 hcz33_1 hcz33_2
   try clear hcz38_0 hcz38_1 hcz38_2
   try clear hcz39_0 hcz39_1 hcz39_2
   try clear hcz40_0 hcz40_1 hcz40_2
   try clear hcz41_0 hcz41_1 hcz41_2
   try clear hcz56_0 hcz56_1 hcz56_2
   try clear hcz61_0 hcz61_1 hcz61_2
   try clear hcz62_0 hcz62_1 hcz62_2
   try clear hcz63_0 hcz63_1 hcz63_2
   try clear hcz64_0 hcz64_1 hcz64_2
   try clear hcz6_0 hcz6_1 hcz6_2
   try clear hcz8_0 hcz8_1 hcz8_2
   try clear hfz13_0 hfz13_1 hfz13_2
   try clear hfz15_0 hfz15_1 hfz15_2
   try clear hfz20_0 hfz20_1 hfz20_2
   try clear hfz22_0 hfz22_1 hfz22_2
   try clear hfz26_0 hfz26_1 hfz26_2
   try clear hfz28_0 hfz28_1 hfz28_2
   try clear hfz33_0 hfz33_1 hfz33_2
   try clear hfz38_0 hfz38_1 hfz38_2
   try clear hfz39_0 hfz39_1 hfz39_2
   try clear hfz40_0 hfz40_1 hfz40_2
   try clear hfz41_0 hfz41_1 hfz41_2
   try clear hfz56_0 hfz56_1 hfz56_2
   try clear hfz61_0 hfz61_1 hfz61_2
   try clear hfz62_0 hfz62_1 hfz62_2
   try clear hfz63_0 hfz63_1 hfz63_2
   try clear hfz64_0 hfz64_1 hfz64_2
   try clear hfz6_0 hfz6_1 hfz6_2
   try clear hfz8_0 hfz8_1 hfz8_2
   try clear hx155_0
   try clear hx155_1
   try clear hx155_2
   try clear p155
   try clear p2
   try clear q155
   obtain ⟨kq,x117_53,rfl,HA,HJ53,HO_8,BK148,HB⟩:=hcut
   cases kq with
   | zero=>exact absurd HA.out (by simp [F1.j2])
   | succ kj53 =>
    have H:=HA.out;clear HA;simp only [F1.j2] at H
    by_cases c65 : x117_53=true
    ·
     subst c65
     have H1 : (some false)=some r:=by rw [if_pos rfl] at H;exact H
     clear H;have H:=H1;clear H1;obtain rfl:=zU H
     go_wp2
     go_ret
     exact ⟨by first|rfl|(simp [yt,yu] <;> rfl)|(simp [*,yt,yu] <;> rfl),by repeat (with_reducible first|exact HB.out|apply za|apply zb|apply zc|refine zd ?_ GE148.out)⟩
    replace c65:=yb.mpr c65;subst c65;have H1 : (F1.l1 kj53 a1 t157 0)=some r:=by rw [if_neg (show ¬ (false=true) by decide)] at H;exact H
    clear H;have H:=H1;clear H1;have H':=zh H;clear H
    go_wp2
    go_loopg [10] kj53 (fun kq v10 w' => ∃ (x10_2 : Int),v10 = .int .i64 x10_2∧Aside0 (F1.l1 kq a1 t157 x10_2=some r)∧Aside0 (kq≤kj53)∧Aside0 (Kd.R k43 43 w' w.heap.size (fun _=>True) v159 t157)∧Aside0 (w'.heap[gb148]? = some (.cells #[.int .i64 a0_0,.int .i64 a0_1,.string a0_2] 25 (0,0)))∧Aside0 (Below w.heap.size w w'))
    case atStart=>exact ⟨(0),(by first|rfl|(simp;done)|(simp [*];done)),H',⟨ye _⟩,⟨by (with_reducible repeat (first|apply zm|apply zn|apply zo));exact HO_8.out⟩,⟨by (with_reducible repeat first|apply ze|apply zf|apply zg);exact BK148.out⟩,⟨by repeat (with_reducible first|exact HB.out|apply za|apply zb|apply zc|refine zd ?_ GE148.out)⟩⟩
    case round =>
     clear H'
     try clear c1
     try clear p1
     try clear q1
     try clear hx1
     try clear c2
     try clear p2
     try clear c3 c3b0 c3b1 c4 c4b0 c4b1 c5 c6
     try clear p6
     try clear c9 c9b0 c9b1 c11
     try clear p15
     try clear q15
     try clear hx15
     try clear c16 c16b0 c16b1 c18 c23 c23b0 c23b1 c24 c24b0 c24b1 c29 c29b0 c29b1 c35 c35b0 c35b1 c36 c37 c37b0 c37b1 c40 c42 c43 c43b0 c44 c44b0 c46 c52 c52b0 c52b1 c58 c58b0 c58b1 c59 c60 c60b0 c60b1 c63 c64
     try clear p64
     try clear c65
     try clear hcz13_0 hcz13_1 hcz13_2
     try clear hcz15_0 hcz15_1 hcz15_2
     try clear hcz20_0 hcz20_1 hcz20_2
     try clear hcz22_0 hcz22_1 hcz22_2
     try clear hcz26_0 hcz26_1 hcz26_2
     try clear hcz28_0 hcz28_1 hcz28_2
     try clear hcz33_0 hcz33_1 hcz33_2
     try clear hcz38_0 hcz38_1 hcz38_2
     try clear hcz39_0 hcz39_1 hcz39_2
     try clear hcz40_0 hcz40_1 hcz40_2
     try clear hcz41_0 hcz41_1 hcz41_2
     try clear hcz56_0 hcz56_1 hcz56_2
     try clear hcz61_0 hcz61_1 hcz61_2
     try clear hcz62_0 hcz62_1 hcz62_2
     try clear hcz63_0 hcz63_1 hcz63_2
     try clear hcz64_0 hcz64_1 hcz64_2
     try clear hcz6_0 hcz6_1 hcz6_2
     try clear hcz8_0 hcz8_1 hcz8_2
     try clear hfz13_0 hfz13_1 hfz13_2
     try clear hfz15_0 hfz15_1 hfz15_2
     try clear hfz20_0 hfz20_1 hfz20_2
     try clear hfz22_0 hfz22_1 hfz22_2
     try clear hfz26_0 hfz26_1 hfz26_2
     try clear hfz28_0 hfz28_1 hfz28_2
     try clear hfz33_0 hfz33_1 hfz33_2
     try clear hfz38_0 hfz38_1 hfz38_2
     try clear hfz39_0 hfz39_1 hfz39_2
     try clear hfz40_0 hfz40_1 hfz40_2
     try clear hfz41_0 hfz41_1 hfz41_2
     try clear hfz56_0 hfz56_1 hfz56_2
     try clear hfz61_0 hfz61_1 hfz61_2
     try clear hfz62_0 hfz62_1 hfz62_2
     try clear hfz63_0 hfz63_1 hfz63_2
     try clear hfz64_0 hfz64_1 hfz64_2
     try clear hfz6_0 hfz6_1 hfz6_2
     try clear hfz8_0 hfz8_1 hfz8_2
     try clear hx155_0
     try clear hx155_1
     try clear hx155_2
     try clear p1
     try clear p15
     try clear p155
     try clear p2
     try clear p6
     try clear p64
     try clear q1
     try clear q15
     try clear q155
     obtain ⟨x10_2,rfl,HA,HK2,HO_8,BK148,HB⟩:=hrel
     cases gk with
     | zero=>exact absurd HA.out (by simp [F1.l1])
     | succ k2 =>
      have H:=HA.out;clear HA;simp only [F1.l1] at H
      by_cases c66 : x10_2<(t157.length : Int)
      ·
       rw [if_pos c66] at H
       have c66b0 : decide (x10_2<(t157.length : Int))=true:=decide_eq_true c66;clear c66
       by_cases c67 : 0≤x10_2
       ·
        rw [if_pos c67] at H
        have c67b0 : decide (0≤x10_2)=true:=decide_eq_true c67;clear c67;replace H:=zT.mp H;obtain ⟨t162,A680,H⟩:=H;replace H : (if t162=true then (if x10_2 > 0 then (if 0≤(wrap64 (x10_2 - 1)) then (if (wrap64 (x10_2 - 1))<(t157.length : Int) then (if ((Op.bytesLess (((rd_T43 t157 (wrap64 (x10_2 - 1))).f0).toList) (((rd_T43 t157 x10_2).f0).toList))=true) then ((F1.f k2 ((rd_T43 t157 x10_2).f1.f0) ((rd_T43 t157 x10_2).f1.f1) ((rd_T43 t157 x10_2).f1.f2) (wrap64 (a1 - 1))).bind fun t166=>(if t166=true then (F1.l1 k2 a1 t157 (wrap64 (x10_2+1))) else (some false))) else (some false)) else (none)) else (none)) else ((F1.f k2 ((rd_T43 t157 x10_2).f1.f0) ((rd_T43 t157 x10_2).f1.f1) ((rd_T43 t157 x10_2).f1.f2) (wrap64 (a1 - 1))).bind fun t168=>(if t168=true then (F1.l1 k2 a1 t157 (wrap64 (x10_2+1))) else (some false)))) else (some false))=some r:=H;have A68:=zh A680;clear A680
        by_cases c69 : t162=true
        ·
         subst c69
         have H1 : (if x10_2 > 0 then (if 0≤(wrap64 (x10_2 - 1)) then (if (wrap64 (x10_2 - 1))<(t157.length : Int) then (if ((Op.bytesLess (((rd_T43 t157 (wrap64 (x10_2 - 1))).f0).toList) (((rd_T43 t157 x10_2).f0).toList))=true) then ((F1.f k2 ((rd_T43 t157 x10_2).f1.f0) ((rd_T43 t157 x10_2).f1.f1) ((rd_T43 t157 x10_2).f1.f2) (wrap64 (a1 - 1))).bind fun t166=>(if t166=true then (F1.l1 k2 a1 t157 (wrap64 (x10_2+1))) else (some false))) else (some false)) else (none)) else (none)) else ((F1.f k2 ((rd_T43 t157 x10_2).f1.f0) ((rd_T43 t157 x10_2).f1.f1) ((rd_T43 t157 x10_2).f1.f2) (wrap64 (a1 - 1))).bind fun t168=>(if t168=true then (F1.l1 k2 a1 t157 (wrap64 (x10_2+1))) else (some false))))=some r:=by rw [if_pos rfl] at H;exact H
         clear H;have H:=H1;clear H1
         by_cases c70 : x10_2 > 0
         ·
          rw [if_pos c70] at H
          have c70b0 : decide (0<x10_2)=true:=decide_eq_true c70;clear c70;obtain ⟨ji71,hji71⟩ : ∃ j_ : Int,(wrap64 (x10_2 - 1))=j_:=⟨_,rfl⟩;replace H : (if 0≤(ji71) then (if (ji71)<(t157.length : Int) then (if ((Op.bytesLess (((rd_T43 t157 (ji71)).f0).toList) (((rd_T43 t157 x10_2).f0).toList))=true) then ((F1.f k2 ((rd_T43 t157 x10_2).f1.f0) ((rd_T43 t157 x10_2).f1.f1) ((rd_T43 t157 x10_2).f1.f2) (wrap64 (a1 - 1))).bind fun t166=>(if t166=true then (F1.l1 k2 a1 t157 (wrap64 (x10_2+1))) else (some false))) else (some false)) else (none)) else (none))=some r:=by first|(rw [hji71] at H;exact H)|(simp only [hji71] at H ⊢;exact H)
          (try rw [hji71] at A68);have hji71w : (IntKind.i64.wrap (x10_2 - 1))=ji71:=(zG _).trans hji71
          by_cases c72 : 0≤(ji71)
          ·
           rw [if_pos c72] at H
           have c72b0 : decide (0≤(ji71))=true:=decide_eq_true c72;clear c72
           by_cases c73 : (ji71)<(t157.length : Int)
           ·
            rw [if_pos c73] at H
            have c73b0 : decide ((ji71)<(t157.length : Int))=true:=decide_eq_true c73;clear c73
            by_cases c74 : ((Op.bytesLess (((rd_T43 t157 (ji71)).f0).toList) (((rd_T43 t157 x10_2).f0).toList))=true)
            ·
             rw [if_pos c74] at H
             have c74b0 : (Op.bytesLess (((rd_T43 t157 (ji71)).f0).toList) (((rd_T43 t157 x10_2).f0).toList))=true:=c74;clear c74;replace H:=zT.mp H;obtain ⟨t166,A750,H⟩:=H;replace H : (if t166=true then (F1.l1 k2 a1 t157 (wrap64 (x10_2+1))) else (some false))=some r:=H;have A75:=zh A750;clear A750
             by_cases c76 : t166=true
             ·
              subst c76
              have H1 : (F1.l1 k2 a1 t157 (wrap64 (x10_2+1)))=some r:=by rw [if_pos rfl] at H;exact H
              clear H;have H:=H1;clear H1;have H':=zh H;clear H;obtain ⟨Ao77,co77,eo77⟩:=yk HO_8.out;subst eo77
              try go_wp2
              replace HO_8:=zh (zo HO_8.out);replace BK148:=zh (zf BK148.out);replace HB:=zh (zc HB.out);have p161 : 0≤(x10_2 : Int):=zy (by first|(with_reducible assumption)|assumption);have q161 : x10_2<(t157.length : Int):=zy (by first|(with_reducible assumption)|assumption);obtain ⟨ad161,e161,hx161_0,hx161_1,hx161_2,hx161_3⟩:=at_T43 (yh HO_8.out).2.2 x10_2 p161 q161
              cases e161
              replace p161:=eq_true p161;replace q161:=eq_true q161;have p163 : 0≤((ji71) : Int):=zy (by first|(with_reducible assumption)|assumption);have q163 : (ji71)<(t157.length : Int):=zy (by first|(with_reducible assumption)|assumption);obtain ⟨ad163,e163,hx163_0,hx163_1,hx163_2,hx163_3⟩:=at_T43 (yh HO_8.out).2.2 (ji71) p163 q163;obtain rfl : ad161=ad163:=(by injection e163);replace p163:=eq_true p163;replace q163:=eq_true q163;have p164 : 0≤(x10_2 : Int):=zy (by first|(with_reducible assumption)|assumption);have q164 : x10_2<(t157.length : Int):=zy (by first|(with_reducible assumption)|assumption);obtain ⟨ad164,e164,hx164_0,hx164_1,hx164_2,hx164_3⟩:=at_T43 (yh HO_8.out).2.2 x10_2 p164 q164;obtain rfl : ad161=ad164:=(by injection e164);replace p164:=eq_true p164;replace q164:=eq_true q164;have p165 : 0≤(x10_2 : Int):=zy (by first|(with_reducible assumption)|assumption);have q165 : x10_2<(t157.length : Int):=zy (by first|(with_reducible assumption)|assumption);obtain ⟨ad165,e165,hx165_0,hx165_1,hx165_2,hx165_3⟩:=at_T43 (yh HO_8.out).2.2 x10_2 p165 q165;obtain rfl : ad161=ad165:=(by injection e165);replace p165:=eq_true p165;replace q165:=eq_true q165;refine start_ (n:=36) (S:=fun w' => w'.cell? (ad161.add ((x10_2).toNat*4))=some (.string ((rd_T43 t157 x10_2).f0))∧w'.cell? ⟨(ad161.add ((x10_2).toNat*4)).block,(ad161.add ((x10_2).toNat*4)).off+1,none⟩=some (.int .i64 ((rd_T43 t157 x10_2).f1.f0))∧w'.cell? ⟨(ad161.add ((x10_2).toNat*4)).block,(ad161.add ((x10_2).toNat*4)).off+2,none⟩=some (.int .i64 ((rd_T43 t157 x10_2).f1.f1))∧w'.cell? ⟨(ad161.add ((x10_2).toNat*4)).block,(ad161.add ((x10_2).toNat*4)).off+3,none⟩=some (.string ((rd_T43 t157 x10_2).f1.f2))∧w'.cell? (ad161.add (((ji71)).toNat*4))=some (.string ((rd_T43 t157 (ji71)).f0))∧w'.cell? ⟨(ad161.add (((ji71)).toNat*4)).block,(ad161.add (((ji71)).toNat*4)).off+1,none⟩=some (.int .i64 ((rd_T43 t157 (ji71)).f1.f0))∧w'.cell? ⟨(ad161.add (((ji71)).toNat*4)).block,(ad161.add (((ji71)).toNat*4)).off+2,none⟩=some (.int .i64 ((rd_T43 t157 (ji71)).f1.f1))∧w'.cell? ⟨(ad161.add (((ji71)).toNat*4)).block,(ad161.add (((ji71)).toNat*4)).off+3,none⟩=some (.string ((rd_T43 t157 (ji71)).f1.f2))∧w'.cell? (ad161.add ((x10_2).toNat*4))=some (.string ((rd_T43 t157 x10_2).f0))∧w'.cell? ⟨(ad161.add ((x10_2).toNat*4)).block,(ad161.add ((x10_2).toNat*4)).off+1,none⟩=some (.int .i64 ((rd_T43 t157 x10_2).f1.f0))∧w'.cell? ⟨(ad161.add ((x10_2).toNat*4)).block,(ad161.add ((x10_2).toNat*4)).off+2,none⟩=some (.int .i64 ((rd_T43 t157 x10_2).f1.f1))∧w'.cell? ⟨(ad161.add ((x10_2).toNat*4)).block,(ad161.add ((x10_2).toNat*4)).off+3,none⟩=some (.string ((rd_T43 t157 x10_2).f1.f2))∧w'.cell? (ad161.add ((x10_2).toNat*4))=some (.string ((rd_T43 t157 x10_2).f0))∧w'.cell? ⟨(ad161.add ((x10_2).toNat*4)).block,(ad161.add ((x10_2).toNat*4)).off+1,none⟩=some (.int .i64 ((rd_T43 t157 x10_2).f1.f0))∧w'.cell? ⟨(ad161.add ((x10_2).toNat*4)).block,(ad161.add ((x10_2).toNat*4)).off+2,none⟩=some (.int .i64 ((rd_T43 t157 x10_2).f1.f1))∧w'.cell? ⟨(ad161.add ((x10_2).toNat*4)).block,(ad161.add ((x10_2).toNat*4)).off+3,none⟩=some (.string ((rd_T43 t157 x10_2).f1.f2))) (ds:=[]) (bm_ 0 36) (by kernel_rfl) rfl rfl ⟨hx161_0,hx161_1,hx161_2,hx161_3,hx163_0,hx163_1,hx163_2,hx163_3,hx164_0,hx164_1,hx164_2,hx164_3,hx165_0,hx165_1,hx165_2,hx165_3⟩ (fun hHeld=>?_);refine with_tabW F1.tab27 F1.bits27 (fun HT_ HW_=>?_);generalize wr.drew=w78 at HO_8 BK148 HB hx161_0 hx161_1 hx161_2 hx161_3 hx163_0 hx163_1 hx163_2 hx163_3 hx164_0 hx164_1 hx164_2 hx164_3 hx165_0 hx165_1 hx165_2 hx165_3 hHeld ⊢;refine pure_ (i:=0) (N:=some 124) (v:=?_) (a':=?_) (bm_ 1 36) rfl rfl (any_of HT_.out (by kernel_rfl)) (fun _ _ _ h=>h) (Or.inl ⟨by rfl,?_⟩) ?_ ?_;rotate_left
              ·
               intro w'
               go_simp
               with_reducible rfl
              rotate_left
              ·
               simp only [Act.put,zi,zj,zk,zG,zH]
               rfl
              refine pure_ (i:=1) (N:=some 125) (v:=?_) (a':=?_) (bm_ 2 36) rfl rfl (any_of HT_.out (by kernel_rfl)) (fun _ _ _ h=>h) (Or.inl ⟨by rfl,?_⟩) ?_ ?_;rotate_left
              ·
               intro w'
               go_simp
               with_reducible rfl
              rotate_left
              ·
               simp only [Act.put,zi,zj,zk,zG,zH]
               rfl
              refine pure_ (i:=2) (N:=some 126) (v:=?_) (a':=?_) (bm_ 3 36) rfl rfl (any_of HT_.out (by kernel_rfl)) (fun _ _ _ h=>h) (Or.inl ⟨by rfl,?_⟩) ?_ ?_;rotate_left
              ·
               intro w'
               go_simp
               with_reducible rfl
              rotate_left
              ·
               simp only [Act.put,zi,zj,zk,zG,zH]
               rfl
              refine pure_ (i:=3) (N:=some 127) (v:=?_) (a':=?_) (bm_ 4 36) rfl rfl (any_of HT_.out (by kernel_rfl)) (fun _ _ _ h=>h) (Or.inl ⟨by rfl,?_⟩) ?_ ?_;rotate_left
              ·
               intro w'
               go_simp
               with_reducible rfl
              rotate_left
              ·
               simp only [Act.put,zi,zj,zk,zG,zH]
               rfl
              refine take_ (i:=4) (N:=some 128) (v:=?_) (a':=?_) (bm_ 5 36) rfl rfl (yo HT_.out HW_.out (by kernel_rfl)) (fun _ _ _ h=>h) (Or.inl ⟨by rfl,?_⟩) hHeld ?_ ?_;rotate_left
              ·
               rintro w' ⟨s0,s1,s2,s3,s4,s5,s6,s7,s8,s9,s10,s11,s12,s13,s14,s15⟩
               go_simp
               with_reducible rfl
              rotate_left
              ·
               simp only [Act.put,zi,zj,zk,zG,zH]
               rfl
              refine one_ (i:=5) (N:=some 129) (bm_ 6 36) rfl rfl (one_of HT_.out (by kernel_rfl)) (by decide) (fun K hK=>?_);refine goes_ Try.func19 (by kernel_rfl) rfl #[.string ((rd_T43 t157 x10_2).f0)] (by rfl) rfl rfl (by (try simp only [zt,zu,zv]);first|done|rfl|(simp only [zw,zx];rfl)|(simp only [yr,ys,zV,zW];rfl)) ?_
              with_reducible refine (Fy.calls k2  ((rd_T43 t157 x10_2).f0) true _ A68.out).mono ?_
              rintro e w' ⟨rfl,⟨nd,rfl⟩⟩;refine ⟨_,rfl,?_⟩;refine hK.out _ _ ⟨hHeld.1,hHeld.2.1,hHeld.2.2.1,hHeld.2.2.2.1,hHeld.2.2.2.2.1,hHeld.2.2.2.2.2.1,hHeld.2.2.2.2.2.2.1,hHeld.2.2.2.2.2.2.2.1,hHeld.2.2.2.2.2.2.2.2.1,hHeld.2.2.2.2.2.2.2.2.2.1,hHeld.2.2.2.2.2.2.2.2.2.2.1,hHeld.2.2.2.2.2.2.2.2.2.2.2.1,hHeld.2.2.2.2.2.2.2.2.2.2.2.2.1,hHeld.2.2.2.2.2.2.2.2.2.2.2.2.2.1,hHeld.2.2.2.2.2.2.2.2.2.2.2.2.2.2.1,hHeld.2.2.2.2.2.2.2.2.2.2.2.2.2.2.2⟩ (fun hHeld=>?_);clear hK K;refine norm_ (a':=?_) ?_ ?_;rotate_left
              ·
               show Act.put _ (some 129) _=_
               simp only [Act.put,zi,zj,zk,zG,zH]
               rfl
              refine pure_ (i:=6) (N:=some 130) (v:=?_) (a':=?_) (bm_ 7 36) rfl rfl (any_of HT_.out (by kernel_rfl)) (fun _ _ _ h=>h) (Or.inl ⟨by rfl,?_⟩) ?_ ?_;rotate_left
              ·
               intro w'
               go_simp
               with_reducible rfl
              rotate_left
              ·
               simp only [Act.put,zi,zj,zk,zG,zH]
               rfl
              refine pure_ (i:=7) (N:=some 131) (v:=?_) (a':=?_) (bm_ 8 36) rfl rfl (any_of HT_.out (by kernel_rfl)) (fun _ _ _ h=>h) (Or.inl ⟨by rfl,?_⟩) ?_ ?_;rotate_left
              ·
               intro w'
               go_simp
               with_reducible rfl
              rotate_left
              ·
               simp only [Act.put,zi,zj,zk,zG,zH]
               rfl
              refine pure_ (i:=8) (N:=some 132) (v:=?_) (a':=?_) (bm_ 9 36) rfl rfl (any_of HT_.out (by kernel_rfl)) (fun _ _ _ h=>h) (Or.inl ⟨by rfl,?_⟩) ?_ ?_;rotate_left
              ·
               intro w'
               go_simp
               with_reducible rfl
              rotate_left
              ·
               simp only [Act.put,zi,zj,zk,zG,zH]
               rfl
              refine pure_ (i:=9) (N:=some 133) (v:=?_) (a':=?_) (bm_ 10 36) rfl rfl (any_of HT_.out (by kernel_rfl)) (fun _ _ _ h=>h) (Or.inl ⟨by rfl,?_⟩) ?_ ?_;rotate_left
              ·
               intro w'
               go_simp
               with_reducible rfl
              rotate_left
              ·
               simp only [Act.put,zi,zj,zk,zG,zH]
               rfl
              refine pure_ (i:=10) (N:=some 134) (v:=?_) (a':=?_) (bm_ 11 36) rfl rfl (any_of HT_.out (by kernel_rfl)) (fun _ _ _ h=>h) (Or.inl ⟨by rfl,?_⟩) ?_ ?_;rotate_left
              ·
               intro w'
               go_simp
               with_reducible rfl
              rotate_left
              ·
               simp only [Act.put,zi,zj,zk,zG,zH]
               rfl
              refine pure_ (i:=11) (N:=some 135) (v:=?_) (a':=?_) (bm_ 12 36) rfl rfl (any_of HT_.out (by kernel_rfl)) (fun _ _ _ h=>h) (Or.inl ⟨by rfl,?_⟩) ?_ ?_;rotate_left
              ·
               intro w'
               go_simp
               with_reducible rfl
              rotate_left
              ·
               simp only [Act.put,zi,zj,zk,zG,zH]
               rfl
              refine pure_ (i:=12) (N:=some 136) (v:=?_) (a':=?_) (bm_ 13 36) rfl rfl (any_of HT_.out (by kernel_rfl)) (fun _ _ _ h=>h) (Or.inl ⟨by rfl,?_⟩) ?_ ?_;rotate_left
              ·
               intro w'
               go_simp
               with_reducible rfl
              rotate_left
              ·
               simp only [Act.put,zi,zj,zk,zG,zH]
               rfl
              refine pure_ (i:=13) (N:=some 137) (v:=?_) (a':=?_) (bm_ 14 36) rfl rfl (any_of HT_.out (by kernel_rfl)) (fun _ _ _ h=>h) (Or.inl ⟨by rfl,?_⟩) ?_ ?_;rotate_left
              ·
               intro w'
               go_simp
               with_reducible rfl
              rotate_left
              ·
               simp only [Act.put,zi,zj,zk,zG,zH]
               rfl
              refine pure_ (i:=14) (N:=some 138) (v:=?_) (a':=?_) (bm_ 15 36) rfl rfl (any_of HT_.out (by kernel_rfl)) (fun _ _ _ h=>h) (Or.inl ⟨by rfl,?_⟩) ?_ ?_;rotate_left
              ·
               intro w'
               go_simp
               with_reducible rfl
              rotate_left
              ·
               simp only [Act.put,zi,zj,zk,zG,zH]
               rfl
              refine pure_ (i:=15) (N:=some 139) (v:=?_) (a':=?_) (bm_ 16 36) rfl rfl (any_of HT_.out (by kernel_rfl)) (fun _ _ _ h=>h) (Or.inl ⟨by rfl,?_⟩) ?_ ?_;rotate_left
              ·
               intro w'
               go_simp
               with_reducible rfl
              rotate_left
              ·
               simp only [Act.put,zi,zj,zk,zG,zH]
               rfl
              refine pure_ (i:=17) (N:=some 141) (v:=?_) (a':=?_) #[true,true,true,true,true,true,true,true,true,true,true,true,true,true,true,true,false,true,false,false,false,false,false,false,false,false,false,false,false,false,false,false,false,false,false,false] rfl rfl (any_of HT_.out (by kernel_rfl)) (fun _ _ _ h=>h) (Or.inl ⟨by rfl,?_⟩) ?_ ?_;rotate_left
              ·
               intro w'
               go_simp
               with_reducible rfl
              rotate_left
              ·
               simp only [Act.put,zi,zj,zk,zG,zH]
               rfl
              refine pure_ (i:=18) (N:=some 142) (v:=?_) (a':=?_) #[true,true,true,true,true,true,true,true,true,true,true,true,true,true,true,true,false,true,true,false,false,false,false,false,false,false,false,false,false,false,false,false,false,false,false,false] rfl rfl (any_of HT_.out (by kernel_rfl)) (fun _ _ _ h=>h) (Or.inl ⟨by rfl,?_⟩) ?_ ?_;rotate_left
              ·
               intro w'
               go_simp
               with_reducible rfl
              rotate_left
              ·
               simp only [Act.put,zi,zj,zk,zG,zH]
               rfl
              refine pure_ (i:=19) (N:=some 143) (v:=?_) (a':=?_) #[true,true,true,true,true,true,true,true,true,true,true,true,true,true,true,true,false,true,true,true,false,false,false,false,false,false,false,false,false,false,false,false,false,false,false,false] rfl rfl (any_of HT_.out (by kernel_rfl)) (fun _ _ _ h=>h) (Or.inl ⟨by rfl,?_⟩) ?_ ?_;rotate_left
              ·
               intro w'
               go_simp
               with_reducible rfl
              rotate_left
              ·
               simp only [Act.put,zi,zj,zk,zG,zH]
               rfl
              refine pure_ (i:=20) (N:=some 144) (v:=?_) (a':=?_) #[true,true,true,true,true,true,true,true,true,true,true,true,true,true,true,true,false,true,true,true,true,false,false,false,false,false,false,false,false,false,false,false,false,false,false,false] rfl rfl (any_of HT_.out (by kernel_rfl)) (fun _ _ _ h=>h) (Or.inl ⟨by rfl,?_⟩) ?_ ?_;rotate_left
              ·
               intro w'
               go_simp
               with_reducible rfl
              rotate_left
              ·
               simp only [Act.put,zi,zj,zk,zG,zH]
               rfl
              refine take_ (i:=16) (N:=some 140) (v:=?_) (a':=?_) (bm_ 21 36) rfl rfl (yo HT_.out HW_.out (by kernel_rfl)) (fun _ _ _ h=>h) (Or.inl ⟨by rfl,?_⟩) hHeld ?_ ?_;rotate_left
              ·
               rintro w' ⟨s0,s1,s2,s3,s4,s5,s6,s7,s8,s9,s10,s11,s12,s13,s14,s15⟩
               go_simp
               with_reducible rfl
              rotate_left
              ·
               simp only [Act.put,zi,zj,zk,zG,zH]
               rfl
              refine take_ (i:=21) (N:=some 145) (v:=?_) (a':=?_) (bm_ 22 36) rfl rfl (yo HT_.out HW_.out (by kernel_rfl)) (fun _ _ _ h=>h) (Or.inl ⟨by rfl,?_⟩) hHeld ?_ ?_;rotate_left
              ·
               rintro w' ⟨s0,s1,s2,s3,s4,s5,s6,s7,s8,s9,s10,s11,s12,s13,s14,s15⟩
               go_simp
               with_reducible rfl
              rotate_left
              ·
               simp only [Act.put,zi,zj,zk,zG,zH]
               rfl
              refine pure_ (i:=22) (N:=some 146) (v:=?_) (a':=?_) (bm_ 23 36) rfl rfl (any_of HT_.out (by kernel_rfl)) (fun _ _ _ h=>h) (Or.inl ⟨by rfl,?_⟩) ?_ ?_;rotate_left
              ·
               intro w'
               go_simp
               with_reducible rfl
              rotate_left
              ·
               simp only [Act.put,zi,zj,zk,zG,zH]
               rfl
              refine pure_ (i:=23) (N:=some 147) (v:=?_) (a':=?_) (bm_ 24 36) rfl rfl (any_of HT_.out (by kernel_rfl)) (fun _ _ _ h=>h) (Or.inl ⟨by rfl,?_⟩) ?_ ?_;rotate_left
              ·
               intro w'
               go_simp
               with_reducible rfl
              rotate_left
              ·
               simp only [Act.put,zi,zj,zk,zG,zH]
               rfl
              refine pure_ (i:=24) (N:=some 148) (v:=?_) (a':=?_) (bm_ 25 36) rfl rfl (any_of HT_.out (by kernel_rfl)) (fun _ _ _ h=>h) (Or.inl ⟨by rfl,?_⟩) ?_ ?_;rotate_left
              ·
               intro w'
               go_simp
               with_reducible rfl
              rotate_left
              ·
               simp only [Act.put,zi,zj,zk,zG,zH]
               rfl
              refine pure_ (i:=25) (N:=some 149) (v:=?_) (a':=?_) (bm_ 26 36) rfl rfl (any_of HT_.out (by kernel_rfl)) (fun _ _ _ h=>h) (Or.inl ⟨by rfl,?_⟩) ?_ ?_;rotate_left
              ·
               intro w'
               go_simp
               with_reducible rfl
              rotate_left
              ·
               simp only [Act.put,zi,zj,zk,zG,zH]
               rfl
              refine pure_ (i:=26) (N:=some 150) (v:=?_) (a':=?_) (bm_ 27 36) rfl rfl (any_of HT_.out (by kernel_rfl)) (fun _ _ _ h=>h) (Or.inl ⟨by rfl,?_⟩) ?_ ?_;rotate_left
              ·
               intro w'
               go_simp
               with_reducible rfl
              rotate_left
              ·
               simp only [Act.put,zi,zj,zk,zG,zH]
               rfl
              refine pure_ (i:=27) (N:=some 151) (v:=?_) (a':=?_) (bm_ 28 36) rfl rfl (any_of HT_.out (by kernel_rfl)) (fun _ _ _ h=>h) (Or.inl ⟨by rfl,?_⟩) ?_ ?_;rotate_left
              ·
               intro w'
               go_simp
               with_reducible rfl
              rotate_left
              ·
               simp only [Act.put,zi,zj,zk,zG,zH]
               rfl
              refine pure_ (i:=28) (N:=some 152) (v:=?_) (a':=?_) (bm_ 29 36) rfl rfl (any_of HT_.out (by kernel_rfl)) (fun _ _ _ h=>h) (Or.inl ⟨by rfl,?_⟩) ?_ ?_;rotate_left
              ·
               intro w'
               go_simp
               with_reducible rfl
              rotate_left
              ·
               simp only [Act.put,zi,zj,zk,zG,zH]
               rfl
              refine pure_ (i:=29) (N:=some 153) (v:=?_) (a':=?_) (bm_ 30 36) rfl rfl (any_of HT_.out (by kernel_rfl)) (fun _ _ _ h=>h) (Or.inl ⟨by rfl,?_⟩) ?_ ?_;rotate_left
              ·
               intro w'
               go_simp
               with_reducible rfl
              rotate_left
              ·
               simp only [Act.put,zi,zj,zk,zG,zH]
               rfl
              refine pure_ (i:=31) (N:=some 155) (v:=?_) (a':=?_) #[true,true,true,true,true,true,true,true,true,true,true,true,true,true,true,true,true,true,true,true,true,true,true,true,true,true,true,true,true,true,false,true,false,false,false,false] rfl rfl (any_of HT_.out (by kernel_rfl)) (fun _ _ _ h=>h) (Or.inl ⟨by rfl,?_⟩) ?_ ?_;rotate_left
              ·
               intro w'
               go_simp
               with_reducible rfl
              rotate_left
              ·
               simp only [Act.put,zi,zj,zk,zG,zH]
               rfl
              refine pure_ (i:=32) (N:=some 156) (v:=?_) (a':=?_) #[true,true,true,true,true,true,true,true,true,true,true,true,true,true,true,true,true,true,true,true,true,true,true,true,true,true,true,true,true,true,false,true,true,false,false,false] rfl rfl (any_of HT_.out (by kernel_rfl)) (fun _ _ _ h=>h) (Or.inl ⟨by rfl,?_⟩) ?_ ?_;rotate_left
              ·
               intro w'
               go_simp
               with_reducible rfl
              rotate_left
              ·
               simp only [Act.put,zi,zj,zk,zG,zH]
               rfl
              refine take_ (i:=30) (N:=some 154) (v:=?_) (a':=?_) (bm_ 33 36) rfl rfl (yo HT_.out HW_.out (by kernel_rfl)) (fun _ _ _ h=>h) (Or.inl ⟨by rfl,?_⟩) hHeld ?_ ?_;rotate_left
              ·
               rintro w' ⟨s0,s1,s2,s3,s4,s5,s6,s7,s8,s9,s10,s11,s12,s13,s14,s15⟩
               go_simp
               with_reducible rfl
              rotate_left
              ·
               simp only [Act.put,zi,zj,zk,zG,zH]
               rfl
              refine one_ (i:=33) (N:=some 157) (bm_ 34 36) rfl rfl (one_of HT_.out (by kernel_rfl)) (by decide) (fun K hK=>?_);refine goes_ Try.func40 (by kernel_rfl) rfl #[.agg #[.int .i64 ((rd_T43 t157 x10_2).f1.f0),.int .i64 ((rd_T43 t157 x10_2).f1.f1),.string ((rd_T43 t157 x10_2).f1.f2)],.int .i64 (wrap64 (a1 - 1))] (by rfl) rfl rfl (by (try simp only [zt,zu,zv]);first|done|rfl|(simp only [zw,zx];rfl)|(simp only [yr,ys,zV,zW];rfl)) ?_
              with_reducible refine (ih k2 (by have:=HJ53.out;have:=HK2.out;omega)  ((rd_T43 t157 x10_2).f1.f0) ((rd_T43 t157 x10_2).f1.f1) ((rd_T43 t157 x10_2).f1.f2) (wrap64 (a1 - 1)) true _ A75.out).mono ?_
              rintro e w79 ⟨rfl,hb⟩;have HS0_:=(hb.cell (zl _ _ (hHeld.1))).trans (hHeld.1);have HS1_:=(hb.cell (zl _ _ (hHeld.2.1))).trans (hHeld.2.1);have HS2_:=(hb.cell (zl _ _ (hHeld.2.2.1))).trans (hHeld.2.2.1);have HS3_:=(hb.cell (zl _ _ (hHeld.2.2.2.1))).trans (hHeld.2.2.2.1);have HS4_:=(hb.cell (zl _ _ (hHeld.2.2.2.2.1))).trans (hHeld.2.2.2.2.1);have HS5_:=(hb.cell (zl _ _ (hHeld.2.2.2.2.2.1))).trans (hHeld.2.2.2.2.2.1);have HS6_:=(hb.cell (zl _ _ (hHeld.2.2.2.2.2.2.1))).trans (hHeld.2.2.2.2.2.2.1);have HS7_:=(hb.cell (zl _ _ (hHeld.2.2.2.2.2.2.2.1))).trans (hHeld.2.2.2.2.2.2.2.1);have HS8_:=(hb.cell (zl _ _ (hHeld.2.2.2.2.2.2.2.2.1))).trans (hHeld.2.2.2.2.2.2.2.2.1);have HS9_:=(hb.cell (zl _ _ (hHeld.2.2.2.2.2.2.2.2.2.1))).trans (hHeld.2.2.2.2.2.2.2.2.2.1);have HS10_:=(hb.cell (zl _ _ (hHeld.2.2.2.2.2.2.2.2.2.2.1))).trans (hHeld.2.2.2.2.2.2.2.2.2.2.1);have HS11_:=(hb.cell (zl _ _ (hHeld.2.2.2.2.2.2.2.2.2.2.2.1))).trans (hHeld.2.2.2.2.2.2.2.2.2.2.2.1);have HS12_:=(hb.cell (zl _ _ (hHeld.2.2.2.2.2.2.2.2.2.2.2.2.1))).trans (hHeld.2.2.2.2.2.2.2.2.2.2.2.2.1);have HS13_:=(hb.cell (zl _ _ (hHeld.2.2.2.2.2.2.2.2.2.2.2.2.2.1))).trans (hHeld.2.2.2.2.2.2.2.2.2.2.2.2.2.1);have HS14_:=(hb.cell (zl _ _ (hHeld.2.2.2.2.2.2.2.2.2.2.2.2.2.2.1))).trans (hHeld.2.2.2.2.2.2.2.2.2.2.2.2.2.2.1);have HS15_:=(hb.cell (zl _ _ (hHeld.2.2.2.2.2.2.2.2.2.2.2.2.2.2.2))).trans (hHeld.2.2.2.2.2.2.2.2.2.2.2.2.2.2.2);refine ⟨_,rfl,?_⟩;replace HO_8:=zh (yg (by (with_reducible repeat (first|apply zm|apply zn|apply zo));exact HO_8.out) hb);replace BK148:=zh (cD BK148.out (by (with_reducible repeat first|apply ze|apply zf|apply zg);exact BK148.out) hb);replace HB:=zh (zC (by repeat (with_reducible first|exact HB.out|apply za|apply zb|apply zc|refine zd ?_ GE148.out)) hb);(try clear hb);(try clear hb2);(try clear hk);(try clear hi);refine hK.out _ _ ⟨HS0_,HS1_,HS2_,HS3_,HS4_,HS5_,HS6_,HS7_,HS8_,HS9_,HS10_,HS11_,HS12_,HS13_,HS14_,HS15_⟩ (fun hHeld=>?_);clear hK K;refine norm_ (a':=?_) ?_ ?_;rotate_left
              ·
               show Act.put _ (some 157) _=_
               simp only [Act.put,zi,zj,zk,zG,zH]
               rfl
              refine pure_ (i:=34) (N:=some 158) (v:=?_) (a':=?_) (bm_ 35 36) rfl rfl (any_of HT_.out (by kernel_rfl)) (fun _ _ _ h=>h) (Or.inl ⟨by rfl,?_⟩) ?_ ?_;rotate_left
              ·
               intro w'
               go_simp
               with_reducible rfl
              rotate_left
              ·
               simp only [Act.put,zi,zj,zk,zG,zH]
               rfl
              refine pure_ (i:=35) (N:=some 159) (v:=?_) (a':=?_) (bm_ 36 36) rfl rfl (any_of HT_.out (by kernel_rfl)) (fun _ _ _ h=>h) (Or.inl ⟨by rfl,?_⟩) ?_ ?_;rotate_left
              ·
               intro w'
               go_simp
               with_reducible rfl
              rotate_left
              ·
               simp only [Act.put,zi,zj,zk,zG,zH]
               rfl
              refine done_ (done_of HT_.out (by kernel_rfl)) ?_
              try go_wp2
              go_roundg k2
              case measure=>have:=HJ53.out;have:=HK2.out;omega
              case rel=>exact ⟨(wrap64 (x10_2+1)),(by first|rfl|(simp;done)|(simp [*];done)),H',⟨by have:=HJ53.out;have:=HK2.out;omega⟩,⟨by (with_reducible repeat (first|apply zm|apply zn|apply zo));exact HO_8.out⟩,⟨by (with_reducible repeat first|apply ze|apply zf|apply zg);exact BK148.out⟩,⟨by repeat (with_reducible first|exact HB.out|apply za|apply zb|apply zc|refine zd ?_ GE148.out)⟩⟩
             replace c76:=yb.mpr c76;subst c76;have H1 : (some false)=some r:=by rw [if_neg (show ¬ (false=true) by decide)] at H;exact H
             clear H;have H:=H1;clear H1;obtain rfl:=zU H;obtain ⟨Ao80,co80,eo80⟩:=yk HO_8.out;subst eo80
             try go_wp2
             replace HO_8:=zh (zo HO_8.out);replace BK148:=zh (zf BK148.out);replace HB:=zh (zc HB.out);have p161 : 0≤(x10_2 : Int):=zy (by first|(with_reducible assumption)|assumption);have q161 : x10_2<(t157.length : Int):=zy (by first|(with_reducible assumption)|assumption);obtain ⟨ad161,e161,hx161_0,hx161_1,hx161_2,hx161_3⟩:=at_T43 (yh HO_8.out).2.2 x10_2 p161 q161
             cases e161
             replace p161:=eq_true p161;replace q161:=eq_true q161;have p163 : 0≤((ji71) : Int):=zy (by first|(with_reducible assumption)|assumption);have q163 : (ji71)<(t157.length : Int):=zy (by first|(with_reducible assumption)|assumption);obtain ⟨ad163,e163,hx163_0,hx163_1,hx163_2,hx163_3⟩:=at_T43 (yh HO_8.out).2.2 (ji71) p163 q163;obtain rfl : ad161=ad163:=(by injection e163);replace p163:=eq_true p163;replace q163:=eq_true q163;have p164 : 0≤(x10_2 : Int):=zy (by first|(with_reducible assumption)|assumption);have q164 : x10_2<(t157.length : Int):=zy (by first|(with_reducible assumption)|assumption);obtain ⟨ad164,e164,hx164_0,hx164_1,hx164_2,hx164_3⟩:=at_T43 (yh HO_8.out).2.2 x10_2 p164 q164;obtain rfl : ad161=ad164:=(by injection e164);replace p164:=eq_true p164;replace q164:=eq_true q164;have p165 : 0≤(x10_2 : Int):=zy (by first|(with_reducible assumption)|assumption);have q165 : x10_2<(t157.length : Int):=zy (by first|(with_reducible assumption)|assumption);obtain ⟨ad165,e165,hx165_0,hx165_1,hx165_2,hx165_3⟩:=at_T43 (yh HO_8.out).2.2 x10_2 p165 q165;obtain rfl : ad161=ad165:=(by injection e165);replace p165:=eq_true p165;replace q165:=eq_true q165;refine start_ (n:=36) (S:=fun w' => w'.cell? (ad161.add ((x10_2).toNat*4))=some (.string ((rd_T43 t157 x10_2).f0))∧w'.cell? ⟨(ad161.add ((x10_2).toNat*4)).block,(ad161.add ((x10_2).toNat*4)).off+1,none⟩=some (.int .i64 ((rd_T43 t157 x10_2).f1.f0))∧w'.cell? ⟨(ad161.add ((x10_2).toNat*4)).block,(ad161.add ((x10_2).toNat*4)).off+2,none⟩=some (.int .i64 ((rd_T43 t157 x10_2).f1.f1))∧w'.cell? ⟨(ad161.add ((x10_2).toNat*4)).block,(ad161.add ((x10_2).toNat*4)).off+3,none⟩=some (.string ((rd_T43 t157 x10_2).f1.f2))∧w'.cell? (ad161.add (((ji71)).toNat*4))=some (.string ((rd_T43 t157 (ji71)).f0))∧w'.cell? ⟨(ad161.add (((ji71)).toNat*4)).block,(ad161.add (((ji71)).toNat*4)).off+1,none⟩=some (.int .i64 ((rd_T43 t157 (ji71)).f1.f0))∧w'.cell? ⟨(ad161.add (((ji71)).toNat*4)).block,(ad161.add (((ji71)).toNat*4)).off+2,none⟩=some (.int .i64 ((rd_T43 t157 (ji71)).f1.f1))∧w'.cell? ⟨(ad161.add (((ji71)).toNat*4)).block,(ad161.add (((ji71)).toNat*4)).off+3,none⟩=some (.string ((rd_T43 t157 (ji71)).f1.f2))∧w'.cell? (ad161.add ((x10_2).toNat*4))=some (.string ((rd_T43 t157 x10_2).f0))∧w'.cell? ⟨(ad161.add ((x10_2).toNat*4)).block,(ad161.add ((x10_2).toNat*4)).off+1,none⟩=some (.int .i64 ((rd_T43 t157 x10_2).f1.f0))∧w'.cell? ⟨(ad161.add ((x10_2).toNat*4)).block,(ad161.add ((x10_2).toNat*4)).off+2,none⟩=some (.int .i64 ((rd_T43 t157 x10_2).f1.f1))∧w'.cell? ⟨(ad161.add ((x10_2).toNat*4)).block,(ad161.add ((x10_2).toNat*4)).off+3,none⟩=some (.string ((rd_T43 t157 x10_2).f1.f2))∧w'.cell? (ad161.add ((x10_2).toNat*4))=some (.string ((rd_T43 t157 x10_2).f0))∧w'.cell? ⟨(ad161.add ((x10_2).toNat*4)).block,(ad161.add ((x10_2).toNat*4)).off+1,none⟩=some (.int .i64 ((rd_T43 t157 x10_2).f1.f0))∧w'.cell? ⟨(ad161.add ((x10_2).toNat*4)).block,(ad161.add ((x10_2).toNat*4)).off+2,none⟩=some (.int .i64 ((rd_T43 t157 x10_2).f1.f1))∧w'.cell? ⟨(ad161.add ((x10_2).toNat*4)).block,(ad161.add ((x10_2).toNat*4)).off+3,none⟩=some (.string ((rd_T43 t157 x10_2).f1.f2))) (ds:=[]) (bm_ 0 36) (by kernel_rfl) rfl rfl ⟨hx161_0,hx161_1,hx161_2,hx161_3,hx163_0,hx163_1,hx163_2,hx163_3,hx164_0,hx164_1,hx164_2,hx164_3,hx165_0,hx165_1,hx165_2,hx165_3⟩ (fun hHeld=>?_);refine with_tabW F1.tab27 F1.bits27 (fun HT_ HW_=>?_);generalize wr.drew=w81 at HO_8 BK148 HB hx161_0 hx161_1 hx161_2 hx161_3 hx163_0 hx163_1 hx163_2 hx163_3 hx164_0 hx164_1 hx164_2 hx164_3 hx165_0 hx165_1 hx165_2 hx165_3 hHeld ⊢;refine pure_ (i:=0) (N:=some 124) (v:=?_) (a':=?_) (bm_ 1 36) rfl rfl (any_of HT_.out (by kernel_rfl)) (fun _ _ _ h=>h) (Or.inl ⟨by rfl,?_⟩) ?_ ?_;rotate_left
             ·
              intro w'
              go_simp
              with_reducible rfl
             rotate_left
             ·
              simp only [Act.put,zi,zj,zk,zG,zH]
              rfl
             refine pure_ (i:=1) (N:=some 125) (v:=?_) (a':=?_) (bm_ 2 36) rfl rfl (any_of HT_.out (by kernel_rfl)) (fun _ _ _ h=>h) (Or.inl ⟨by rfl,?_⟩) ?_ ?_;rotate_left
             ·
              intro w'
              go_simp
              with_reducible rfl
             rotate_left
             ·
              simp only [Act.put,zi,zj,zk,zG,zH]
              rfl
             refine pure_ (i:=2) (N:=some 126) (v:=?_) (a':=?_) (bm_ 3 36) rfl rfl (any_of HT_.out (by kernel_rfl)) (fun _ _ _ h=>h) (Or.inl ⟨by rfl,?_⟩) ?_ ?_;rotate_left
             ·
              intro w'
              go_simp
              with_reducible rfl
             rotate_left
             ·
              simp only [Act.put,zi,zj,zk,zG,zH]
              rfl
             refine pure_ (i:=3) (N:=some 127) (v:=?_) (a':=?_) (bm_ 4 36) rfl rfl (any_of HT_.out (by kernel_rfl)) (fun _ _ _ h=>h) (Or.inl ⟨by rfl,?_⟩) ?_ ?_;rotate_left
             ·
              intro w'
              go_simp
              with_reducible rfl
             rotate_left
             ·
              simp only [Act.put,zi,zj,zk,zG,zH]
              rfl
             refine take_ (i:=4) (N:=some 128) (v:=?_) (a':=?_) (bm_ 5 36) rfl rfl (yo HT_.out HW_.out (by kernel_rfl)) (fun _ _ _ h=>h) (Or.inl ⟨by rfl,?_⟩) hHeld ?_ ?_;rotate_left
             ·
              rintro w' ⟨s0,s1,s2,s3,s4,s5,s6,s7,s8,s9,s10,s11,s12,s13,s14,s15⟩
              go_simp
              with_reducible rfl
             rotate_left
             ·
              simp only [Act.put,zi,zj,zk,zG,zH]
              rfl
             refine one_ (i:=5) (N:=some 129) (bm_ 6 36) rfl rfl (one_of HT_.out (by kernel_rfl)) (by decide) (fun K hK=>?_);refine goes_ Try.func19 (by kernel_rfl) rfl #[.string ((rd_T43 t157 x10_2).f0)] (by rfl) rfl rfl (by (try simp only [zt,zu,zv]);first|done|rfl|(simp only [zw,zx];rfl)|(simp only [yr,ys,zV,zW];rfl)) ?_
             with_reducible refine (Fy.calls k2  ((rd_T43 t157 x10_2).f0) true _ A68.out).mono ?_
             rintro e w' ⟨rfl,⟨nd,rfl⟩⟩;refine ⟨_,rfl,?_⟩;refine hK.out _ _ ⟨hHeld.1,hHeld.2.1,hHeld.2.2.1,hHeld.2.2.2.1,hHeld.2.2.2.2.1,hHeld.2.2.2.2.2.1,hHeld.2.2.2.2.2.2.1,hHeld.2.2.2.2.2.2.2.1,hHeld.2.2.2.2.2.2.2.2.1,hHeld.2.2.2.2.2.2.2.2.2.1,hHeld.2.2.2.2.2.2.2.2.2.2.1,hHeld.2.2.2.2.2.2.2.2.2.2.2.1,hHeld.2.2.2.2.2.2.2.2.2.2.2.2.1,hHeld.2.2.2.2.2.2.2.2.2.2.2.2.2.1,hHeld.2.2.2.2.2.2.2.2.2.2.2.2.2.2.1,hHeld.2.2.2.2.2.2.2.2.2.2.2.2.2.2.2⟩ (fun hHeld=>?_);clear hK K;refine norm_ (a':=?_) ?_ ?_;rotate_left
             ·
              show Act.put _ (some 129) _=_
              simp only [Act.put,zi,zj,zk,zG,zH]
              rfl
             refine pure_ (i:=6) (N:=some 130) (v:=?_) (a':=?_) (bm_ 7 36) rfl rfl (any_of HT_.out (by kernel_rfl)) (fun _ _ _ h=>h) (Or.inl ⟨by rfl,?_⟩) ?_ ?_;rotate_left
             ·
              intro w'
              go_simp
              with_reducible rfl
             rotate_left
             ·
              simp only [Act.put,zi,zj,zk,zG,zH]
              rfl
             refine pure_ (i:=7) (N:=some 131) (v:=?_) (a':=?_) (bm_ 8 36) rfl rfl (any_of HT_.out (by kernel_rfl)) (fun _ _ _ h=>h) (Or.inl ⟨by rfl,?_⟩) ?_ ?_;rotate_left
             ·
              intro w'
              go_simp
              with_reducible rfl
             rotate_left
             ·
              simp only [Act.put,zi,zj,zk,zG,zH]
              rfl
             refine pure_ (i:=8) (N:=some 132) (v:=?_) (a':=?_) (bm_ 9 36) rfl rfl (any_of HT_.out (by kernel_rfl)) (fun _ _ _ h=>h) (Or.inl ⟨by rfl,?_⟩) ?_ ?_;rotate_left
             ·
              intro w'
              go_simp
              with_reducible rfl
             rotate_left
             ·
              simp only [Act.put,zi,zj,zk,zG,zH]
              rfl
             refine pure_ (i:=9) (N:=some 133) (v:=?_) (a':=?_) (bm_ 10 36) rfl rfl (any_of HT_.out (by kernel_rfl)) (fun _ _ _ h=>h) (Or.inl ⟨by rfl,?_⟩) ?_ ?_;rotate_left
             ·
              intro w'
              go_simp
              with_reducible rfl
             rotate_left
             ·
              simp only [Act.put,zi,zj,zk,zG,zH]
              rfl
             refine pure_ (i:=10) (N:=some 134) (v:=?_) (a':=?_) (bm_ 11 36) rfl rfl (any_of HT_.out (by kernel_rfl)) (fun _ _ _ h=>h) (Or.inl ⟨by rfl,?_⟩) ?_ ?_;rotate_left
             ·
              intro w'
              go_simp
              with_reducible rfl
             rotate_left
             ·
              simp only [Act.put,zi,zj,zk,zG,zH]
              rfl
             refine pure_ (i:=11) (N:=some 135) (v:=?_) (a':=?_) (bm_ 12 36) rfl rfl (any_of HT_.out (by kernel_rfl)) (fun _ _ _ h=>h) (Or.inl ⟨by rfl,?_⟩) ?_ ?_;rotate_left
             ·
              intro w'
              go_simp
              with_reducible rfl
             rotate_left
             ·
              simp only [Act.put,zi,zj,zk,zG,zH]
              rfl
             refine pure_ (i:=12) (N:=some 136) (v:=?_) (a':=?_) (bm_ 13 36) rfl rfl (any_of HT_.out (by kernel_rfl)) (fun _ _ _ h=>h) (Or.inl ⟨by rfl,?_⟩) ?_ ?_;rotate_left
             ·
              intro w'
              go_simp
              with_reducible rfl
             rotate_left
             ·
              simp only [Act.put,zi,zj,zk,zG,zH]
              rfl
             refine pure_ (i:=13) (N:=some 137) (v:=?_) (a':=?_) (bm_ 14 36) rfl rfl (any_of HT_.out (by kernel_rfl)) (fun _ _ _ h=>h) (Or.inl ⟨by rfl,?_⟩) ?_ ?_;rotate_left
             ·
              intro w'
              go_simp
              with_reducible rfl
             rotate_left
             ·
              simp only [Act.put,zi,zj,zk,zG,zH]
              rfl
             refine pure_ (i:=14) (N:=some 138) (v:=?_) (a':=?_) (bm_ 15 36) rfl rfl (any_of HT_.out (by kernel_rfl)) (fun _ _ _ h=>h) (Or.inl ⟨by rfl,?_⟩) ?_ ?_;rotate_left
             ·
              intro w'
              go_simp
              with_reducible rfl
             rotate_left
             ·
              simp only [Act.put,zi,zj,zk,zG,zH]
              rfl
             refine pure_ (i:=15) (N:=some 139) (v:=?_) (a':=?_) (bm_ 16 36) rfl rfl (any_of HT_.out (by kernel_rfl)) (fun _ _ _ h=>h) (Or.inl ⟨by rfl,?_⟩) ?_ ?_;rotate_left
             ·
              intro w'
              go_simp
              with_reducible rfl
             rotate_left
             ·
              simp only [Act.put,zi,zj,zk,zG,zH]
              rfl
             refine pure_ (i:=17) (N:=some 141) (v:=?_) (a':=?_) #[true,true,true,true,true,true,true,true,true,true,true,true,true,true,true,true,false,true,false,false,false,false,false,false,false,false,false,false,false,false,false,false,false,false,false,false] rfl rfl (any_of HT_.out (by kernel_rfl)) (fun _ _ _ h=>h) (Or.inl ⟨by rfl,?_⟩) ?_ ?_;rotate_left
             ·
              intro w'
              go_simp
              with_reducible rfl
             rotate_left
             ·
              simp only [Act.put,zi,zj,zk,zG,zH]
              rfl
             refine pure_ (i:=18) (N:=some 142) (v:=?_) (a':=?_) #[true,true,true,true,true,true,true,true,true,true,true,true,true,true,true,true,false,true,true,false,false,false,false,false,false,false,false,false,false,false,false,false,false,false,false,false] rfl rfl (any_of HT_.out (by kernel_rfl)) (fun _ _ _ h=>h) (Or.inl ⟨by rfl,?_⟩) ?_ ?_;rotate_left
             ·
              intro w'
              go_simp
              with_reducible rfl
             rotate_left
             ·
              simp only [Act.put,zi,zj,zk,zG,zH]
              rfl
             refine pure_ (i:=19) (N:=some 143) (v:=?_) (a':=?_) #[true,true,true,true,true,true,true,true,true,true,true,true,true,true,true,true,false,true,true,true,false,false,false,false,false,false,false,false,false,false,false,false,false,false,false,false] rfl rfl (any_of HT_.out (by kernel_rfl)) (fun _ _ _ h=>h) (Or.inl ⟨by rfl,?_⟩) ?_ ?_;rotate_left
             ·
              intro w'
              go_simp
              with_reducible rfl
             rotate_left
             ·
              simp only [Act.put,zi,zj,zk,zG,zH]
              rfl
             refine pure_ (i:=20) (N:=some 144) (v:=?_) (a':=?_) #[true,true,true,true,true,true,true,true,true,true,true,true,true,true,true,true,false,true,true,true,true,false,false,false,false,false,false,false,false,false,false,false,false,false,false,false] rfl rfl (any_of HT_.out (by kernel_rfl)) (fun _ _ _ h=>h) (Or.inl ⟨by rfl,?_⟩) ?_ ?_;rotate_left
             ·
              intro w'
              go_simp
              with_reducible rfl
             rotate_left
             ·
              simp only [Act.put,zi,zj,zk,zG,zH]
              rfl
             refine take_ (i:=16) (N:=some 140) (v:=?_) (a':=?_) (bm_ 21 36) rfl rfl (yo HT_.out HW_.out (by kernel_rfl)) (fun _ _ _ h=>h) (Or.inl ⟨by rfl,?_⟩) hHeld ?_ ?_;rotate_left
             ·
              rintro w' ⟨s0,s1,s2,s3,s4,s5,s6,s7,s8,s9,s10,s11,s12,s13,s14,s15⟩
              go_simp
              with_reducible rfl
             rotate_left
             ·
              simp only [Act.put,zi,zj,zk,zG,zH]
              rfl
             refine take_ (i:=21) (N:=some 145) (v:=?_) (a':=?_) (bm_ 22 36) rfl rfl (yo HT_.out HW_.out (by kernel_rfl)) (fun _ _ _ h=>h) (Or.inl ⟨by rfl,?_⟩) hHeld ?_ ?_;rotate_left
             ·
              rintro w' ⟨s0,s1,s2,s3,s4,s5,s6,s7,s8,s9,s10,s11,s12,s13,s14,s15⟩
              go_simp
              with_reducible rfl
             rotate_left
             ·
              simp only [Act.put,zi,zj,zk,zG,zH]
              rfl
             refine pure_ (i:=22) (N:=some 146) (v:=?_) (a':=?_) (bm_ 23 36) rfl rfl (any_of HT_.out (by kernel_rfl)) (fun _ _ _ h=>h) (Or.inl ⟨by rfl,?_⟩) ?_ ?_;rotate_left
             ·
              intro w'
              go_simp
              with_reducible rfl
             rotate_left
             ·
              simp only [Act.put,zi,zj,zk,zG,zH]
              rfl
             refine pure_ (i:=23) (N:=some 147) (v:=?_) (a':=?_) (bm_ 24 36) rfl rfl (any_of HT_.out (by kernel_rfl)) (fun _ _ _ h=>h) (Or.inl ⟨by rfl,?_⟩) ?_ ?_;rotate_left
             ·
              intro w'
              go_simp
              with_reducible rfl
             rotate_left
             ·
              simp only [Act.put,zi,zj,zk,zG,zH]
              rfl
             refine pure_ (i:=24) (N:=some 148) (v:=?_) (a':=?_) (bm_ 25 36) rfl rfl (any_of HT_.out (by kernel_rfl)) (fun _ _ _ h=>h) (Or.inl ⟨by rfl,?_⟩) ?_ ?_;rotate_left
             ·
              intro w'
              go_simp
              with_reducible rfl
             rotate_left
             ·
              simp only [Act.put,zi,zj,zk,zG,zH]
              rfl
             refine pure_ (i:=25) (N:=some 149) (v:=?_) (a':=?_) (bm_ 26 36) rfl rfl (any_of HT_.out (by kernel_rfl)) (fun _ _ _ h=>h) (Or.inl ⟨by rfl,?_⟩) ?_ ?_;rotate_left
             ·
              intro w'
              go_simp
              with_reducible rfl
             rotate_left
             ·
              simp only [Act.put,zi,zj,zk,zG,zH]
              rfl
             refine pure_ (i:=26) (N:=some 150) (v:=?_) (a':=?_) (bm_ 27 36) rfl rfl (any_of HT_.out (by kernel_rfl)) (fun _ _ _ h=>h) (Or.inl ⟨by rfl,?_⟩) ?_ ?_;rotate_left
             ·
              intro w'
              go_simp
              with_reducible rfl
             rotate_left
             ·
              simp only [Act.put,zi,zj,zk,zG,zH]
              rfl
             refine pure_ (i:=27) (N:=some 151) (v:=?_) (a':=?_) (bm_ 28 36) rfl rfl (any_of HT_.out (by kernel_rfl)) (fun _ _ _ h=>h) (Or.inl ⟨by rfl,?_⟩) ?_ ?_;rotate_left
             ·
              intro w'
              go_simp
              with_reducible rfl
             rotate_left
             ·
              simp only [Act.put,zi,zj,zk,zG,zH]
              rfl
             refine pure_ (i:=28) (N:=some 152) (v:=?_) (a':=?_) (bm_ 29 36) rfl rfl (any_of HT_.out (by kernel_rfl)) (fun _ _ _ h=>h) (Or.inl ⟨by rfl,?_⟩) ?_ ?_;rotate_left
             ·
              intro w'
              go_simp
              with_reducible rfl
             rotate_left
             ·
              simp only [Act.put,zi,zj,zk,zG,zH]
              rfl
             refine pure_ (i:=29) (N:=some 153) (v:=?_) (a':=?_) (bm_ 30 36) rfl rfl (any_of HT_.out (by kernel_rfl)) (fun _ _ _ h=>h) (Or.inl ⟨by rfl,?_⟩) ?_ ?_;rotate_left
             ·
              intro w'
              go_simp
              with_reducible rfl
             rotate_left
             ·
              simp only [Act.put,zi,zj,zk,zG,zH]
              rfl
             refine pure_ (i:=31) (N:=some 155) (v:=?_) (a':=?_) #[true,true,true,true,true,true,true,true,true,true,true,true,true,true,true,true,true,true,true,true,true,true,true,true,true,true,true,true,true,true,false,true,false,false,false,false] rfl rfl (any_of HT_.out (by kernel_rfl)) (fun _ _ _ h=>h) (Or.inl ⟨by rfl,?_⟩) ?_ ?_;rotate_left
             ·
              intro w'
              go_simp
              with_reducible rfl
             rotate_left
             ·
              simp only [Act.put,zi,zj,zk,zG,zH]
              rfl
             refine pure_ (i:=32) (N:=some 156) (v:=?_) (a':=?_) #[true,true,true,true,true,true,true,true,true,true,true,true,true,true,true,true,true,true,true,true,true,true,true,true,true,true,true,true,true,true,false,true,true,false,false,false] rfl rfl (any_of HT_.out (by kernel_rfl)) (fun _ _ _ h=>h) (Or.inl ⟨by rfl,?_⟩) ?_ ?_;rotate_left
             ·
              intro w'
              go_simp
              with_reducible rfl
             rotate_left
             ·
              simp only [Act.put,zi,zj,zk,zG,zH]
              rfl
             refine take_ (i:=30) (N:=some 154) (v:=?_) (a':=?_) (bm_ 33 36) rfl rfl (yo HT_.out HW_.out (by kernel_rfl)) (fun _ _ _ h=>h) (Or.inl ⟨by rfl,?_⟩) hHeld ?_ ?_;rotate_left
             ·
              rintro w' ⟨s0,s1,s2,s3,s4,s5,s6,s7,s8,s9,s10,s11,s12,s13,s14,s15⟩
              go_simp
              with_reducible rfl
             rotate_left
             ·
              simp only [Act.put,zi,zj,zk,zG,zH]
              rfl
             refine one_ (i:=33) (N:=some 157) (bm_ 34 36) rfl rfl (one_of HT_.out (by kernel_rfl)) (by decide) (fun K hK=>?_);refine goes_ Try.func40 (by kernel_rfl) rfl #[.agg #[.int .i64 ((rd_T43 t157 x10_2).f1.f0),.int .i64 ((rd_T43 t157 x10_2).f1.f1),.string ((rd_T43 t157 x10_2).f1.f2)],.int .i64 (wrap64 (a1 - 1))] (by rfl) rfl rfl (by (try simp only [zt,zu,zv]);first|done|rfl|(simp only [zw,zx];rfl)|(simp only [yr,ys,zV,zW];rfl)) ?_
             with_reducible refine (ih k2 (by have:=HJ53.out;have:=HK2.out;omega)  ((rd_T43 t157 x10_2).f1.f0) ((rd_T43 t157 x10_2).f1.f1) ((rd_T43 t157 x10_2).f1.f2) (wrap64 (a1 - 1)) false _ A75.out).mono ?_
             rintro e w82 ⟨rfl,hb⟩;have HS0_:=(hb.cell (zl _ _ (hHeld.1))).trans (hHeld.1);have HS1_:=(hb.cell (zl _ _ (hHeld.2.1))).trans (hHeld.2.1);have HS2_:=(hb.cell (zl _ _ (hHeld.2.2.1))).trans (hHeld.2.2.1);have HS3_:=(hb.cell (zl _ _ (hHeld.2.2.2.1))).trans (hHeld.2.2.2.1);have HS4_:=(hb.cell (zl _ _ (hHeld.2.2.2.2.1))).trans (hHeld.2.2.2.2.1);have HS5_:=(hb.cell (zl _ _ (hHeld.2.2.2.2.2.1))).trans (hHeld.2.2.2.2.2.1);have HS6_:=(hb.cell (zl _ _ (hHeld.2.2.2.2.2.2.1))).trans (hHeld.2.2.2.2.2.2.1);have HS7_:=(hb.cell (zl _ _ (hHeld.2.2.2.2.2.2.2.1))).trans (hHeld.2.2.2.2.2.2.2.1);have HS8_:=(hb.cell (zl _ _ (hHeld.2.2.2.2.2.2.2.2.1))).trans (hHeld.2.2.2.2.2.2.2.2.1);have HS9_:=(hb.cell (zl _ _ (hHeld.2.2.2.2.2.2.2.2.2.1))).trans (hHeld.2.2.2.2.2.2.2.2.2.1);have HS10_:=(hb.cell (zl _ _ (hHeld.2.2.2.2.2.2.2.2.2.2.1))).trans (hHeld.2.2.2.2.2.2.2.2.2.2.1);have HS11_:=(hb.cell (zl _ _ (hHeld.2.2.2.2.2.2.2.2.2.2.2.1))).trans (hHeld.2.2.2.2.2.2.2.2.2.2.2.1);have HS12_:=(hb.cell (zl _ _ (hHeld.2.2.2.2.2.2.2.2.2.2.2.2.1))).trans (hHeld.2.2.2.2.2.2.2.2.2.2.2.2.1);have HS13_:=(hb.cell (zl _ _ (hHeld.2.2.2.2.2.2.2.2.2.2.2.2.2.1))).trans (hHeld.2.2.2.2.2.2.2.2.2.2.2.2.2.1);have HS14_:=(hb.cell (zl _ _ (hHeld.2.2.2.2.2.2.2.2.2.2.2.2.2.2.1))).trans (hHeld.2.2.2.2.2.2.2.2.2.2.2.2.2.2.1);have HS15_:=(hb.cell (zl _ _ (hHeld.2.2.2.2.2.2.2.2.2.2.2.2.2.2.2))).trans (hHeld.2.2.2.2.2.2.2.2.2.2.2.2.2.2.2);refine ⟨_,rfl,?_⟩;replace HO_8:=zh (yg (by (with_reducible repeat (first|apply zm|apply zn|apply zo));exact HO_8.out) hb);replace BK148:=zh (cD BK148.out (by (with_reducible repeat first|apply ze|apply zf|apply zg);exact BK148.out) hb);replace HB:=zh (zC (by repeat (with_reducible first|exact HB.out|apply za|apply zb|apply zc|refine zd ?_ GE148.out)) hb);(try clear hb);(try clear hb2);(try clear hk);(try clear hi);refine hK.out _ _ ⟨HS0_,HS1_,HS2_,HS3_,HS4_,HS5_,HS6_,HS7_,HS8_,HS9_,HS10_,HS11_,HS12_,HS13_,HS14_,HS15_⟩ (fun hHeld=>?_);clear hK K;refine norm_ (a':=?_) ?_ ?_;rotate_left
             ·
              show Act.put _ (some 157) _=_
              simp only [Act.put,zi,zj,zk,zG,zH]
              rfl
             refine pure_ (i:=34) (N:=some 158) (v:=?_) (a':=?_) (bm_ 35 36) rfl rfl (any_of HT_.out (by kernel_rfl)) (fun _ _ _ h=>h) (Or.inl ⟨by rfl,?_⟩) ?_ ?_;rotate_left
             ·
              intro w'
              go_simp
              with_reducible rfl
             rotate_left
             ·
              simp only [Act.put,zi,zj,zk,zG,zH]
              rfl
             refine pure_ (i:=35) (N:=some 159) (v:=?_) (a':=?_) (bm_ 36 36) rfl rfl (any_of HT_.out (by kernel_rfl)) (fun _ _ _ h=>h) (Or.inl ⟨by rfl,?_⟩) ?_ ?_;rotate_left
             ·
              intro w'
              go_simp
              with_reducible rfl
             rotate_left
             ·
              simp only [Act.put,zi,zj,zk,zG,zH]
              rfl
             refine done_ (done_of HT_.out (by kernel_rfl)) ?_
             try go_wp2
             go_ret
             exact ⟨by first|rfl|(simp [yt,yu] <;> rfl)|(simp only [← hji71];first|rfl|(simp [yt,yu] <;> rfl))|(simp [*,yt,yu] <;> rfl),by repeat (with_reducible first|exact HB.out|apply za|apply zb|apply zc|refine zd ?_ GE148.out)⟩
            rw [if_neg c74] at H;have c74b0 : (Op.bytesLess (((rd_T43 t157 (ji71)).f0).toList) (((rd_T43 t157 x10_2).f0).toList))=false:=by simpa using c74
            clear c74;obtain rfl:=zU H;obtain ⟨Ao83,co83,eo83⟩:=yk HO_8.out;subst eo83
            try go_wp2
            replace HO_8:=zh (zo HO_8.out);replace BK148:=zh (zf BK148.out);replace HB:=zh (zc HB.out);have p161 : 0≤(x10_2 : Int):=zy (by first|(with_reducible assumption)|assumption);have q161 : x10_2<(t157.length : Int):=zy (by first|(with_reducible assumption)|assumption);obtain ⟨ad161,e161,hx161_0,hx161_1,hx161_2,hx161_3⟩:=at_T43 (yh HO_8.out).2.2 x10_2 p161 q161
            cases e161
            replace p161:=eq_true p161;replace q161:=eq_true q161;have p163 : 0≤((ji71) : Int):=zy (by first|(with_reducible assumption)|assumption);have q163 : (ji71)<(t157.length : Int):=zy (by first|(with_reducible assumption)|assumption);obtain ⟨ad163,e163,hx163_0,hx163_1,hx163_2,hx163_3⟩:=at_T43 (yh HO_8.out).2.2 (ji71) p163 q163;obtain rfl : ad161=ad163:=(by injection e163);replace p163:=eq_true p163;replace q163:=eq_true q163;have p164 : 0≤(x10_2 : Int):=zy (by first|(with_reducible assumption)|assumption);have q164 : x10_2<(t157.length : Int):=zy (by first|(with_reducible assumption)|assumption);obtain ⟨ad164,e164,hx164_0,hx164_1,hx164_2,hx164_3⟩:=at_T43 (yh HO_8.out).2.2 x10_2 p164 q164;obtain rfl : ad161=ad164:=(by injection e164);replace p164:=eq_true p164;replace q164:=eq_true q164;refine start_ (n:=36) (S:=fun w' => w'.cell? (ad161.add ((x10_2).toNat*4))=some (.string ((rd_T43 t157 x10_2).f0))∧w'.cell? ⟨(ad161.add ((x10_2).toNat*4)).block,(ad161.add ((x10_2).toNat*4)).off+1,none⟩=some (.int .i64 ((rd_T43 t157 x10_2).f1.f0))∧w'.cell? ⟨(ad161.add ((x10_2).toNat*4)).block,(ad161.add ((x10_2).toNat*4)).off+2,none⟩=some (.int .i64 ((rd_T43 t157 x10_2).f1.f1))∧w'.cell? ⟨(ad161.add ((x10_2).toNat*4)).block,(ad161.add ((x10_2).toNat*4)).off+3,none⟩=some (.string ((rd_T43 t157 x10_2).f1.f2))∧w'.cell? (ad161.add (((ji71)).toNat*4))=some (.string ((rd_T43 t157 (ji71)).f0))∧w'.cell? ⟨(ad161.add (((ji71)).toNat*4)).block,(ad161.add (((ji71)).toNat*4)).off+1,none⟩=some (.int .i64 ((rd_T43 t157 (ji71)).f1.f0))∧w'.cell? ⟨(ad161.add (((ji71)).toNat*4)).block,(ad161.add (((ji71)).toNat*4)).off+2,none⟩=some (.int .i64 ((rd_T43 t157 (ji71)).f1.f1))∧w'.cell? ⟨(ad161.add (((ji71)).toNat*4)).block,(ad161.add (((ji71)).toNat*4)).off+3,none⟩=some (.string ((rd_T43 t157 (ji71)).f1.f2))∧w'.cell? (ad161.add ((x10_2).toNat*4))=some (.string ((rd_T43 t157 x10_2).f0))∧w'.cell? ⟨(ad161.add ((x10_2).toNat*4)).block,(ad161.add ((x10_2).toNat*4)).off+1,none⟩=some (.int .i64 ((rd_T43 t157 x10_2).f1.f0))∧w'.cell? ⟨(ad161.add ((x10_2).toNat*4)).block,(ad161.add ((x10_2).toNat*4)).off+2,none⟩=some (.int .i64 ((rd_T43 t157 x10_2).f1.f1))∧w'.cell? ⟨(ad161.add ((x10_2).toNat*4)).block,(ad161.add ((x10_2).toNat*4)).off+3,none⟩=some (.string ((rd_T43 t157 x10_2).f1.f2))) (ds:=[]) (bm_ 0 36) (by kernel_rfl) rfl rfl ⟨hx161_0,hx161_1,hx161_2,hx161_3,hx163_0,hx163_1,hx163_2,hx163_3,hx164_0,hx164_1,hx164_2,hx164_3⟩ (fun hHeld=>?_);refine with_tabW F1.tab27 F1.bits27 (fun HT_ HW_=>?_);generalize wr.drew=w84 at HO_8 BK148 HB hx161_0 hx161_1 hx161_2 hx161_3 hx163_0 hx163_1 hx163_2 hx163_3 hx164_0 hx164_1 hx164_2 hx164_3 hHeld ⊢;refine pure_ (i:=0) (N:=some 124) (v:=?_) (a':=?_) (bm_ 1 36) rfl rfl (any_of HT_.out (by kernel_rfl)) (fun _ _ _ h=>h) (Or.inl ⟨by rfl,?_⟩) ?_ ?_;rotate_left
            ·
             intro w'
             go_simp
             with_reducible rfl
            rotate_left
            ·
             simp only [Act.put,zi,zj,zk,zG,zH]
             rfl
            refine pure_ (i:=1) (N:=some 125) (v:=?_) (a':=?_) (bm_ 2 36) rfl rfl (any_of HT_.out (by kernel_rfl)) (fun _ _ _ h=>h) (Or.inl ⟨by rfl,?_⟩) ?_ ?_;rotate_left
            ·
             intro w'
             go_simp
             with_reducible rfl
            rotate_left
            ·
             simp only [Act.put,zi,zj,zk,zG,zH]
             rfl
            refine pure_ (i:=2) (N:=some 126) (v:=?_) (a':=?_) (bm_ 3 36) rfl rfl (any_of HT_.out (by kernel_rfl)) (fun _ _ _ h=>h) (Or.inl ⟨by rfl,?_⟩) ?_ ?_;rotate_left
            ·
             intro w'
             go_simp
             with_reducible rfl
            rotate_left
            ·
             simp only [Act.put,zi,zj,zk,zG,zH]
             rfl
            refine pure_ (i:=3) (N:=some 127) (v:=?_) (a':=?_) (bm_ 4 36) rfl rfl (any_of HT_.out (by kernel_rfl)) (fun _ _ _ h=>h) (Or.inl ⟨by rfl,?_⟩) ?_ ?_;rotate_left
            ·
             intro w'
             go_simp
             with_reducible rfl
            rotate_left
            ·
             simp only [Act.put,zi,zj,zk,zG,zH]
             rfl
            refine take_ (i:=4) (N:=some 128) (v:=?_) (a':=?_) (bm_ 5 36) rfl rfl (yo HT_.out HW_.out (by kernel_rfl)) (fun _ _ _ h=>h) (Or.inl ⟨by rfl,?_⟩) hHeld ?_ ?_;rotate_left
            ·
             rintro w' ⟨s0,s1,s2,s3,s4,s5,s6,s7,s8,s9,s10,s11⟩
             go_simp
             with_reducible rfl
            rotate_left
            ·
             simp only [Act.put,zi,zj,zk,zG,zH]
             rfl
            refine one_ (i:=5) (N:=some 129) (bm_ 6 36) rfl rfl (one_of HT_.out (by kernel_rfl)) (by decide) (fun K hK=>?_);refine goes_ Try.func19 (by kernel_rfl) rfl #[.string ((rd_T43 t157 x10_2).f0)] (by rfl) rfl rfl (by (try simp only [zt,zu,zv]);first|done|rfl|(simp only [zw,zx];rfl)|(simp only [yr,ys,zV,zW];rfl)) ?_
            with_reducible refine (Fy.calls k2  ((rd_T43 t157 x10_2).f0) true _ A68.out).mono ?_
            rintro e w' ⟨rfl,⟨nd,rfl⟩⟩;refine ⟨_,rfl,?_⟩;refine hK.out _ _ ⟨hHeld.1,hHeld.2.1,hHeld.2.2.1,hHeld.2.2.2.1,hHeld.2.2.2.2.1,hHeld.2.2.2.2.2.1,hHeld.2.2.2.2.2.2.1,hHeld.2.2.2.2.2.2.2.1,hHeld.2.2.2.2.2.2.2.2.1,hHeld.2.2.2.2.2.2.2.2.2.1,hHeld.2.2.2.2.2.2.2.2.2.2.1,hHeld.2.2.2.2.2.2.2.2.2.2.2⟩ (fun hHeld=>?_);clear hK K;refine norm_ (a':=?_) ?_ ?_;rotate_left
            ·
             show Act.put _ (some 129) _=_
             simp only [Act.put,zi,zj,zk,zG,zH]
             rfl
            refine pure_ (i:=6) (N:=some 130) (v:=?_) (a':=?_) (bm_ 7 36) rfl rfl (any_of HT_.out (by kernel_rfl)) (fun _ _ _ h=>h) (Or.inl ⟨by rfl,?_⟩) ?_ ?_;rotate_left
            ·
             intro w'
             go_simp
             with_reducible rfl
            rotate_left
            ·
             simp only [Act.put,zi,zj,zk,zG,zH]
             rfl
            refine pure_ (i:=7) (N:=some 131) (v:=?_) (a':=?_) (bm_ 8 36) rfl rfl (any_of HT_.out (by kernel_rfl)) (fun _ _ _ h=>h) (Or.inl ⟨by rfl,?_⟩) ?_ ?_;rotate_left
            ·
             intro w'
             go_simp
             with_reducible rfl
            rotate_left
            ·
             simp only [Act.put,zi,zj,zk,zG,zH]
             rfl
            refine pure_ (i:=8) (N:=some 132) (v:=?_) (a':=?_) (bm_ 9 36) rfl rfl (any_of HT_.out (by kernel_rfl)) (fun _ _ _ h=>h) (Or.inl ⟨by rfl,?_⟩) ?_ ?_;rotate_left
            ·
             intro w'
             go_simp
             with_reducible rfl
            rotate_left
            ·
             simp only [Act.put,zi,zj,zk,zG,zH]
             rfl
            refine pure_ (i:=9) (N:=some 133) (v:=?_) (a':=?_) (bm_ 10 36) rfl rfl (any_of HT_.out (by kernel_rfl)) (fun _ _ _ h=>h) (Or.inl ⟨by rfl,?_⟩) ?_ ?_;rotate_left
            ·
             intro w'
             go_simp
             with_reducible rfl
            rotate_left
            ·
             simp only [Act.put,zi,zj,zk,zG,zH]
             rfl
            refine pure_ (i:=10) (N:=some 134) (v:=?_) (a':=?_) (bm_ 11 36) rfl rfl (any_of HT_.out (by kernel_rfl)) (fun _ _ _ h=>h) (Or.inl ⟨by rfl,?_⟩) ?_ ?_;rotate_left
            ·
             intro w'
             go_simp
             with_reducible rfl
            rotate_left
            ·
             simp only [Act.put,zi,zj,zk,zG,zH]
             rfl
            refine pure_ (i:=11) (N:=some 135) (v:=?_) (a':=?_) (bm_ 12 36) rfl rfl (any_of HT_.out (by kernel_rfl)) (fun _ _ _ h=>h) (Or.inl ⟨by rfl,?_⟩) ?_ ?_;rotate_left
            ·
             intro w'
             go_simp
             with_reducible rfl
            rotate_left
            ·
             simp only [Act.put,zi,zj,zk,zG,zH]
             rfl
            refine pure_ (i:=12) (N:=some 136) (v:=?_) (a':=?_) (bm_ 13 36) rfl rfl (any_of HT_.out (by kernel_rfl)) (fun _ _ _ h=>h) (Or.inl ⟨by rfl,?_⟩) ?_ ?_;rotate_left
            ·
             intro w'
             go_simp
             with_reducible rfl
            rotate_left
            ·
             simp only [Act.put,zi,zj,zk,zG,zH]
             rfl
            refine pure_ (i:=13) (N:=some 137) (v:=?_) (a':=?_) (bm_ 14 36) rfl rfl (any_of HT_.out (by kernel_rfl)) (fun _ _ _ h=>h) (Or.inl ⟨by rfl,?_⟩) ?_ ?_;rotate_left
            ·
             intro w'
             go_simp
             with_reducible rfl
            rotate_left
            ·
             simp only [Act.put,zi,zj,zk,zG,zH]
             rfl
            refine pure_ (i:=14) (N:=some 138) (v:=?_) (a':=?_) (bm_ 15 36) rfl rfl (any_of HT_.out (by kernel_rfl)) (fun _ _ _ h=>h) (Or.inl ⟨by rfl,?_⟩) ?_ ?_;rotate_left
            ·
             intro w'
             go_simp
             with_reducible rfl
            rotate_left
            ·
             simp only [Act.put,zi,zj,zk,zG,zH]
             rfl
            refine pure_ (i:=15) (N:=some 139) (v:=?_) (a':=?_) (bm_ 16 36) rfl rfl (any_of HT_.out (by kernel_rfl)) (fun _ _ _ h=>h) (Or.inl ⟨by rfl,?_⟩) ?_ ?_;rotate_left
            ·
             intro w'
             go_simp
             with_reducible rfl
            rotate_left
            ·
             simp only [Act.put,zi,zj,zk,zG,zH]
             rfl
            refine pure_ (i:=17) (N:=some 141) (v:=?_) (a':=?_) #[true,true,true,true,true,true,true,true,true,true,true,true,true,true,true,true,false,true,false,false,false,false,false,false,false,false,false,false,false,false,false,false,false,false,false,false] rfl rfl (any_of HT_.out (by kernel_rfl)) (fun _ _ _ h=>h) (Or.inl ⟨by rfl,?_⟩) ?_ ?_;rotate_left
            ·
             intro w'
             go_simp
             with_reducible rfl
            rotate_left
            ·
             simp only [Act.put,zi,zj,zk,zG,zH]
             rfl
            refine pure_ (i:=18) (N:=some 142) (v:=?_) (a':=?_) #[true,true,true,true,true,true,true,true,true,true,true,true,true,true,true,true,false,true,true,false,false,false,false,false,false,false,false,false,false,false,false,false,false,false,false,false] rfl rfl (any_of HT_.out (by kernel_rfl)) (fun _ _ _ h=>h) (Or.inl ⟨by rfl,?_⟩) ?_ ?_;rotate_left
            ·
             intro w'
             go_simp
             with_reducible rfl
            rotate_left
            ·
             simp only [Act.put,zi,zj,zk,zG,zH]
             rfl
            refine pure_ (i:=19) (N:=some 143) (v:=?_) (a':=?_) #[true,true,true,true,true,true,true,true,true,true,true,true,true,true,true,true,false,true,true,true,false,false,false,false,false,false,false,false,false,false,false,false,false,false,false,false] rfl rfl (any_of HT_.out (by kernel_rfl)) (fun _ _ _ h=>h) (Or.inl ⟨by rfl,?_⟩) ?_ ?_;rotate_left
            ·
             intro w'
             go_simp
             with_reducible rfl
            rotate_left
            ·
             simp only [Act.put,zi,zj,zk,zG,zH]
             rfl
            refine pure_ (i:=20) (N:=some 144) (v:=?_) (a':=?_) #[true,true,true,true,true,true,true,true,true,true,true,true,true,true,true,true,false,true,true,true,true,false,false,false,false,false,false,false,false,false,false,false,false,false,false,false] rfl rfl (any_of HT_.out (by kernel_rfl)) (fun _ _ _ h=>h) (Or.inl ⟨by rfl,?_⟩) ?_ ?_;rotate_left
            ·
             intro w'
             go_simp
             with_reducible rfl
            rotate_left
            ·
             simp only [Act.put,zi,zj,zk,zG,zH]
             rfl
            refine take_ (i:=16) (N:=some 140) (v:=?_) (a':=?_) (bm_ 21 36) rfl rfl (yo HT_.out HW_.out (by kernel_rfl)) (fun _ _ _ h=>h) (Or.inl ⟨by rfl,?_⟩) hHeld ?_ ?_;rotate_left
            ·
             rintro w' ⟨s0,s1,s2,s3,s4,s5,s6,s7,s8,s9,s10,s11⟩
             go_simp
             with_reducible rfl
            rotate_left
            ·
             simp only [Act.put,zi,zj,zk,zG,zH]
             rfl
            refine take_ (i:=21) (N:=some 145) (v:=?_) (a':=?_) (bm_ 22 36) rfl rfl (yo HT_.out HW_.out (by kernel_rfl)) (fun _ _ _ h=>h) (Or.inl ⟨by rfl,?_⟩) hHeld ?_ ?_;rotate_left
            ·
             rintro w' ⟨s0,s1,s2,s3,s4,s5,s6,s7,s8,s9,s10,s11⟩
             go_simp
             with_reducible rfl
            rotate_left
            ·
             simp only [Act.put,zi,zj,zk,zG,zH]
             rfl
            refine pure_ (i:=22) (N:=some 146) (v:=?_) (a':=?_) (bm_ 23 36) rfl rfl (any_of HT_.out (by kernel_rfl)) (fun _ _ _ h=>h) (Or.inl ⟨by rfl,?_⟩) ?_ ?_;rotate_left
            ·
             intro w'
             go_simp
             with_reducible rfl
            rotate_left
            ·
             simp only [Act.put,zi,zj,zk,zG,zH]
             rfl
            refine pure_ (i:=23) (N:=some 147) (v:=?_) (a':=?_) (bm_ 24 36) rfl rfl (any_of HT_.out (by kernel_rfl)) (fun _ _ _ h=>h) (Or.inl ⟨by rfl,?_⟩) ?_ ?_;rotate_left
            ·
             intro w'
             go_simp
             with_reducible rfl
            rotate_left
            ·
             simp only [Act.put,zi,zj,zk,zG,zH]
             rfl
            refine pure_ (i:=24) (N:=some 148) (v:=?_) (a':=?_) (bm_ 25 36) rfl rfl (any_of HT_.out (by kernel_rfl)) (fun _ _ _ h=>h) (Or.inl ⟨by rfl,?_⟩) ?_ ?_;rotate_left
            ·
             intro w'
             go_simp
             with_reducible rfl
            rotate_left
            ·
             simp only [Act.put,zi,zj,zk,zG,zH]
             rfl
            refine pure_ (i:=25) (N:=some 149) (v:=?_) (a':=?_) (bm_ 26 36) rfl rfl (any_of HT_.out (by kernel_rfl)) (fun _ _ _ h=>h) (Or.inl ⟨by rfl,?_⟩) ?_ ?_;rotate_left
            ·
             intro w'
             go_simp
             with_reducible rfl
            rotate_left
            ·
             simp only [Act.put,zi,zj,zk,zG,zH]
             rfl
            refine pure_ (i:=26) (N:=some 150) (v:=undef) (a':=?_) (bm_ 27 36) rfl rfl (any_of HT_.out (by kernel_rfl)) (fun _ _ _ h=>h) (Or.inr ⟨by rfl,rfl⟩) ?_ ?_;rotate_left
            ·
             simp only [Act.put,zi,zj,zk,zG,zH]
             rfl
            refine pure_ (i:=27) (N:=some 151) (v:=undef) (a':=?_) (bm_ 28 36) rfl rfl (any_of HT_.out (by kernel_rfl)) (fun _ _ _ h=>h) (Or.inr ⟨by rfl,rfl⟩) ?_ ?_;rotate_left
            ·
             simp only [Act.put,zi,zj,zk,zG,zH]
             rfl
            refine pure_ (i:=28) (N:=some 152) (v:=undef) (a':=?_) (bm_ 29 36) rfl rfl (any_of HT_.out (by kernel_rfl)) (fun _ _ _ h=>h) (Or.inr ⟨by rfl,rfl⟩) ?_ ?_;rotate_left
            ·
             simp only [Act.put,zi,zj,zk,zG,zH]
             rfl
            refine pure_ (i:=29) (N:=some 153) (v:=undef) (a':=?_) (bm_ 30 36) rfl rfl (any_of HT_.out (by kernel_rfl)) (fun _ _ _ h=>h) (Or.inr ⟨by rfl,rfl⟩) ?_ ?_;rotate_left
            ·
             simp only [Act.put,zi,zj,zk,zG,zH]
             rfl
            refine pure_ (i:=30) (N:=some 154) (v:=undef) (a':=?_) (bm_ 31 36) rfl rfl (any_of HT_.out (by kernel_rfl)) (fun _ _ _ h=>h) (Or.inr ⟨by rfl,rfl⟩) ?_ ?_;rotate_left
            ·
             simp only [Act.put,zi,zj,zk,zG,zH]
             rfl
            refine pure_ (i:=31) (N:=some 155) (v:=undef) (a':=?_) (bm_ 32 36) rfl rfl (any_of HT_.out (by kernel_rfl)) (fun _ _ _ h=>h) (Or.inr ⟨by rfl,rfl⟩) ?_ ?_;rotate_left
            ·
             simp only [Act.put,zi,zj,zk,zG,zH]
             rfl
            refine pure_ (i:=32) (N:=some 156) (v:=undef) (a':=?_) (bm_ 33 36) rfl rfl (any_of HT_.out (by kernel_rfl)) (fun _ _ _ h=>h) (Or.inr ⟨by rfl,rfl⟩) ?_ ?_;rotate_left
            ·
             simp only [Act.put,zi,zj,zk,zG,zH]
             rfl
            refine pure_ (i:=33) (N:=some 157) (v:=undef) (a':=?_) (bm_ 34 36) rfl rfl (any_of HT_.out (by kernel_rfl)) (fun _ _ _ h=>h) (Or.inr ⟨by rfl,rfl⟩) ?_ ?_;rotate_left
            ·
             simp only [Act.put,zi,zj,zk,zG,zH]
             rfl
            refine pure_ (i:=34) (N:=some 158) (v:=undef) (a':=?_) (bm_ 35 36) rfl rfl (any_of HT_.out (by kernel_rfl)) (fun _ _ _ h=>h) (Or.inr ⟨by rfl,rfl⟩) ?_ ?_;rotate_left
            ·
             simp only [Act.put,zi,zj,zk,zG,zH]
             rfl
            refine pure_ (i:=35) (N:=some 159) (v:=?_) (a':=?_) (bm_ 36 36) rfl rfl (any_of HT_.out (by kernel_rfl)) (fun _ _ _ h=>h) (Or.inl ⟨by rfl,?_⟩) ?_ ?_;rotate_left
            ·
             intro w'
             go_simp
             with_reducible rfl
            rotate_left
            ·
             simp only [Act.put,zi,zj,zk,zG,zH]
             rfl
            refine done_ (done_of HT_.out (by kernel_rfl)) ?_
            try go_wp2
            go_ret
            exact ⟨by first|rfl|(simp [yt,yu] <;> rfl)|(simp only [← hji71];first|rfl|(simp [yt,yu] <;> rfl))|(simp [*,yt,yu] <;> rfl),by repeat (with_reducible first|exact HB.out|apply za|apply zb|apply zc|refine zd ?_ GE148.out)⟩
           rw [if_neg c73] at H;exact absurd H (by simp)
          rw [if_neg c72] at H;exact absurd H (by simp)
         rw [if_neg c70] at H;have c70b0 : decide (0<x10_2)=false:=decide_eq_false c70;clear c70;replace H:=zT.mp H;obtain ⟨t168,A850,H⟩:=H;replace H : (if t168=true then (F1.l1 k2 a1 t157 (wrap64 (x10_2+1))) else (some false))=some r:=H;have A85:=zh A850;clear A850
         by_cases c86 : t168=true
         ·
          subst c86
          have H1 : (F1.l1 k2 a1 t157 (wrap64 (x10_2+1)))=some r:=by rw [if_pos rfl] at H;exact H
          clear H;have H:=H1;clear H1;have H':=zh H;clear H;obtain ⟨Ao87,co87,eo87⟩:=yk HO_8.out;subst eo87
          try go_wp2
          replace HO_8:=zh (zo HO_8.out);replace BK148:=zh (zf BK148.out);replace HB:=zh (zc HB.out);have p161 : 0≤(x10_2 : Int):=zy (by first|(with_reducible assumption)|assumption);have q161 : x10_2<(t157.length : Int):=zy (by first|(with_reducible assumption)|assumption);obtain ⟨ad161,e161,hx161_0,hx161_1,hx161_2,hx161_3⟩:=at_T43 (yh HO_8.out).2.2 x10_2 p161 q161
          cases e161
          replace p161:=eq_true p161;replace q161:=eq_true q161;have p167 : 0≤(x10_2 : Int):=zy (by first|(with_reducible assumption)|assumption);have q167 : x10_2<(t157.length : Int):=zy (by first|(with_reducible assumption)|assumption);obtain ⟨ad167,e167,hx167_0,hx167_1,hx167_2,hx167_3⟩:=at_T43 (yh HO_8.out).2.2 x10_2 p167 q167;obtain rfl : ad161=ad167:=(by injection e167);replace p167:=eq_true p167;replace q167:=eq_true q167;refine start_ (n:=36) (S:=fun w' => w'.cell? (ad161.add ((x10_2).toNat*4))=some (.string ((rd_T43 t157 x10_2).f0))∧w'.cell? ⟨(ad161.add ((x10_2).toNat*4)).block,(ad161.add ((x10_2).toNat*4)).off+1,none⟩=some (.int .i64 ((rd_T43 t157 x10_2).f1.f0))∧w'.cell? ⟨(ad161.add ((x10_2).toNat*4)).block,(ad161.add ((x10_2).toNat*4)).off+2,none⟩=some (.int .i64 ((rd_T43 t157 x10_2).f1.f1))∧w'.cell? ⟨(ad161.add ((x10_2).toNat*4)).block,(ad161.add ((x10_2).toNat*4)).off+3,none⟩=some (.string ((rd_T43 t157 x10_2).f1.f2))∧w'.cell? (ad161.add ((x10_2).toNat*4))=some (.string ((rd_T43 t157 x10_2).f0))∧w'.cell? ⟨(ad161.add ((x10_2).toNat*4)).block,(ad161.add ((x10_2).toNat*4)).off+1,none⟩=some (.int .i64 ((rd_T43 t157 x10_2).f1.f0))∧w'.cell? ⟨(ad161.add ((x10_2).toNat*4)).block,(ad161.add ((x10_2).toNat*4)).off+2,none⟩=some (.int .i64 ((rd_T43 t157 x10_2).f1.f1))∧w'.cell? ⟨(ad161.add ((x10_2).toNat*4)).block,(ad161.add ((x10_2).toNat*4)).off+3,none⟩=some (.string ((rd_T43 t157 x10_2).f1.f2))) (ds:=[]) (bm_ 0 36) (by kernel_rfl) rfl rfl ⟨hx161_0,hx161_1,hx161_2,hx161_3,hx167_0,hx167_1,hx167_2,hx167_3⟩ (fun hHeld=>?_);refine with_tabW F1.tab27 F1.bits27 (fun HT_ HW_=>?_);generalize wr.drew=w88 at HO_8 BK148 HB hx161_0 hx161_1 hx161_2 hx161_3 hx167_0 hx167_1 hx167_2 hx167_3 hHeld ⊢;refine pure_ (i:=0) (N:=some 124) (v:=?_) (a':=?_) (bm_ 1 36) rfl rfl (any_of HT_.out (by kernel_rfl)) (fun _ _ _ h=>h) (Or.inl ⟨by rfl,?_⟩) ?_ ?_;rotate_left
          ·
           intro w'
           go_simp
           with_reducible rfl
          rotate_left
          ·
           simp only [Act.put,zi,zj,zk,zG,zH]
           rfl
          refine pure_ (i:=1) (N:=some 125) (v:=?_) (a':=?_) (bm_ 2 36) rfl rfl (any_of HT_.out (by kernel_rfl)) (fun _ _ _ h=>h) (Or.inl ⟨by rfl,?_⟩) ?_ ?_;rotate_left
          ·
           intro w'
           go_simp
           with_reducible rfl
          rotate_left
          ·
           simp only [Act.put,zi,zj,zk,zG,zH]
           rfl
          refine pure_ (i:=2) (N:=some 126) (v:=?_) (a':=?_) (bm_ 3 36) rfl rfl (any_of HT_.out (by kernel_rfl)) (fun _ _ _ h=>h) (Or.inl ⟨by rfl,?_⟩) ?_ ?_;rotate_left
          ·
           intro w'
           go_simp
           with_reducible rfl
          rotate_left
          ·
           simp only [Act.put,zi,zj,zk,zG,zH]
           rfl
          refine pure_ (i:=3) (N:=some 127) (v:=?_) (a':=?_) (bm_ 4 36) rfl rfl (any_of HT_.out (by kernel_rfl)) (fun _ _ _ h=>h) (Or.inl ⟨by rfl,?_⟩) ?_ ?_;rotate_left
          ·
           intro w'
           go_simp
           with_reducible rfl
          rotate_left
          ·
           simp only [Act.put,zi,zj,zk,zG,zH]
           rfl
          refine take_ (i:=4) (N:=some 128) (v:=?_) (a':=?_) (bm_ 5 36) rfl rfl (yo HT_.out HW_.out (by kernel_rfl)) (fun _ _ _ h=>h) (Or.inl ⟨by rfl,?_⟩) hHeld ?_ ?_;rotate_left
          ·
           rintro w' ⟨s0,s1,s2,s3,s4,s5,s6,s7⟩
           go_simp
           with_reducible rfl
          rotate_left
          ·
           simp only [Act.put,zi,zj,zk,zG,zH]
           rfl
          refine one_ (i:=5) (N:=some 129) (bm_ 6 36) rfl rfl (one_of HT_.out (by kernel_rfl)) (by decide) (fun K hK=>?_);refine goes_ Try.func19 (by kernel_rfl) rfl #[.string ((rd_T43 t157 x10_2).f0)] (by rfl) rfl rfl (by (try simp only [zt,zu,zv]);first|done|rfl|(simp only [zw,zx];rfl)|(simp only [yr,ys,zV,zW];rfl)) ?_
          with_reducible refine (Fy.calls k2  ((rd_T43 t157 x10_2).f0) true _ A68.out).mono ?_
          rintro e w' ⟨rfl,⟨nd,rfl⟩⟩;refine ⟨_,rfl,?_⟩;refine hK.out _ _ ⟨hHeld.1,hHeld.2.1,hHeld.2.2.1,hHeld.2.2.2.1,hHeld.2.2.2.2.1,hHeld.2.2.2.2.2.1,hHeld.2.2.2.2.2.2.1,hHeld.2.2.2.2.2.2.2⟩ (fun hHeld=>?_);clear hK K;refine norm_ (a':=?_) ?_ ?_;rotate_left
          ·
           show Act.put _ (some 129) _=_
           simp only [Act.put,zi,zj,zk,zG,zH]
           rfl
          refine pure_ (i:=6) (N:=some 130) (v:=?_) (a':=?_) (bm_ 7 36) rfl rfl (any_of HT_.out (by kernel_rfl)) (fun _ _ _ h=>h) (Or.inl ⟨by rfl,?_⟩) ?_ ?_;rotate_left
          ·
           intro w'
           go_simp
           with_reducible rfl
          rotate_left
          ·
           simp only [Act.put,zi,zj,zk,zG,zH]
           rfl
          refine pure_ (i:=7) (N:=some 131) (v:=?_) (a':=?_) (bm_ 8 36) rfl rfl (any_of HT_.out (by kernel_rfl)) (fun _ _ _ h=>h) (Or.inl ⟨by rfl,?_⟩) ?_ ?_;rotate_left
          ·
           intro w'
           go_simp
           with_reducible rfl
          rotate_left
          ·
           simp only [Act.put,zi,zj,zk,zG,zH]
           rfl
          refine pure_ (i:=8) (N:=some 132) (v:=?_) (a':=?_) (bm_ 9 36) rfl rfl (any_of HT_.out (by kernel_rfl)) (fun _ _ _ h=>h) (Or.inl ⟨by rfl,?_⟩) ?_ ?_;rotate_left
          ·
           intro w'
           go_simp
           with_reducible rfl
          rotate_left
          ·
           simp only [Act.put,zi,zj,zk,zG,zH]
           rfl
          refine pure_ (i:=9) (N:=some 133) (v:=?_) (a':=?_) (bm_ 10 36) rfl rfl (any_of HT_.out (by kernel_rfl)) (fun _ _ _ h=>h) (Or.inl ⟨by rfl,?_⟩) ?_ ?_;rotate_left
          ·
           intro w'
           go_simp
           with_reducible rfl
          rotate_left
          ·
           simp only [Act.put,zi,zj,zk,zG,zH]
           rfl
          refine pure_ (i:=10) (N:=some 134) (v:=?_) (a':=?_) (bm_ 11 36) rfl rfl (any_of HT_.out (by kernel_rfl)) (fun _ _ _ h=>h) (Or.inl ⟨by rfl,?_⟩) ?_ ?_;rotate_left
          ·
           intro w'
           go_simp
           with_reducible rfl
          rotate_left
          ·
           simp only [Act.put,zi,zj,zk,zG,zH]
           rfl
          refine pure_ (i:=11) (N:=some 135) (v:=undef) (a':=?_) (bm_ 12 36) rfl rfl (any_of HT_.out (by kernel_rfl)) (fun _ _ _ h=>h) (Or.inr ⟨by rfl,rfl⟩) ?_ ?_;rotate_left
          ·
           simp only [Act.put,zi,zj,zk,zG,zH]
           rfl
          refine pure_ (i:=12) (N:=some 136) (v:=undef) (a':=?_) (bm_ 13 36) rfl rfl (any_of HT_.out (by kernel_rfl)) (fun _ _ _ h=>h) (Or.inr ⟨by rfl,rfl⟩) ?_ ?_;rotate_left
          ·
           simp only [Act.put,zi,zj,zk,zG,zH]
           rfl
          refine pure_ (i:=13) (N:=some 137) (v:=undef) (a':=?_) (bm_ 14 36) rfl rfl (any_of HT_.out (by kernel_rfl)) (fun _ _ _ h=>h) (Or.inr ⟨by rfl,rfl⟩) ?_ ?_;rotate_left
          ·
           simp only [Act.put,zi,zj,zk,zG,zH]
           rfl
          refine pure_ (i:=14) (N:=some 138) (v:=undef) (a':=?_) (bm_ 15 36) rfl rfl (any_of HT_.out (by kernel_rfl)) (fun _ _ _ h=>h) (Or.inr ⟨by rfl,rfl⟩) ?_ ?_;rotate_left
          ·
           simp only [Act.put,zi,zj,zk,zG,zH]
           rfl
          refine pure_ (i:=15) (N:=some 139) (v:=undef) (a':=?_) (bm_ 16 36) rfl rfl (any_of HT_.out (by kernel_rfl)) (fun _ _ _ h=>h) (Or.inr ⟨by rfl,rfl⟩) ?_ ?_;rotate_left
          ·
           simp only [Act.put,zi,zj,zk,zG,zH]
           rfl
          refine pure_ (i:=16) (N:=some 140) (v:=undef) (a':=?_) (bm_ 17 36) rfl rfl (any_of HT_.out (by kernel_rfl)) (fun _ _ _ h=>h) (Or.inr ⟨by rfl,rfl⟩) ?_ ?_;rotate_left
          ·
           simp only [Act.put,zi,zj,zk,zG,zH]
           rfl
          refine pure_ (i:=17) (N:=some 141) (v:=undef) (a':=?_) (bm_ 18 36) rfl rfl (any_of HT_.out (by kernel_rfl)) (fun _ _ _ h=>h) (Or.inr ⟨by rfl,rfl⟩) ?_ ?_;rotate_left
          ·
           simp only [Act.put,zi,zj,zk,zG,zH]
           rfl
          refine pure_ (i:=18) (N:=some 142) (v:=undef) (a':=?_) (bm_ 19 36) rfl rfl (any_of HT_.out (by kernel_rfl)) (fun _ _ _ h=>h) (Or.inr ⟨by rfl,rfl⟩) ?_ ?_;rotate_left
          ·
           simp only [Act.put,zi,zj,zk,zG,zH]
           rfl
          refine pure_ (i:=19) (N:=some 143) (v:=undef) (a':=?_) (bm_ 20 36) rfl rfl (any_of HT_.out (by kernel_rfl)) (fun _ _ _ h=>h) (Or.inr ⟨by rfl,rfl⟩) ?_ ?_;rotate_left
          ·
           simp only [Act.put,zi,zj,zk,zG,zH]
           rfl
          refine pure_ (i:=20) (N:=some 144) (v:=undef) (a':=?_) (bm_ 21 36) rfl rfl (any_of HT_.out (by kernel_rfl)) (fun _ _ _ h=>h) (Or.inr ⟨by rfl,rfl⟩) ?_ ?_;rotate_left
          ·
           simp only [Act.put,zi,zj,zk,zG,zH]
           rfl
          refine pure_ (i:=21) (N:=some 145) (v:=undef) (a':=?_) (bm_ 22 36) rfl rfl (any_of HT_.out (by kernel_rfl)) (fun _ _ _ h=>h) (Or.inr ⟨by rfl,rfl⟩) ?_ ?_;rotate_left
          ·
           simp only [Act.put,zi,zj,zk,zG,zH]
           rfl
          refine pure_ (i:=22) (N:=some 146) (v:=undef) (a':=?_) (bm_ 23 36) rfl rfl (any_of HT_.out (by kernel_rfl)) (fun _ _ _ h=>h) (Or.inr ⟨by rfl,rfl⟩) ?_ ?_;rotate_left
          ·
           simp only [Act.put,zi,zj,zk,zG,zH]
           rfl
          refine pure_ (i:=23) (N:=some 147) (v:=?_) (a':=?_) (bm_ 24 36) rfl rfl (any_of HT_.out (by kernel_rfl)) (fun _ _ _ h=>h) (Or.inl ⟨by rfl,?_⟩) ?_ ?_;rotate_left
          ·
           intro w'
           go_simp
           with_reducible rfl
          rotate_left
          ·
           simp only [Act.put,zi,zj,zk,zG,zH]
           rfl
          refine pure_ (i:=24) (N:=some 148) (v:=?_) (a':=?_) (bm_ 25 36) rfl rfl (any_of HT_.out (by kernel_rfl)) (fun _ _ _ h=>h) (Or.inl ⟨by rfl,?_⟩) ?_ ?_;rotate_left
          ·
           intro w'
           go_simp
           with_reducible rfl
          rotate_left
          ·
           simp only [Act.put,zi,zj,zk,zG,zH]
           rfl
          refine pure_ (i:=25) (N:=some 149) (v:=?_) (a':=?_) (bm_ 26 36) rfl rfl (any_of HT_.out (by kernel_rfl)) (fun _ _ _ h=>h) (Or.inl ⟨by rfl,?_⟩) ?_ ?_;rotate_left
          ·
           intro w'
           go_simp
           with_reducible rfl
          rotate_left
          ·
           simp only [Act.put,zi,zj,zk,zG,zH]
           rfl
          refine pure_ (i:=26) (N:=some 150) (v:=?_) (a':=?_) (bm_ 27 36) rfl rfl (any_of HT_.out (by kernel_rfl)) (fun _ _ _ h=>h) (Or.inl ⟨by rfl,?_⟩) ?_ ?_;rotate_left
          ·
           intro w'
           go_simp
           with_reducible rfl
          rotate_left
          ·
           simp only [Act.put,zi,zj,zk,zG,zH]
           rfl
          refine pure_ (i:=27) (N:=some 151) (v:=?_) (a':=?_) (bm_ 28 36) rfl rfl (any_of HT_.out (by kernel_rfl)) (fun _ _ _ h=>h) (Or.inl ⟨by rfl,?_⟩) ?_ ?_;rotate_left
          ·
           intro w'
           go_simp
           with_reducible rfl
          rotate_left
          ·
           simp only [Act.put,zi,zj,zk,zG,zH]
           rfl
          refine pure_ (i:=28) (N:=some 152) (v:=?_) (a':=?_) (bm_ 29 36) rfl rfl (any_of HT_.out (by kernel_rfl)) (fun _ _ _ h=>h) (Or.inl ⟨by rfl,?_⟩) ?_ ?_;rotate_left
          ·
           intro w'
           go_simp
           with_reducible rfl
          rotate_left
          ·
           simp only [Act.put,zi,zj,zk,zG,zH]
           rfl
          refine pure_ (i:=29) (N:=some 153) (v:=?_) (a':=?_) (bm_ 30 36) rfl rfl (any_of HT_.out (by kernel_rfl)) (fun _ _ _ h=>h) (Or.inl ⟨by rfl,?_⟩) ?_ ?_;rotate_left
          ·
           intro w'
           go_simp
           with_reducible rfl
          rotate_left
          ·
           simp only [Act.put,zi,zj,zk,zG,zH]
           rfl
          refine pure_ (i:=31) (N:=some 155) (v:=?_) (a':=?_) #[true,true,true,true,true,true,true,true,true,true,true,true,true,true,true,true,true,true,true,true,true,true,true,true,true,true,true,true,true,true,false,true,false,false,false,false] rfl rfl (any_of HT_.out (by kernel_rfl)) (fun _ _ _ h=>h) (Or.inl ⟨by rfl,?_⟩) ?_ ?_;rotate_left
          ·
           intro w'
           go_simp
           with_reducible rfl
          rotate_left
          ·
           simp only [Act.put,zi,zj,zk,zG,zH]
           rfl
          refine pure_ (i:=32) (N:=some 156) (v:=?_) (a':=?_) #[true,true,true,true,true,true,true,true,true,true,true,true,true,true,true,true,true,true,true,true,true,true,true,true,true,true,true,true,true,true,false,true,true,false,false,false] rfl rfl (any_of HT_.out (by kernel_rfl)) (fun _ _ _ h=>h) (Or.inl ⟨by rfl,?_⟩) ?_ ?_;rotate_left
          ·
           intro w'
           go_simp
           with_reducible rfl
          rotate_left
          ·
           simp only [Act.put,zi,zj,zk,zG,zH]
           rfl
          refine take_ (i:=30) (N:=some 154) (v:=?_) (a':=?_) (bm_ 33 36) rfl rfl (yo HT_.out HW_.out (by kernel_rfl)) (fun _ _ _ h=>h) (Or.inl ⟨by rfl,?_⟩) hHeld ?_ ?_;rotate_left
          ·
           rintro w' ⟨s0,s1,s2,s3,s4,s5,s6,s7⟩
           go_simp
           with_reducible rfl
          rotate_left
          ·
           simp only [Act.put,zi,zj,zk,zG,zH]
           rfl
          refine one_ (i:=33) (N:=some 157) (bm_ 34 36) rfl rfl (one_of HT_.out (by kernel_rfl)) (by decide) (fun K hK=>?_);refine goes_ Try.func40 (by kernel_rfl) rfl #[.agg #[.int .i64 ((rd_T43 t157 x10_2).f1.f0),.int .i64 ((rd_T43 t157 x10_2).f1.f1),.string ((rd_T43 t157 x10_2).f1.f2)],.int .i64 (wrap64 (a1 - 1))] (by rfl) rfl rfl (by (try simp only [zt,zu,zv]);first|done|rfl|(simp only [zw,zx];rfl)|(simp only [yr,ys,zV,zW];rfl)) ?_
          with_reducible refine (ih k2 (by have:=HJ53.out;have:=HK2.out;omega)  ((rd_T43 t157 x10_2).f1.f0) ((rd_T43 t157 x10_2).f1.f1) ((rd_T43 t157 x10_2).f1.f2) (wrap64 (a1 - 1)) true _ A85.out).mono ?_
          rintro e w89 ⟨rfl,hb⟩;have HS0_:=(hb.cell (zl _ _ (hHeld.1))).trans (hHeld.1);have HS1_:=(hb.cell (zl _ _ (hHeld.2.1))).trans (hHeld.2.1);have HS2_:=(hb.cell (zl _ _ (hHeld.2.2.1))).trans (hHeld.2.2.1);have HS3_:=(hb.cell (zl _ _ (hHeld.2.2.2.1))).trans (hHeld.2.2.2.1);have HS4_:=(hb.cell (zl _ _ (hHeld.2.2.2.2.1))).trans (hHeld.2.2.2.2.1);have HS5_:=(hb.cell (zl _ _ (hHeld.2.2.2.2.2.1))).trans (hHeld.2.2.2.2.2.1);have HS6_:=(hb.cell (zl _ _ (hHeld.2.2.2.2.2.2.1))).trans (hHeld.2.2.2.2.2.2.1);have HS7_:=(hb.cell (zl _ _ (hHeld.2.2.2.2.2.2.2))).trans (hHeld.2.2.2.2.2.2.2);refine ⟨_,rfl,?_⟩;replace HO_8:=zh (yg (by (with_reducible repeat (first|apply zm|apply zn|apply zo));exact HO_8.out) hb);replace BK148:=zh (cD BK148.out (by (with_reducible repeat first|apply ze|apply zf|apply zg);exact BK148.out) hb);replace HB:=zh (zC (by repeat (with_reducible first|exact HB.out|apply za|apply zb|apply zc|refine zd ?_ GE148.out)) hb);(try clear hb);(try clear hb2);(try clear hk);(try clear hi);refine hK.out _ _ ⟨HS0_,HS1_,HS2_,HS3_,HS4_,HS5_,HS6_,HS7_⟩ (fun hHeld=>?_);clear hK K;refine norm_ (a':=?_) ?_ ?_;rotate_left
          ·
           show Act.put _ (some 157) _=_
           simp only [Act.put,zi,zj,zk,zG,zH]
           rfl
          refine pure_ (i:=34) (N:=some 158) (v:=?_) (a':=?_) (bm_ 35 36) rfl rfl (any_of HT_.out (by kernel_rfl)) (fun _ _ _ h=>h) (Or.inl ⟨by rfl,?_⟩) ?_ ?_;rotate_left
          ·
           intro w'
           go_simp
           with_reducible rfl
          rotate_left
          ·
           simp only [Act.put,zi,zj,zk,zG,zH]
           rfl
          refine pure_ (i:=35) (N:=some 159) (v:=?_) (a':=?_) (bm_ 36 36) rfl rfl (any_of HT_.out (by kernel_rfl)) (fun _ _ _ h=>h) (Or.inl ⟨by rfl,?_⟩) ?_ ?_;rotate_left
          ·
           intro w'
           go_simp
           with_reducible rfl
          rotate_left
          ·
           simp only [Act.put,zi,zj,zk,zG,zH]
           rfl
          refine done_ (done_of HT_.out (by kernel_rfl)) ?_
          try go_wp2
          go_roundg k2
          case measure=>have:=HJ53.out;have:=HK2.out;omega
          case rel=>exact ⟨(wrap64 (x10_2+1)),(by first|rfl|(simp;done)|(simp [*];done)),H',⟨by have:=HJ53.out;have:=HK2.out;omega⟩,⟨by (with_reducible repeat (first|apply zm|apply zn|apply zo));exact HO_8.out⟩,⟨by (with_reducible repeat first|apply ze|apply zf|apply zg);exact BK148.out⟩,⟨by repeat (with_reducible first|exact HB.out|apply za|apply zb|apply zc|refine zd ?_ GE148.out)⟩⟩
         replace c86:=yb.mpr c86;subst c86;have H1 : (some false)=some r:=by rw [if_neg (show ¬ (false=true) by decide)] at H;exact H
         clear H;have H:=H1;clear H1;obtain rfl:=zU H;obtain ⟨Ao90,co90,eo90⟩:=yk HO_8.out;subst eo90
         try go_wp2
         replace HO_8:=zh (zo HO_8.out);replace BK148:=zh (zf BK148.out);replace HB:=zh (zc HB.out);have p161 : 0≤(x10_2 : Int):=zy (by first|(with_reducible assumption)|assumption);have q161 : x10_2<(t157.length : Int):=zy (by first|(with_reducible assumption)|assumption);obtain ⟨ad161,e161,hx161_0,hx161_1,hx161_2,hx161_3⟩:=at_T43 (yh HO_8.out).2.2 x10_2 p161 q161
         cases e161
         replace p161:=eq_true p161;replace q161:=eq_true q161;have p167 : 0≤(x10_2 : Int):=zy (by first|(with_reducible assumption)|assumption);have q167 : x10_2<(t157.length : Int):=zy (by first|(with_reducible assumption)|assumption);obtain ⟨ad167,e167,hx167_0,hx167_1,hx167_2,hx167_3⟩:=at_T43 (yh HO_8.out).2.2 x10_2 p167 q167;obtain rfl : ad161=ad167:=(by injection e167);replace p167:=eq_true p167;replace q167:=eq_true q167;refine start_ (n:=36) (S:=fun w' => w'.cell? (ad161.add ((x10_2).toNat*4))=some (.string ((rd_T43 t157 x10_2).f0))∧w'.cell? ⟨(ad161.add ((x10_2).toNat*4)).block,(ad161.add ((x10_2).toNat*4)).off+1,none⟩=some (.int .i64 ((rd_T43 t157 x10_2).f1.f0))∧w'.cell? ⟨(ad161.add ((x10_2).toNat*4)).block,(ad161.add ((x10_2).toNat*4)).off+2,none⟩=some (.int .i64 ((rd_T43 t157 x10_2).f1.f1))∧w'.cell? ⟨(ad161.add ((x10_2).toNat*4)).block,(ad161.add ((x10_2).toNat*4)).off+3,none⟩=some (.string ((rd_T43 t157 x10_2).f1.f2))∧w'.cell? (ad161.add ((x10_2).toNat*4))=some (.string ((rd_T43 t157 x10_2).f0))∧w'.cell? ⟨(ad161.add ((x10_2).toNat*4)).block,(ad161.add ((x10_2).toNat*4)).off+1,none⟩=some (.int .i64 ((rd_T43 t157 x10_2).f1.f0))∧w'.cell? ⟨(ad161.add ((x10_2).toNat*4)).block,(ad161.add ((x10_2).toNat*4)).off+2,none⟩=some (.int .i64 ((rd_T43 t157 x10_2).f1.f1))∧w'.cell? ⟨(ad161.add ((x10_2).toNat*4)).block,(ad161.add ((x10_2).toNat*4)).off+3,none⟩=some (.string ((rd_T43 t157 x10_2).f1.f2))) (ds:=[]) (bm_ 0 36) (by kernel_rfl) rfl rfl ⟨hx161_0,hx161_1,hx161_2,hx161_3,hx167_0,hx167_1,hx167_2,hx167_3⟩ (fun hHeld=>?_);refine with_tabW F1.tab27 F1.bits27 (fun HT_ HW_=>?_);generalize wr.drew=w91 at HO_8 BK148 HB hx161_0 hx161_1 hx161_2 hx161_3 hx167_0 hx167_1 hx167_2 hx167_3 hHeld ⊢;refine pure_ (i:=0) (N:=some 124) (v:=?_) (a':=?_) (bm_ 1 36) rfl rfl (any_of HT_.out (by kernel_rfl)) (fun _ _ _ h=>h) (Or.inl ⟨by rfl,?_⟩) ?_ ?_;rotate_left
         ·
          intro w'
          go_simp
          with_reducible rfl
         rotate_left
         ·
          simp only [Act.put,zi,zj,zk,zG,zH]
          rfl
         refine pure_ (i:=1) (N:=some 125) (v:=?_) (a':=?_) (bm_ 2 36) rfl rfl (any_of HT_.out (by kernel_rfl)) (fun _ _ _ h=>h) (Or.inl ⟨by rfl,?_⟩) ?_ ?_;rotate_left
         ·
          intro w'
          go_simp
          with_reducible rfl
         rotate_left
         ·
          simp only [Act.put,zi,zj,zk,zG,zH]
          rfl
         refine pure_ (i:=2) (N:=some 126) (v:=?_) (a':=?_) (bm_ 3 36) rfl rfl (any_of HT_.out (by kernel_rfl)) (fun _ _ _ h=>h) (Or.inl ⟨by rfl,?_⟩) ?_ ?_;rotate_left
         ·
          intro w'
          go_simp
          with_reducible rfl
         rotate_left
         ·
          simp only [Act.put,zi,zj,zk,zG,zH]
          rfl
         refine pure_ (i:=3) (N:=some 127) (v:=?_) (a':=?_) (bm_ 4 36) rfl rfl (any_of HT_.out (by kernel_rfl)) (fun _ _ _ h=>h) (Or.inl ⟨by rfl,?_⟩) ?_ ?_;rotate_left
         ·
          intro w'
          go_simp
          with_reducible rfl
         rotate_left
         ·
          simp only [Act.put,zi,zj,zk,zG,zH]
          rfl
         refine take_ (i:=4) (N:=some 128) (v:=?_) (a':=?_) (bm_ 5 36) rfl rfl (yo HT_.out HW_.out (by kernel_rfl)) (fun _ _ _ h=>h) (Or.inl ⟨by rfl,?_⟩) hHeld ?_ ?_;rotate_left
         ·
          rintro w' ⟨s0,s1,s2,s3,s4,s5,s6,s7⟩
          go_simp
          with_reducible rfl
         rotate_left
         ·
          simp only [Act.put,zi,zj,zk,zG,zH]
          rfl
         refine one_ (i:=5) (N:=some 129) (bm_ 6 36) rfl rfl (one_of HT_.out (by kernel_rfl)) (by decide) (fun K hK=>?_);refine goes_ Try.func19 (by kernel_rfl) rfl #[.string ((rd_T43 t157 x10_2).f0)] (by rfl) rfl rfl (by (try simp only [zt,zu,zv]);first|done|rfl|(simp only [zw,zx];rfl)|(simp only [yr,ys,zV,zW];rfl)) ?_
         with_reducible refine (Fy.calls k2  ((rd_T43 t157 x10_2).f0) true _ A68.out).mono ?_
         rintro e w' ⟨rfl,⟨nd,rfl⟩⟩;refine ⟨_,rfl,?_⟩;refine hK.out _ _ ⟨hHeld.1,hHeld.2.1,hHeld.2.2.1,hHeld.2.2.2.1,hHeld.2.2.2.2.1,hHeld.2.2.2.2.2.1,hHeld.2.2.2.2.2.2.1,hHeld.2.2.2.2.2.2.2⟩ (fun hHeld=>?_);clear hK K;refine norm_ (a':=?_) ?_ ?_;rotate_left
         ·
          show Act.put _ (some 129) _=_
          simp only [Act.put,zi,zj,zk,zG,zH]
          rfl
         refine pure_ (i:=6) (N:=some 130) (v:=?_) (a':=?_) (bm_ 7 36) rfl rfl (any_of HT_.out (by kernel_rfl)) (fun _ _ _ h=>h) (Or.inl ⟨by rfl,?_⟩) ?_ ?_;rotate_left
         ·
          intro w'
          go_simp
          with_reducible rfl
         rotate_left
         ·
          simp only [Act.put,zi,zj,zk,zG,zH]
          rfl
         refine pure_ (i:=7) (N:=some 131) (v:=?_) (a':=?_) (bm_ 8 36) rfl rfl (any_of HT_.out (by kernel_rfl)) (fun _ _ _ h=>h) (Or.inl ⟨by rfl,?_⟩) ?_ ?_;rotate_left
         ·
          intro w'
          go_simp
          with_reducible rfl
         rotate_left
         ·
          simp only [Act.put,zi,zj,zk,zG,zH]
          rfl
         refine pure_ (i:=8) (N:=some 132) (v:=?_) (a':=?_) (bm_ 9 36) rfl rfl (any_of HT_.out (by kernel_rfl)) (fun _ _ _ h=>h) (Or.inl ⟨by rfl,?_⟩) ?_ ?_;rotate_left
         ·
          intro w'
          go_simp
          with_reducible rfl
         rotate_left
         ·
          simp only [Act.put,zi,zj,zk,zG,zH]
          rfl
         refine pure_ (i:=9) (N:=some 133) (v:=?_) (a':=?_) (bm_ 10 36) rfl rfl (any_of HT_.out (by kernel_rfl)) (fun _ _ _ h=>h) (Or.inl ⟨by rfl,?_⟩) ?_ ?_;rotate_left
         ·
          intro w'
          go_simp
          with_reducible rfl
         rotate_left
         ·
          simp only [Act.put,zi,zj,zk,zG,zH]
          rfl
         refine pure_ (i:=10) (N:=some 134) (v:=?_) (a':=?_) (bm_ 11 36) rfl rfl (any_of HT_.out (by kernel_rfl)) (fun _ _ _ h=>h) (Or.inl ⟨by rfl,?_⟩) ?_ ?_;rotate_left
         ·
          intro w'
          go_simp
          with_reducible rfl
         rotate_left
         ·
          simp only [Act.put,zi,zj,zk,zG,zH]
          rfl
         refine pure_ (i:=11) (N:=some 135) (v:=undef) (a':=?_) (bm_ 12 36) rfl rfl (any_of HT_.out (by kernel_rfl)) (fun _ _ _ h=>h) (Or.inr ⟨by rfl,rfl⟩) ?_ ?_;rotate_left
         ·
          simp only [Act.put,zi,zj,zk,zG,zH]
          rfl
         refine pure_ (i:=12) (N:=some 136) (v:=undef) (a':=?_) (bm_ 13 36) rfl rfl (any_of HT_.out (by kernel_rfl)) (fun _ _ _ h=>h) (Or.inr ⟨by rfl,rfl⟩) ?_ ?_;rotate_left
         ·
          simp only [Act.put,zi,zj,zk,zG,zH]
          rfl
         refine pure_ (i:=13) (N:=some 137) (v:=undef) (a':=?_) (bm_ 14 36) rfl rfl (any_of HT_.out (by kernel_rfl)) (fun _ _ _ h=>h) (Or.inr ⟨by rfl,rfl⟩) ?_ ?_;rotate_left
         ·
          simp only [Act.put,zi,zj,zk,zG,zH]
          rfl
         refine pure_ (i:=14) (N:=some 138) (v:=undef) (a':=?_) (bm_ 15 36) rfl rfl (any_of HT_.out (by kernel_rfl)) (fun _ _ _ h=>h) (Or.inr ⟨by rfl,rfl⟩) ?_ ?_;rotate_left
         ·
          simp only [Act.put,zi,zj,zk,zG,zH]
          rfl
         refine pure_ (i:=15) (N:=some 139) (v:=undef) (a':=?_) (bm_ 16 36) rfl rfl (any_of HT_.out (by kernel_rfl)) (fun _ _ _ h=>h) (Or.inr ⟨by rfl,rfl⟩) ?_ ?_;rotate_left
         ·
          simp only [Act.put,zi,zj,zk,zG,zH]
          rfl
         refine pure_ (i:=16) (N:=some 140) (v:=undef) (a':=?_) (bm_ 17 36) rfl rfl (any_of HT_.out (by kernel_rfl)) (fun _ _ _ h=>h) (Or.inr ⟨by rfl,rfl⟩) ?_ ?_;rotate_left
         ·
          simp only [Act.put,zi,zj,zk,zG,zH]
          rfl
         refine pure_ (i:=17) (N:=some 141) (v:=undef) (a':=?_) (bm_ 18 36) rfl rfl (any_of HT_.out (by kernel_rfl)) (fun _ _ _ h=>h) (Or.inr ⟨by rfl,rfl⟩) ?_ ?_;rotate_left
         ·
          simp only [Act.put,zi,zj,zk,zG,zH]
          rfl
         refine pure_ (i:=18) (N:=some 142) (v:=undef) (a':=?_) (bm_ 19 36) rfl rfl (any_of HT_.out (by kernel_rfl)) (fun _ _ _ h=>h) (Or.inr ⟨by rfl,rfl⟩) ?_ ?_;rotate_left
         ·
          simp only [Act.put,zi,zj,zk,zG,zH]
          rfl
         refine pure_ (i:=19) (N:=some 143) (v:=undef) (a':=?_) (bm_ 20 36) rfl rfl (any_of HT_.out (by kernel_rfl)) (fun _ _ _ h=>h) (Or.inr ⟨by rfl,rfl⟩) ?_ ?_;rotate_left
         ·
          simp only [Act.put,zi,zj,zk,zG,zH]
          rfl
         refine pure_ (i:=20) (N:=some 144) (v:=undef) (a':=?_) (bm_ 21 36) rfl rfl (any_of HT_.out (by kernel_rfl)) (fun _ _ _ h=>h) (Or.inr ⟨by rfl,rfl⟩) ?_ ?_;rotate_left
         ·
          simp only [Act.put,zi,zj,zk,zG,zH]
          rfl
         refine pure_ (i:=21) (N:=some 145) (v:=undef) (a':=?_) (bm_ 22 36) rfl rfl (any_of HT_.out (by kernel_rfl)) (fun _ _ _ h=>h) (Or.inr ⟨by rfl,rfl⟩) ?_ ?_;rotate_left
         ·
          simp only [Act.put,zi,zj,zk,zG,zH]
          rfl
         refine pure_ (i:=22) (N:=some 146) (v:=undef) (a':=?_) (bm_ 23 36) rfl rfl (any_of HT_.out (by kernel_rfl)) (fun _ _ _ h=>h) (Or.inr ⟨by rfl,rfl⟩) ?_ ?_;rotate_left
         ·
          simp only [Act.put,zi,zj,zk,zG,zH]
          rfl
         refine pure_ (i:=23) (N:=some 147) (v:=?_) (a':=?_) (bm_ 24 36) rfl rfl (any_of HT_.out (by kernel_rfl)) (fun _ _ _ h=>h) (Or.inl ⟨by rfl,?_⟩) ?_ ?_;rotate_left
         ·
          intro w'
          go_simp
          with_reducible rfl
         rotate_left
         ·
          simp only [Act.put,zi,zj,zk,zG,zH]
          rfl
         refine pure_ (i:=24) (N:=some 148) (v:=?_) (a':=?_) (bm_ 25 36) rfl rfl (any_of HT_.out (by kernel_rfl)) (fun _ _ _ h=>h) (Or.inl ⟨by rfl,?_⟩) ?_ ?_;rotate_left
         ·
          intro w'
          go_simp
          with_reducible rfl
         rotate_left
         ·
          simp only [Act.put,zi,zj,zk,zG,zH]
          rfl
         refine pure_ (i:=25) (N:=some 149) (v:=?_) (a':=?_) (bm_ 26 36) rfl rfl (any_of HT_.out (by kernel_rfl)) (fun _ _ _ h=>h) (Or.inl ⟨by rfl,?_⟩) ?_ ?_;rotate_left
         ·
          intro w'
          go_simp
          with_reducible rfl
         rotate_left
         ·
          simp only [Act.put,zi,zj,zk,zG,zH]
          rfl
         refine pure_ (i:=26) (N:=some 150) (v:=?_) (a':=?_) (bm_ 27 36) rfl rfl (any_of HT_.out (by kernel_rfl)) (fun _ _ _ h=>h) (Or.inl ⟨by rfl,?_⟩) ?_ ?_;rotate_left
         ·
          intro w'
          go_simp
          with_reducible rfl
         rotate_left
         ·
          simp only [Act.put,zi,zj,zk,zG,zH]
          rfl
         refine pure_ (i:=27) (N:=some 151) (v:=?_) (a':=?_) (bm_ 28 36) rfl rfl (any_of HT_.out (by kernel_rfl)) (fun _ _ _ h=>h) (Or.inl ⟨by rfl,?_⟩) ?_ ?_;rotate_left
         ·
          intro w'
          go_simp
          with_reducible rfl
         rotate_left
         ·
          simp only [Act.put,zi,zj,zk,zG,zH]
          rfl
         refine pure_ (i:=28) (N:=some 152) (v:=?_) (a':=?_) (bm_ 29 36) rfl rfl (any_of HT_.out (by kernel_rfl)) (fun _ _ _ h=>h) (Or.inl ⟨by rfl,?_⟩) ?_ ?_;rotate_left
         ·
          intro w'
          go_simp
          with_reducible rfl
         rotate_left
         ·
          simp only [Act.put,zi,zj,zk,zG,zH]
          rfl
         refine pure_ (i:=29) (N:=some 153) (v:=?_) (a':=?_) (bm_ 30 36) rfl rfl (any_of HT_.out (by kernel_rfl)) (fun _ _ _ h=>h) (Or.inl ⟨by rfl,?_⟩) ?_ ?_;rotate_left
         ·
          intro w'
          go_simp
          with_reducible rfl
         rotate_left
         ·
          simp only [Act.put,zi,zj,zk,zG,zH]
          rfl
         refine pure_ (i:=31) (N:=some 155) (v:=?_) (a':=?_) #[true,true,true,true,true,true,true,true,true,true,true,true,true,true,true,true,true,true,true,true,true,true,true,true,true,true,true,true,true,true,false,true,false,false,false,false] rfl rfl (any_of HT_.out (by kernel_rfl)) (fun _ _ _ h=>h) (Or.inl ⟨by rfl,?_⟩) ?_ ?_;rotate_left
         ·
          intro w'
          go_simp
          with_reducible rfl
         rotate_left
         ·
          simp only [Act.put,zi,zj,zk,zG,zH]
          rfl
         refine pure_ (i:=32) (N:=some 156) (v:=?_) (a':=?_) #[true,true,true,true,true,true,true,true,true,true,true,true,true,true,true,true,true,true,true,true,true,true,true,true,true,true,true,true,true,true,false,true,true,false,false,false] rfl rfl (any_of HT_.out (by kernel_rfl)) (fun _ _ _ h=>h) (Or.inl ⟨by rfl,?_⟩) ?_ ?_;rotate_left
         ·
          intro w'
          go_simp
          with_reducible rfl
         rotate_left
         ·
          simp only [Act.put,zi,zj,zk,zG,zH]
          rfl
         refine take_ (i:=30) (N:=some 154) (v:=?_) (a':=?_) (bm_ 33 36) rfl rfl (yo HT_.out HW_.out (by kernel_rfl)) (fun _ _ _ h=>h) (Or.inl ⟨by rfl,?_⟩) hHeld ?_ ?_;rotate_left
         ·
          rintro w' ⟨s0,s1,s2,s3,s4,s5,s6,s7⟩
          go_simp
          with_reducible rfl
         rotate_left
         ·
          simp only [Act.put,zi,zj,zk,zG,zH]
          rfl
         refine one_ (i:=33) (N:=some 157) (bm_ 34 36) rfl rfl (one_of HT_.out (by kernel_rfl)) (by decide) (fun K hK=>?_);refine goes_ Try.func40 (by kernel_rfl) rfl #[.agg #[.int .i64 ((rd_T43 t157 x10_2).f1.f0),.int .i64 ((rd_T43 t157 x10_2).f1.f1),.string ((rd_T43 t157 x10_2).f1.f2)],.int .i64 (wrap64 (a1 - 1))] (by rfl) rfl rfl (by (try simp only [zt,zu,zv]);first|done|rfl|(simp only [zw,zx];rfl)|(simp only [yr,ys,zV,zW];rfl)) ?_
         with_reducible refine (ih k2 (by have:=HJ53.out;have:=HK2.out;omega)  ((rd_T43 t157 x10_2).f1.f0) ((rd_T43 t157 x10_2).f1.f1) ((rd_T43 t157 x10_2).f1.f2) (wrap64 (a1 - 1)) false _ A85.out).mono ?_
         rintro e w92 ⟨rfl,hb⟩;have HS0_:=(hb.cell (zl _ _ (hHeld.1))).trans (hHeld.1);have HS1_:=(hb.cell (zl _ _ (hHeld.2.1))).trans (hHeld.2.1);have HS2_:=(hb.cell (zl _ _ (hHeld.2.2.1))).trans (hHeld.2.2.1);have HS3_:=(hb.cell (zl _ _ (hHeld.2.2.2.1))).trans (hHeld.2.2.2.1);have HS4_:=(hb.cell (zl _ _ (hHeld.2.2.2.2.1))).trans (hHeld.2.2.2.2.1);have HS5_:=(hb.cell (zl _ _ (hHeld.2.2.2.2.2.1))).trans (hHeld.2.2.2.2.2.1);have HS6_:=(hb.cell (zl _ _ (hHeld.2.2.2.2.2.2.1))).trans (hHeld.2.2.2.2.2.2.1);have HS7_:=(hb.cell (zl _ _ (hHeld.2.2.2.2.2.2.2))).trans (hHeld.2.2.2.2.2.2.2);refine ⟨_,rfl,?_⟩;replace HO_8:=zh (yg (by (with_reducible repeat (first|apply zm|apply zn|apply zo));exact HO_8.out) hb);replace BK148:=zh (cD BK148.out (by (with_reducible repeat first|apply ze|apply zf|apply zg);exact BK148.out) hb);replace HB:=zh (zC (by repeat (with_reducible first|exact HB.out|apply za|apply zb|apply zc|refine zd ?_ GE148.out)) hb);(try clear hb);(try clear hb2);(try clear hk);(try clear hi);refine hK.out _ _ ⟨HS0_,HS1_,HS2_,HS3_,HS4_,HS5_,HS6_,HS7_⟩ (fun hHeld=>?_);clear hK K;refine norm_ (a':=?_) ?_ ?_;rotate_left
         ·
          show Act.put _ (some 157) _=_
          simp only [Act.put,zi,zj,zk,zG,zH]
          rfl
         refine pure_ (i:=34) (N:=some 158) (v:=?_) (a':=?_) (bm_ 35 36) rfl rfl (any_of HT_.out (by kernel_rfl)) (fun _ _ _ h=>h) (Or.inl ⟨by rfl,?_⟩) ?_ ?_;rotate_left
         ·
          intro w'
          go_simp
          with_reducible rfl
         rotate_left
         ·
          simp only [Act.put,zi,zj,zk,zG,zH]
          rfl
         refine pure_ (i:=35) (N:=some 159) (v:=?_) (a':=?_) (bm_ 36 36) rfl rfl (any_of HT_.out (by kernel_rfl)) (fun _ _ _ h=>h) (Or.inl ⟨by rfl,?_⟩) ?_ ?_;rotate_left
         ·
          intro w'
          go_simp
          with_reducible rfl
         rotate_left
         ·
          simp only [Act.put,zi,zj,zk,zG,zH]
          rfl
         refine done_ (done_of HT_.out (by kernel_rfl)) ?_
         try go_wp2
         go_ret
         exact ⟨by first|rfl|(simp [yt,yu] <;> rfl)|(simp [*,yt,yu] <;> rfl),by repeat (with_reducible first|exact HB.out|apply za|apply zb|apply zc|refine zd ?_ GE148.out)⟩
        replace c69:=yb.mpr c69;subst c69;have H1 : (some false)=some r:=by rw [if_neg (show ¬ (false=true) by decide)] at H;exact H
        clear H;have H:=H1;clear H1;obtain rfl:=zU H;obtain ⟨Ao93,co93,eo93⟩:=yk HO_8.out;subst eo93
        try go_wp2
        replace HO_8:=zh (zo HO_8.out);replace BK148:=zh (zf BK148.out);replace HB:=zh (zc HB.out);have p161 : 0≤(x10_2 : Int):=zy (by first|(with_reducible assumption)|assumption);have q161 : x10_2<(t157.length : Int):=zy (by first|(with_reducible assumption)|assumption);obtain ⟨ad161,e161,hx161_0,hx161_1,hx161_2,hx161_3⟩:=at_T43 (yh HO_8.out).2.2 x10_2 p161 q161
        cases e161
        replace p161:=eq_true p161;replace q161:=eq_true q161;refine start_ (n:=36) (S:=fun w' => w'.cell? (ad161.add ((x10_2).toNat*4))=some (.string ((rd_T43 t157 x10_2).f0))∧w'.cell? ⟨(ad161.add ((x10_2).toNat*4)).block,(ad161.add ((x10_2).toNat*4)).off+1,none⟩=some (.int .i64 ((rd_T43 t157 x10_2).f1.f0))∧w'.cell? ⟨(ad161.add ((x10_2).toNat*4)).block,(ad161.add ((x10_2).toNat*4)).off+2,none⟩=some (.int .i64 ((rd_T43 t157 x10_2).f1.f1))∧w'.cell? ⟨(ad161.add ((x10_2).toNat*4)).block,(ad161.add ((x10_2).toNat*4)).off+3,none⟩=some (.string ((rd_T43 t157 x10_2).f1.f2))) (ds:=[]) (bm_ 0 36) (by kernel_rfl) rfl rfl ⟨hx161_0,hx161_1,hx161_2,hx161_3⟩ (fun hHeld=>?_);refine with_tabW F1.tab27 F1.bits27 (fun HT_ HW_=>?_);generalize wr.drew=w94 at HO_8 BK148 HB hx161_0 hx161_1 hx161_2 hx161_3 hHeld ⊢;refine pure_ (i:=0) (N:=some 124) (v:=?_) (a':=?_) (bm_ 1 36) rfl rfl (any_of HT_.out (by kernel_rfl)) (fun _ _ _ h=>h) (Or.inl ⟨by rfl,?_⟩) ?_ ?_;rotate_left
        ·
         intro w'
         go_simp
         with_reducible rfl
        rotate_left
        ·
         simp only [Act.put,zi,zj,zk,zG,zH]
         rfl
        refine pure_ (i:=1) (N:=some 125) (v:=?_) (a':=?_) (bm_ 2 36) rfl rfl (any_of HT_.out (by kernel_rfl)) (fun _ _ _ h=>h) (Or.inl ⟨by rfl,?_⟩) ?_ ?_;rotate_left
        ·
         intro w'
         go_simp
         with_reducible rfl
        rotate_left
        ·
         simp only [Act.put,zi,zj,zk,zG,zH]
         rfl
        refine pure_ (i:=2) (N:=some 126) (v:=?_) (a':=?_) (bm_ 3 36) rfl rfl (any_of HT_.out (by kernel_rfl)) (fun _ _ _ h=>h) (Or.inl ⟨by rfl,?_⟩) ?_ ?_;rotate_left
        ·
         intro w'
         go_simp
         with_reducible rfl
        rotate_left
        ·
         simp only [Act.put,zi,zj,zk,zG,zH]
         rfl
        refine pure_ (i:=3) (N:=some 127) (v:=?_) (a':=?_) (bm_ 4 36) rfl rfl (any_of HT_.out (by kernel_rfl)) (fun _ _ _ h=>h) (Or.inl ⟨by rfl,?_⟩) ?_ ?_;rotate_left
        ·
         intro w'
         go_simp
         with_reducible rfl
        rotate_left
        ·
         simp only [Act.put,zi,zj,zk,zG,zH]
         rfl
        refine take_ (i:=4) (N:=some 128) (v:=?_) (a':=?_) (bm_ 5 36) rfl rfl (yo HT_.out HW_.out (by kernel_rfl)) (fun _ _ _ h=>h) (Or.inl ⟨by rfl,?_⟩) hHeld ?_ ?_;rotate_left
        ·
         rintro w' ⟨s0,s1,s2,s3⟩
         go_simp
         with_reducible rfl
        rotate_left
        ·
         simp only [Act.put,zi,zj,zk,zG,zH]
         rfl
        refine one_ (i:=5) (N:=some 129) (bm_ 6 36) rfl rfl (one_of HT_.out (by kernel_rfl)) (by decide) (fun K hK=>?_);refine goes_ Try.func19 (by kernel_rfl) rfl #[.string ((rd_T43 t157 x10_2).f0)] (by rfl) rfl rfl (by (try simp only [zt,zu,zv]);first|done|rfl|(simp only [zw,zx];rfl)|(simp only [yr,ys,zV,zW];rfl)) ?_
        with_reducible refine (Fy.calls k2  ((rd_T43 t157 x10_2).f0) false _ A68.out).mono ?_
        rintro e w' ⟨rfl,⟨nd,rfl⟩⟩;refine ⟨_,rfl,?_⟩;refine hK.out _ _ ⟨hHeld.1,hHeld.2.1,hHeld.2.2.1,hHeld.2.2.2⟩ (fun hHeld=>?_);clear hK K;refine norm_ (a':=?_) ?_ ?_;rotate_left
        ·
         show Act.put _ (some 129) _=_
         simp only [Act.put,zi,zj,zk,zG,zH]
         rfl
        refine pure_ (i:=6) (N:=some 130) (v:=?_) (a':=?_) (bm_ 7 36) rfl rfl (any_of HT_.out (by kernel_rfl)) (fun _ _ _ h=>h) (Or.inl ⟨by rfl,?_⟩) ?_ ?_;rotate_left
        ·
         intro w'
         go_simp
         with_reducible rfl
        rotate_left
        ·
         simp only [Act.put,zi,zj,zk,zG,zH]
         rfl
        refine pure_ (i:=7) (N:=some 131) (v:=?_) (a':=?_) (bm_ 8 36) rfl rfl (any_of HT_.out (by kernel_rfl)) (fun _ _ _ h=>h) (Or.inl ⟨by rfl,?_⟩) ?_ ?_;rotate_left
        ·
         intro w'
         go_simp
         with_reducible rfl
        rotate_left
        ·
         simp only [Act.put,zi,zj,zk,zG,zH]
         rfl
        refine pure_ (i:=8) (N:=some 132) (v:=undef) (a':=?_) (bm_ 9 36) rfl rfl (any_of HT_.out (by kernel_rfl)) (fun _ _ _ h=>h) (Or.inr ⟨by rfl,rfl⟩) ?_ ?_;rotate_left
        ·
         simp only [Act.put,zi,zj,zk,zG,zH]
         rfl
        refine pure_ (i:=9) (N:=some 133) (v:=undef) (a':=?_) (bm_ 10 36) rfl rfl (any_of HT_.out (by kernel_rfl)) (fun _ _ _ h=>h) (Or.inr ⟨by rfl,rfl⟩) ?_ ?_;rotate_left
        ·
         simp only [Act.put,zi,zj,zk,zG,zH]
         rfl
        refine pure_ (i:=10) (N:=some 134) (v:=undef) (a':=?_) (bm_ 11 36) rfl rfl (any_of HT_.out (by kernel_rfl)) (fun _ _ _ h=>h) (Or.inr ⟨by rfl,rfl⟩) ?_ ?_;rotate_left
        ·
         simp only [Act.put,zi,zj,zk,zG,zH]
         rfl
        refine pure_ (i:=11) (N:=some 135) (v:=undef) (a':=?_) (bm_ 12 36) rfl rfl (any_of HT_.out (by kernel_rfl)) (fun _ _ _ h=>h) (Or.inr ⟨by rfl,rfl⟩) ?_ ?_;rotate_left
        ·
         simp only [Act.put,zi,zj,zk,zG,zH]
         rfl
        refine pure_ (i:=12) (N:=some 136) (v:=undef) (a':=?_) (bm_ 13 36) rfl rfl (any_of HT_.out (by kernel_rfl)) (fun _ _ _ h=>h) (Or.inr ⟨by rfl,rfl⟩) ?_ ?_;rotate_left
        ·
         simp only [Act.put,zi,zj,zk,zG,zH]
         rfl
        refine pure_ (i:=13) (N:=some 137) (v:=undef) (a':=?_) (bm_ 14 36) rfl rfl (any_of HT_.out (by kernel_rfl)) (fun _ _ _ h=>h) (Or.inr ⟨by rfl,rfl⟩) ?_ ?_;rotate_left
        ·
         simp only [Act.put,zi,zj,zk,zG,zH]
         rfl
        refine pure_ (i:=14) (N:=some 138) (v:=undef) (a':=?_) (bm_ 15 36) rfl rfl (any_of HT_.out (by kernel_rfl)) (fun _ _ _ h=>h) (Or.inr ⟨by rfl,rfl⟩) ?_ ?_;rotate_left
        ·
         simp only [Act.put,zi,zj,zk,zG,zH]
         rfl
        refine pure_ (i:=15) (N:=some 139) (v:=undef) (a':=?_) (bm_ 16 36) rfl rfl (any_of HT_.out (by kernel_rfl)) (fun _ _ _ h=>h) (Or.inr ⟨by rfl,rfl⟩) ?_ ?_;rotate_left
        ·
         simp only [Act.put,zi,zj,zk,zG,zH]
         rfl
        refine pure_ (i:=16) (N:=some 140) (v:=undef) (a':=?_) (bm_ 17 36) rfl rfl (any_of HT_.out (by kernel_rfl)) (fun _ _ _ h=>h) (Or.inr ⟨by rfl,rfl⟩) ?_ ?_;rotate_left
        ·
         simp only [Act.put,zi,zj,zk,zG,zH]
         rfl
        refine pure_ (i:=17) (N:=some 141) (v:=undef) (a':=?_) (bm_ 18 36) rfl rfl (any_of HT_.out (by kernel_rfl)) (fun _ _ _ h=>h) (Or.inr ⟨by rfl,rfl⟩) ?_ ?_;rotate_left
        ·
         simp only [Act.put,zi,zj,zk,zG,zH]
         rfl
        refine pure_ (i:=18) (N:=some 142) (v:=undef) (a':=?_) (bm_ 19 36) rfl rfl (any_of HT_.out (by kernel_rfl)) (fun _ _ _ h=>h) (Or.inr ⟨by rfl,rfl⟩) ?_ ?_;rotate_left
        ·
         simp only [Act.put,zi,zj,zk,zG,zH]
         rfl
        refine pure_ (i:=19) (N:=some 143) (v:=undef) (a':=?_) (bm_ 20 36) rfl rfl (any_of HT_.out (by kernel_rfl)) (fun _ _ _ h=>h) (Or.inr ⟨by rfl,rfl⟩) ?_ ?_;rotate_left
        ·
         simp only [Act.put,zi,zj,zk,zG,zH]
         rfl
        refine pure_ (i:=20) (N:=some 144) (v:=undef) (a':=?_) (bm_ 21 36) rfl rfl (any_of HT_.out (by kernel_rfl)) (fun _ _ _ h=>h) (Or.inr ⟨by rfl,rfl⟩) ?_ ?_;rotate_left
        ·
         simp only [Act.put,zi,zj,zk,zG,zH]
         rfl
        refine pure_ (i:=21) (N:=some 145) (v:=undef) (a':=?_) (bm_ 22 36) rfl rfl (any_of HT_.out (by kernel_rfl)) (fun _ _ _ h=>h) (Or.inr ⟨by rfl,rfl⟩) ?_ ?_;rotate_left
        ·
         simp only [Act.put,zi,zj,zk,zG,zH]
         rfl
        refine pure_ (i:=22) (N:=some 146) (v:=undef) (a':=?_) (bm_ 23 36) rfl rfl (any_of HT_.out (by kernel_rfl)) (fun _ _ _ h=>h) (Or.inr ⟨by rfl,rfl⟩) ?_ ?_;rotate_left
        ·
         simp only [Act.put,zi,zj,zk,zG,zH]
         rfl
        refine pure_ (i:=23) (N:=some 147) (v:=undef) (a':=?_) (bm_ 24 36) rfl rfl (any_of HT_.out (by kernel_rfl)) (fun _ _ _ h=>h) (Or.inr ⟨by rfl,rfl⟩) ?_ ?_;rotate_left
        ·
         simp only [Act.put,zi,zj,zk,zG,zH]
         rfl
        refine pure_ (i:=24) (N:=some 148) (v:=?_) (a':=?_) (bm_ 25 36) rfl rfl (any_of HT_.out (by kernel_rfl)) (fun _ _ _ h=>h) (Or.inl ⟨by rfl,?_⟩) ?_ ?_;rotate_left
        ·
         intro w'
         go_simp
         with_reducible rfl
        rotate_left
        ·
         simp only [Act.put,zi,zj,zk,zG,zH]
         rfl
        refine pure_ (i:=25) (N:=some 149) (v:=?_) (a':=?_) (bm_ 26 36) rfl rfl (any_of HT_.out (by kernel_rfl)) (fun _ _ _ h=>h) (Or.inl ⟨by rfl,?_⟩) ?_ ?_;rotate_left
        ·
         intro w'
         go_simp
         with_reducible rfl
        rotate_left
        ·
         simp only [Act.put,zi,zj,zk,zG,zH]
         rfl
        refine pure_ (i:=26) (N:=some 150) (v:=undef) (a':=?_) (bm_ 27 36) rfl rfl (any_of HT_.out (by kernel_rfl)) (fun _ _ _ h=>h) (Or.inr ⟨by rfl,rfl⟩) ?_ ?_;rotate_left
        ·
         simp only [Act.put,zi,zj,zk,zG,zH]
         rfl
        refine pure_ (i:=27) (N:=some 151) (v:=undef) (a':=?_) (bm_ 28 36) rfl rfl (any_of HT_.out (by kernel_rfl)) (fun _ _ _ h=>h) (Or.inr ⟨by rfl,rfl⟩) ?_ ?_;rotate_left
        ·
         simp only [Act.put,zi,zj,zk,zG,zH]
         rfl
        refine pure_ (i:=28) (N:=some 152) (v:=undef) (a':=?_) (bm_ 29 36) rfl rfl (any_of HT_.out (by kernel_rfl)) (fun _ _ _ h=>h) (Or.inr ⟨by rfl,rfl⟩) ?_ ?_;rotate_left
        ·
         simp only [Act.put,zi,zj,zk,zG,zH]
         rfl
        refine pure_ (i:=29) (N:=some 153) (v:=undef) (a':=?_) (bm_ 30 36) rfl rfl (any_of HT_.out (by kernel_rfl)) (fun _ _ _ h=>h) (Or.inr ⟨by rfl,rfl⟩) ?_ ?_;rotate_left
        ·
         simp only [Act.put,zi,zj,zk,zG,zH]
         rfl
        refine pure_ (i:=30) (N:=some 154) (v:=undef) (a':=?_) (bm_ 31 36) rfl rfl (any_of HT_.out (by kernel_rfl)) (fun _ _ _ h=>h) (Or.inr ⟨by rfl,rfl⟩) ?_ ?_;rotate_left
        ·
         simp only [Act.put,zi,zj,zk,zG,zH]
         rfl
        refine pure_ (i:=31) (N:=some 155) (v:=undef) (a':=?_) (bm_ 32 36) rfl rfl (any_of HT_.out (by kernel_rfl)) (fun _ _ _ h=>h) (Or.inr ⟨by rfl,rfl⟩) ?_ ?_;rotate_left
        ·
         simp only [Act.put,zi,zj,zk,zG,zH]
         rfl
        refine pure_ (i:=32) (N:=some 156) (v:=undef) (a':=?_) (bm_ 33 36) rfl rfl (any_of HT_.out (by kernel_rfl)) (fun _ _ _ h=>h) (Or.inr ⟨by rfl,rfl⟩) ?_ ?_;rotate_left
        ·
         simp only [Act.put,zi,zj,zk,zG,zH]
         rfl
        refine pure_ (i:=33) (N:=some 157) (v:=undef) (a':=?_) (bm_ 34 36) rfl rfl (any_of HT_.out (by kernel_rfl)) (fun _ _ _ h=>h) (Or.inr ⟨by rfl,rfl⟩) ?_ ?_;rotate_left
        ·
         simp only [Act.put,zi,zj,zk,zG,zH]
         rfl
        refine pure_ (i:=34) (N:=some 158) (v:=undef) (a':=?_) (bm_ 35 36) rfl rfl (any_of HT_.out (by kernel_rfl)) (fun _ _ _ h=>h) (Or.inr ⟨by rfl,rfl⟩) ?_ ?_;rotate_left
        ·
         simp only [Act.put,zi,zj,zk,zG,zH]
         rfl
        refine pure_ (i:=35) (N:=some 159) (v:=?_) (a':=?_) (bm_ 36 36) rfl rfl (any_of HT_.out (by kernel_rfl)) (fun _ _ _ h=>h) (Or.inl ⟨by rfl,?_⟩) ?_ ?_;rotate_left
        ·
         intro w'
         go_simp
         with_reducible rfl
        rotate_left
        ·
         simp only [Act.put,zi,zj,zk,zG,zH]
         rfl
        refine done_ (done_of HT_.out (by kernel_rfl)) ?_
        try go_wp2
        go_ret
        exact ⟨by first|rfl|(simp [yt,yu] <;> rfl)|(simp [*,yt,yu] <;> rfl),by repeat (with_reducible first|exact HB.out|apply za|apply zb|apply zc|refine zd ?_ GE148.out)⟩
       rw [if_neg c67] at H;exact absurd H (by simp)
      rw [if_neg c66] at H;have c66b0 : decide (x10_2<(t157.length : Int))=false:=decide_eq_false c66;clear c66;obtain rfl:=zU H;obtain ⟨Ao95,co95,eo95⟩:=yk HO_8.out;subst eo95
      go_wp2
      go_ret
      exact ⟨by first|rfl|(simp [yt,yu] <;> rfl)|(simp [*,yt,yu] <;> rfl),by repeat (with_reducible first|exact HB.out|apply za|apply zb|apply zc|refine zd ?_ GE148.out)⟩
 rw [if_neg c52] at H;have c52b0 : (a0_0 == 5)=false:=zY.mpr c52;have c52b1 : (a0_0 != 5)=true:=zZ.mpr c52;obtain rfl:=zU H
 go_enter Try.func40,Try.ntmps40
 go_wp2_with (first|((with_reducible refine zK (N:=2) rfl ?_);(try (refine yz (by rfl) ?_;dsimp only));refine zI ?hg (N:=2) ?hd (cs:=#[.int .i64 a0_0,.int .i64 a0_1,.string a0_2]) (t:=25) ?hr ?_;(case hd=>rfl);(case hg=>rfl);(case hr=>go_simp <;> rfl);intro gb148 hg w96 hbox hb;have BK148:=zh (hbox);have hH_:=cH (by repeat (with_reducible first|exact HB.out|apply za|apply zb|apply zc)) hb hg;have GW148:=zh hH_.1;have GE148:=GW148;replace HB:=zh hH_.2;clear hb hbox hg hH_;obtain ⟨hcz97_0,hcz97_1,hcz97_2,hfz97_0,hfz97_1,hfz97_2⟩:=cB3 BK148.out))
 go_ret
 exact ⟨by first|rfl|(simp [yt,yu] <;> rfl)|(simp [*,yt,yu] <;> rfl),by repeat (with_reducible first|exact HB.out|apply za|apply zb|apply zc|refine zd ?_ GE148.out)⟩

end Go.Proofs.Ytoinoihiknmnmaa.Q
end
section
namespace Go.Proofs.Ytoinoihiknmnmaa.Q
open Go.RowKit Go.Proofs.YtoinoihiknmnmaaW.PrintWords Go.Proofs.YtoinoihiknmnmaaW.PrintLast Go.Proofs.YtoinoihiknmnmaaW.PrintMore
attribute [local go_sem] max2_int min2_int max_two min_two max_three min_three max_four min_four max2_str min2_str str_geq str_gtr str_leq
set_option linter.unusedVariables false
set_option linter.unusedSimpArgs false

def F04.f (k : Nat) (a0_0 : Int) (a0_1 : Int) (a0_2 : ByteArray) : Option (Bool):=if (a0_2.size : Int)≤65536 then ((F1.f k a0_0 a0_1 a0_2 5).bind fun t170=>(some t170)) else (some false)
theorem F04.mono : ∀ a0 a1 a2 k,LeO (F04.f k a0 a1 a2) (F04.f (k+1) a0 a1 a2):=by
 intro a0 a1 a2 k;unfold F04.f
 repeat' first|(with_reducible first|exact F1.mono _ _ _ _ _|exact zQ _|exact zN _|refine zP ?_ ?_|refine zO ?_ (fun _=>?_))|refine zP ?_ ?_|refine zO ?_ (fun _=>?_)
set_option maxHeartbeats 8000000 in
set_option maxRecDepth 100000 in
theorem F04.calls (k : Nat) (a0_0 : Int) (a0_1 : Int) (a0_2 : ByteArray) (r : Bool) (w : World) (h : F04.f k a0_0 a0_1 a0_2=some r) :
  Calls Try.prog 20 #[.agg #[.int .i64 a0_0,.int .i64 a0_1,.string a0_2]] w fun e w' => e = .returned (.bool r)∧Below w.heap.size w w':=by
 have hu25:=Try.underlying25;have HB:=zh (Below.refl w.heap.size w);have H : (if (a0_2.size : Int)≤65536 then ((F1.f k a0_0 a0_1 a0_2 5).bind fun t170=>(some t170)) else (some false))=some r:=h;clear h
 by_cases c2 : (a0_2.size : Int)≤65536
 ·
  rw [if_pos c2] at H
  have c2b0 : decide ((a0_2.size : Int)≤65536)=true:=decide_eq_true c2;have c2b1 : decide (a0_2.size≤65536)=true:=decide_eq_true (by omega);clear c2;replace H:=zT.mp H;obtain ⟨t170,A30,H⟩:=H;replace H : (some t170)=some r:=H;have A3:=zh A30;clear A30;obtain rfl:=zU H
  go_enter Try.func20,Try.ntmps20
  go_wp2_with (first|((with_reducible refine zK (N:=1) rfl ?_);refine zI ?hg (N:=1) ?hd (cs:=#[.int .i64 a0_0,.int .i64 a0_1,.string a0_2]) (t:=25) ?hr ?_;(case hd=>rfl);(case hg=>rfl);(case hr=>go_simp <;> rfl);intro gb169 hg w4 hbox hb;have BK169:=zh (hbox);have hH_:=cH (by repeat (with_reducible first|exact HB.out|apply za|apply zb|apply zc)) hb hg;have GW169:=zh hH_.1;have GE169:=GW169;replace HB:=zh hH_.2;clear hb hbox hg hH_;obtain ⟨hcz5_0,hcz5_1,hcz5_2,hfz5_0,hfz5_1,hfz5_2⟩:=cB3 BK169.out)|(go_at_call 40;(with_reducible refine (F1.calls k  a0_0 a0_1 a0_2 5 t170 _ A3.out).mono ?_);rintro e w6 ⟨rfl,hb⟩;replace BK169:=zh (cD BK169.out (by (with_reducible repeat first|apply ze|apply zf|apply zg);exact BK169.out) hb);replace HB:=zh (zC (by repeat (with_reducible first|exact HB.out|apply za|apply zb|apply zc|refine zd ?_ GE169.out)) hb);(try clear hb);(try clear hb2);(try clear hk);(try clear hi)))
  go_ret
  exact ⟨by first|rfl|(simp [yt,yu] <;> rfl)|(simp [*,yt,yu] <;> rfl),by repeat (with_reducible first|exact HB.out|apply za|apply zb|apply zc|refine zd ?_ GE169.out)⟩
 rw [if_neg c2] at H;have c2b0 : decide ((a0_2.size : Int)≤65536)=false:=decide_eq_false c2;have c2b1 : decide (a0_2.size≤65536)=false:=decide_eq_false (by omega);clear c2;obtain rfl:=zU H
 go_enter Try.func20,Try.ntmps20
 go_wp2_with (first|((with_reducible refine zK (N:=1) rfl ?_);refine zI ?hg (N:=1) ?hd (cs:=#[.int .i64 a0_0,.int .i64 a0_1,.string a0_2]) (t:=25) ?hr ?_;(case hd=>rfl);(case hg=>rfl);(case hr=>go_simp <;> rfl);intro gb169 hg w7 hbox hb;have BK169:=zh (hbox);have hH_:=cH (by repeat (with_reducible first|exact HB.out|apply za|apply zb|apply zc)) hb hg;have GW169:=zh hH_.1;have GE169:=GW169;replace HB:=zh hH_.2;clear hb hbox hg hH_;obtain ⟨hcz8_0,hcz8_1,hcz8_2,hfz8_0,hfz8_1,hfz8_2⟩:=cB3 BK169.out))
 go_ret
 exact ⟨by first|rfl|(simp [yt,yu] <;> rfl)|(simp [*,yt,yu] <;> rfl),by repeat (with_reducible first|exact HB.out|apply za|apply zb|apply zc|refine zd ?_ GE169.out)⟩


def F0d.f (k : Nat) (a0_0 : Int) (a0_1 : Int) (a0_2 : ByteArray) : Option (Int×Int×ByteArray×Int):=if (a0_2.size : Int) > 300 then (some (0,0,(⟨#[]⟩ : ByteArray),10)) else ((F04.f k a0_0 a0_1 a0_2).bind fun t173=>(if t173=true then (some (a0_0,a0_1,a0_2,0)) else (some (0,0,(⟨#[]⟩ : ByteArray),9))))
theorem F0d.mono : ∀ a0 a1 a2 k,LeO (F0d.f k a0 a1 a2) (F0d.f (k+1) a0 a1 a2):=by
 intro a0 a1 a2 k;unfold F0d.f
 repeat' first|(with_reducible first|exact F04.mono _ _ _ _|exact zQ _|exact zN _|refine zP ?_ ?_|refine zO ?_ (fun _=>?_))|refine zP ?_ ?_|refine zO ?_ (fun _=>?_)
set_option maxHeartbeats 8000000 in
set_option maxRecDepth 100000 in
theorem F0d.calls (k : Nat) (a0_0 : Int) (a0_1 : Int) (a0_2 : ByteArray) (r1 : Int) (r2 : Int) (r3 : ByteArray) (r4 : Int) (w : World) (h : F0d.f k a0_0 a0_1 a0_2=some (r1,r2,r3,r4)) :
  Calls Try.prog 21 #[.agg #[.int .i64 a0_0,.int .i64 a0_1,.string a0_2]] w fun e w' => e = .returned (.tuple #[.agg #[.int .i64 r1,.int .i64 r2,.string r3],.int .i64 r4])∧Below w.heap.size w w':=by
 have hu25:=Try.underlying25;have HB:=zh (Below.refl w.heap.size w);have H : (if (a0_2.size : Int) > 300 then (some (0,0,(⟨#[]⟩ : ByteArray),10)) else ((F04.f k a0_0 a0_1 a0_2).bind fun t173=>(if t173=true then (some (a0_0,a0_1,a0_2,0)) else (some (0,0,(⟨#[]⟩ : ByteArray),9)))))=some (r1,r2,r3,r4):=h;clear h
 by_cases c2 : (a0_2.size : Int) > 300
 ·
  rw [if_pos c2] at H
  have c2b0 : decide (300<(a0_2.size : Int))=true:=decide_eq_true c2;have c2b1 : decide (300<a0_2.size)=true:=decide_eq_true (by omega);clear c2;simp only [Option.some.injEq,Prod.mk.injEq] at H;obtain ⟨rfl,rfl,rfl,rfl⟩:=H
  go_enter Try.func21,Try.ntmps21
  go_wp2_with (first|((with_reducible refine zK (N:=1) rfl ?_);refine zI ?hg (N:=1) ?hd (cs:=#[.int .i64 a0_0,.int .i64 a0_1,.string a0_2]) (t:=25) ?hr ?_;(case hd=>rfl);(case hg=>rfl);(case hr=>go_simp <;> rfl);intro gb171 hg w3 hbox hb;have BK171:=zh (hbox);have hH_:=cH (by repeat (with_reducible first|exact HB.out|apply za|apply zb|apply zc)) hb hg;have GW171:=zh hH_.1;have GE171:=GW171;replace HB:=zh hH_.2;clear hb hbox hg hH_)|((with_reducible refine zK (N:=2) rfl ?_);refine zI ?hg (N:=2) ?hd (cs:=#[.int .i64 0,.int .i64 0,.string (⟨#[]⟩ : ByteArray)]) (t:=25) ?hr ?_;(case hd=>rfl);(case hg=>rfl);(case hr=>go_simp <;> rfl);intro gb172 hg w4 hbox hb;have BK172:=zh (hbox);have hH_:=cH (by repeat (with_reducible first|exact HB.out|apply za|apply zb|apply zc|refine zd ?_ GE171.out)) hb hg;have GW172:=zh hH_.1;have GE172:=GW172;replace HB:=zh hH_.2;have NB171_172:=zh ((by rw [hg];exact yc (yi (g:=gb171) (o:=.cells #[.int .i64 a0_0,.int .i64 a0_1,.string a0_2] 25 (0,0)) (by (with_reducible repeat first|apply ze|apply zf|apply zg);exact BK171.out)) : gb171≠gb172));have NB172_171:=zh NB171_172.out.symm;replace BK171:=zh (cD BK171.out (by (with_reducible repeat first|apply ze|apply zf|apply zg);exact BK171.out) hb);clear hb hbox hg hH_;have hnb5:=NB171_172.out;have hnc5:=NB172_171.out;obtain ⟨hcz6_0,hcz6_1,hcz6_2,hfz6_0,hfz6_1,hfz6_2⟩:=cB3 BK171.out;obtain ⟨hcz7_0,hcz7_1,hcz7_2,hfz7_0,hfz7_1,hfz7_2⟩:=cB3 BK172.out))
  refine bodyPost_ret (results_ct rfl _ _ gb172 25 #[.int .i64 0,.int .i64 0,.string (⟨#[]⟩ : ByteArray)] (0,0) _ rfl (by (with_reducible repeat first|apply ze|apply zf|apply zg);refine zL (cs:=#[.int .i64 0,.int .i64 0,.string (⟨#[]⟩ : ByteArray)]) ?_ 2 _ rfl;(with_reducible repeat first|apply ze|apply zf|apply zg);refine zL (cs:=#[.int .i64 0,.int .i64 0,.string (⟨#[]⟩ : ByteArray)]) ?_ 1 _ rfl;(with_reducible repeat first|apply ze|apply zf|apply zg);refine zL (cs:=#[.int .i64 0,.int .i64 0,.string (⟨#[]⟩ : ByteArray)]) ?_ 0 _ rfl;(with_reducible repeat first|apply ze|apply zf|apply zg);exact BK172.out) Try.underlying25 rfl (by kernel_rfl)) rfl ?_;exact ⟨by first|rfl|(simp [yt,yu] <;> rfl)|(simp [*,yt,yu] <;> rfl),by repeat (with_reducible first|exact HB.out|apply za|apply zb|apply zc|refine zd ?_ GE171.out|refine zd ?_ GE172.out)⟩
 rw [if_neg c2] at H;have c2b0 : decide (300<(a0_2.size : Int))=false:=decide_eq_false c2;have c2b1 : decide (300<a0_2.size)=false:=decide_eq_false (by omega);clear c2;replace H:=zT.mp H;obtain ⟨t173,A80,H⟩:=H;replace H : (if t173=true then (some (a0_0,a0_1,a0_2,0)) else (some (0,0,(⟨#[]⟩ : ByteArray),9)))=some (r1,r2,r3,r4):=H;have A8:=zh A80;clear A80
 by_cases c9 : t173=true
 ·
  subst c9
  have H1 : (some (a0_0,a0_1,a0_2,0))=some (r1,r2,r3,r4):=by rw [if_pos rfl] at H;exact H
  clear H;have H:=H1;clear H1;simp only [Option.some.injEq,Prod.mk.injEq] at H;obtain ⟨rfl,rfl,rfl,rfl⟩:=H
  go_enter Try.func21,Try.ntmps21
  go_wp2_with (first|((with_reducible refine zK (N:=1) rfl ?_);refine zI ?hg (N:=1) ?hd (cs:=#[.int .i64 a0_0,.int .i64 a0_1,.string a0_2]) (t:=25) ?hr ?_;(case hd=>rfl);(case hg=>rfl);(case hr=>go_simp <;> rfl);intro gb171 hg w10 hbox hb;have BK171:=zh (hbox);have hH_:=cH (by repeat (with_reducible first|exact HB.out|apply za|apply zb|apply zc)) hb hg;have GW171:=zh hH_.1;have GE171:=GW171;replace HB:=zh hH_.2;clear hb hbox hg hH_)|((with_reducible refine zK (N:=2) rfl ?_);refine zI ?hg (N:=2) ?hd (cs:=#[.int .i64 0,.int .i64 0,.string (⟨#[]⟩ : ByteArray)]) (t:=25) ?hr ?_;(case hd=>rfl);(case hg=>rfl);(case hr=>go_simp <;> rfl);intro gb172 hg w11 hbox hb;have BK172:=zh (hbox);have hH_:=cH (by repeat (with_reducible first|exact HB.out|apply za|apply zb|apply zc|refine zd ?_ GE171.out)) hb hg;have GW172:=zh hH_.1;have GE172:=GW172;replace HB:=zh hH_.2;have NB171_172:=zh ((by rw [hg];exact yc (yi (g:=gb171) (o:=.cells #[.int .i64 a0_0,.int .i64 a0_1,.string a0_2] 25 (0,0)) (by (with_reducible repeat first|apply ze|apply zf|apply zg);exact BK171.out)) : gb171≠gb172));have NB172_171:=zh NB171_172.out.symm;replace BK171:=zh (cD BK171.out (by (with_reducible repeat first|apply ze|apply zf|apply zg);exact BK171.out) hb);clear hb hbox hg hH_;have hnb12:=NB171_172.out;have hnc12:=NB172_171.out;obtain ⟨hcz13_0,hcz13_1,hcz13_2,hfz13_0,hfz13_1,hfz13_2⟩:=cB3 BK171.out)|((with_reducible refine zJ (f:=20) rfl ?_);refine yj (some 10) rfl rfl Try.func20 (by kernel_rfl) rfl #[.agg #[.int .i64 a0_0,.int .i64 a0_1,.string a0_2]] rfl (by (try simp only [zt,zu,zv]);first|done|rfl|(simp only [zw,zx];rfl)|(simp only [yr,ys,zV,zW];rfl)) ?_;(with_reducible refine (F04.calls k  a0_0 a0_1 a0_2 true _ A8.out).mono ?_);rintro e w14 ⟨rfl,hb⟩;refine ⟨_,rfl,?_⟩;replace BK171:=zh (cD BK171.out (by (with_reducible repeat first|apply ze|apply zf|apply zg);exact BK171.out) hb);replace BK172:=zh (cD BK172.out (by (with_reducible repeat first|apply ze|apply zf|apply zg);exact BK172.out) hb);replace HB:=zh (zC (by repeat (with_reducible first|exact HB.out|apply za|apply zb|apply zc|refine zd ?_ GE171.out|refine zd ?_ GE172.out)) hb);(try clear hb);(try clear hb2);(try clear hk);(try clear hi);obtain ⟨hcz15_0,hcz15_1,hcz15_2,hfz15_0,hfz15_1,hfz15_2⟩:=cB3 BK171.out;obtain ⟨hcz16_0,hcz16_1,hcz16_2,hfz16_0,hfz16_1,hfz16_2⟩:=cB3 BK172.out))
  refine bodyPost_ret (results_ct rfl _ _ gb172 25 #[.int .i64 a0_0,.int .i64 a0_1,.string a0_2] (0,0) _ rfl (by (with_reducible repeat first|apply ze|apply zf|apply zg);refine zL (cs:=#[.int .i64 a0_0,.int .i64 a0_1,.string (⟨#[]⟩ : ByteArray)]) ?_ 2 _ rfl;(with_reducible repeat first|apply ze|apply zf|apply zg);refine zL (cs:=#[.int .i64 a0_0,.int .i64 0,.string (⟨#[]⟩ : ByteArray)]) ?_ 1 _ rfl;(with_reducible repeat first|apply ze|apply zf|apply zg);refine zL (cs:=#[.int .i64 0,.int .i64 0,.string (⟨#[]⟩ : ByteArray)]) ?_ 0 _ rfl;(with_reducible repeat first|apply ze|apply zf|apply zg);exact BK172.out) Try.underlying25 rfl (by kernel_rfl)) rfl ?_;exact ⟨by first|rfl|(simp [yt,yu] <;> rfl)|(simp [*,yt,yu] <;> rfl),by repeat (with_reducible first|exact HB.out|apply za|apply zb|apply zc|refine zd ?_ GE171.out|refine zd ?_ GE172.out)⟩
 replace c9:=yb.mpr c9;subst c9;have H1 : (some (0,0,(⟨#[]⟩ : ByteArray),9))=some (r1,r2,r3,r4):=by rw [if_neg (show ¬ (false=true) by decide)] at H;exact H
 clear H;have H:=H1;clear H1;simp only [Option.some.injEq,Prod.mk.injEq] at H;obtain ⟨rfl,rfl,rfl,rfl⟩:=H
 go_enter Try.func21,Try.ntmps21
 go_wp2_with (first|((with_reducible refine zK (N:=1) rfl ?_);refine zI ?hg (N:=1) ?hd (cs:=#[.int .i64 a0_0,.int .i64 a0_1,.string a0_2]) (t:=25) ?hr ?_;(case hd=>rfl);(case hg=>rfl);(case hr=>go_simp <;> rfl);intro gb171 hg w17 hbox hb;have BK171:=zh (hbox);have hH_:=cH (by repeat (with_reducible first|exact HB.out|apply za|apply zb|apply zc)) hb hg;have GW171:=zh hH_.1;have GE171:=GW171;replace HB:=zh hH_.2;clear hb hbox hg hH_)|((with_reducible refine zK (N:=2) rfl ?_);refine zI ?hg (N:=2) ?hd (cs:=#[.int .i64 0,.int .i64 0,.string (⟨#[]⟩ : ByteArray)]) (t:=25) ?hr ?_;(case hd=>rfl);(case hg=>rfl);(case hr=>go_simp <;> rfl);intro gb172 hg w18 hbox hb;have BK172:=zh (hbox);have hH_:=cH (by repeat (with_reducible first|exact HB.out|apply za|apply zb|apply zc|refine zd ?_ GE171.out)) hb hg;have GW172:=zh hH_.1;have GE172:=GW172;replace HB:=zh hH_.2;have NB171_172:=zh ((by rw [hg];exact yc (yi (g:=gb171) (o:=.cells #[.int .i64 a0_0,.int .i64 a0_1,.string a0_2] 25 (0,0)) (by (with_reducible repeat first|apply ze|apply zf|apply zg);exact BK171.out)) : gb171≠gb172));have NB172_171:=zh NB171_172.out.symm;replace BK171:=zh (cD BK171.out (by (with_reducible repeat first|apply ze|apply zf|apply zg);exact BK171.out) hb);clear hb hbox hg hH_;have hnb19:=NB171_172.out;have hnc19:=NB172_171.out;obtain ⟨hcz20_0,hcz20_1,hcz20_2,hfz20_0,hfz20_1,hfz20_2⟩:=cB3 BK171.out)|((with_reducible refine zJ (f:=20) rfl ?_);refine yj (some 10) rfl rfl Try.func20 (by kernel_rfl) rfl #[.agg #[.int .i64 a0_0,.int .i64 a0_1,.string a0_2]] rfl (by (try simp only [zt,zu,zv]);first|done|rfl|(simp only [zw,zx];rfl)|(simp only [yr,ys,zV,zW];rfl)) ?_;(with_reducible refine (F04.calls k  a0_0 a0_1 a0_2 false _ A8.out).mono ?_);rintro e w21 ⟨rfl,hb⟩;refine ⟨_,rfl,?_⟩;replace BK171:=zh (cD BK171.out (by (with_reducible repeat first|apply ze|apply zf|apply zg);exact BK171.out) hb);replace BK172:=zh (cD BK172.out (by (with_reducible repeat first|apply ze|apply zf|apply zg);exact BK172.out) hb);replace HB:=zh (zC (by repeat (with_reducible first|exact HB.out|apply za|apply zb|apply zc|refine zd ?_ GE171.out|refine zd ?_ GE172.out)) hb);(try clear hb);(try clear hb2);(try clear hk);(try clear hi);obtain ⟨hcz22_0,hcz22_1,hcz22_2,hfz22_0,hfz22_1,hfz22_2⟩:=cB3 BK172.out))
 refine bodyPost_ret (results_ct rfl _ _ gb172 25 #[.int .i64 0,.int .i64 0,.string (⟨#[]⟩ : ByteArray)] (0,0) _ rfl (by (with_reducible repeat first|apply ze|apply zf|apply zg);refine zL (cs:=#[.int .i64 0,.int .i64 0,.string (⟨#[]⟩ : ByteArray)]) ?_ 2 _ rfl;(with_reducible repeat first|apply ze|apply zf|apply zg);refine zL (cs:=#[.int .i64 0,.int .i64 0,.string (⟨#[]⟩ : ByteArray)]) ?_ 1 _ rfl;(with_reducible repeat first|apply ze|apply zf|apply zg);refine zL (cs:=#[.int .i64 0,.int .i64 0,.string (⟨#[]⟩ : ByteArray)]) ?_ 0 _ rfl;(with_reducible repeat first|apply ze|apply zf|apply zg);exact BK172.out) Try.underlying25 rfl (by kernel_rfl)) rfl ?_;exact ⟨by first|rfl|(simp [yt,yu] <;> rfl)|(simp [*,yt,yu] <;> rfl),by repeat (with_reducible first|exact HB.out|apply za|apply zb|apply zc|refine zd ?_ GE171.out|refine zd ?_ GE172.out)⟩


def F9.l0 : Nat→Int→List Int→Int→Option (ByteArray)
 | 0,_,_,_=>none
 | k+1,x0,x5,x6=>if x6 ≥ 0 then (if 0≤(IntKind.u64.wrap (wrap64 (8*x6))) then (if x5.length<140737488355328 then (F9.l0 k x0 (x5 ++ [(shr .i64 x0 (IntKind.u64.wrap (wrap64 (8*x6)))) % 256]) (wrap64 (x6 - 1))) else (none)) else (none)) else (some (strOfNums x5))
def F9.f (k : Nat) (a0 : Int) (a1 : Int) : Option (ByteArray):=F9.l0 k a0 (([] : List Int)) (wrap64 (a1 - 1))
theorem F9.mono_l : ∀ k,(∀ y0 y1 y2,LeO (F9.l0 k y0 y1 y2) (F9.l0 (k+1) y0 y1 y2))
 | 0=>fun _ _ _ r h=>by simp [F9.l0] at h
 | k+1=>by
  have ih0:=F9.mono_l k;intro y0 y1 y2;unfold F9.l0
  repeat' first|(with_reducible first|exact ih0 _ _ _|exact zQ _|exact zN _|refine zP ?_ ?_|refine zO ?_ (fun _=>?_))|refine zP ?_ ?_|refine zO ?_ (fun _=>?_)
theorem F9.mono : ∀ a0 a1 k,LeO (F9.f k a0 a1) (F9.f (k+1) a0 a1):=by
 intro a0 a1 k;have ih0:=F9.mono_l k;unfold F9.f
 repeat' first|(with_reducible first|exact ih0 _ _ _|exact zQ _|exact zN _|refine zP ?_ ?_|refine zO ?_ (fun _=>?_))|refine zP ?_ ?_|refine zO ?_ (fun _=>?_)
set_option maxHeartbeats 8000000 in
set_option maxRecDepth 100000 in
theorem F9.calls (k : Nat) (a0 : Int) (a1 : Int) (r : ByteArray) (w : World) (h : F9.f k a0 a1=some r) :
  Calls Try.prog 41 #[.int .i64 a0,.int .i64 a1] w fun e w' => e = .returned (.string r)∧Below w.heap.size w w':=by
 have HB:=zh (Below.refl w.heap.size w);have H : (F9.l0 k a0 (([] : List Int)) (wrap64 (a1 - 1)))=some r:=h;clear h;obtain ⟨y174,hy174⟩ : ∃ y_ : List Int,y_=(([] : List Int)):=⟨_,rfl⟩;replace H : (F9.l0 k a0 y174 (wrap64 (a1 - 1)))=some r:=by first|(rw [hy174];with_reducible exact H)|(have H2_:=(Option.bind_some _ _).symm.trans H;rw [hy174];with_reducible exact H2_)|(have H2_:=(Option.bind_some _ _).symm.trans H;with_reducible exact H2_)|with_reducible exact H|(rw [hy174];exact H)|exact H
 have Ny174:=zh hy174;clear hy174;have H':=zh H;clear H
 go_enter Try.func41,Try.ntmps41
 go_wp2_with (first|((with_reducible refine zK (N:=7) rfl ?_);refine Kd.R_lit (Kd.int .u8) _ 5 ?hg (N:=7) ?hd (xs:=([] : List Int)) (inner:=[]) (ok:=fun _=>True) (okp:=fun _=>True) ?hr ?hp (fun _ hk=>hk) trivial (Below.refl _ _) (ye _) (by simp) ?_;(case hd=>rfl);(case hg=>rfl);(case hr=>go_simp <;> rfl);(case hp=>exact (Reps.none _ _));intro v175 w3 ho4 hb hg_ hnew_;clear hg_ hnew_;(first|rw [← Ny174.out] at ho4|(simp only [Int.reduceToNat] at ho4;rw [← Ny174.out] at ho4));have HO176:=zh (yy ho4 (zB (by repeat (with_reducible first|exact HB.out|apply za|apply zb|apply zc))));replace HB:=zh (zC (by repeat (with_reducible first|exact HB.out|apply za|apply zb|apply zc)) hb);clear hb ho4))
 go_loopg [5,6] k (fun kq v5 v6 w' => ∃ (x5_1 : List Int) (x6_1 : Int),v6 = .int .i64 x6_1∧Aside0 (F9.l0 kq a0 x5_1 x6_1=some r)∧Aside0 (kq≤k)∧Aside0 (Kd.R (Kd.int .u8) 5 w' w.heap.size (fun _=>True) v5 x5_1)∧Aside0 (Below w.heap.size w w'))
 case atStart=>exact ⟨(y174),(wrap64 (a1 - 1)),(by first|rfl|(simp;done)|(simp [*];done)),H',⟨ye _⟩,⟨by (with_reducible repeat (first|apply zm|apply zn|apply zo));exact HO176.out⟩,⟨by repeat (with_reducible first|exact HB.out|apply za|apply zb|apply zc)⟩⟩
 case round =>
  clear H'
  try clear p2
  try clear c4
  obtain ⟨x5_1,x6_1,rfl,HA,HK1,HO_5,HB⟩:=hrel
  cases gk with
  | zero=>exact absurd HA.out (by simp [F9.l0])
  | succ k1 =>
   have H:=HA.out;clear HA;simp only [F9.l0] at H
   by_cases c5 : x6_1 ≥ 0
   ·
    rw [if_pos c5] at H
    have c5b0 : decide (0≤x6_1)=true:=decide_eq_true c5;clear c5;obtain ⟨ji6,hji6⟩ : ∃ j_ : Int,(IntKind.u64.wrap (wrap64 (8*x6_1)))=j_:=⟨_,rfl⟩;replace H : (if 0≤(ji6) then (if x5_1.length<140737488355328 then (F9.l0 k1 a0 (x5_1 ++ [(shr .i64 a0 (ji6)) % 256]) (wrap64 (x6_1 - 1))) else (none)) else (none))=some r:=by first|(rw [hji6] at H;exact H)|(simp only [hji6] at H ⊢;exact H)
    by_cases c7 : 0≤(ji6)
    ·
     rw [if_pos c7] at H
     have c7b0:=eq_true c7;have c7b1 : decide (0≤(ji6))=true:=decide_eq_true c7;clear c7;obtain ⟨ji8,hji8⟩ : ∃ j_ : Int,(shr .i64 a0 (ji6))=j_:=⟨_,rfl⟩;replace H : (if x5_1.length<140737488355328 then (F9.l0 k1 a0 (x5_1 ++ [(ji8) % 256]) (wrap64 (x6_1 - 1))) else (none))=some r:=by first|(rw [hji8] at H;exact H)|(simp only [hji8] at H ⊢;exact H)
     have hji8_ : (a0 / 2 ^ min (ji6).toNat 64)=ji8:=hji8;have hji8z : (ji6)≤64→(a0 / 2 ^ (ji6).toNat)=ji8:=shr_small hji8
     by_cases c9 : x5_1.length<140737488355328
     ·
      rw [if_pos c9] at H
      have LMc9:=zh c9;clear c9;obtain ⟨y177,hy177⟩ : ∃ y_ : List Int,y_=(x5_1 ++ [(ji8) % 256]):=⟨_,rfl⟩;replace H : (F9.l0 k1 a0 y177 (wrap64 (x6_1 - 1)))=some r:=by first|(rw [hy177];with_reducible exact H)|(have H2_:=(Option.bind_some _ _).symm.trans H;rw [hy177];with_reducible exact H2_)|(have H2_:=(Option.bind_some _ _).symm.trans H;with_reducible exact H2_)|with_reducible exact H|(rw [hy177];exact H)|exact H
      have Ny177:=zh hy177;clear hy177;have H':=zh H;clear H
      go_wp2_with (first|((with_reducible refine yB (b:=.append) (xs:=#[.tmp 14,.tmp 21]) rfl ?_);at_builtin;refine Kd.R_append (Kd.int .u8) (w0:=w) w.heap.size rfl (.tmp 14) (.tmp 21) 33 5 (.int .u8 0) 1 rfl Try.underlying33 info5 rfl (by decide) (by omega) u5 x5_1 ((ji8) % 256) [.int .u8 ((ji8) % 256)] (fun _=>True) (fun _=>False) rfl rfl ?aP (fun _ hk=>hk.elim) ?aF ?aO ?aB ?aS ?aL ?_;(case aP=>exact rfl);(case aB=>exact (by repeat (with_reducible first|exact HB.out|apply za|apply zb|apply zc)));(case aF=>exact (fun _ _=>trivial));(case aO=>exact (by (with_reducible repeat (first|apply zm|apply zn|apply zo));exact HO_5.out));(case aS=>exact (zB (by repeat (with_reducible first|exact HB.out|apply za|apply zb|apply zc))));(case aL=>have:=LMc9.out;omega);intro v178 w10 ho hb hg hat;rw [← Ny177.out] at ho;replace HB:=zh (hb);have HO179:=zh (ho);clear HO_5 ho hb hg hat))
      go_roundg k1
      case measure=>have:=HK1.out;omega
      case rel=>exact ⟨(y177),(wrap64 (x6_1 - 1)),(by first|rfl|(simp;done)|(simp [*];done)),H',⟨by have:=HK1.out;omega⟩,⟨by (with_reducible repeat (first|apply zm|apply zn|apply zo));exact HO179.out⟩,⟨by repeat (with_reducible first|exact HB.out|apply za|apply zb|apply zc)⟩⟩
     rw [if_neg c9] at H;exact absurd H (by simp)
    rw [if_neg c7] at H;exact absurd H (by simp)
   rw [if_neg c5] at H;have c5b0 : decide (0≤x6_1)=false:=decide_eq_false c5;clear c5;obtain rfl:=zU H;have hcv11:=own_string (P:=Try.prog) Try.underlying33 Try.underlying5 Try.underlying9 (Kd.own_of_R HO_5.out)
   go_wp2
   go_ret
   exact ⟨by first|rfl|(simp [yt,yu] <;> rfl)|(simp [*,yt,yu] <;> rfl),by repeat (with_reducible first|exact HB.out|apply za|apply zb|apply zc)⟩


def Fz.f (k : Nat) (a0_0 : Int) (a0_1 : Int) (a0_2 : ByteArray) : Option (ByteArray):=(F9.f k a0_0 1).bind fun t181=>(if a0_0=0 then (some t181) else (if a0_0=1 then ((F9.f k a0_1 1).bind fun t182=>(if t181.size+t182.size≤9223372036854775807 then (some (t181++t182)) else (none))) else (if a0_0=2 then ((F9.f k (wrap64 (a0_1+4611686018427387904)) 8).bind fun t183=>(if t181.size+t183.size≤9223372036854775807 then (some (t181++t183)) else (none))) else ((F9.f k (a0_2.size : Int) 2).bind fun t184=>(if t181.size+t184.size≤9223372036854775807 then (if (t181++t184).size+a0_2.size≤9223372036854775807 then (some ((t181++t184)++a0_2)) else (none)) else (none))))))
theorem Fz.mono : ∀ a0 a1 a2 k,LeO (Fz.f k a0 a1 a2) (Fz.f (k+1) a0 a1 a2):=by
 intro a0 a1 a2 k;unfold Fz.f
 repeat' first|(with_reducible first|exact F9.mono _ _ _|exact zQ _|exact zN _|refine zP ?_ ?_|refine zO ?_ (fun _=>?_))|refine zP ?_ ?_|refine zO ?_ (fun _=>?_)
def Fz.T9 : Bool×List (List Nat×List Nat):=(true,[([],[]),([],[]),([1],[1]),([2],[2]),([3],[3]),([0,4],[0,4]),([],[]),([6],[6]),([5,7],[5,7]),([8,4,0,1,2,3,4,5,6,7,8],[8])])
def Fz.B9 : List Nat:=[0,0,2,6,14,31,0,64,255,511]
theorem Fz.tab9 : rtab .any (opsOf Try.f42 9)=Fz.T9:=by kernel_rfl
theorem Fz.bits9 : waitsOk Fz.T9.2 Fz.B9=true:=by kernel_rfl
set_option maxHeartbeats 8000000 in
set_option maxRecDepth 100000 in
theorem Fz.calls (k : Nat) (a0_0 : Int) (a0_1 : Int) (a0_2 : ByteArray) (r : ByteArray) (w : World) (h : Fz.f k a0_0 a0_1 a0_2=some r) :
  Calls Try.prog 42 #[.agg #[.int .i64 a0_0,.int .i64 a0_1,.string a0_2]] w fun e w' => e = .returned (.string r)∧Below w.heap.size w w':=by
 have hu25:=Try.underlying25;have HB:=zh (Below.refl w.heap.size w);have H : ((F9.f k a0_0 1).bind fun t181=>(if a0_0=0 then (some t181) else (if a0_0=1 then ((F9.f k a0_1 1).bind fun t182=>(if t181.size+t182.size≤9223372036854775807 then (some (t181++t182)) else (none))) else (if a0_0=2 then ((F9.f k (wrap64 (a0_1+4611686018427387904)) 8).bind fun t183=>(if t181.size+t183.size≤9223372036854775807 then (some (t181++t183)) else (none))) else ((F9.f k (a0_2.size : Int) 2).bind fun t184=>(if t181.size+t184.size≤9223372036854775807 then (if (t181++t184).size+a0_2.size≤9223372036854775807 then (some ((t181++t184)++a0_2)) else (none)) else (none)))))))=some r:=h;clear h;replace H:=zT.mp H;obtain ⟨t181,A20,H⟩:=H;replace H : (if a0_0=0 then (some t181) else (if a0_0=1 then ((F9.f k a0_1 1).bind fun t182=>(if t181.size+t182.size≤9223372036854775807 then (some (t181++t182)) else (none))) else (if a0_0=2 then ((F9.f k (wrap64 (a0_1+4611686018427387904)) 8).bind fun t183=>(if t181.size+t183.size≤9223372036854775807 then (some (t181++t183)) else (none))) else ((F9.f k (a0_2.size : Int) 2).bind fun t184=>(if t181.size+t184.size≤9223372036854775807 then (if (t181++t184).size+a0_2.size≤9223372036854775807 then (some ((t181++t184)++a0_2)) else (none)) else (none))))))=some r:=H;have A2:=zh A20;clear A20
 by_cases c3 : a0_0=0
 ·
  rw [if_pos c3] at H
  have c3b0 : (a0_0 == 0)=true:=ya.mpr c3;have c3b1 : (a0_0 != 0)=false:=zX.mpr c3;clear c3;obtain rfl:=zU H
  go_enter Try.func42,Try.ntmps42
  go_wp2_with (first|((with_reducible refine zK (N:=1) rfl ?_);refine zI ?hg (N:=1) ?hd (cs:=#[.int .i64 a0_0,.int .i64 a0_1,.string a0_2]) (t:=25) ?hr ?_;(case hd=>rfl);(case hg=>rfl);(case hr=>go_simp <;> rfl);intro gb180 hg w4 hbox hb;have BK180:=zh (hbox);have hH_:=cH (by repeat (with_reducible first|exact HB.out|apply za|apply zb|apply zc)) hb hg;have GW180:=zh hH_.1;have GE180:=GW180;replace HB:=zh hH_.2;clear hb hbox hg hH_;obtain ⟨hcz5_0,hcz5_1,hcz5_2,hfz5_0,hfz5_1,hfz5_2⟩:=cB3 BK180.out)|((with_reducible refine zJ (f:=41) rfl ?_);refine yj (some 6) rfl rfl Try.func41 (by kernel_rfl) rfl #[.int .i64 a0_0,.int .i64 1] rfl (by (try simp only [zt,zu,zv]);first|done|rfl|(simp only [zw,zx];rfl)|(simp only [yr,ys,zV,zW];rfl)) ?_;(with_reducible refine (F9.calls k  a0_0 1 t181 _ A2.out).mono ?_);rintro e w6 ⟨rfl,hb⟩;refine ⟨_,rfl,?_⟩;replace BK180:=zh (cD BK180.out (by (with_reducible repeat first|apply ze|apply zf|apply zg);exact BK180.out) hb);replace HB:=zh (zC (by repeat (with_reducible first|exact HB.out|apply za|apply zb|apply zc|refine zd ?_ GE180.out)) hb);(try clear hb);(try clear hb2);(try clear hk);(try clear hi);obtain ⟨hcz7_0,hcz7_1,hcz7_2,hfz7_0,hfz7_1,hfz7_2⟩:=cB3 BK180.out))
  go_ret
  exact ⟨by first|rfl|(simp [yt,yu] <;> rfl)|(simp [*,yt,yu] <;> rfl),by repeat (with_reducible first|exact HB.out|apply za|apply zb|apply zc|refine zd ?_ GE180.out)⟩
 rw [if_neg c3] at H;have c3b0 : (a0_0 == 0)=false:=zY.mpr c3;have c3b1 : (a0_0 != 0)=true:=zZ.mpr c3
 by_cases c8 : a0_0=1
 ·
  rw [if_pos c8] at H
  have c8b0 : (a0_0 == 1)=true:=ya.mpr c8;have c8b1 : (a0_0 != 1)=false:=zX.mpr c8;clear c8;replace H:=zT.mp H;obtain ⟨t182,A90,H⟩:=H;replace H : (if t181.size+t182.size≤9223372036854775807 then (some (t181++t182)) else (none))=some r:=H;have A9:=zh A90;clear A90
  by_cases c10 : t181.size+t182.size≤9223372036854775807
  ·
   rw [if_pos c10] at H
   have c10b0:=eq_true c10;have c10b1 : decide (t181.size+t182.size≤9223372036854775807)=true:=decide_eq_true c10
   try have c10b2 : (9223372036854775807<t181.size+t182.size)=False:=eq_false (Nat.not_lt.2 c10)
   obtain rfl:=zU H
   go_enter Try.func42,Try.ntmps42
   go_wp2_with (first|((with_reducible refine zK (N:=1) rfl ?_);refine zI ?hg (N:=1) ?hd (cs:=#[.int .i64 a0_0,.int .i64 a0_1,.string a0_2]) (t:=25) ?hr ?_;(case hd=>rfl);(case hg=>rfl);(case hr=>go_simp <;> rfl);intro gb180 hg w11 hbox hb;have BK180:=zh (hbox);have hH_:=cH (by repeat (with_reducible first|exact HB.out|apply za|apply zb|apply zc)) hb hg;have GW180:=zh hH_.1;have GE180:=GW180;replace HB:=zh hH_.2;clear hb hbox hg hH_;obtain ⟨hcz12_0,hcz12_1,hcz12_2,hfz12_0,hfz12_1,hfz12_2⟩:=cB3 BK180.out)|((with_reducible refine zJ (f:=41) rfl ?_);refine yj (some 6) rfl rfl Try.func41 (by kernel_rfl) rfl #[.int .i64 a0_0,.int .i64 1] rfl (by (try simp only [zt,zu,zv]);first|done|rfl|(simp only [zw,zx];rfl)|(simp only [yr,ys,zV,zW];rfl)) ?_;(with_reducible refine (F9.calls k  a0_0 1 t181 _ A2.out).mono ?_);rintro e w13 ⟨rfl,hb⟩;refine ⟨_,rfl,?_⟩;replace BK180:=zh (cD BK180.out (by (with_reducible repeat first|apply ze|apply zf|apply zg);exact BK180.out) hb);replace HB:=zh (zC (by repeat (with_reducible first|exact HB.out|apply za|apply zb|apply zc|refine zd ?_ GE180.out)) hb);(try clear hb);(try clear hb2);(try clear hk);(try clear hi);obtain ⟨hcz14_0,hcz14_1,hcz14_2,hfz14_0,hfz14_1,hfz14_2⟩:=cB3 BK180.out)|((with_reducible refine zJ (f:=41) rfl ?_);refine yj (some 17) rfl rfl Try.func41 (by kernel_rfl) rfl #[.int .i64 a0_1,.int .i64 1] rfl (by (try simp only [zt,zu,zv]);first|done|rfl|(simp only [zw,zx];rfl)|(simp only [yr,ys,zV,zW];rfl)) ?_;(with_reducible refine (F9.calls k  a0_1 1 t182 _ A9.out).mono ?_);rintro e w15 ⟨rfl,hb⟩;refine ⟨_,rfl,?_⟩;replace BK180:=zh (cD BK180.out (by (with_reducible repeat first|apply ze|apply zf|apply zg);exact BK180.out) hb);replace HB:=zh (zC (by repeat (with_reducible first|exact HB.out|apply za|apply zb|apply zc|refine zd ?_ GE180.out)) hb);(try clear hb);(try clear hb2);(try clear hk);(try clear hi)))
   go_ret
   exact ⟨by first|rfl|(simp [yt,yu] <;> rfl)|(simp [*,yt,yu] <;> rfl),by repeat (with_reducible first|exact HB.out|apply za|apply zb|apply zc|refine zd ?_ GE180.out)⟩
  rw [if_neg c10] at H;exact absurd H (by simp)
 rw [if_neg c8] at H;have c8b0 : (a0_0 == 1)=false:=zY.mpr c8;have c8b1 : (a0_0 != 1)=true:=zZ.mpr c8
 by_cases c16 : a0_0=2
 ·
  rw [if_pos c16] at H
  have c16b0 : (a0_0 == 2)=true:=ya.mpr c16;have c16b1 : (a0_0 != 2)=false:=zX.mpr c16;clear c16;replace H:=zT.mp H;obtain ⟨t183,A170,H⟩:=H;replace H : (if t181.size+t183.size≤9223372036854775807 then (some (t181++t183)) else (none))=some r:=H;have A17:=zh A170;clear A170
  by_cases c18 : t181.size+t183.size≤9223372036854775807
  ·
   rw [if_pos c18] at H
   have c18b0:=eq_true c18;have c18b1 : decide (t181.size+t183.size≤9223372036854775807)=true:=decide_eq_true c18
   try have c18b2 : (9223372036854775807<t181.size+t183.size)=False:=eq_false (Nat.not_lt.2 c18)
   obtain rfl:=zU H
   go_enter Try.func42,Try.ntmps42
   go_wp2_with (first|((with_reducible refine zK (N:=1) rfl ?_);refine zI ?hg (N:=1) ?hd (cs:=#[.int .i64 a0_0,.int .i64 a0_1,.string a0_2]) (t:=25) ?hr ?_;(case hd=>rfl);(case hg=>rfl);(case hr=>go_simp <;> rfl);intro gb180 hg w19 hbox hb;have BK180:=zh (hbox);have hH_:=cH (by repeat (with_reducible first|exact HB.out|apply za|apply zb|apply zc)) hb hg;have GW180:=zh hH_.1;have GE180:=GW180;replace HB:=zh hH_.2;clear hb hbox hg hH_;obtain ⟨hcz20_0,hcz20_1,hcz20_2,hfz20_0,hfz20_1,hfz20_2⟩:=cB3 BK180.out)|((with_reducible refine zJ (f:=41) rfl ?_);refine yj (some 6) rfl rfl Try.func41 (by kernel_rfl) rfl #[.int .i64 a0_0,.int .i64 1] rfl (by (try simp only [zt,zu,zv]);first|done|rfl|(simp only [zw,zx];rfl)|(simp only [yr,ys,zV,zW];rfl)) ?_;(with_reducible refine (F9.calls k  a0_0 1 t181 _ A2.out).mono ?_);rintro e w21 ⟨rfl,hb⟩;refine ⟨_,rfl,?_⟩;replace BK180:=zh (cD BK180.out (by (with_reducible repeat first|apply ze|apply zf|apply zg);exact BK180.out) hb);replace HB:=zh (zC (by repeat (with_reducible first|exact HB.out|apply za|apply zb|apply zc|refine zd ?_ GE180.out)) hb);(try clear hb);(try clear hb2);(try clear hk);(try clear hi);obtain ⟨hcz22_0,hcz22_1,hcz22_2,hfz22_0,hfz22_1,hfz22_2⟩:=cB3 BK180.out)|((with_reducible refine zJ (f:=41) rfl ?_);refine yj (some 25) rfl rfl Try.func41 (by kernel_rfl) rfl #[.int .i64 (wrap64 (a0_1+4611686018427387904)),.int .i64 8] rfl (by (try simp only [zt,zu,zv]);first|done|rfl|(simp only [zw,zx];rfl)|(simp only [yr,ys,zV,zW];rfl)) ?_;(with_reducible refine (F9.calls k  (wrap64 (a0_1+4611686018427387904)) 8 t183 _ A17.out).mono ?_);rintro e w23 ⟨rfl,hb⟩;refine ⟨_,rfl,?_⟩;replace BK180:=zh (cD BK180.out (by (with_reducible repeat first|apply ze|apply zf|apply zg);exact BK180.out) hb);replace HB:=zh (zC (by repeat (with_reducible first|exact HB.out|apply za|apply zb|apply zc|refine zd ?_ GE180.out)) hb);(try clear hb);(try clear hb2);(try clear hk);(try clear hi)))
   go_ret
   exact ⟨by first|rfl|(simp [yt,yu] <;> rfl)|(simp [*,yt,yu] <;> rfl),by repeat (with_reducible first|exact HB.out|apply za|apply zb|apply zc|refine zd ?_ GE180.out)⟩
  rw [if_neg c18] at H;exact absurd H (by simp)
 rw [if_neg c16] at H;have c16b0 : (a0_0 == 2)=false:=zY.mpr c16;have c16b1 : (a0_0 != 2)=true:=zZ.mpr c16;replace H:=zT.mp H;obtain ⟨t184,A240,H⟩:=H;replace H : (if t181.size+t184.size≤9223372036854775807 then (if (t181++t184).size+a0_2.size≤9223372036854775807 then (some ((t181++t184)++a0_2)) else (none)) else (none))=some r:=H;have A24:=zh A240;clear A240
 by_cases c25 : t181.size+t184.size≤9223372036854775807
 ·
  rw [if_pos c25] at H
  have c25b0:=eq_true c25;have c25b1 : decide (t181.size+t184.size≤9223372036854775807)=true:=decide_eq_true c25
  try have c25b2 : (9223372036854775807<t181.size+t184.size)=False:=eq_false (Nat.not_lt.2 c25)
  by_cases c26 : (t181++t184).size+a0_2.size≤9223372036854775807
  ·
   rw [if_pos c26] at H
   have c26b0:=eq_true c26;have c26b1 : decide ((t181++t184).size+a0_2.size≤9223372036854775807)=true:=decide_eq_true c26
   try have c26b2 : (9223372036854775807<(t181++t184).size+a0_2.size)=False:=eq_false (Nat.not_lt.2 c26)
   (try have c26b4:=c26b2;simp only [ByteArray.size_append] at c26b4);obtain rfl:=zU H
   go_enter Try.func42,Try.ntmps42
   try go_wp2_with (first|((with_reducible refine zK (N:=1) rfl ?_);refine zI ?hg (N:=1) ?hd (cs:=#[.int .i64 a0_0,.int .i64 a0_1,.string a0_2]) (t:=25) ?hr ?_;(case hd=>rfl);(case hg=>rfl);(case hr=>go_simp <;> rfl);intro gb180 hg w27 hbox hb;have BK180:=zh (hbox);have hH_:=cH (by repeat (with_reducible first|exact HB.out|apply za|apply zb|apply zc)) hb hg;have GW180:=zh hH_.1;have GE180:=GW180;replace HB:=zh hH_.2;clear hb hbox hg hH_;obtain ⟨hcz28_0,hcz28_1,hcz28_2,hfz28_0,hfz28_1,hfz28_2⟩:=cB3 BK180.out)|((with_reducible refine zJ (f:=41) rfl ?_);refine yj (some 6) rfl rfl Try.func41 (by kernel_rfl) rfl #[.int .i64 a0_0,.int .i64 1] rfl (by (try simp only [zt,zu,zv]);first|done|rfl|(simp only [zw,zx];rfl)|(simp only [yr,ys,zV,zW];rfl)) ?_;(with_reducible refine (F9.calls k  a0_0 1 t181 _ A2.out).mono ?_);rintro e w29 ⟨rfl,hb⟩;refine ⟨_,rfl,?_⟩;replace BK180:=zh (cD BK180.out (by (with_reducible repeat first|apply ze|apply zf|apply zg);exact BK180.out) hb);replace HB:=zh (zC (by repeat (with_reducible first|exact HB.out|apply za|apply zb|apply zc|refine zd ?_ GE180.out)) hb);(try clear hb);(try clear hb2);(try clear hk);(try clear hi);obtain ⟨hcz30_0,hcz30_1,hcz30_2,hfz30_0,hfz30_1,hfz30_2⟩:=cB3 BK180.out))
   replace BK180:=zh (zf BK180.out);replace HB:=zh (zc HB.out);refine start_ (n:=10) (S:=fun w' => w'.cell? ⟨gb180,0,none⟩=some (.int .i64 a0_0)∧w'.cell? ⟨gb180,1,none⟩=some (.int .i64 a0_1)∧w'.cell? ⟨gb180,2,none⟩=some (.string a0_2)) (ds:=[]) (bm_ 0 10) (by kernel_rfl) rfl rfl ⟨(zz BK180.out 0).trans rfl,(zz BK180.out 1).trans rfl,(zz BK180.out 2).trans rfl⟩ (fun hHeld=>?_);refine with_tabW Fz.tab9 Fz.bits9 (fun HT_ HW_=>?_);generalize w29.drew=w31 at BK180 HB hHeld ⊢;refine pure_ (i:=0) (N:=some 27) (v:=?_) (a':=?_) (bm_ 1 10) rfl rfl (any_of HT_.out (by kernel_rfl)) (fun _ _ _ h=>h) (Or.inl ⟨by rfl,?_⟩) ?_ ?_;rotate_left
   ·
    intro w'
    go_simp
    with_reducible rfl
   rotate_left
   ·
    simp only [Act.put,zi,zj,zk,zG,zH]
    rfl
   refine pure_ (i:=1) (N:=some 28) (v:=?_) (a':=?_) (bm_ 2 10) rfl rfl (any_of HT_.out (by kernel_rfl)) (fun _ _ _ h=>h) (Or.inl ⟨by rfl,?_⟩) ?_ ?_;rotate_left
   ·
    intro w'
    go_simp
    with_reducible rfl
   rotate_left
   ·
    simp only [Act.put,zi,zj,zk,zG,zH]
    rfl
   refine pure_ (i:=6) (N:=some 33) (v:=?_) (a':=?_) #[true,true,false,false,false,false,true,false,false,false] rfl rfl (any_of HT_.out (by kernel_rfl)) (fun _ _ _ h=>h) (Or.inl ⟨by rfl,?_⟩) ?_ ?_;rotate_left
   ·
    intro w'
    go_simp
    with_reducible rfl
   rotate_left
   ·
    simp only [Act.put,zi,zj,zk,zG,zH]
    rfl
   refine take_ (i:=2) (N:=some 29) (v:=?_) (a':=?_) #[true,true,true,false,false,false,true,false,false,false] rfl rfl (yo HT_.out HW_.out (by kernel_rfl)) (fun _ _ _ h=>h) (Or.inl ⟨by rfl,?_⟩) hHeld ?_ ?_;rotate_left
   ·
    rintro w' ⟨s0,s1,s2⟩
    go_simp
    with_reducible rfl
   rotate_left
   ·
    simp only [Act.put,zi,zj,zk,zG,zH]
    rfl
   refine pure_ (i:=3) (N:=some 30) (v:=?_) (a':=?_) #[true,true,true,true,false,false,true,false,false,false] rfl rfl (any_of HT_.out (by kernel_rfl)) (fun _ _ _ h=>h) (Or.inl ⟨by rfl,?_⟩) ?_ ?_;rotate_left
   ·
    intro w'
    go_simp
    with_reducible rfl
   rotate_left
   ·
    simp only [Act.put,zi,zj,zk,zG,zH]
    rfl
   refine take_ (i:=7) (N:=some 34) (v:=?_) (a':=?_) #[true,true,true,true,false,false,true,true,false,false] rfl rfl (yo HT_.out HW_.out (by kernel_rfl)) (fun _ _ _ h=>h) (Or.inl ⟨by rfl,?_⟩) hHeld ?_ ?_;rotate_left
   ·
    rintro w' ⟨s0,s1,s2⟩
    go_simp
    with_reducible rfl
   rotate_left
   ·
    simp only [Act.put,zi,zj,zk,zG,zH]
    rfl
   refine one_ (i:=4) (N:=some 31) #[true,true,true,true,true,false,true,true,false,false] rfl rfl (one_of HT_.out (by kernel_rfl)) (by decide) (fun K hK=>?_);refine goes_ Try.func41 (by kernel_rfl) rfl #[.int .i64 (a0_2.size : Int),.int .i64 2] (by rfl) rfl rfl (by (try simp only [zt,zu,zv]);first|done|rfl|(simp only [zw,zx];rfl)|(simp only [yr,ys,zV,zW];rfl)) ?_
   with_reducible refine (F9.calls k  (a0_2.size : Int) 2 t184 _ A24.out).mono ?_
   rintro e w32 ⟨rfl,hb⟩;refine ⟨_,rfl,?_⟩;replace BK180:=zh (cD BK180.out (by (with_reducible repeat first|apply ze|apply zf|apply zg);exact BK180.out) hb);replace HB:=zh (zC (by repeat (with_reducible first|exact HB.out|apply za|apply zb|apply zc|refine zd ?_ GE180.out)) hb);(try clear hb);(try clear hb2);(try clear hk);(try clear hi);refine hK.out _ _ ⟨(zz BK180.out 0).trans rfl,(zz BK180.out 1).trans rfl,(zz BK180.out 2).trans rfl⟩ (fun hHeld=>?_);clear hK K;refine norm_ (a':=?_) ?_ ?_;rotate_left
   ·
    show Act.put _ (some 31) _=_
    simp only [Act.put,zi,zj,zk,zG,zH]
    rfl
   refine pure_ (i:=5) (N:=some 32) (v:=?_) (a':=?_) (bm_ 8 10) rfl rfl (any_of HT_.out (by kernel_rfl)) (fun _ _ _ h=>h) (Or.inl ⟨by rfl,?_⟩) ?_ ?_;rotate_left
   ·
    intro w'
    go_simp
    with_reducible rfl
   rotate_left
   ·
    simp only [Act.put,zi,zj,zk,zG,zH]
    rfl
   refine pure_ (i:=8) (N:=some 35) (v:=?_) (a':=?_) (bm_ 9 10) rfl rfl (any_of HT_.out (by kernel_rfl)) (fun _ _ _ h=>h) (Or.inl ⟨by rfl,?_⟩) ?_ ?_;rotate_left
   ·
    intro w'
    go_simp
    with_reducible rfl
   rotate_left
   ·
    simp only [Act.put,zi,zj,zk,zG,zH]
    rfl
   refine pure_ (i:=9) (N:=some 2) (v:=?_) (a':=?_) (bm_ 10 10) rfl rfl (any_of HT_.out (by kernel_rfl)) (fun _ _ _ h=>h) (Or.inl ⟨by rfl,?_⟩) ?_ ?_;rotate_left
   ·
    intro w'
    go_simp
    with_reducible rfl
   rotate_left
   ·
    simp only [Act.put,zi,zj,zk,zG,zH]
    rfl
   refine done_ (done_of HT_.out (by kernel_rfl)) ?_
   try go_wp2
   go_ret
   exact ⟨by first|rfl|(simp [yt,yu] <;> rfl)|(simp [*,yt,yu] <;> rfl),by repeat (with_reducible first|exact HB.out|apply za|apply zb|apply zc|refine zd ?_ GE180.out)⟩
  rw [if_neg c26] at H;exact absurd H (by simp)
 rw [if_neg c25] at H;exact absurd H (by simp)


def Fk.l0 : Nat→List (S43)→ByteArray→Int→Option (Int×Int×ByteArray)
 | 0,_,_,_=>none
 | k+1,x0,x3,x4=>if x4<(x0.length : Int) then (if 0≤x4 then ((F9.f k (((rd_T43 x0 x4).f0).size : Int) 1).bind fun t187=>(if t187.size+((rd_T43 x0 x4).f0).size≤9223372036854775807 then ((Fz.f k ((rd_T43 x0 x4).f1.f0) ((rd_T43 x0 x4).f1.f1) ((rd_T43 x0 x4).f1.f2)).bind fun t190=>(if (t187++((rd_T43 x0 x4).f0)).size+t190.size≤9223372036854775807 then (if x3.size+((t187++((rd_T43 x0 x4).f0))++t190).size≤9223372036854775807 then (Fk.l0 k x0 (x3++((t187++((rd_T43 x0 x4).f0))++t190)) (wrap64 (x4+1))) else (none)) else (none))) else (none))) else (none)) else (some (5,0,x3))
def Fk.f (k : Nat) (l0 : List (S43)) : Option (Int×Int×ByteArray):=Fk.l0 k l0 (⟨#[]⟩ : ByteArray) 0
theorem Fk.mono_l : ∀ k,(∀ y0 y1 y2,LeO (Fk.l0 k y0 y1 y2) (Fk.l0 (k+1) y0 y1 y2))
 | 0=>fun _ _ _ r h=>by simp [Fk.l0] at h
 | k+1=>by
  have ih0:=Fk.mono_l k;intro y0 y1 y2;unfold Fk.l0
  repeat' first|(with_reducible first|exact ih0 _ _ _|exact F9.mono _ _ _|exact Fz.mono _ _ _ _|exact zQ _|exact zN _|refine zP ?_ ?_|refine zO ?_ (fun _=>?_))|refine zP ?_ ?_|refine zO ?_ (fun _=>?_)
theorem Fk.mono : ∀ a0 k,LeO (Fk.f k a0) (Fk.f (k+1) a0):=by
 intro a0 k;have ih0:=Fk.mono_l k;unfold Fk.f
 repeat' first|(with_reducible first|exact ih0 _ _ _|exact F9.mono _ _ _|exact Fz.mono _ _ _ _|exact zQ _|exact zN _|refine zP ?_ ?_|refine zO ?_ (fun _=>?_))|refine zP ?_ ?_|refine zO ?_ (fun _=>?_)
def Fk.T5 : Bool×List (List Nat×List Nat):=(true,[([],[]),([],[]),([],[]),([1,2],[1,2]),([3],[3]),([4],[4]),([5],[5]),([6],[6]),([],[]),([],[]),([8,9],[8,9]),([10],[10]),([11],[11]),([7,12],[7,12]),([],[]),([],[]),([14,15],[14,15]),([16],[16]),([17],[17]),([18,7],[18]),([13,19],[13,19]),([0,20],[0,20]),([21,19,0,1,2,3,4,5,6,7,8,9,10,11,12,13,14,15,16,17,18,19,20,21],[0,21])])
def Fk.B5 : List Nat:=[0,0,0,6,14,30,62,126,0,0,768,1792,3840,8190,0,0,49152,114688,245760,508158,1048574,2097151,4194303]
theorem Fk.tab5 : rtab .any (opsOf Try.f22 5)=Fk.T5:=by kernel_rfl
theorem Fk.bits5 : waitsOk Fk.T5.2 Fk.B5=true:=by kernel_rfl
set_option maxHeartbeats 8000000 in
set_option maxRecDepth 100000 in
theorem Fk.calls (k : Nat) (A0 : Option Addr) (c0 : Nat) (l0 : List (S43)) (r1 : Int) (r2 : Int) (r3 : ByteArray) (w : World) (hr0 : Kd.C k43 w A0 l0.length l0) (hc0 : l0.length≤c0) (h : Fk.f k l0=some (r1,r2,r3)) :
  Calls Try.prog 22 #[.slice A0 l0.length c0] w fun e w' => e = .returned (.agg #[.int .i64 r1,.int .i64 r2,.string r3])∧Below w.heap.size w w':=by
 have hu25:=Try.underlying25;have HR0:=zh hr0;have HC0:=zh hc0;clear hr0 hc0;have HB:=zh (Below.refl w.heap.size w);have H : (Fk.l0 k l0 (⟨#[]⟩ : ByteArray) 0)=some (r1,r2,r3):=h;clear h;have H':=zh H;clear H
 go_enter Try.func22,Try.ntmps22
 go_wp2_with (first|((with_reducible refine zK (N:=2) rfl ?_);refine zI ?hg (N:=2) ?hd (cs:=#[.int .i64 0,.int .i64 0,.string (⟨#[]⟩ : ByteArray)]) (t:=25) ?hr ?_;(case hd=>rfl);(case hg=>rfl);(case hr=>go_simp <;> rfl);intro gb185 hg w2 hbox hb;have BK185:=zh (hbox);have hH_:=cH (by repeat (with_reducible first|exact HB.out|apply za|apply zb|apply zc)) hb hg;have GW185:=zh hH_.1;have GE185:=GW185;replace HB:=zh hH_.2;clear hb hbox hg hH_))
 go_loopg [3,4] k (fun kq v3 v4 w' => ∃ (x3_1 : ByteArray) (x4_1 : Int),v3 = .string x3_1∧v4 = .int .i64 x4_1∧Aside0 (Fk.l0 kq l0 x3_1 x4_1=some (r1,r2,r3))∧Aside0 (kq≤k)∧Aside0 (w'.heap[gb185]? = some (.cells #[.int .i64 0,.int .i64 0,.string (⟨#[]⟩ : ByteArray)] 25 (0,0)))∧Aside0 (Below w.heap.size w w'))
 case atStart=>exact ⟨((⟨#[]⟩ : ByteArray)),(0),(by first|rfl|(simp;done)|(simp [*];done)),(by first|rfl|(simp;done)|(simp [*];done)),H',⟨ye _⟩,⟨by (with_reducible repeat first|apply ze|apply zf|apply zg);exact BK185.out⟩,⟨by repeat (with_reducible first|exact HB.out|apply za|apply zb|apply zc|refine zd ?_ GE185.out)⟩⟩
 case round =>
  clear H'
  try clear c2
  try clear p2
  obtain ⟨x3_1,x4_1,rfl,rfl,HA,HK1,BK185,HB⟩:=hrel
  cases gk with
  | zero=>exact absurd HA.out (by simp [Fk.l0])
  | succ k1 =>
   have H:=HA.out;clear HA;simp only [Fk.l0] at H
   by_cases c3 : x4_1<(l0.length : Int)
   ·
    rw [if_pos c3] at H
    have c3b0 : decide (x4_1<(l0.length : Int))=true:=decide_eq_true c3;clear c3
    by_cases c4 : 0≤x4_1
    ·
     rw [if_pos c4] at H
     have c4b0 : decide (0≤x4_1)=true:=decide_eq_true c4;clear c4;replace H:=zT.mp H;obtain ⟨t187,A50,H⟩:=H;replace H : (if t187.size+((rd_T43 l0 x4_1).f0).size≤9223372036854775807 then ((Fz.f k1 ((rd_T43 l0 x4_1).f1.f0) ((rd_T43 l0 x4_1).f1.f1) ((rd_T43 l0 x4_1).f1.f2)).bind fun t190=>(if (t187++((rd_T43 l0 x4_1).f0)).size+t190.size≤9223372036854775807 then (if x3_1.size+((t187++((rd_T43 l0 x4_1).f0))++t190).size≤9223372036854775807 then (Fk.l0 k1 l0 (x3_1++((t187++((rd_T43 l0 x4_1).f0))++t190)) (wrap64 (x4_1+1))) else (none)) else (none))) else (none))=some (r1,r2,r3):=H;have A5:=zh A50;clear A50
     by_cases c6 : t187.size+((rd_T43 l0 x4_1).f0).size≤9223372036854775807
     ·
      rw [if_pos c6] at H
      have c6b0:=eq_true c6;have c6b1 : decide (t187.size+((rd_T43 l0 x4_1).f0).size≤9223372036854775807)=true:=decide_eq_true c6
      try have c6b2 : (9223372036854775807<t187.size+((rd_T43 l0 x4_1).f0).size)=False:=eq_false (Nat.not_lt.2 c6)
      replace H:=zT.mp H;obtain ⟨t190,A70,H⟩:=H;replace H : (if (t187++((rd_T43 l0 x4_1).f0)).size+t190.size≤9223372036854775807 then (if x3_1.size+((t187++((rd_T43 l0 x4_1).f0))++t190).size≤9223372036854775807 then (Fk.l0 k1 l0 (x3_1++((t187++((rd_T43 l0 x4_1).f0))++t190)) (wrap64 (x4_1+1))) else (none)) else (none))=some (r1,r2,r3):=H;have A7:=zh A70;clear A70
      by_cases c8 : (t187++((rd_T43 l0 x4_1).f0)).size+t190.size≤9223372036854775807
      ·
       rw [if_pos c8] at H
       have c8b0:=eq_true c8;have c8b1 : decide ((t187++((rd_T43 l0 x4_1).f0)).size+t190.size≤9223372036854775807)=true:=decide_eq_true c8
       try have c8b2 : (9223372036854775807<(t187++((rd_T43 l0 x4_1).f0)).size+t190.size)=False:=eq_false (Nat.not_lt.2 c8)
       (try have c8b4:=c8b2;simp only [ByteArray.size_append] at c8b4)
       by_cases c9 : x3_1.size+((t187++((rd_T43 l0 x4_1).f0))++t190).size≤9223372036854775807
       ·
        rw [if_pos c9] at H
        have c9b0:=eq_true c9;have c9b1 : decide (x3_1.size+((t187++((rd_T43 l0 x4_1).f0))++t190).size≤9223372036854775807)=true:=decide_eq_true c9
        try have c9b2 : (9223372036854775807<x3_1.size+((t187++((rd_T43 l0 x4_1).f0))++t190).size)=False:=eq_false (Nat.not_lt.2 c9)
        (try have c9b4:=c9b2;simp only [ByteArray.size_append] at c9b4);have H':=zh H;clear H
        try go_wp2
        replace BK185:=zh (zf BK185.out);replace HB:=zh (zc HB.out);have p186 : 0≤(x4_1 : Int):=zy (by first|(with_reducible assumption)|assumption);have q186 : x4_1<(l0.length : Int):=zy (by first|(with_reducible assumption)|assumption);obtain ⟨ad186,e186,hx186_0,hx186_1,hx186_2,hx186_3⟩:=at_T43 HR0.out x4_1 p186 q186;have hw186_3:=hx186_3;have hw186_2:=hx186_2;have hw186_1:=hx186_1;have hw186_0:=hx186_0
        cases e186
        replace hx186_0:=(HB.out.cell (zl w _ hx186_0)).trans hx186_0;replace hx186_1:=(HB.out.cell (zl w _ hx186_1)).trans hx186_1;replace hx186_2:=(HB.out.cell (zl w _ hx186_2)).trans hx186_2;replace hx186_3:=(HB.out.cell (zl w _ hx186_3)).trans hx186_3;replace p186:=eq_true p186;replace q186:=eq_true q186;have p188 : 0≤(x4_1 : Int):=zy (by first|(with_reducible assumption)|assumption);have q188 : x4_1<(l0.length : Int):=zy (by first|(with_reducible assumption)|assumption);obtain ⟨ad188,e188,hx188_0,hx188_1,hx188_2,hx188_3⟩:=at_T43 HR0.out x4_1 p188 q188;have hw188_3:=hx188_3;have hw188_2:=hx188_2;have hw188_1:=hx188_1;have hw188_0:=hx188_0;obtain rfl : ad186=ad188:=(by injection e188);replace hx188_0:=(HB.out.cell (zl w _ hx188_0)).trans hx188_0;replace hx188_1:=(HB.out.cell (zl w _ hx188_1)).trans hx188_1;replace hx188_2:=(HB.out.cell (zl w _ hx188_2)).trans hx188_2;replace hx188_3:=(HB.out.cell (zl w _ hx188_3)).trans hx188_3;replace p188:=eq_true p188;replace q188:=eq_true q188;have p189 : 0≤(x4_1 : Int):=zy (by first|(with_reducible assumption)|assumption);have q189 : x4_1<(l0.length : Int):=zy (by first|(with_reducible assumption)|assumption);obtain ⟨ad189,e189,hx189_0,hx189_1,hx189_2,hx189_3⟩:=at_T43 HR0.out x4_1 p189 q189;have hw189_3:=hx189_3;have hw189_2:=hx189_2;have hw189_1:=hx189_1;have hw189_0:=hx189_0;obtain rfl : ad186=ad189:=(by injection e189);replace hx189_0:=(HB.out.cell (zl w _ hx189_0)).trans hx189_0;replace hx189_1:=(HB.out.cell (zl w _ hx189_1)).trans hx189_1;replace hx189_2:=(HB.out.cell (zl w _ hx189_2)).trans hx189_2;replace hx189_3:=(HB.out.cell (zl w _ hx189_3)).trans hx189_3;replace p189:=eq_true p189;replace q189:=eq_true q189;refine start_ (n:=23) (S:=fun w' => w'.cell? (ad186.add ((x4_1).toNat*4))=some (.string ((rd_T43 l0 x4_1).f0))∧w'.cell? ⟨(ad186.add ((x4_1).toNat*4)).block,(ad186.add ((x4_1).toNat*4)).off+1,none⟩=some (.int .i64 ((rd_T43 l0 x4_1).f1.f0))∧w'.cell? ⟨(ad186.add ((x4_1).toNat*4)).block,(ad186.add ((x4_1).toNat*4)).off+2,none⟩=some (.int .i64 ((rd_T43 l0 x4_1).f1.f1))∧w'.cell? ⟨(ad186.add ((x4_1).toNat*4)).block,(ad186.add ((x4_1).toNat*4)).off+3,none⟩=some (.string ((rd_T43 l0 x4_1).f1.f2))∧w'.cell? (ad186.add ((x4_1).toNat*4))=some (.string ((rd_T43 l0 x4_1).f0))∧w'.cell? ⟨(ad186.add ((x4_1).toNat*4)).block,(ad186.add ((x4_1).toNat*4)).off+1,none⟩=some (.int .i64 ((rd_T43 l0 x4_1).f1.f0))∧w'.cell? ⟨(ad186.add ((x4_1).toNat*4)).block,(ad186.add ((x4_1).toNat*4)).off+2,none⟩=some (.int .i64 ((rd_T43 l0 x4_1).f1.f1))∧w'.cell? ⟨(ad186.add ((x4_1).toNat*4)).block,(ad186.add ((x4_1).toNat*4)).off+3,none⟩=some (.string ((rd_T43 l0 x4_1).f1.f2))∧w'.cell? (ad186.add ((x4_1).toNat*4))=some (.string ((rd_T43 l0 x4_1).f0))∧w'.cell? ⟨(ad186.add ((x4_1).toNat*4)).block,(ad186.add ((x4_1).toNat*4)).off+1,none⟩=some (.int .i64 ((rd_T43 l0 x4_1).f1.f0))∧w'.cell? ⟨(ad186.add ((x4_1).toNat*4)).block,(ad186.add ((x4_1).toNat*4)).off+2,none⟩=some (.int .i64 ((rd_T43 l0 x4_1).f1.f1))∧w'.cell? ⟨(ad186.add ((x4_1).toNat*4)).block,(ad186.add ((x4_1).toNat*4)).off+3,none⟩=some (.string ((rd_T43 l0 x4_1).f1.f2))) (ds:=[]) (bm_ 0 23) (by kernel_rfl) rfl rfl ⟨((HB.out.cell (zl w _ hw186_0)).trans hw186_0),((HB.out.cell (zl w _ hw186_1)).trans hw186_1),((HB.out.cell (zl w _ hw186_2)).trans hw186_2),((HB.out.cell (zl w _ hw186_3)).trans hw186_3),((HB.out.cell (zl w _ hw188_0)).trans hw188_0),((HB.out.cell (zl w _ hw188_1)).trans hw188_1),((HB.out.cell (zl w _ hw188_2)).trans hw188_2),((HB.out.cell (zl w _ hw188_3)).trans hw188_3),((HB.out.cell (zl w _ hw189_0)).trans hw189_0),((HB.out.cell (zl w _ hw189_1)).trans hw189_1),((HB.out.cell (zl w _ hw189_2)).trans hw189_2),((HB.out.cell (zl w _ hw189_3)).trans hw189_3)⟩ (fun hHeld=>?_);refine with_tabW Fk.tab5 Fk.bits5 (fun HT_ HW_=>?_);generalize wr.drew=w10 at BK185 HB hx186_0 hx186_1 hx186_2 hx186_3 hx188_0 hx188_1 hx188_2 hx188_3 hx189_0 hx189_1 hx189_2 hx189_3 hHeld ⊢;refine pure_ (i:=0) (N:=some 11) (v:=?_) (a':=?_) (bm_ 1 23) rfl rfl (any_of HT_.out (by kernel_rfl)) (fun _ _ _ h=>h) (Or.inl ⟨by rfl,?_⟩) ?_ ?_;rotate_left
        ·
         intro w'
         go_simp
         with_reducible rfl
        rotate_left
        ·
         simp only [Act.put,zi,zj,zk,zG,zH]
         rfl
        refine pure_ (i:=1) (N:=some 12) (v:=?_) (a':=?_) (bm_ 2 23) rfl rfl (any_of HT_.out (by kernel_rfl)) (fun _ _ _ h=>h) (Or.inl ⟨by rfl,?_⟩) ?_ ?_;rotate_left
        ·
         intro w'
         go_simp
         with_reducible rfl
        rotate_left
        ·
         simp only [Act.put,zi,zj,zk,zG,zH]
         rfl
        refine pure_ (i:=2) (N:=some 13) (v:=?_) (a':=?_) (bm_ 3 23) rfl rfl (any_of HT_.out (by kernel_rfl)) (fun _ _ _ h=>h) (Or.inl ⟨by rfl,?_⟩) ?_ ?_;rotate_left
        ·
         intro w'
         go_simp
         with_reducible rfl
        rotate_left
        ·
         simp only [Act.put,zi,zj,zk,zG,zH]
         rfl
        refine pure_ (i:=3) (N:=some 14) (v:=?_) (a':=?_) (bm_ 4 23) rfl rfl (any_of HT_.out (by kernel_rfl)) (fun _ _ _ h=>h) (Or.inl ⟨by rfl,?_⟩) ?_ ?_;rotate_left
        ·
         intro w'
         go_simp
         with_reducible rfl
        rotate_left
        ·
         simp only [Act.put,zi,zj,zk,zG,zH]
         rfl
        refine pure_ (i:=4) (N:=some 15) (v:=?_) (a':=?_) (bm_ 5 23) rfl rfl (any_of HT_.out (by kernel_rfl)) (fun _ _ _ h=>h) (Or.inl ⟨by rfl,?_⟩) ?_ ?_;rotate_left
        ·
         intro w'
         go_simp
         with_reducible rfl
        rotate_left
        ·
         simp only [Act.put,zi,zj,zk,zG,zH]
         rfl
        refine pure_ (i:=8) (N:=some 19) (v:=?_) (a':=?_) #[true,true,true,true,true,false,false,false,true,false,false,false,false,false,false,false,false,false,false,false,false,false,false] rfl rfl (any_of HT_.out (by kernel_rfl)) (fun _ _ _ h=>h) (Or.inl ⟨by rfl,?_⟩) ?_ ?_;rotate_left
        ·
         intro w'
         go_simp
         with_reducible rfl
        rotate_left
        ·
         simp only [Act.put,zi,zj,zk,zG,zH]
         rfl
        refine pure_ (i:=9) (N:=some 20) (v:=?_) (a':=?_) #[true,true,true,true,true,false,false,false,true,true,false,false,false,false,false,false,false,false,false,false,false,false,false] rfl rfl (any_of HT_.out (by kernel_rfl)) (fun _ _ _ h=>h) (Or.inl ⟨by rfl,?_⟩) ?_ ?_;rotate_left
        ·
         intro w'
         go_simp
         with_reducible rfl
        rotate_left
        ·
         simp only [Act.put,zi,zj,zk,zG,zH]
         rfl
        refine pure_ (i:=10) (N:=some 21) (v:=?_) (a':=?_) #[true,true,true,true,true,false,false,false,true,true,true,false,false,false,false,false,false,false,false,false,false,false,false] rfl rfl (any_of HT_.out (by kernel_rfl)) (fun _ _ _ h=>h) (Or.inl ⟨by rfl,?_⟩) ?_ ?_;rotate_left
        ·
         intro w'
         go_simp
         with_reducible rfl
        rotate_left
        ·
         simp only [Act.put,zi,zj,zk,zG,zH]
         rfl
        refine pure_ (i:=11) (N:=some 22) (v:=?_) (a':=?_) #[true,true,true,true,true,false,false,false,true,true,true,true,false,false,false,false,false,false,false,false,false,false,false] rfl rfl (any_of HT_.out (by kernel_rfl)) (fun _ _ _ h=>h) (Or.inl ⟨by rfl,?_⟩) ?_ ?_;rotate_left
        ·
         intro w'
         go_simp
         with_reducible rfl
        rotate_left
        ·
         simp only [Act.put,zi,zj,zk,zG,zH]
         rfl
        refine pure_ (i:=14) (N:=some 25) (v:=?_) (a':=?_) #[true,true,true,true,true,false,false,false,true,true,true,true,false,false,true,false,false,false,false,false,false,false,false] rfl rfl (any_of HT_.out (by kernel_rfl)) (fun _ _ _ h=>h) (Or.inl ⟨by rfl,?_⟩) ?_ ?_;rotate_left
        ·
         intro w'
         go_simp
         with_reducible rfl
        rotate_left
        ·
         simp only [Act.put,zi,zj,zk,zG,zH]
         rfl
        refine pure_ (i:=15) (N:=some 26) (v:=?_) (a':=?_) #[true,true,true,true,true,false,false,false,true,true,true,true,false,false,true,true,false,false,false,false,false,false,false] rfl rfl (any_of HT_.out (by kernel_rfl)) (fun _ _ _ h=>h) (Or.inl ⟨by rfl,?_⟩) ?_ ?_;rotate_left
        ·
         intro w'
         go_simp
         with_reducible rfl
        rotate_left
        ·
         simp only [Act.put,zi,zj,zk,zG,zH]
         rfl
        refine pure_ (i:=16) (N:=some 27) (v:=?_) (a':=?_) #[true,true,true,true,true,false,false,false,true,true,true,true,false,false,true,true,true,false,false,false,false,false,false] rfl rfl (any_of HT_.out (by kernel_rfl)) (fun _ _ _ h=>h) (Or.inl ⟨by rfl,?_⟩) ?_ ?_;rotate_left
        ·
         intro w'
         go_simp
         with_reducible rfl
        rotate_left
        ·
         simp only [Act.put,zi,zj,zk,zG,zH]
         rfl
        refine pure_ (i:=17) (N:=some 28) (v:=?_) (a':=?_) #[true,true,true,true,true,false,false,false,true,true,true,true,false,false,true,true,true,true,false,false,false,false,false] rfl rfl (any_of HT_.out (by kernel_rfl)) (fun _ _ _ h=>h) (Or.inl ⟨by rfl,?_⟩) ?_ ?_;rotate_left
        ·
         intro w'
         go_simp
         with_reducible rfl
        rotate_left
        ·
         simp only [Act.put,zi,zj,zk,zG,zH]
         rfl
        refine take_ (i:=5) (N:=some 16) (v:=?_) (a':=?_) #[true,true,true,true,true,true,false,false,true,true,true,true,false,false,true,true,true,true,false,false,false,false,false] rfl rfl (yo HT_.out HW_.out (by kernel_rfl)) (fun _ _ _ h=>h) (Or.inl ⟨by rfl,?_⟩) hHeld ?_ ?_;rotate_left
        ·
         rintro w' ⟨s0,s1,s2,s3,s4,s5,s6,s7,s8,s9,s10,s11⟩
         go_simp
         with_reducible rfl
        rotate_left
        ·
         simp only [Act.put,zi,zj,zk,zG,zH]
         rfl
        refine pure_ (i:=6) (N:=some 17) (v:=?_) (a':=?_) #[true,true,true,true,true,true,true,false,true,true,true,true,false,false,true,true,true,true,false,false,false,false,false] rfl rfl (any_of HT_.out (by kernel_rfl)) (fun _ _ _ h=>h) (Or.inl ⟨by rfl,?_⟩) ?_ ?_;rotate_left
        ·
         intro w'
         go_simp
         with_reducible rfl
        rotate_left
        ·
         simp only [Act.put,zi,zj,zk,zG,zH]
         rfl
        refine take_ (i:=12) (N:=some 23) (v:=?_) (a':=?_) #[true,true,true,true,true,true,true,false,true,true,true,true,true,false,true,true,true,true,false,false,false,false,false] rfl rfl (yo HT_.out HW_.out (by kernel_rfl)) (fun _ _ _ h=>h) (Or.inl ⟨by rfl,?_⟩) hHeld ?_ ?_;rotate_left
        ·
         rintro w' ⟨s0,s1,s2,s3,s4,s5,s6,s7,s8,s9,s10,s11⟩
         go_simp
         with_reducible rfl
        rotate_left
        ·
         simp only [Act.put,zi,zj,zk,zG,zH]
         rfl
        refine take_ (i:=18) (N:=some 29) (v:=?_) (a':=?_) #[true,true,true,true,true,true,true,false,true,true,true,true,true,false,true,true,true,true,true,false,false,false,false] rfl rfl (yo HT_.out HW_.out (by kernel_rfl)) (fun _ _ _ h=>h) (Or.inl ⟨by rfl,?_⟩) hHeld ?_ ?_;rotate_left
        ·
         rintro w' ⟨s0,s1,s2,s3,s4,s5,s6,s7,s8,s9,s10,s11⟩
         go_simp
         with_reducible rfl
        rotate_left
        ·
         simp only [Act.put,zi,zj,zk,zG,zH]
         rfl
        refine one_ (i:=7) (N:=some 18) #[true,true,true,true,true,true,true,true,true,true,true,true,true,false,true,true,true,true,true,false,false,false,false] rfl rfl (one_of HT_.out (by kernel_rfl)) (by decide) (fun K hK=>?_);refine goes_ Try.func41 (by kernel_rfl) rfl #[.int .i64 (((rd_T43 l0 x4_1).f0).size : Int),.int .i64 1] (by rfl) rfl rfl (by (try simp only [zt,zu,zv]);first|done|rfl|(simp only [zw,zx];rfl)|(simp only [yr,ys,zV,zW];rfl)) ?_
        with_reducible refine (F9.calls k1  (((rd_T43 l0 x4_1).f0).size : Int) 1 t187 _ A5.out).mono ?_
        rintro e w11 ⟨rfl,hb⟩;refine ⟨_,rfl,?_⟩;replace BK185:=zh (cD BK185.out (by (with_reducible repeat first|apply ze|apply zf|apply zg);exact BK185.out) hb);replace HB:=zh (zC (by repeat (with_reducible first|exact HB.out|apply za|apply zb|apply zc|refine zd ?_ GE185.out)) hb);(try clear hb);(try clear hb2);(try clear hk);(try clear hi);refine hK.out _ _ ⟨((HB.out.cell (zl w _ hw186_0)).trans hw186_0),((HB.out.cell (zl w _ hw186_1)).trans hw186_1),((HB.out.cell (zl w _ hw186_2)).trans hw186_2),((HB.out.cell (zl w _ hw186_3)).trans hw186_3),((HB.out.cell (zl w _ hw188_0)).trans hw188_0),((HB.out.cell (zl w _ hw188_1)).trans hw188_1),((HB.out.cell (zl w _ hw188_2)).trans hw188_2),((HB.out.cell (zl w _ hw188_3)).trans hw188_3),((HB.out.cell (zl w _ hw189_0)).trans hw189_0),((HB.out.cell (zl w _ hw189_1)).trans hw189_1),((HB.out.cell (zl w _ hw189_2)).trans hw189_2),((HB.out.cell (zl w _ hw189_3)).trans hw189_3)⟩ (fun hHeld=>?_);clear hK K;refine norm_ (a':=?_) ?_ ?_;rotate_left
        ·
         show Act.put _ (some 18) _=_
         simp only [Act.put,zi,zj,zk,zG,zH]
         rfl
        refine pure_ (i:=13) (N:=some 24) (v:=?_) (a':=?_) (bm_ 19 23) rfl rfl (any_of HT_.out (by kernel_rfl)) (fun _ _ _ h=>h) (Or.inl ⟨by rfl,?_⟩) ?_ ?_;rotate_left
        ·
         intro w'
         go_simp
         with_reducible rfl
        rotate_left
        ·
         simp only [Act.put,zi,zj,zk,zG,zH]
         rfl
        refine one_ (i:=19) (N:=some 30) (bm_ 20 23) rfl rfl (one_of HT_.out (by kernel_rfl)) (by decide) (fun K hK=>?_);refine goes_ Try.func42 (by kernel_rfl) rfl #[.agg #[.int .i64 ((rd_T43 l0 x4_1).f1.f0),.int .i64 ((rd_T43 l0 x4_1).f1.f1),.string ((rd_T43 l0 x4_1).f1.f2)]] (by rfl) rfl rfl (by (try simp only [zt,zu,zv]);first|done|rfl|(simp only [zw,zx];rfl)|(simp only [yr,ys,zV,zW];rfl)) ?_
        with_reducible refine (Fz.calls k1  ((rd_T43 l0 x4_1).f1.f0) ((rd_T43 l0 x4_1).f1.f1) ((rd_T43 l0 x4_1).f1.f2) t190 _ A7.out).mono ?_
        rintro e w12 ⟨rfl,hb⟩;refine ⟨_,rfl,?_⟩;replace BK185:=zh (cD BK185.out (by (with_reducible repeat first|apply ze|apply zf|apply zg);exact BK185.out) hb);replace HB:=zh (zC (by repeat (with_reducible first|exact HB.out|apply za|apply zb|apply zc|refine zd ?_ GE185.out)) hb);(try clear hb);(try clear hb2);(try clear hk);(try clear hi);refine hK.out _ _ ⟨((HB.out.cell (zl w _ hw186_0)).trans hw186_0),((HB.out.cell (zl w _ hw186_1)).trans hw186_1),((HB.out.cell (zl w _ hw186_2)).trans hw186_2),((HB.out.cell (zl w _ hw186_3)).trans hw186_3),((HB.out.cell (zl w _ hw188_0)).trans hw188_0),((HB.out.cell (zl w _ hw188_1)).trans hw188_1),((HB.out.cell (zl w _ hw188_2)).trans hw188_2),((HB.out.cell (zl w _ hw188_3)).trans hw188_3),((HB.out.cell (zl w _ hw189_0)).trans hw189_0),((HB.out.cell (zl w _ hw189_1)).trans hw189_1),((HB.out.cell (zl w _ hw189_2)).trans hw189_2),((HB.out.cell (zl w _ hw189_3)).trans hw189_3)⟩ (fun hHeld=>?_);clear hK K;refine norm_ (a':=?_) ?_ ?_;rotate_left
        ·
         show Act.put _ (some 30) _=_
         simp only [Act.put,zi,zj,zk,zG,zH]
         rfl
        refine pure_ (i:=20) (N:=some 31) (v:=?_) (a':=?_) (bm_ 21 23) rfl rfl (any_of HT_.out (by kernel_rfl)) (fun _ _ _ h=>h) (Or.inl ⟨by rfl,?_⟩) ?_ ?_;rotate_left
        ·
         intro w'
         go_simp
         with_reducible rfl
        rotate_left
        ·
         simp only [Act.put,zi,zj,zk,zG,zH]
         rfl
        refine pure_ (i:=21) (N:=some 32) (v:=?_) (a':=?_) (bm_ 22 23) rfl rfl (any_of HT_.out (by kernel_rfl)) (fun _ _ _ h=>h) (Or.inl ⟨by rfl,?_⟩) ?_ ?_;rotate_left
        ·
         intro w'
         go_simp
         with_reducible rfl
        rotate_left
        ·
         simp only [Act.put,zi,zj,zk,zG,zH]
         rfl
        refine pure_ (i:=22) (N:=some 3) (v:=?_) (a':=?_) (bm_ 23 23) rfl rfl (any_of HT_.out (by kernel_rfl)) (fun _ _ _ h=>h) (Or.inl ⟨by rfl,?_⟩) ?_ ?_;rotate_left
        ·
         intro w'
         go_simp
         with_reducible rfl
        rotate_left
        ·
         simp only [Act.put,zi,zj,zk,zG,zH]
         rfl
        refine done_ (done_of HT_.out (by kernel_rfl)) ?_
        try go_wp2
        go_roundg k1
        case measure=>have:=HK1.out;omega
        case rel=>exact ⟨(x3_1++((t187++((rd_T43 l0 x4_1).f0))++t190)),(wrap64 (x4_1+1)),(by first|rfl|(simp;done)|(simp [*];done)),(by first|rfl|(simp;done)|(simp [*];done)),H',⟨by have:=HK1.out;omega⟩,⟨by (with_reducible repeat first|apply ze|apply zf|apply zg);exact BK185.out⟩,⟨by repeat (with_reducible first|exact HB.out|apply za|apply zb|apply zc|refine zd ?_ GE185.out)⟩⟩
       rw [if_neg c9] at H;exact absurd H (by simp)
      rw [if_neg c8] at H;exact absurd H (by simp)
     rw [if_neg c6] at H;exact absurd H (by simp)
    rw [if_neg c4] at H;exact absurd H (by simp)
   rw [if_neg c3] at H;have c3b0 : decide (x4_1<(l0.length : Int))=false:=decide_eq_false c3;clear c3;simp only [Option.some.injEq,Prod.mk.injEq] at H;obtain ⟨rfl,rfl,rfl⟩:=H;obtain ⟨hcz13_0,hcz13_1,hcz13_2,hfz13_0,hfz13_1,hfz13_2⟩:=cB3 BK185.out
   go_wp2
   refine bodyPost_ret (results_cell_row rfl _ _ gb185 25 #[.int .i64 5,.int .i64 0,.string x3_1] (0,0) _ rfl (by (with_reducible repeat first|apply ze|apply zf|apply zg);refine zL (cs:=#[.int .i64 5,.int .i64 0,.string (⟨#[]⟩ : ByteArray)]) ?_ 2 _ rfl;(with_reducible repeat first|apply ze|apply zf|apply zg);refine zL (cs:=#[.int .i64 5,.int .i64 0,.string (⟨#[]⟩ : ByteArray)]) ?_ 1 _ rfl;(with_reducible repeat first|apply ze|apply zf|apply zg);refine zL (cs:=#[.int .i64 0,.int .i64 0,.string (⟨#[]⟩ : ByteArray)]) ?_ 0 _ rfl;(with_reducible repeat first|apply ze|apply zf|apply zg);exact BK185.out) Try.underlying25 rfl (by kernel_rfl)) rfl ?_;exact ⟨by first|rfl|(simp [yt,yu] <;> rfl)|(simp [*,yt,yu] <;> rfl),by repeat (with_reducible first|exact HB.out|apply za|apply zb|apply zc|refine zd ?_ GE185.out)⟩


def F0.place (x : List S43) (nm : ByteArray) : Nat→Nat
 | 0=>0
 | n+1=>if Op.bytesLess nm.toList (rd_T43 x (n : Int)).f0.toList=true then F0.place x nm n else n+1
theorem F0.place_le (x : List S43) (nm : ByteArray) : ∀ n,F0.place x nm n≤n
 | 0=>ye _
 | n+1=>by
  unfold F0.place
  split
  ·
   exact Nat.le_succ_of_le (F0.place_le x nm n)
  exact ye _
def F0.ins (x : List S43) (f : S43) : List S43:=x.take (F0.place x f.f0 x.length) ++ [f]++x.drop (F0.place x f.f0 x.length)
def F0.go (k : Nat) : List S43→List S43→Option (Int×Int×ByteArray×Int)
 | [],out=>(Fk.f k out).bind fun d=>(F0d.f k d.1 d.2.1 d.2.2).bind fun r=>some (r.1,r.2.1,r.2.2.1,r.2.2.2)
 | f :: rest,out=>(Fy.f k f.f0).bind fun t=>(if t=true then ((F04.f k f.f1.f0 f.f1.f1 f.f1.f2).bind fun u=>(if u=true then (if 0<F0.place out f.f0 out.length∧(rd_T43 out ((F0.place out f.f0 out.length : Int) - 1)).f0.toList=f.f0.toList then (some (0,0,(⟨#[]⟩ : ByteArray),12)) else (F0.go k rest (F0.ins out f))) else (some (0,0,(⟨#[]⟩ : ByteArray),1)))) else (some (0,0,(⟨#[]⟩ : ByteArray),11)))
def F0.f (k : Nat) (l0 : List S43) : Option (Int×Int×ByteArray×Int):=if (l0.length : Int) > 4096 then (some (0,0,(⟨#[]⟩ : ByteArray),2)) else (if (l0.length : Int) > 300 then (some (0,0,(⟨#[]⟩ : ByteArray),10)) else (F0.go k l0 []))
theorem F0.mono_l : ∀ (rest out : List S43) (k : Nat),LeO (F0.go k rest out) (F0.go (k+1) rest out)
 | [],out,k=>by
  unfold F0.go;exact zO (Fk.mono _ _) (fun _=>zO (F0d.mono _ _ _ _) (fun _=>zQ _))
 | f :: rest,out,k=>by
  unfold F0.go;exact zO (Fy.mono _ _) (fun _=>zP (zO (F04.mono _ _ _ _) (fun _=>zP (zP (zQ _) (F0.mono_l rest _ k)) (zQ _))) (zQ _))
theorem F0.mono : ∀ a0 k,LeO (F0.f k a0) (F0.f (k+1) a0):=by
 intro a0 k;unfold F0.f;exact zP (zQ _) (zP (zQ _) (F0.mono_l _ _ _))
theorem F0.w_next (i : Nat) (h : i≤4611686018427387904) : wrap64 ((i : Int)+1)=((i+1 : Nat) : Int):=by unfold wrap64;omega
theorem F0.blk_at {w : World} {g : Nat} {o : Obj} (h : w.heap.size=g) : (w.alloc o).heap[g]? = some o:=by subst h;exact blk_new w o
theorem F0.C_one {w : World} {g : Nat} (p : S43) (h : w.heap[g]? = some (.cells #[.string p.f0,.int .i64 p.f1.f0,.int .i64 p.f1.f1,.string p.f1.f2] 43 (0,0))) : Kd.C k43 w (some ⟨g,0,none⟩) 1 [p] :=
 ⟨rfl,by omega,fun _=>⟨_,rfl,fun j q hj=>by
  cases j with
  | succ j=>simp at hj
  | zero =>
   obtain rfl : p=q:=by simpa using hj
   refine ⟨_,rfl,k43_mk w p,fun i u hi=>?_⟩;rw [add_plain,zz h]
   simpa using hi⟩⟩
theorem F0.gate_step {P : Program} {ops : Array Oper} {o : Oper} {a : Act} {w : World} {K : Act→World→Prop} {Q : Exit→Act→World→Prop} {E : Prop} (N : Tmp) (_ : o.dst=some N) (h : if Region.wanted o (yielded ops a.tmps)=true then Oper.wp P o a w K Q else E) : if Region.wanted o (yielded ops a.tmps)=true then Oper.wp P o a w K Q else E:=h
theorem F0.gate_lit {P : Program} {ops : Array Oper} {o : Oper} {a : Act} {w : World} {K : Act→World→Prop} {Q : Exit→Act→World→Prop} {E : Prop} (s : Operand) (v : Value) (_ : a.eval s=v) (g : Nat) (b : Obj) (h : w.heap[g]? = some b) (k : w.heap[g]? = some b→if Region.wanted o (yielded ops a.tmps)=true then Oper.wp P o a w K Q else E) : if Region.wanted o (yielded ops a.tmps)=true then Oper.wp P o a w K Q else E:=k h
theorem F0.R_empty_at (base : Nat) (W : World) (g : Nat) (hg : W.heap.size=g) (hb : base≤W.heap.size) : Kd.R k43 43 (W.alloc (.cells #[] 43)) base (fun _=>True) (.slice (some ⟨g,0,none⟩) 0 0) []:=by
 subst hg;exact Go.Proofs.Ytoinoihiknmnmaa.Row.R_empty _ _ _ _ _ trivial hb
theorem F0.two_b (W : World) (o b : Obj) : ((W.alloc o).alloc b).heap[W.heap.size+1]? = some b:=F0.blk_at (by simp)
theorem F0.two_c (W : World) (o b : Obj) : ((W.alloc b).alloc o).heap[W.heap.size]? = some b:=zg (F0.blk_at rfl) _
theorem F0.K_M {w w' : World} {base : Nat} {ok : Nat→Prop} (x : S43) (cs : List Value) (h : k43.K w' x cs) : k43.M w base ok x cs:=by rw [k43_open h];exact k43_mkM _ _ _ _
theorem F0.addr {w : World} {base n c : Nat} {ok : Nat→Prop} {A : Option Addr} {xs : List S43} (h : Kd.R k43 43 w base ok (.slice A n c) xs) : (A=none∧c=0) ∨ ∃ g,A=some ⟨g,0,none⟩:=by
 obtain ⟨_,inner,⟨_,h⟩,_⟩:=h;rcases h with ⟨h,_⟩|⟨g,cap,cur,h,_⟩
 ·
  injection h with h1 _ h2;exact .inl ⟨h1,h2⟩
 injection h with h1;exact .inr ⟨g,h1⟩
set_option maxHeartbeats 8000000 in
set_option maxRecDepth 100000 in
theorem F0.calls (k : Nat) (A0 : Option Addr) (c0 : Nat) (l0 : List S43) (r1 : Int) (r2 : Int) (r3 : ByteArray) (r4 : Int) (w : World) (hr0 : Kd.C k43 w A0 l0.length l0) (hc0 : l0.length≤c0) (h : F0.f k l0=some (r1,r2,r3,r4)) :
  Calls Try.prog 6 #[.slice A0 l0.length c0] w fun e w' => e = .returned (.tuple #[.agg #[.int .i64 r1,.int .i64 r2,.string r3],.int .i64 r4])∧Below w.heap.size w w':=by
 have hu25:=Try.underlying25;have hu43:=Try.underlying43;have hz0 : (w.alloc (.cells #[.int .i64 0,.int .i64 0,.string ⟨#[]⟩] 25)).heap[w.heap.size]? = some (.cells #[.int .i64 0,.int .i64 0,.string ⟨#[]⟩] 25 (0,0)):=blk_new w _;unfold F0.f at h
 by_cases c1 : (l0.length : Int) > 4096
 ·
  rw [if_pos c1] at h
  simp only [Option.some.injEq,Prod.mk.injEq] at h;obtain ⟨rfl,rfl,rfl,rfl⟩:=h;have c1b : decide (4096<(l0.length : Int))=true:=decide_eq_true c1
  go_enter Try.func6,Try.ntmps6
  go_wp2_with fail
  refine bodyPost_ret (results_ct rfl _ _ w.heap.size 25 #[.int .i64 0,.int .i64 0,.string ⟨#[]⟩] (0,0) _ rfl hz0 hu25 rfl (by kernel_rfl)) rfl ?_;exact ⟨rfl,za (Below.refl _ _) _⟩
 rw [if_neg c1] at h;have c1b : decide (4096<(l0.length : Int))=false:=decide_eq_false (by omega)
 by_cases c2 : (l0.length : Int) > 300
 ·
  rw [if_pos c2] at h
  simp only [Option.some.injEq,Prod.mk.injEq] at h;obtain ⟨rfl,rfl,rfl,rfl⟩:=h;have c2b : decide (300<(l0.length : Int))=true:=decide_eq_true c2
  go_enter Try.func6,Try.ntmps6
  go_wp2_with fail
  refine bodyPost_ret (results_ct rfl _ _ w.heap.size 25 #[.int .i64 0,.int .i64 0,.string ⟨#[]⟩] (0,0) _ rfl hz0 hu25 rfl (by kernel_rfl)) rfl ?_;exact ⟨rfl,za (Below.refl _ _) _⟩
 rw [if_neg c2] at h;have c2b : decide (300<(l0.length : Int))=false:=decide_eq_false (by omega);have hl300 : l0.length≤300:=by omega
 clear c1 c2
 go_enter Try.func6,Try.ntmps6
 go_wp2_with fail
 go_loopg [4,5] l0.length (fun kq v4 v5 w' => ∃ (i : Nat) (out : List S43),v5 = .int .i64 (i : Int)∧Aside0 (kq+i=l0.length)∧Aside0 (F0.go k (l0.drop i) out=some (r1,r2,r3,r4))∧Aside0 (out.length≤i)∧Aside0 (Kd.R k43 43 w' w.heap.size (fun _=>True) v4 out)∧Aside0 (w'.heap[w.heap.size]? = some (.cells #[.int .i64 0,.int .i64 0,.string ⟨#[]⟩] 25 (0,0)))∧Aside0 (Below w.heap.size w w'))
 case atStart =>
  refine ⟨0,[],rfl,⟨by omega⟩,⟨by rw [List.drop_zero];exact h⟩,⟨ye _⟩,⟨?_⟩,⟨zg hz0 _⟩,⟨za (za (Below.refl _ _) _) _⟩⟩;have h9:=Go.Proofs.Ytoinoihiknmnmaa.Row.R_empty k43 43 w.heap.size (w.alloc (.cells #[.int .i64 0,.int .i64 0,.string ⟨#[]⟩] 25)) (fun _=>True) trivial (by simp)
  simpa using h9
 case round =>
  obtain ⟨i,out,rfl,HI,HG,HL,HO,HZ,HB⟩:=hrel;obtain ⟨A4,c4,rfl⟩:=yk HO.out
  by_cases hil : i<l0.length
  ·
   have c3 : decide ((i : Int)<(l0.length : Int))=true:=decide_eq_true (Int.ofNat_lt.2 hil)
   have hi0 : (0≤(i : Int))=True:=eq_true (Int.natCast_nonneg i);have hilt : ((i : Int)<(l0.length : Int))=True:=eq_true (Int.ofNat_lt.2 hil);have hwi:=F0.w_next i (by omega);obtain ⟨kq,rfl⟩ : ∃ kq,gk=kq+1:=⟨gk - 1,by have:=HI.out;omega⟩;obtain ⟨ad,hA,hx0,hx1,hx2,hx3⟩:=at_T43 hr0 (i : Int) (Int.natCast_nonneg i) (Int.ofNat_lt.2 hil)
   cases hA
   obtain ⟨f,hf⟩ : ∃ f,f=l0[i]:=⟨_,rfl⟩
   have er : rd_T43 l0 (i : Int)=f:=by
    unfold rd_T43;rw [List.getD_eq_getElem?_getD,Int.toNat_natCast,List.getElem?_eq_getElem hil,hf];rfl
   rw [er] at hx0 hx1 hx2 hx3;rw [Int.toNat_natCast] at hx0 hx1 hx2 hx3;replace hx0:=(HB.out.cell (zl w _ hx0)).trans hx0;replace hx1:=(HB.out.cell (zl w _ hx1)).trans hx1;replace hx2:=(HB.out.cell (zl w _ hx2)).trans hx2;replace hx3:=(HB.out.cell (zl w _ hx3)).trans hx3;have h:=HG.out;rw [List.drop_eq_getElem_cons hil,← hf] at h;clear HG hf er;unfold F0.go at h;obtain ⟨t,hT,h⟩:=zT.mp h;obtain ⟨gf,hgf⟩ : ∃ gf,gf=wr.heap.size:=⟨_,rfl⟩;obtain ⟨V,hV⟩ : ∃ V,V=wr.alloc (.cells #[.string f.f0,.int .i64 f.f1.f0,.int .i64 f.f1.f1,.string f.f1.f2] 43):=⟨_,rfl⟩;have hVb : V.heap[gf]? = some (.cells #[.string f.f0,.int .i64 f.f1.f0,.int .i64 f.f1.f1,.string f.f1.f2] 43 (0,0)):=by rw [hV,hgf];exact blk_new wr _
   have hbV : Below wr.heap.size wr V:=by rw [hV];exact za (Below.refl _ _) _
   have k0:=zz hVb 0;have k1:=zz hVb 1;have k2:=zz hVb 2;have k3:=zz hVb 3;have HBV:=zh (zC HB.out hbV);have HOV:=zh (yg HO.out hbV);have HZV:=zh (zD HZ.out hbV)
   go_wp2_with fail
   rw [← hV];simp only [← hgf];clear hgf
   go_at_call 19
   refine (Fy.calls k f.f0 t _ hT).mono ?_;rintro e w1 ⟨rfl,hd1⟩;have hb1:=hd1.below;have HV1:=zh (zD hVb hb1);have HB1:=zh (zC HBV.out hb1);have HO1:=zh (yg HOV.out hb1);have HZ1:=zh (zD HZV.out hb1);clear HBV HOV HZV HB HO HZ hx0 hx1 hx2 hx3 k0 k1 k2 k3 hd1 hb1 hVb hbV hV
   cases t with
   | false =>
    have h : (some (0,0,(⟨#[]⟩ : ByteArray),11) : Option (Int×Int×ByteArray×Int))=some (r1,r2,r3,r4):=by rw [if_neg (by decide)] at h;exact h
    simp only [Option.some.injEq,Prod.mk.injEq] at h;obtain ⟨rfl,rfl,rfl,rfl⟩:=h;have q0:=zz HZ1.out 0;have q1:=zz HZ1.out 1;have q2:=zz HZ1.out 2;have f0:=zA HZ1.out 0;have f1:=zA HZ1.out 1;have f2:=zA HZ1.out 2;have hz4:=blk_set (blk_set (blk_set HZ1.out 0 (.int .i64 0)) 1 (.int .i64 0)) 2 (.string ⟨#[]⟩)
    go_wp2_with fail
    refine bodyPost_ret (results_ct rfl _ _ w.heap.size 25 #[.int .i64 0,.int .i64 0,.string ⟨#[]⟩] (0,0) _ rfl hz4 hu25 rfl (by kernel_rfl)) rfl ?_;exact ⟨rfl,zd (zd (zd HB1.out (ye _)) (ye _)) (ye _)⟩
   | true =>
   rw [if_pos rfl] at h;obtain ⟨u,hU,h⟩:=zT.mp h;have k0:=zz HV1.out 0;have k1:=zz HV1.out 1;have k2:=zz HV1.out 2;have k3:=zz HV1.out 3
   go_wp2_with fail
   go_at_call 20
   refine (F04.calls k f.f1.f0 f.f1.f1 f.f1.f2 u _ hU).mono ?_;rintro e w2 ⟨rfl,hb2⟩;have HV2:=zh (zD HV1.out hb2);have HB2:=zh (zC HB1.out hb2);have HO2:=zh (yg HO1.out hb2);have HZ2:=zh (zD HZ1.out hb2);clear HB1 HO1 HZ1 HV1 k0 k1 k2 k3 hb2 hT hU
   cases u with
   | false =>
    have h : (some (0,0,(⟨#[]⟩ : ByteArray),1) : Option (Int×Int×ByteArray×Int))=some (r1,r2,r3,r4):=by rw [if_neg (by decide)] at h;exact h
    simp only [Option.some.injEq,Prod.mk.injEq] at h;obtain ⟨rfl,rfl,rfl,rfl⟩:=h;have q0:=zz HZ2.out 0;have q1:=zz HZ2.out 1;have q2:=zz HZ2.out 2;have f0:=zA HZ2.out 0;have f1:=zA HZ2.out 1;have f2:=zA HZ2.out 2;have hz4:=blk_set (blk_set (blk_set HZ2.out 0 (.int .i64 0)) 1 (.int .i64 0)) 2 (.string ⟨#[]⟩)
    go_wp2_with fail
    refine bodyPost_ret (results_ct rfl _ _ w.heap.size 25 #[.int .i64 0,.int .i64 0,.string ⟨#[]⟩] (0,0) _ rfl hz4 hu25 rfl (by kernel_rfl)) rfl ?_;exact ⟨rfl,zd (zd (zd HB2.out (ye _)) (ye _)) (ye _)⟩
   | true =>
   rw [if_pos rfl] at h;obtain ⟨P,hP⟩ : ∃ P,P=F0.place out f.f0 out.length:=⟨_,rfl⟩;have HPL : P≤out.length:=hP ▸ F0.place_le out f.f0 out.length;have HPE:=zh hP.symm;clear hP;have HH:=zh h;clear h
   go_wp2_with fail
   go_loopg [7] out.length (fun kn v7 w' => ∃ (n : Nat),v7 = .int .i64 (n : Int)∧Aside0 (kn=n)∧Aside0 (n≤out.length∧F0.place out f.f0 n=P)∧Aside0 (Drawn0 w2 w'))
   case atStart=>exact ⟨out.length,rfl,⟨rfl⟩,⟨ye _,HPE.out⟩,⟨yp _⟩⟩
   case round =>
    obtain ⟨n,rfl,HN,HP,HD⟩:=hrel;have HV3:=zh (zD HV2.out HD.out.below);have HB3:=zh (zC HB2.out HD.out.below);have HO3:=zh (yg HO2.out HD.out.below);have HZ3:=zh (zD HZ2.out HD.out.below);have k0:=zz HV3.out 0;obtain ⟨hn,hp⟩:=HP.out;have hol : out.length≤300:=Nat.le_trans HL.out (Nat.le_trans (Nat.le_of_lt hil) hl300)
    by_cases hn0 : n=0
    ·
     subst hn0
     have hP0 : P=0:=hp.symm;subst hP0;clear hp hn
     go_wp2_with fail
     go_quiet (fail)
     go_wp2_with fail
     go_quiet (fail)
     go_wp2_with fail
     have HH0:=HH.out;rw [HPE.out] at HH0;rw [if_neg (fun h9=>absurd h9.1 (Nat.lt_irrefl 0))] at HH0;have HG1:=zh HH0;clear HH HH0;generalize hW0 : World.drewN (World.drewN wr _) _=W0;have HV4 : Aside0 (W0.heap[gf]? = some (.cells #[.string f.f0,.int .i64 f.f1.f0,.int .i64 f.f1.f1,.string f.f1.f2] 43 (0,0))):=⟨by rw [← hW0];exact HV3.out⟩;have HO4 : Aside0 (Kd.R k43 43 W0 w.heap.size (fun _=>True) (.slice A4 out.length c4) out):=⟨by rw [← hW0];exact zn (zn HO3.out _) _⟩;have HZ4 : Aside0 (W0.heap[w.heap.size]? = some (.cells #[.int .i64 0,.int .i64 0,.string ⟨#[]⟩] 25 (0,0))):=⟨by rw [← hW0];exact HZ3.out⟩;have HB4 : Aside0 (Below w.heap.size w W0):=⟨by rw [← hW0];exact zb (zb HB3.out _) _⟩;clear hW0 HV3 HO3 HZ3 HB3 HV2 HO2 HZ2 HB2 HD
     have hsrc1 : Kd.C k43 W0 A4 0 (out.take 0):=by
      have h9:=Kd.C_take (yh HO4.out).2.2 HPL
      rwa [zx,Nat.min_eq_left HPL] at h9
     have hsrc2:=Kd.C_drop (c:=c4) (m:=0) (yh HO4.out).2.2 HPL (yh HO4.out).2.1;rw [zw] at hsrc2;have hgf : gf<W0.heap.size:=yi HV4.out;have k0 : W0.cell? ⟨gf,0,none⟩=some (.string f.f0):=(zz HV4.out 0).trans rfl;have k1 : W0.cell? ⟨gf,1,none⟩=some (.int .i64 f.f1.f0):=(zz HV4.out 1).trans rfl;have k2 : W0.cell? ⟨gf,2,none⟩=some (.int .i64 f.f1.f1):=(zz HV4.out 2).trans rfl;have k3 : W0.cell? ⟨gf,3,none⟩=some (.string f.f1.f2):=(zz HV4.out 3).trans rfl;have hPc : 0≤c4:=Nat.le_trans HPL (yh HO4.out).2.1;have hw0 : w.heap.size≤W0.heap.size:=HB4.out.size;have hWl : ∀ W1,Below W0.heap.size W0 W1→Kd.C k43 W1 A4 0 (out.take 0):=fun W1 hb=>Kd.C_below hsrc1 hb;have hWd : ∀ W1,Below W0.heap.size W0 W1→Kd.C k43 W1 (if c4=0 then A4 else A4.map (·.add (0*4))) (out.length - 0) (out.drop 0):=fun W1 hb=>Kd.C_below hsrc2 hb
     have HF : Aside0 (F0.go k (l0.drop (i+1)) (out.take 0 ++ [f]++out.drop 0)=some (r1,r2,r3,r4)):=⟨by
      have h9:=HG1.out;unfold F0.ins at h9;rw [HPE.out] at h9
      exact h9⟩
     clear HG1 HPE
     by_cases hcP : c4=0
     ·
      rw [if_pos hcP] at hWd
      subst c4;clear hsrc1 hsrc2
      have hcell : ∀ W1,Below W0.heap.size W0 W1→(W1.cell? ⟨gf,0,none⟩=some (.string f.f0)∧W1.cell? ⟨gf,1,none⟩=some (.int .i64 f.f1.f0)∧W1.cell? ⟨gf,2,none⟩=some (.int .i64 f.f1.f1)∧W1.cell? ⟨gf,3,none⟩=some (.string f.f1.f2)) :=
       fun W1 hb=>⟨(hb.cell hgf).trans k0,(hb.cell hgf).trans k1,(hb.cell hgf).trans k2,(hb.cell hgf).trans k3⟩
      go_region_held3 (fun w' => w'.cell? ⟨gf,0,none⟩=some (.string f.f0)∧w'.cell? ⟨gf,1,none⟩=some (.int .i64 f.f1.f0)∧w'.cell? ⟨gf,2,none⟩=some (.int .i64 f.f1.f1)∧w'.cell? ⟨gf,3,none⟩=some (.string f.f1.f2))
       (exact hcell _ (by repeat (first|assumption|exact Below.refl _ _|apply za|apply zc|apply zb)))
       (first
        | ((with_reducible refine F0.gate_step 72 rfl ?_);refine F0.gate_lit (.tmp 68) (.slice (some ⟨W0.heap.size+1,0,none⟩) 0 0) (by rfl) W0.heap.size (.cells #[.string f.f0,.int .i64 f.f1.f0,.int .i64 f.f1.f1,.string f.f1.f2] 43) (F0.two_c W0 (.cells #[] 43) _) ?_;intro HL0;refine Kd.R_append_rows_step k43 (w0:=W0) W0.heap.size (by rfl) (.tmp 68) (.tmp 71) 28 43 (.agg #[(.string ⟨#[]⟩),(.int .i64 0),(.int .i64 0),(.string ⟨#[]⟩)]) 48 (by rfl) Try.underlying28 info43 rfl (by decide) (by decide) (.slice (some ⟨W0.heap.size+1,0,none⟩) 0 0) [] (out.take 0) A4 0 0 (fun _=>True) (fun _=>False) (by rfl) (by rfl) (by repeat (first|exact F0.R_empty_at _ _ _ (by first|(simp;done)|rfl) (by first|exact ye _|(simp;done))|apply zm|apply zo|apply zn)) (hWl _ (by repeat (first|assumption|exact Below.refl _ _|apply za|apply zc|apply zb))) (fun x cs h9=>F0.K_M x cs h9) (fun _ h9=>h9.elim) (fun _ _=>trivial) (by repeat (first|assumption|exact Below.refl _ _|apply za|apply zc|apply zb)) (by first|exact ye _|(simp;done)|(simp;omega)) (by rw [List.length_nil,Nat.zero_add];omega) ?_;intro v72 w72 hR72 hB72 hg72 hat72;have HLIT:=yw HL0 hg72 (by simp [Value.ownBlock]))
        | ((with_reducible refine F0.gate_step 72 rfl ?_);refine F0.gate_lit (.tmp 68) (.slice (some ⟨W0.heap.size,0,none⟩) 0 0) (by rfl) (W0.heap.size+1) (.cells #[.string f.f0,.int .i64 f.f1.f0,.int .i64 f.f1.f1,.string f.f1.f2] 43) (F0.two_b W0 (.cells #[] 43) _) ?_;intro HL0;refine Kd.R_append_rows_step k43 (w0:=W0) W0.heap.size (by rfl) (.tmp 68) (.tmp 71) 28 43 (.agg #[(.string ⟨#[]⟩),(.int .i64 0),(.int .i64 0),(.string ⟨#[]⟩)]) 48 (by rfl) Try.underlying28 info43 rfl (by decide) (by decide) (.slice (some ⟨W0.heap.size,0,none⟩) 0 0) [] (out.take 0) A4 0 0 (fun _=>True) (fun _=>False) (by rfl) (by rfl) (by repeat (first|exact F0.R_empty_at _ _ _ (by first|(simp;done)|rfl) (by first|exact ye _|(simp;done))|apply zm|apply zo|apply zn)) (hWl _ (by repeat (first|assumption|exact Below.refl _ _|apply za|apply zc|apply zb))) (fun x cs h9=>F0.K_M x cs h9) (fun _ h9=>h9.elim) (fun _ _=>trivial) (by repeat (first|assumption|exact Below.refl _ _|apply za|apply zc|apply zb)) (by first|exact ye _|(simp;done)|(simp;omega)) (by rw [List.length_nil,Nat.zero_add];omega) ?_;intro v72 w72 hR72 hB72 hg72 hat72;have HLIT:=yw HL0 hg72 (by simp [Value.ownBlock]))
        | ((with_reducible refine F0.gate_step 72 rfl ?_);refine Kd.R_append_rows_step k43 (w0:=W0) W0.heap.size (by rfl) (.tmp 68) (.tmp 71) 28 43 (.agg #[(.string ⟨#[]⟩),(.int .i64 0),(.int .i64 0),(.string ⟨#[]⟩)]) 48 (by rfl) Try.underlying28 info43 rfl (by decide) (by decide) (.slice (some ⟨W0.heap.size,0,none⟩) 0 0) [] (out.take 0) A4 0 0 (fun _=>True) (fun _=>False) (by rfl) (by rfl) (by repeat (first|exact F0.R_empty_at _ _ _ (by first|(simp;done)|rfl) (by first|exact ye _|(simp;done))|apply zm|apply zo|apply zn)) (hWl _ (by repeat (first|assumption|exact Below.refl _ _|apply za|apply zc|apply zb))) (fun x cs h9=>F0.K_M x cs h9) (fun _ h9=>h9.elim) (fun _ _=>trivial) (by repeat (first|assumption|exact Below.refl _ _|apply za|apply zc|apply zb)) (by first|exact ye _|(simp;done)|(simp;omega)) (by rw [List.length_nil,Nat.zero_add];omega) ?_;intro v72 w72 hR72 hB72 hg72 hat72)
        | ((with_reducible refine F0.gate_step 75 rfl ?_);refine Kd.R_append_rows_step k43 (w0:=W0) W0.heap.size (by rfl) (.tmp 72) (.tmp 74) 28 43 (.agg #[(.string ⟨#[]⟩),(.int .i64 0),(.int .i64 0),(.string ⟨#[]⟩)]) 48 (by rfl) Try.underlying28 info43 rfl (by decide) (by decide) v72 (out.take 0) [f] _ 1 1 (fun _=>True) (fun _=>False) (by rfl) (by rfl) (by repeat (first|exact hR72|apply zm|apply zo|apply zn)) (F0.C_one f (by repeat (first|exact HLIT|exact blk_new _ _|refine zf ?_|refine ze ?_ _))) (fun x cs h9=>F0.K_M x cs h9) (fun _ h9=>h9.elim) (fun _ _=>trivial) (by repeat (first|exact hB72|exact hB75|assumption|exact Below.refl _ _|apply za|apply zc|apply zb)) (by have h8:=hB72.size;first|(simp;omega)|omega) (by rw [zx];omega) ?_;intro v75 w75 hR75 hB75 hg75 hat75)
        | ((with_reducible refine F0.gate_step 79 rfl ?_);refine Kd.R_append_rows_step k43 (w0:=W0) W0.heap.size (by rfl) (.tmp 75) (.tmp 78) 28 43 (.agg #[(.string ⟨#[]⟩),(.int .i64 0),(.int .i64 0),(.string ⟨#[]⟩)]) 48 (by rfl) Try.underlying28 info43 rfl (by decide) (by decide) v75 (out.take 0 ++ [f]) (out.drop 0) _ (out.length - 0) 0 (fun _=>True) (fun _=>False) (by rfl) (by rfl) (by repeat (first|exact hR75|apply zm|apply zo|apply zn)) (hWd _ (by repeat (first|exact hB72|exact hB75|assumption|exact Below.refl _ _|apply za|apply zc|apply zb))) (fun x cs h9=>F0.K_M x cs h9) (fun _ h9=>h9.elim) (fun _ _=>trivial) (by repeat (first|exact hB72|exact hB75|assumption|exact Below.refl _ _|apply za|apply zc|apply zb)) (by have h8:=hB75.size;first|(simp;omega)|omega) (by rw [List.length_append,zx,List.length_singleton];omega) ?_;intro v79 w79 hR79 hB79 hg79 hat79))
      all_goals (
       go_wp2_with fail
       go_roundg kq
       case measure=>exact Nat.lt_succ_self _
       case rel=>exact ⟨i+1,_,by first|rfl|rw [hwi],⟨by have:=HI.out;omega⟩,HF,⟨by rw [List.length_append,List.length_append,zx,zw,List.length_singleton];have:=HL.out;omega⟩,⟨yy hR79 hw0⟩,⟨zD HZ4.out hB79⟩,⟨zC HB4.out hB79⟩⟩)
     rcases F0.addr HO4.out with ⟨hA4,hc4⟩|⟨ga,hA4⟩
     ·
      exact absurd (Nat.le_antisymm (by rw [hc4];exact Nat.zero_le _) hPc) hcP
     cases hA4
     rw [if_neg hcP,show (some (⟨ga,0,none⟩ : Addr)).map (·.add (0*4))=some ⟨ga,0*4,none⟩ from congrArg some (add_plain _ _)] at hWd;clear hsrc1 hsrc2
     have hcell : ∀ W1,Below W0.heap.size W0 W1→(W1.cell? ⟨gf,0,none⟩=some (.string f.f0)∧W1.cell? ⟨gf,1,none⟩=some (.int .i64 f.f1.f0)∧W1.cell? ⟨gf,2,none⟩=some (.int .i64 f.f1.f1)∧W1.cell? ⟨gf,3,none⟩=some (.string f.f1.f2)) :=
      fun W1 hb=>⟨(hb.cell hgf).trans k0,(hb.cell hgf).trans k1,(hb.cell hgf).trans k2,(hb.cell hgf).trans k3⟩
     go_region_held3 (fun w' => w'.cell? ⟨gf,0,none⟩=some (.string f.f0)∧w'.cell? ⟨gf,1,none⟩=some (.int .i64 f.f1.f0)∧w'.cell? ⟨gf,2,none⟩=some (.int .i64 f.f1.f1)∧w'.cell? ⟨gf,3,none⟩=some (.string f.f1.f2))
      (exact hcell _ (by repeat (first|assumption|exact Below.refl _ _|apply za|apply zc|apply zb)))
      (first
       | ((with_reducible refine F0.gate_step 72 rfl ?_);refine F0.gate_lit (.tmp 68) (.slice (some ⟨W0.heap.size+1,0,none⟩) 0 0) (by rfl) W0.heap.size (.cells #[.string f.f0,.int .i64 f.f1.f0,.int .i64 f.f1.f1,.string f.f1.f2] 43) (F0.two_c W0 (.cells #[] 43) _) ?_;intro HL0;refine Kd.R_append_rows_step k43 (w0:=W0) W0.heap.size (by rfl) (.tmp 68) (.tmp 71) 28 43 (.agg #[(.string ⟨#[]⟩),(.int .i64 0),(.int .i64 0),(.string ⟨#[]⟩)]) 48 (by rfl) Try.underlying28 info43 rfl (by decide) (by decide) (.slice (some ⟨W0.heap.size+1,0,none⟩) 0 0) [] (out.take 0) (some ⟨ga,0,none⟩) 0 c4 (fun _=>True) (fun _=>False) (by rfl) (by rfl) (by repeat (first|exact F0.R_empty_at _ _ _ (by first|(simp;done)|rfl) (by first|exact ye _|(simp;done))|apply zm|apply zo|apply zn)) (hWl _ (by repeat (first|assumption|exact Below.refl _ _|apply za|apply zc|apply zb))) (fun x cs h9=>F0.K_M x cs h9) (fun _ h9=>h9.elim) (fun _ _=>trivial) (by repeat (first|assumption|exact Below.refl _ _|apply za|apply zc|apply zb)) (by first|exact ye _|(simp;done)|(simp;omega)) (by rw [List.length_nil,Nat.zero_add];omega) ?_;intro v72 w72 hR72 hB72 hg72 hat72;have HLIT:=yw HL0 hg72 (by simp [Value.ownBlock]))
       | ((with_reducible refine F0.gate_step 72 rfl ?_);refine F0.gate_lit (.tmp 68) (.slice (some ⟨W0.heap.size,0,none⟩) 0 0) (by rfl) (W0.heap.size+1) (.cells #[.string f.f0,.int .i64 f.f1.f0,.int .i64 f.f1.f1,.string f.f1.f2] 43) (F0.two_b W0 (.cells #[] 43) _) ?_;intro HL0;refine Kd.R_append_rows_step k43 (w0:=W0) W0.heap.size (by rfl) (.tmp 68) (.tmp 71) 28 43 (.agg #[(.string ⟨#[]⟩),(.int .i64 0),(.int .i64 0),(.string ⟨#[]⟩)]) 48 (by rfl) Try.underlying28 info43 rfl (by decide) (by decide) (.slice (some ⟨W0.heap.size,0,none⟩) 0 0) [] (out.take 0) (some ⟨ga,0,none⟩) 0 c4 (fun _=>True) (fun _=>False) (by rfl) (by rfl) (by repeat (first|exact F0.R_empty_at _ _ _ (by first|(simp;done)|rfl) (by first|exact ye _|(simp;done))|apply zm|apply zo|apply zn)) (hWl _ (by repeat (first|assumption|exact Below.refl _ _|apply za|apply zc|apply zb))) (fun x cs h9=>F0.K_M x cs h9) (fun _ h9=>h9.elim) (fun _ _=>trivial) (by repeat (first|assumption|exact Below.refl _ _|apply za|apply zc|apply zb)) (by first|exact ye _|(simp;done)|(simp;omega)) (by rw [List.length_nil,Nat.zero_add];omega) ?_;intro v72 w72 hR72 hB72 hg72 hat72;have HLIT:=yw HL0 hg72 (by simp [Value.ownBlock]))
       | ((with_reducible refine F0.gate_step 72 rfl ?_);refine Kd.R_append_rows_step k43 (w0:=W0) W0.heap.size (by rfl) (.tmp 68) (.tmp 71) 28 43 (.agg #[(.string ⟨#[]⟩),(.int .i64 0),(.int .i64 0),(.string ⟨#[]⟩)]) 48 (by rfl) Try.underlying28 info43 rfl (by decide) (by decide) (.slice (some ⟨W0.heap.size,0,none⟩) 0 0) [] (out.take 0) (some ⟨ga,0,none⟩) 0 c4 (fun _=>True) (fun _=>False) (by rfl) (by rfl) (by repeat (first|exact F0.R_empty_at _ _ _ (by first|(simp;done)|rfl) (by first|exact ye _|(simp;done))|apply zm|apply zo|apply zn)) (hWl _ (by repeat (first|assumption|exact Below.refl _ _|apply za|apply zc|apply zb))) (fun x cs h9=>F0.K_M x cs h9) (fun _ h9=>h9.elim) (fun _ _=>trivial) (by repeat (first|assumption|exact Below.refl _ _|apply za|apply zc|apply zb)) (by first|exact ye _|(simp;done)|(simp;omega)) (by rw [List.length_nil,Nat.zero_add];omega) ?_;intro v72 w72 hR72 hB72 hg72 hat72)
       | ((with_reducible refine F0.gate_step 75 rfl ?_);refine Kd.R_append_rows_step k43 (w0:=W0) W0.heap.size (by rfl) (.tmp 72) (.tmp 74) 28 43 (.agg #[(.string ⟨#[]⟩),(.int .i64 0),(.int .i64 0),(.string ⟨#[]⟩)]) 48 (by rfl) Try.underlying28 info43 rfl (by decide) (by decide) v72 (out.take 0) [f] _ 1 1 (fun _=>True) (fun _=>False) (by rfl) (by rfl) (by repeat (first|exact hR72|apply zm|apply zo|apply zn)) (F0.C_one f (by repeat (first|exact HLIT|exact blk_new _ _|refine zf ?_|refine ze ?_ _))) (fun x cs h9=>F0.K_M x cs h9) (fun _ h9=>h9.elim) (fun _ _=>trivial) (by repeat (first|exact hB72|exact hB75|assumption|exact Below.refl _ _|apply za|apply zc|apply zb)) (by have h8:=hB72.size;first|(simp;omega)|omega) (by rw [zx];omega) ?_;intro v75 w75 hR75 hB75 hg75 hat75)
       | ((with_reducible refine F0.gate_step 79 rfl ?_);refine Kd.R_append_rows_step k43 (w0:=W0) W0.heap.size (by rfl) (.tmp 75) (.tmp 78) 28 43 (.agg #[(.string ⟨#[]⟩),(.int .i64 0),(.int .i64 0),(.string ⟨#[]⟩)]) 48 (by rfl) Try.underlying28 info43 rfl (by decide) (by decide) v75 (out.take 0 ++ [f]) (out.drop 0) _ (out.length - 0) (c4 - 0) (fun _=>True) (fun _=>False) (by rfl) (by rfl) (by repeat (first|exact hR75|apply zm|apply zo|apply zn)) (hWd _ (by repeat (first|exact hB72|exact hB75|assumption|exact Below.refl _ _|apply za|apply zc|apply zb))) (fun x cs h9=>F0.K_M x cs h9) (fun _ h9=>h9.elim) (fun _ _=>trivial) (by repeat (first|exact hB72|exact hB75|assumption|exact Below.refl _ _|apply za|apply zc|apply zb)) (by have h8:=hB75.size;first|(simp;omega)|omega) (by rw [List.length_append,zx,List.length_singleton];omega) ?_;intro v79 w79 hR79 hB79 hg79 hat79))
     all_goals (
      go_wp2_with fail
      go_roundg kq
      case measure=>exact Nat.lt_succ_self _
      case rel=>exact ⟨i+1,_,by first|rfl|rw [hwi],⟨by have:=HI.out;omega⟩,HF,⟨by rw [List.length_append,List.length_append,zx,zw,List.length_singleton];have:=HL.out;omega⟩,⟨yy hR79 hw0⟩,⟨zD HZ4.out hB79⟩,⟨zC HB4.out hB79⟩⟩)
    obtain ⟨m,hm⟩ : ∃ m,n=m+1:=⟨n - 1,by omega⟩;have hml : m<out.length:=by omega
    have c5 : decide ((0 : Int)<(n : Int))=true:=decide_eq_true (by omega);have c5n : decide (0<n)=true:=decide_eq_true (by omega);have hw5 : IntKind.i64.wrap ((n : Int) - 1)=(m : Int):=by rw [IntKind.wrap_i64,hm];omega
    have hm0 : (0≤(m : Int))=True:=eq_true (Int.natCast_nonneg m);have hmlt : ((m : Int)<(out.length : Int))=True:=eq_true (Int.ofNat_lt.2 hml);obtain ⟨ao,hAo,hy0,hy1,hy2,hy3⟩:=at_T43 (yh HO3.out).2.2 (m : Int) (Int.natCast_nonneg m) (Int.ofNat_lt.2 hml);subst hAo;rw [Int.toNat_natCast] at hy0;have hpm : F0.place out f.f0 (m+1)=P:=by rw [← hm];exact hp
    unfold F0.place at hpm;clear hp hy1 hy2 hy3
    by_cases c6 : Op.bytesLess f.f0.toList (rd_T43 out (m : Int)).f0.toList=true
    ·
     rw [if_pos c6] at hpm
     have HPm:=zh hpm;clear hpm
     go_wp2_with fail
     go_quiet (fail)
     go_wp2_with fail
     go_roundg m
     case measure=>have:=HN.out;omega
     case rel=>exact ⟨m,by first|rfl|rw [hw5],⟨rfl⟩,⟨by omega,HPm.out⟩,⟨HD.out.step _⟩⟩
    rw [if_neg c6] at hpm;have c6b : Op.bytesLess f.f0.toList (rd_T43 out (m : Int)).f0.toList=false:=by simpa using c6
    have hPn : P=n:=by omega
    clear hpm;subst P;have hi9 : ((n : Int) - 1)=(m : Int):=by omega
    have HH0:=HH.out;rw [HPE.out,hi9] at HH0;clear hi9 c6 HH
    by_cases c7 : (rd_T43 out (m : Int)).f0.toList=f.f0.toList
    ·
     rw [if_pos ⟨by omega,c7⟩] at HH0
     have c7b : ((rd_T43 out (m : Int)).f0.toList == f.f0.toList)=true:=ya.mpr c7;clear c7;simp only [Option.some.injEq,Prod.mk.injEq] at HH0;obtain ⟨rfl,rfl,rfl,rfl⟩:=HH0;have q0:=zz HZ3.out 0;have q1:=zz HZ3.out 1;have q2:=zz HZ3.out 2;have f0:=zA HZ3.out 0;have f1:=zA HZ3.out 1;have f2:=zA HZ3.out 2
     go_wp2_with fail
     go_quiet (fail)
     go_wp2_with fail
     go_quiet (fail)
     generalize hWW : World.drewN (World.drewN wr _) _=WW;have HZW : Aside0 (WW.heap[w.heap.size]? = some (.cells #[.int .i64 0,.int .i64 0,.string ⟨#[]⟩] 25 (0,0))):=⟨by rw [← hWW];exact HZ3.out⟩;have HBW : Aside0 (Below w.heap.size w WW):=⟨by rw [← hWW];exact zb (zb HB3.out _) _⟩;clear hWW q0 q1 q2 f0 f1 f2;have q0:=zz HZW.out 0;have q1:=zz HZW.out 1;have q2:=zz HZW.out 2;have f0:=zA HZW.out 0;have f1:=zA HZW.out 1;have f2:=zA HZW.out 2
     go_wp2_with fail
     refine bodyPost_ret (results_ct rfl _ _ w.heap.size 25 #[.int .i64 0,.int .i64 0,.string ⟨#[]⟩] (0,0) _ rfl (blk_set (blk_set (blk_set HZW.out 0 (.int .i64 0)) 1 (.int .i64 0)) 2 (.string ⟨#[]⟩)) hu25 rfl (by kernel_rfl)) rfl ?_;exact ⟨rfl,zd (zd (zd HBW.out (ye _)) (ye _)) (ye _)⟩
    rw [if_neg (fun h9=>c7 h9.2)] at HH0;have c7b : ((rd_T43 out (m : Int)).f0.toList == f.f0.toList)=false:=zY.mpr c7;have HG1:=zh HH0;clear HH0 hm c7;have hn1 : (0 : Int)≤(n : Int):=Int.natCast_nonneg n;have hn2 : (n : Int)≤(out.length : Int):=Int.ofNat_le.2 hn;have hn3 : (n : Int)≤(c4 : Int):=Int.ofNat_le.2 (Nat.le_trans hn (yh HO3.out).2.1)
    go_wp2_with fail
    go_quiet (fail)
    go_wp2_with fail
    go_quiet (fail)
    go_wp2_with fail
    generalize hW0 : World.drewN (World.drewN wr _) _=W0;have HV4 : Aside0 (W0.heap[gf]? = some (.cells #[.string f.f0,.int .i64 f.f1.f0,.int .i64 f.f1.f1,.string f.f1.f2] 43 (0,0))):=⟨by rw [← hW0];exact HV3.out⟩;have HO4 : Aside0 (Kd.R k43 43 W0 w.heap.size (fun _=>True) (.slice (some ao) out.length c4) out):=⟨by rw [← hW0];exact zn (zn HO3.out _) _⟩;have HZ4 : Aside0 (W0.heap[w.heap.size]? = some (.cells #[.int .i64 0,.int .i64 0,.string ⟨#[]⟩] 25 (0,0))):=⟨by rw [← hW0];exact HZ3.out⟩;have HB4 : Aside0 (Below w.heap.size w W0):=⟨by rw [← hW0];exact zb (zb HB3.out _) _⟩;clear hW0 HV3 HO3 HZ3 HB3 HV2 HO2 HZ2 HB2 HD
    have hsrc1 : Kd.C k43 W0 (some ao) n (out.take n):=by
     have h9:=Kd.C_take (yh HO4.out).2.2 HPL
     rwa [zx,Nat.min_eq_left HPL] at h9
    have hsrc2:=Kd.C_drop (c:=c4) (m:=n) (yh HO4.out).2.2 HPL (yh HO4.out).2.1;rw [zw] at hsrc2;have hgf : gf<W0.heap.size:=yi HV4.out;have k0 : W0.cell? ⟨gf,0,none⟩=some (.string f.f0):=(zz HV4.out 0).trans rfl;have k1 : W0.cell? ⟨gf,1,none⟩=some (.int .i64 f.f1.f0):=(zz HV4.out 1).trans rfl;have k2 : W0.cell? ⟨gf,2,none⟩=some (.int .i64 f.f1.f1):=(zz HV4.out 2).trans rfl;have k3 : W0.cell? ⟨gf,3,none⟩=some (.string f.f1.f2):=(zz HV4.out 3).trans rfl;have hPc : n≤c4:=Nat.le_trans HPL (yh HO4.out).2.1;have hw0 : w.heap.size≤W0.heap.size:=HB4.out.size;have hWl : ∀ W1,Below W0.heap.size W0 W1→Kd.C k43 W1 (some ao) n (out.take n):=fun W1 hb=>Kd.C_below hsrc1 hb;have hWd : ∀ W1,Below W0.heap.size W0 W1→Kd.C k43 W1 (if c4=n then (some ao) else (some ao).map (·.add (n*4))) (out.length - n) (out.drop n):=fun W1 hb=>Kd.C_below hsrc2 hb
    have HF : Aside0 (F0.go k (l0.drop (i+1)) (out.take n ++ [f]++out.drop n)=some (r1,r2,r3,r4)):=⟨by
     have h9:=HG1.out;unfold F0.ins at h9;rw [HPE.out] at h9
     exact h9⟩
    clear HG1 HPE
    by_cases hcP : c4=n
    ·
     rw [if_pos hcP] at hWd
     subst c4;clear hsrc1 hsrc2
     have hcell : ∀ W1,Below W0.heap.size W0 W1→(W1.cell? ⟨gf,0,none⟩=some (.string f.f0)∧W1.cell? ⟨gf,1,none⟩=some (.int .i64 f.f1.f0)∧W1.cell? ⟨gf,2,none⟩=some (.int .i64 f.f1.f1)∧W1.cell? ⟨gf,3,none⟩=some (.string f.f1.f2)) :=
      fun W1 hb=>⟨(hb.cell hgf).trans k0,(hb.cell hgf).trans k1,(hb.cell hgf).trans k2,(hb.cell hgf).trans k3⟩
     go_region_held3 (fun w' => w'.cell? ⟨gf,0,none⟩=some (.string f.f0)∧w'.cell? ⟨gf,1,none⟩=some (.int .i64 f.f1.f0)∧w'.cell? ⟨gf,2,none⟩=some (.int .i64 f.f1.f1)∧w'.cell? ⟨gf,3,none⟩=some (.string f.f1.f2))
      (exact hcell _ (by repeat (first|assumption|exact Below.refl _ _|apply za|apply zc|apply zb)))
      (first
       | ((with_reducible refine F0.gate_step 72 rfl ?_);refine F0.gate_lit (.tmp 68) (.slice (some ⟨W0.heap.size+1,0,none⟩) 0 0) (by rfl) W0.heap.size (.cells #[.string f.f0,.int .i64 f.f1.f0,.int .i64 f.f1.f1,.string f.f1.f2] 43) (F0.two_c W0 (.cells #[] 43) _) ?_;intro HL0;refine Kd.R_append_rows_step k43 (w0:=W0) W0.heap.size (by rfl) (.tmp 68) (.tmp 71) 28 43 (.agg #[(.string ⟨#[]⟩),(.int .i64 0),(.int .i64 0),(.string ⟨#[]⟩)]) 48 (by rfl) Try.underlying28 info43 rfl (by decide) (by decide) (.slice (some ⟨W0.heap.size+1,0,none⟩) 0 0) [] (out.take n) (some ao) n n (fun _=>True) (fun _=>False) (by rfl) (by rfl) (by repeat (first|exact F0.R_empty_at _ _ _ (by first|(simp;done)|rfl) (by first|exact ye _|(simp;done))|apply zm|apply zo|apply zn)) (hWl _ (by repeat (first|assumption|exact Below.refl _ _|apply za|apply zc|apply zb))) (fun x cs h9=>F0.K_M x cs h9) (fun _ h9=>h9.elim) (fun _ _=>trivial) (by repeat (first|assumption|exact Below.refl _ _|apply za|apply zc|apply zb)) (by first|exact ye _|(simp;done)|(simp;omega)) (by rw [List.length_nil,Nat.zero_add];omega) ?_;intro v72 w72 hR72 hB72 hg72 hat72;have HLIT:=yw HL0 hg72 (by simp [Value.ownBlock]))
       | ((with_reducible refine F0.gate_step 72 rfl ?_);refine F0.gate_lit (.tmp 68) (.slice (some ⟨W0.heap.size,0,none⟩) 0 0) (by rfl) (W0.heap.size+1) (.cells #[.string f.f0,.int .i64 f.f1.f0,.int .i64 f.f1.f1,.string f.f1.f2] 43) (F0.two_b W0 (.cells #[] 43) _) ?_;intro HL0;refine Kd.R_append_rows_step k43 (w0:=W0) W0.heap.size (by rfl) (.tmp 68) (.tmp 71) 28 43 (.agg #[(.string ⟨#[]⟩),(.int .i64 0),(.int .i64 0),(.string ⟨#[]⟩)]) 48 (by rfl) Try.underlying28 info43 rfl (by decide) (by decide) (.slice (some ⟨W0.heap.size,0,none⟩) 0 0) [] (out.take n) (some ao) n n (fun _=>True) (fun _=>False) (by rfl) (by rfl) (by repeat (first|exact F0.R_empty_at _ _ _ (by first|(simp;done)|rfl) (by first|exact ye _|(simp;done))|apply zm|apply zo|apply zn)) (hWl _ (by repeat (first|assumption|exact Below.refl _ _|apply za|apply zc|apply zb))) (fun x cs h9=>F0.K_M x cs h9) (fun _ h9=>h9.elim) (fun _ _=>trivial) (by repeat (first|assumption|exact Below.refl _ _|apply za|apply zc|apply zb)) (by first|exact ye _|(simp;done)|(simp;omega)) (by rw [List.length_nil,Nat.zero_add];omega) ?_;intro v72 w72 hR72 hB72 hg72 hat72;have HLIT:=yw HL0 hg72 (by simp [Value.ownBlock]))
       | ((with_reducible refine F0.gate_step 72 rfl ?_);refine Kd.R_append_rows_step k43 (w0:=W0) W0.heap.size (by rfl) (.tmp 68) (.tmp 71) 28 43 (.agg #[(.string ⟨#[]⟩),(.int .i64 0),(.int .i64 0),(.string ⟨#[]⟩)]) 48 (by rfl) Try.underlying28 info43 rfl (by decide) (by decide) (.slice (some ⟨W0.heap.size,0,none⟩) 0 0) [] (out.take n) (some ao) n n (fun _=>True) (fun _=>False) (by rfl) (by rfl) (by repeat (first|exact F0.R_empty_at _ _ _ (by first|(simp;done)|rfl) (by first|exact ye _|(simp;done))|apply zm|apply zo|apply zn)) (hWl _ (by repeat (first|assumption|exact Below.refl _ _|apply za|apply zc|apply zb))) (fun x cs h9=>F0.K_M x cs h9) (fun _ h9=>h9.elim) (fun _ _=>trivial) (by repeat (first|assumption|exact Below.refl _ _|apply za|apply zc|apply zb)) (by first|exact ye _|(simp;done)|(simp;omega)) (by rw [List.length_nil,Nat.zero_add];omega) ?_;intro v72 w72 hR72 hB72 hg72 hat72)
       | ((with_reducible refine F0.gate_step 75 rfl ?_);refine Kd.R_append_rows_step k43 (w0:=W0) W0.heap.size (by rfl) (.tmp 72) (.tmp 74) 28 43 (.agg #[(.string ⟨#[]⟩),(.int .i64 0),(.int .i64 0),(.string ⟨#[]⟩)]) 48 (by rfl) Try.underlying28 info43 rfl (by decide) (by decide) v72 (out.take n) [f] _ 1 1 (fun _=>True) (fun _=>False) (by rfl) (by rfl) (by repeat (first|exact hR72|apply zm|apply zo|apply zn)) (F0.C_one f (by repeat (first|exact HLIT|exact blk_new _ _|refine zf ?_|refine ze ?_ _))) (fun x cs h9=>F0.K_M x cs h9) (fun _ h9=>h9.elim) (fun _ _=>trivial) (by repeat (first|exact hB72|exact hB75|assumption|exact Below.refl _ _|apply za|apply zc|apply zb)) (by have h8:=hB72.size;first|(simp;omega)|omega) (by rw [zx];omega) ?_;intro v75 w75 hR75 hB75 hg75 hat75)
       | ((with_reducible refine F0.gate_step 79 rfl ?_);refine Kd.R_append_rows_step k43 (w0:=W0) W0.heap.size (by rfl) (.tmp 75) (.tmp 78) 28 43 (.agg #[(.string ⟨#[]⟩),(.int .i64 0),(.int .i64 0),(.string ⟨#[]⟩)]) 48 (by rfl) Try.underlying28 info43 rfl (by decide) (by decide) v75 (out.take n ++ [f]) (out.drop n) _ (out.length - n) 0 (fun _=>True) (fun _=>False) (by rfl) (by rfl) (by repeat (first|exact hR75|apply zm|apply zo|apply zn)) (hWd _ (by repeat (first|exact hB72|exact hB75|assumption|exact Below.refl _ _|apply za|apply zc|apply zb))) (fun x cs h9=>F0.K_M x cs h9) (fun _ h9=>h9.elim) (fun _ _=>trivial) (by repeat (first|exact hB72|exact hB75|assumption|exact Below.refl _ _|apply za|apply zc|apply zb)) (by have h8:=hB75.size;first|(simp;omega)|omega) (by rw [List.length_append,zx,List.length_singleton];omega) ?_;intro v79 w79 hR79 hB79 hg79 hat79))
     all_goals (
      go_wp2_with fail
      go_roundg kq
      case measure=>exact Nat.lt_succ_self _
      case rel=>exact ⟨i+1,_,by first|rfl|rw [hwi],⟨by have:=HI.out;omega⟩,HF,⟨by rw [List.length_append,List.length_append,zx,zw,List.length_singleton];have:=HL.out;omega⟩,⟨yy hR79 hw0⟩,⟨zD HZ4.out hB79⟩,⟨zC HB4.out hB79⟩⟩)
    rcases F0.addr HO4.out with ⟨hA4,hc4⟩|⟨ga,hA4⟩
    ·
     exact absurd (Nat.le_antisymm (by rw [hc4];exact Nat.zero_le _) hPc) hcP
    cases hA4
    rw [if_neg hcP,show (some (⟨ga,0,none⟩ : Addr)).map (·.add (n*4))=some ⟨ga,n*4,none⟩ from congrArg some (add_plain _ _)] at hWd;clear hsrc1 hsrc2
    have hcell : ∀ W1,Below W0.heap.size W0 W1→(W1.cell? ⟨gf,0,none⟩=some (.string f.f0)∧W1.cell? ⟨gf,1,none⟩=some (.int .i64 f.f1.f0)∧W1.cell? ⟨gf,2,none⟩=some (.int .i64 f.f1.f1)∧W1.cell? ⟨gf,3,none⟩=some (.string f.f1.f2)) :=
     fun W1 hb=>⟨(hb.cell hgf).trans k0,(hb.cell hgf).trans k1,(hb.cell hgf).trans k2,(hb.cell hgf).trans k3⟩
    go_region_held3 (fun w' => w'.cell? ⟨gf,0,none⟩=some (.string f.f0)∧w'.cell? ⟨gf,1,none⟩=some (.int .i64 f.f1.f0)∧w'.cell? ⟨gf,2,none⟩=some (.int .i64 f.f1.f1)∧w'.cell? ⟨gf,3,none⟩=some (.string f.f1.f2))
     (exact hcell _ (by repeat (first|assumption|exact Below.refl _ _|apply za|apply zc|apply zb)))
     (first
      | ((with_reducible refine F0.gate_step 72 rfl ?_);refine F0.gate_lit (.tmp 68) (.slice (some ⟨W0.heap.size+1,0,none⟩) 0 0) (by rfl) W0.heap.size (.cells #[.string f.f0,.int .i64 f.f1.f0,.int .i64 f.f1.f1,.string f.f1.f2] 43) (F0.two_c W0 (.cells #[] 43) _) ?_;intro HL0;refine Kd.R_append_rows_step k43 (w0:=W0) W0.heap.size (by rfl) (.tmp 68) (.tmp 71) 28 43 (.agg #[(.string ⟨#[]⟩),(.int .i64 0),(.int .i64 0),(.string ⟨#[]⟩)]) 48 (by rfl) Try.underlying28 info43 rfl (by decide) (by decide) (.slice (some ⟨W0.heap.size+1,0,none⟩) 0 0) [] (out.take n) (some ⟨ga,0,none⟩) n c4 (fun _=>True) (fun _=>False) (by rfl) (by rfl) (by repeat (first|exact F0.R_empty_at _ _ _ (by first|(simp;done)|rfl) (by first|exact ye _|(simp;done))|apply zm|apply zo|apply zn)) (hWl _ (by repeat (first|assumption|exact Below.refl _ _|apply za|apply zc|apply zb))) (fun x cs h9=>F0.K_M x cs h9) (fun _ h9=>h9.elim) (fun _ _=>trivial) (by repeat (first|assumption|exact Below.refl _ _|apply za|apply zc|apply zb)) (by first|exact ye _|(simp;done)|(simp;omega)) (by rw [List.length_nil,Nat.zero_add];omega) ?_;intro v72 w72 hR72 hB72 hg72 hat72;have HLIT:=yw HL0 hg72 (by simp [Value.ownBlock]))
      | ((with_reducible refine F0.gate_step 72 rfl ?_);refine F0.gate_lit (.tmp 68) (.slice (some ⟨W0.heap.size,0,none⟩) 0 0) (by rfl) (W0.heap.size+1) (.cells #[.string f.f0,.int .i64 f.f1.f0,.int .i64 f.f1.f1,.string f.f1.f2] 43) (F0.two_b W0 (.cells #[] 43) _) ?_;intro HL0;refine Kd.R_append_rows_step k43 (w0:=W0) W0.heap.size (by rfl) (.tmp 68) (.tmp 71) 28 43 (.agg #[(.string ⟨#[]⟩),(.int .i64 0),(.int .i64 0),(.string ⟨#[]⟩)]) 48 (by rfl) Try.underlying28 info43 rfl (by decide) (by decide) (.slice (some ⟨W0.heap.size,0,none⟩) 0 0) [] (out.take n) (some ⟨ga,0,none⟩) n c4 (fun _=>True) (fun _=>False) (by rfl) (by rfl) (by repeat (first|exact F0.R_empty_at _ _ _ (by first|(simp;done)|rfl) (by first|exact ye _|(simp;done))|apply zm|apply zo|apply zn)) (hWl _ (by repeat (first|assumption|exact Below.refl _ _|apply za|apply zc|apply zb))) (fun x cs h9=>F0.K_M x cs h9) (fun _ h9=>h9.elim) (fun _ _=>trivial) (by repeat (first|assumption|exact Below.refl _ _|apply za|apply zc|apply zb)) (by first|exact ye _|(simp;done)|(simp;omega)) (by rw [List.length_nil,Nat.zero_add];omega) ?_;intro v72 w72 hR72 hB72 hg72 hat72;have HLIT:=yw HL0 hg72 (by simp [Value.ownBlock]))
      | ((with_reducible refine F0.gate_step 72 rfl ?_);refine Kd.R_append_rows_step k43 (w0:=W0) W0.heap.size (by rfl) (.tmp 68) (.tmp 71) 28 43 (.agg #[(.string ⟨#[]⟩),(.int .i64 0),(.int .i64 0),(.string ⟨#[]⟩)]) 48 (by rfl) Try.underlying28 info43 rfl (by decide) (by decide) (.slice (some ⟨W0.heap.size,0,none⟩) 0 0) [] (out.take n) (some ⟨ga,0,none⟩) n c4 (fun _=>True) (fun _=>False) (by rfl) (by rfl) (by repeat (first|exact F0.R_empty_at _ _ _ (by first|(simp;done)|rfl) (by first|exact ye _|(simp;done))|apply zm|apply zo|apply zn)) (hWl _ (by repeat (first|assumption|exact Below.refl _ _|apply za|apply zc|apply zb))) (fun x cs h9=>F0.K_M x cs h9) (fun _ h9=>h9.elim) (fun _ _=>trivial) (by repeat (first|assumption|exact Below.refl _ _|apply za|apply zc|apply zb)) (by first|exact ye _|(simp;done)|(simp;omega)) (by rw [List.length_nil,Nat.zero_add];omega) ?_;intro v72 w72 hR72 hB72 hg72 hat72)
      | ((with_reducible refine F0.gate_step 75 rfl ?_);refine Kd.R_append_rows_step k43 (w0:=W0) W0.heap.size (by rfl) (.tmp 72) (.tmp 74) 28 43 (.agg #[(.string ⟨#[]⟩),(.int .i64 0),(.int .i64 0),(.string ⟨#[]⟩)]) 48 (by rfl) Try.underlying28 info43 rfl (by decide) (by decide) v72 (out.take n) [f] _ 1 1 (fun _=>True) (fun _=>False) (by rfl) (by rfl) (by repeat (first|exact hR72|apply zm|apply zo|apply zn)) (F0.C_one f (by repeat (first|exact HLIT|exact blk_new _ _|refine zf ?_|refine ze ?_ _))) (fun x cs h9=>F0.K_M x cs h9) (fun _ h9=>h9.elim) (fun _ _=>trivial) (by repeat (first|exact hB72|exact hB75|assumption|exact Below.refl _ _|apply za|apply zc|apply zb)) (by have h8:=hB72.size;first|(simp;omega)|omega) (by rw [zx];omega) ?_;intro v75 w75 hR75 hB75 hg75 hat75)
      | ((with_reducible refine F0.gate_step 79 rfl ?_);refine Kd.R_append_rows_step k43 (w0:=W0) W0.heap.size (by rfl) (.tmp 75) (.tmp 78) 28 43 (.agg #[(.string ⟨#[]⟩),(.int .i64 0),(.int .i64 0),(.string ⟨#[]⟩)]) 48 (by rfl) Try.underlying28 info43 rfl (by decide) (by decide) v75 (out.take n ++ [f]) (out.drop n) _ (out.length - n) (c4 - n) (fun _=>True) (fun _=>False) (by rfl) (by rfl) (by repeat (first|exact hR75|apply zm|apply zo|apply zn)) (hWd _ (by repeat (first|exact hB72|exact hB75|assumption|exact Below.refl _ _|apply za|apply zc|apply zb))) (fun x cs h9=>F0.K_M x cs h9) (fun _ h9=>h9.elim) (fun _ _=>trivial) (by repeat (first|exact hB72|exact hB75|assumption|exact Below.refl _ _|apply za|apply zc|apply zb)) (by have h8:=hB75.size;first|(simp;omega)|omega) (by rw [List.length_append,zx,List.length_singleton];omega) ?_;intro v79 w79 hR79 hB79 hg79 hat79))
    all_goals (
     go_wp2_with fail
     go_roundg kq
     case measure=>exact Nat.lt_succ_self _
     case rel=>exact ⟨i+1,_,by first|rfl|rw [hwi],⟨by have:=HI.out;omega⟩,HF,⟨by rw [List.length_append,List.length_append,zx,zw,List.length_singleton];have:=HL.out;omega⟩,⟨yy hR79 hw0⟩,⟨zD HZ4.out hB79⟩,⟨zC HB4.out hB79⟩⟩)
  have hieq : i=l0.length:=by have:=HI.out;omega
  subst hieq;have c3 : decide ((l0.length : Int)<(l0.length : Int))=false:=decide_eq_false (Int.lt_irrefl _);have h:=HG.out;rw [List.drop_length] at h;clear HG;unfold F0.go at h;obtain ⟨⟨d1,d2,d3⟩,hD,h⟩:=zT.mp h;obtain ⟨⟨q1,q2,q3,q4⟩,hF,h⟩:=zT.mp h;simp only [Option.some.injEq,Prod.mk.injEq] at h;obtain ⟨rfl,rfl,rfl,rfl⟩:=h
  go_wp2_with fail
  go_at_call 22
  refine (Fk.calls k A4 c4 out d1 d2 d3 _ (yh HO.out).2.2 (yh HO.out).2.1 hD).mono ?_;rintro e w1 ⟨rfl,hb1⟩;have HB1:=zh (zC HB.out hb1);have HZ1:=zh (zD HZ.out hb1);clear HB HZ HO hb1 hD
  go_wp2_with fail
  go_at_call 21
  refine (F0d.calls k d1 d2 d3 q1 q2 q3 q4 _ hF).mono ?_;rintro e w2 ⟨rfl,hb2⟩;have HB2:=zh (zC HB1.out hb2);have HZ2:=zh (zD HZ1.out hb2);clear HB1 HZ1 hb2 hF;have k0:=zz HZ2.out 0;have k1:=zz HZ2.out 1;have k2:=zz HZ2.out 2;have f0:=zA HZ2.out 0;have f1:=zA HZ2.out 1;have f2:=zA HZ2.out 2
  go_wp2_with fail
  refine bodyPost_ret (results_ct rfl _ _ w.heap.size 25 #[.int .i64 q1,.int .i64 q2,.string q3] (0,0) _ rfl (blk_set (blk_set (blk_set HZ2.out 0 (.int .i64 q1)) 1 (.int .i64 q2)) 2 (.string q3)) hu25 rfl (by kernel_rfl)) rfl ?_;exact ⟨rfl,zd (zd (zd HB2.out (ye _)) (ye _)) (ye _)⟩


def F0i.f (a0_0 : Int) (a0_1 : Int) (a0_2 : ByteArray) : Option (Int×Int×ByteArray):=some (a0_0,a0_1,a0_2)
set_option maxHeartbeats 8000000 in
set_option maxRecDepth 100000 in
theorem F0i.calls (a0_0 : Int) (a0_1 : Int) (a0_2 : ByteArray) (r1 : Int) (r2 : Int) (r3 : ByteArray) (w : World) (h : F0i.f a0_0 a0_1 a0_2=some (r1,r2,r3)) :
  Calls Try.prog 43 #[.agg #[.int .i64 a0_0,.int .i64 a0_1,.string a0_2]] w fun e w' => e = .returned (.agg #[.int .i64 r1,.int .i64 r2,.string r3])∧Below w.heap.size w w':=by
 have hu48:=Try.underlying48;have hu25:=Try.underlying25;have HB:=zh (Below.refl w.heap.size w);have H : (some (a0_0,a0_1,a0_2))=some (r1,r2,r3):=h;clear h;simp only [Option.some.injEq,Prod.mk.injEq] at H;obtain ⟨rfl,rfl,rfl⟩:=H
 go_enter Try.func43,Try.ntmps43
 go_wp2_with (first|((with_reducible refine zK (N:=1) rfl ?_);refine zI ?hg (N:=1) ?hd (cs:=#[.int .i64 a0_0,.int .i64 a0_1,.string a0_2]) (t:=48) ?hr ?_;(case hd=>rfl);(case hg=>rfl);(case hr=>go_simp <;> rfl);intro gb191 hg w2 hbox hb;have BK191:=zh (hbox);have hH_:=cH (by repeat (with_reducible first|exact HB.out|apply za|apply zb|apply zc)) hb hg;have GW191:=zh hH_.1;have GE191:=GW191;replace HB:=zh hH_.2;clear hb hbox hg hH_)|((with_reducible refine zK (N:=2) rfl ?_);refine zI ?hg (N:=2) ?hd (cs:=#[.int .i64 0,.int .i64 0,.string (⟨#[]⟩ : ByteArray)]) (t:=25) ?hr ?_;(case hd=>rfl);(case hg=>rfl);(case hr=>go_simp <;> rfl);intro gb192 hg w3 hbox hb;have BK192:=zh (hbox);have hH_:=cH (by repeat (with_reducible first|exact HB.out|apply za|apply zb|apply zc|refine zd ?_ GE191.out)) hb hg;have GW192:=zh hH_.1;have GE192:=GW192;replace HB:=zh hH_.2;have NB191_192:=zh ((by rw [hg];exact yc (yi (g:=gb191) (o:=.cells #[.int .i64 a0_0,.int .i64 a0_1,.string a0_2] 48 (0,0)) (by (with_reducible repeat first|apply ze|apply zf|apply zg);exact BK191.out)) : gb191≠gb192));have NB192_191:=zh NB191_192.out.symm;replace BK191:=zh (cD BK191.out (by (with_reducible repeat first|apply ze|apply zf|apply zg);exact BK191.out) hb);clear hb hbox hg hH_)|((with_reducible refine zK (N:=3) rfl ?_);refine zI ?hg (N:=3) ?hd (cs:=#[.int .i64 0,.int .i64 0,.string (⟨#[]⟩ : ByteArray)]) (t:=25) ?hr ?_;(case hd=>rfl);(case hg=>rfl);(case hr=>go_simp <;> rfl);intro gb193 hg w4 hbox hb;have BK193:=zh (hbox);have hH_:=cH (by repeat (with_reducible first|exact HB.out|apply za|apply zb|apply zc|refine zd ?_ GE191.out|refine zd ?_ GE192.out)) hb hg;have GW193:=zh hH_.1;have GE193:=GW193;replace HB:=zh hH_.2;have NB191_193:=zh ((by rw [hg];exact yc (yi (g:=gb191) (o:=.cells #[.int .i64 a0_0,.int .i64 a0_1,.string a0_2] 48 (0,0)) (by (with_reducible repeat first|apply ze|apply zf|apply zg);exact BK191.out)) : gb191≠gb193));have NB193_191:=zh NB191_193.out.symm;replace BK191:=zh (cD BK191.out (by (with_reducible repeat first|apply ze|apply zf|apply zg);exact BK191.out) hb);have NB192_193:=zh ((by rw [hg];exact yc (yi (g:=gb192) (o:=.cells #[.int .i64 0,.int .i64 0,.string (⟨#[]⟩ : ByteArray)] 25 (0,0)) (by (with_reducible repeat first|apply ze|apply zf|apply zg);exact BK192.out)) : gb192≠gb193));have NB193_192:=zh NB192_193.out.symm;replace BK192:=zh (cD BK192.out (by (with_reducible repeat first|apply ze|apply zf|apply zg);exact BK192.out) hb);clear hb hbox hg hH_;have hnb5:=NB191_192.out;have hnc5:=NB192_191.out;have hnb6:=NB191_193.out;have hnc6:=NB193_191.out;obtain ⟨hcz7_0,hcz7_1,hcz7_2,hfz7_0,hfz7_1,hfz7_2⟩:=cB3 BK191.out;have hnb8:=NB193_192.out;have hnc8:=NB192_193.out;obtain ⟨hcz9_0,hcz9_1,hcz9_2,hfz9_0,hfz9_1,hfz9_2⟩:=cB3 BK193.out;obtain ⟨hcz10_0,hcz10_1,hcz10_2,hfz10_0,hfz10_1,hfz10_2⟩:=cB3 BK192.out))
 refine bodyPost_ret (results_cell_row rfl _ _ gb192 25 #[.int .i64 a0_0,.int .i64 a0_1,.string a0_2] (0,0) _ rfl (by (with_reducible repeat first|apply ze|apply zf|apply zg);refine zL (cs:=#[.int .i64 a0_0,.int .i64 a0_1,.string (⟨#[]⟩ : ByteArray)]) ?_ 2 _ rfl;(with_reducible repeat first|apply ze|apply zf|apply zg);refine zL (cs:=#[.int .i64 a0_0,.int .i64 0,.string (⟨#[]⟩ : ByteArray)]) ?_ 1 _ rfl;(with_reducible repeat first|apply ze|apply zf|apply zg);refine zL (cs:=#[.int .i64 0,.int .i64 0,.string (⟨#[]⟩ : ByteArray)]) ?_ 0 _ rfl;(with_reducible repeat first|apply ze|apply zf|apply zg);refine cS3 ?_ NB192_193.out;(with_reducible repeat first|apply ze|apply zf|apply zg);exact BK192.out) Try.underlying25 rfl (by kernel_rfl)) rfl ?_;exact ⟨by first|rfl|(simp [yt,yu] <;> rfl)|(simp [*,yt,yu] <;> rfl),by repeat (with_reducible first|exact HB.out|apply za|apply zb|apply zc|refine zd ?_ GE191.out|refine zd ?_ GE192.out|refine zd ?_ GE193.out)⟩

end Go.Proofs.Ytoinoihiknmnmaa.Q
end

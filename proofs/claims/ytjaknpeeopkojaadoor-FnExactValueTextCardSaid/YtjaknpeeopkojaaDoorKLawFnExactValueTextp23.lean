/- Texts of this claim, merged by a program of this session. -/
import Derived.Test.YtjaknpeeopkojaaDoorKLawFnExactValueTextp22
section
namespace Go.Proofs.YtjaknpeeopkojaaDoor.Q
open Go.RowKit Go.Proofs.YtjaknpeeopkojaaDoorW.PrintWords Go.Proofs.YtjaknpeeopkojaaDoorW.PrintLast Go.Proofs.YtjaknpeeopkojaaDoorW.PrintMore
attribute [local go_sem] max2_int min2_int max_two min_two max_three min_three max_four min_four max2_str min2_str str_geq str_gtr str_leq   -- for this text's walks alone
set_option linter.unusedVariables false
set_option linter.unusedSimpArgs false

mutual
def F0.j0 : Nat→Int→List (S27)→Bool→Option (Bool)
 | 0,_,_,_ => none
 | k + 1,x1,x5,x78 => if x78=true then (some false) else (F0.l0 k x1 x5 0)
def F0.l0 : Nat→Int→List (S27)→Int→Option (Bool)
 | 0,_,_,_ => none
 | k + 1,x1,x5,x7 => if x7<(x5.length : Int) then (if 0≤x7 then ((F0.f k ((rd_T27 x5 x7).f0) ((rd_T27 x5 x7).f1) ((rd_T27 x5 x7).f2) (wrap64 (x1 - 1))).bind fun t152 => (if t152=true then (F0.l0 k x1 x5 (wrap64 (x7 + 1))) else (some false))) else (none)) else (some true)
def F0.j2 : Nat→Int→List (S43)→Bool→Option (Bool)
 | 0,_,_,_ => none
 | k + 1,x1,x8,x117 => if x117=true then (some false) else (F0.l1 k x1 x8 0)
def F0.l1 : Nat→Int→List (S43)→Int→Option (Bool)
 | 0,_,_,_ => none
 | k + 1,x1,x8,x10 => if x10<(x8.length : Int) then (if 0≤x10 then ((Fm.f k ((rd_T43 x8 x10).f0)).bind fun t158 => (if t158=true then (if x10 > 0 then (if 0≤(wrap64 (x10 - 1)) then (if (wrap64 (x10 - 1))<(x8.length : Int) then (if ((Op.bytesLess (((rd_T43 x8 (wrap64 (x10 - 1))).f0).toList) (((rd_T43 x8 x10).f0).toList))=true) then ((F0.f k ((rd_T43 x8 x10).f1.f0) ((rd_T43 x8 x10).f1.f1) ((rd_T43 x8 x10).f1.f2) (wrap64 (x1 - 1))).bind fun t162 => (if t162=true then (F0.l1 k x1 x8 (wrap64 (x10 + 1))) else (some false))) else (some false)) else (none)) else (none)) else ((F0.f k ((rd_T43 x8 x10).f1.f0) ((rd_T43 x8 x10).f1.f1) ((rd_T43 x8 x10).f1.f2) (wrap64 (x1 - 1))).bind fun t164 => (if t164=true then (F0.l1 k x1 x8 (wrap64 (x10 + 1))) else (some false)))) else (some false))) else (none)) else (some true)
def F0.f : Nat→Int→Int→ByteArray→Int→Option (Bool)
 | 0,_,_,_,_ => none
 | k + 1,a0_0,a0_1,a0_2,a1 => if a0_0=0 then (if a0_1=0 then (some (a0_2.toList == ([] : List UInt8))) else (some false)) else (if a0_0=1 then ((Fx.f a0_1 0 1).bind fun t145 => (if t145=true then (some (a0_2.toList == ([] : List UInt8))) else (some false))) else (if a0_0=2 then ((Fx.f a0_1 (-1000000000000) 1000000000000).bind fun t146 => (if t146=true then (some (a0_2.toList == ([] : List UInt8))) else (some false))) else (if a0_0=3 then (if a0_1=0 then (some (decide ((a0_2.size : Int)≤300))) else (some false)) else (if a0_0=4 then ((Fd.f k a0_2).bind fun bt147 => (if a0_1=0 then (if bt147.2=true then (if (a0_2.size : Int) > 300 then (F0.j0 k a1 bt147.1 true) else (F0.j0 k a1 bt147.1 (a1 == 0))) else (F0.j0 k a1 bt147.1 true)) else (F0.j0 k a1 bt147.1 true))) else (if a0_0=5 then ((Fc.f k a0_2).bind fun bt153 => (if a0_1=0 then (if bt153.2=true then (if (a0_2.size : Int) > 300 then (F0.j2 k a1 bt153.1 true) else (F0.j2 k a1 bt153.1 (a1 == 0))) else (F0.j2 k a1 bt153.1 true)) else (F0.j2 k a1 bt153.1 true))) else (some false))))))
end
theorem F0.mono_l : ∀ k,(∀ y0 y1 y2 y3,LeO (F0.f k y0 y1 y2 y3) (F0.f (k + 1) y0 y1 y2 y3))∧(∀ y0 y1 y2,LeO (F0.j0 k y0 y1 y2) (F0.j0 (k + 1) y0 y1 y2))∧(∀ y0 y1 y2,LeO (F0.l0 k y0 y1 y2) (F0.l0 (k + 1) y0 y1 y2))∧(∀ y0 y1 y2,LeO (F0.j2 k y0 y1 y2) (F0.j2 (k + 1) y0 y1 y2))∧(∀ y0 y1 y2,LeO (F0.l1 k y0 y1 y2) (F0.l1 (k + 1) y0 y1 y2))
 | 0 => ⟨fun _ _ _ _ r h => by simp [F0.f] at h,fun _ _ _ r h => by simp [F0.j0] at h,fun _ _ _ r h => by simp [F0.l0] at h,fun _ _ _ r h => by simp [F0.j2] at h,fun _ _ _ r h => by simp [F0.l1] at h⟩
 | k + 1 => by
  obtain ⟨ih0,ih1,ih2,ih3,ih4⟩:=F0.mono_l k;refine ⟨?_,?_,?_,?_,?_⟩
  ·
   intro y0 y1 y2 y3
   unfold F0.f
   repeat' first|(with_reducible first|exact ih0 _ _ _ _|exact ih1 _ _ _|exact ih2 _ _ _|exact ih3 _ _ _|exact ih4 _ _ _|exact Fd.mono _ _|exact Fc.mono _ _|exact Fm.mono _ _|exact zQ _|exact zN _|refine zP ?_ ?_|refine zO ?_ (fun _ => ?_))|refine zP ?_ ?_|refine zO ?_ (fun _ => ?_)
  ·
   intro y0 y1 y2
   unfold F0.j0
   repeat' first|(with_reducible first|exact ih0 _ _ _ _|exact ih1 _ _ _|exact ih2 _ _ _|exact ih3 _ _ _|exact ih4 _ _ _|exact Fd.mono _ _|exact Fc.mono _ _|exact Fm.mono _ _|exact zQ _|exact zN _|refine zP ?_ ?_|refine zO ?_ (fun _ => ?_))|refine zP ?_ ?_|refine zO ?_ (fun _ => ?_)
  ·
   intro y0 y1 y2
   unfold F0.l0
   repeat' first|(with_reducible first|exact ih0 _ _ _ _|exact ih1 _ _ _|exact ih2 _ _ _|exact ih3 _ _ _|exact ih4 _ _ _|exact Fd.mono _ _|exact Fc.mono _ _|exact Fm.mono _ _|exact zQ _|exact zN _|refine zP ?_ ?_|refine zO ?_ (fun _ => ?_))|refine zP ?_ ?_|refine zO ?_ (fun _ => ?_)
  ·
   intro y0 y1 y2
   unfold F0.j2
   repeat' first|(with_reducible first|exact ih0 _ _ _ _|exact ih1 _ _ _|exact ih2 _ _ _|exact ih3 _ _ _|exact ih4 _ _ _|exact Fd.mono _ _|exact Fc.mono _ _|exact Fm.mono _ _|exact zQ _|exact zN _|refine zP ?_ ?_|refine zO ?_ (fun _ => ?_))|refine zP ?_ ?_|refine zO ?_ (fun _ => ?_)
  intro y0 y1 y2;unfold F0.l1
  repeat' first|(with_reducible first|exact ih0 _ _ _ _|exact ih1 _ _ _|exact ih2 _ _ _|exact ih3 _ _ _|exact ih4 _ _ _|exact Fd.mono _ _|exact Fc.mono _ _|exact Fm.mono _ _|exact zQ _|exact zN _|refine zP ?_ ?_|refine zO ?_ (fun _ => ?_))|refine zP ?_ ?_|refine zO ?_ (fun _ => ?_)
theorem F0.mono : ∀ a0 a1 a2 a3 k,LeO (F0.f k a0 a1 a2 a3) (F0.f (k + 1) a0 a1 a2 a3):=by
 intro a0 a1 a2 a3 k;obtain ⟨ih0,ih1,ih2,ih3,ih4⟩:=F0.mono_l k;exact ih0 a0 a1 a2 a3
def F0.T27 : Bool×List (List Nat×List Nat):=(true,[([],[]),([],[]),([0,1],[0,1]),([2],[2]),([3],[3]),([4],[4]),([5],[5]),([6,5],[6]),([7],[7]),([8,7],[7,8]),([9,7,7],[7,9]),([10],[10]),([10],[10]),([12,10],[10,12]),([11,13,10],[10,11,13]),([14,10],[10,14]),([15,10],[10,15]),([10],[10]),([10],[10]),([17,18,10],[10,17,18]),([19,10],[10,19]),([20,10],[10,20]),([16,21,10],[10,16,21]),([10,22,7],[7,10,22]),([7,23],[7,23]),([24,10],[24]),([25],[25]),([25],[25]),([26,27,25],[25,26,27]),([28,25],[25,28]),([29,25],[25,29]),([25],[25]),([31,25],[25,31]),([30,32,25,25],[25,30,32]),([33,25],[25,33]),([25,34],[25,34])])
def F0.B27 : List Nat:=[0,0,3,7,15,31,63,127,255,511,1023,2047,2047,6143,16383,32767,65535,2047,2047,395263,919551,1968127,4194303,8388607,16777215,33554431,67108863,67108863,268435455,536870911,1073741823,67108863,2214592511,8589934591,17179869183,34359738367]
theorem F0.tab27 : rtab .any (opsOf Tryd.f12 27)=F0.T27:=by kernel_rfl
theorem F0.bits27 : waitsOk F0.T27.2 F0.B27=true:=by kernel_rfl
set_option maxHeartbeats 8000000 in
set_option maxRecDepth 100000 in
theorem F0.calls (k : Nat) : ∀ (a0_0 : Int) (a0_1 : Int) (a0_2 : ByteArray) (a1 : Int) (r : Bool) (w : World) (h : F0.f k a0_0 a0_1 a0_2 a1=some r),
  Calls Tryd.prog 12 #[.agg #[.int .i64 a0_0,.int .i64 a0_1,.string a0_2],.int .i64 a1] w fun e w' => e = .returned (.bool r)∧Below w.heap.size w w':=by
 induction k using Nat.strongRecOn with
 | _ k ih =>
 intro a0_0 a0_1 a0_2 a1 r w h
 cases k with
 | zero => exact absurd h (by simp [F0.f])
 | succ k =>
 simp only [F0.f] at h;have hu27:=Tryd.underlying27;have HB:=zh (Below.refl w.heap.size w);have H : (if a0_0=0 then (if a0_1=0 then (some (a0_2.toList == ([] : List UInt8))) else (some false)) else (if a0_0=1 then ((Fx.f a0_1 0 1).bind fun t145 => (if t145=true then (some (a0_2.toList == ([] : List UInt8))) else (some false))) else (if a0_0=2 then ((Fx.f a0_1 (-1000000000000) 1000000000000).bind fun t146 => (if t146=true then (some (a0_2.toList == ([] : List UInt8))) else (some false))) else (if a0_0=3 then (if a0_1=0 then (some (decide ((a0_2.size : Int)≤300))) else (some false)) else (if a0_0=4 then ((Fd.f k a0_2).bind fun bt147 => (if a0_1=0 then (if bt147.2=true then (if (a0_2.size : Int) > 300 then (F0.j0 k a1 bt147.1 true) else (F0.j0 k a1 bt147.1 (a1 == 0))) else (F0.j0 k a1 bt147.1 true)) else (F0.j0 k a1 bt147.1 true))) else (if a0_0=5 then ((Fc.f k a0_2).bind fun bt153 => (if a0_1=0 then (if bt153.2=true then (if (a0_2.size : Int) > 300 then (F0.j2 k a1 bt153.1 true) else (F0.j2 k a1 bt153.1 (a1 == 0))) else (F0.j2 k a1 bt153.1 true)) else (F0.j2 k a1 bt153.1 true))) else (some false)))))))=some r:=h;clear h
 by_cases c3 : a0_0=0
 ·
  rw [if_pos c3] at H
  have c3b0 : (a0_0 == 0)=true:=ya.mpr c3;have c3b1 : (a0_0 != 0)=false:=zX.mpr c3;clear c3
  by_cases c4 : a0_1=0
  ·
   rw [if_pos c4] at H
   have c4b0 : (a0_1 == 0)=true:=ya.mpr c4;have c4b1 : (a0_1 != 0)=false:=zX.mpr c4;clear c4;obtain rfl:=zU H
   go_enter Tryd.func12,Tryd.ntmps12
   go_wp2_with (first|((with_reducible refine zK (N:=2) rfl ?_);(try (refine yz (by rfl) ?_;dsimp only));refine zI ?hg (N:=2) ?hd (cs:=#[.int .i64 a0_0,.int .i64 a0_1,.string a0_2]) (t:=27) ?hr ?_;(case hd|hg => rfl);(case hr => go_simp <;> rfl);intro gb144 hg w5 hbox hb;have BK144:=zh (hbox);have hH_:=cH (by repeat (with_reducible first|exact HB.out|apply za|apply zb|apply zc)) hb hg;have GW144:=zh hH_.1;have GE144:=GW144;replace HB:=zh hH_.2;clear hb hbox hg hH_;obtain ⟨hcz6_0,hcz6_1,hcz6_2,hfz6_0,hfz6_1,hfz6_2⟩:=cB3 BK144.out))
   go_ret
   exact ⟨by first|rfl|(simp [yt,yu] <;> rfl)|(simp [*,yt,yu] <;> rfl),by repeat (with_reducible first|exact HB.out|apply za|apply zb|apply zc|refine zd ?_ GE144.out)⟩
  rw [if_neg c4] at H;have c4b0 : (a0_1 == 0)=false:=zY.mpr c4;have c4b1 : (a0_1 != 0)=true:=zZ.mpr c4;obtain rfl:=zU H
  go_enter Tryd.func12,Tryd.ntmps12
  go_wp2_with (first|((with_reducible refine zK (N:=2) rfl ?_);(try (refine yz (by rfl) ?_;dsimp only));refine zI ?hg (N:=2) ?hd (cs:=#[.int .i64 a0_0,.int .i64 a0_1,.string a0_2]) (t:=27) ?hr ?_;(case hd|hg => rfl);(case hr => go_simp <;> rfl);intro gb144 hg w7 hbox hb;have BK144:=zh (hbox);have hH_:=cH (by repeat (with_reducible first|exact HB.out|apply za|apply zb|apply zc)) hb hg;have GW144:=zh hH_.1;have GE144:=GW144;replace HB:=zh hH_.2;clear hb hbox hg hH_;obtain ⟨hcz8_0,hcz8_1,hcz8_2,hfz8_0,hfz8_1,hfz8_2⟩:=cB3 BK144.out))
  go_ret
  exact ⟨by first|rfl|(simp [yt,yu] <;> rfl)|(simp [*,yt,yu] <;> rfl),by repeat (with_reducible first|exact HB.out|apply za|apply zb|apply zc|refine zd ?_ GE144.out)⟩
 rw [if_neg c3] at H;have c3b0 : (a0_0 == 0)=false:=zY.mpr c3;have c3b1 : (a0_0 != 0)=true:=zZ.mpr c3
 by_cases c9 : a0_0=1
 ·
  rw [if_pos c9] at H
  have c9b0 : (a0_0 == 1)=true:=ya.mpr c9;have c9b1 : (a0_0 != 1)=false:=zX.mpr c9;clear c9;replace H:=zT.mp H;obtain ⟨t145,A100,H⟩:=H;replace H : (if t145=true then (some (a0_2.toList == ([] : List UInt8))) else (some false))=some r:=H;have A10:=zh A100;clear A100
  by_cases c11 : t145=true
  ·
   subst c11
   have H1 : (some (a0_2.toList == ([] : List UInt8)))=some r:=by rw [if_pos rfl] at H;exact H
   clear H;have H:=H1;clear H1;obtain rfl:=zU H
   go_enter Tryd.func12,Tryd.ntmps12
   go_wp2_with (first|((with_reducible refine zK (N:=2) rfl ?_);(try (refine yz (by rfl) ?_;dsimp only));refine zI ?hg (N:=2) ?hd (cs:=#[.int .i64 a0_0,.int .i64 a0_1,.string a0_2]) (t:=27) ?hr ?_;(case hd|hg => rfl);(case hr => go_simp <;> rfl);intro gb144 hg w12 hbox hb;have BK144:=zh (hbox);have hH_:=cH (by repeat (with_reducible first|exact HB.out|apply za|apply zb|apply zc)) hb hg;have GW144:=zh hH_.1;have GE144:=GW144;replace HB:=zh hH_.2;clear hb hbox hg hH_;obtain ⟨hcz13_0,hcz13_1,hcz13_2,hfz13_0,hfz13_1,hfz13_2⟩:=cB3 BK144.out)|((with_reducible refine zJ (f:=23) rfl ?_);refine yj (some 27) rfl rfl Tryd.func23 (by kernel_rfl) rfl #[.int .i64 a0_1,.int .i64 0,.int .i64 1] rfl (by (try simp only [zt,zu,zv]);first|done|rfl|(simp only [zw,zx];rfl)|(simp only [yr,ys,zV,zW];rfl)) ?_;(with_reducible refine (Fx.calls  a0_1 0 1 true _ A10.out).mono ?_);rintro e w' ⟨rfl,⟨nd,rfl⟩⟩;refine ⟨_,rfl,?_⟩))
   go_ret
   exact ⟨by first|rfl|(simp [yt,yu] <;> rfl)|(simp [*,yt,yu] <;> rfl),by repeat (with_reducible first|exact HB.out|apply za|apply zb|apply zc|refine zd ?_ GE144.out)⟩
  replace c11:=yb.mpr c11;subst c11;have H1 : (some false)=some r:=by rw [if_neg (show ¬ (false=true) by decide)] at H;exact H
  clear H;have H:=H1;clear H1;obtain rfl:=zU H
  go_enter Tryd.func12,Tryd.ntmps12
  go_wp2_with (first|((with_reducible refine zK (N:=2) rfl ?_);(try (refine yz (by rfl) ?_;dsimp only));refine zI ?hg (N:=2) ?hd (cs:=#[.int .i64 a0_0,.int .i64 a0_1,.string a0_2]) (t:=27) ?hr ?_;(case hd|hg => rfl);(case hr => go_simp <;> rfl);intro gb144 hg w14 hbox hb;have BK144:=zh (hbox);have hH_:=cH (by repeat (with_reducible first|exact HB.out|apply za|apply zb|apply zc)) hb hg;have GW144:=zh hH_.1;have GE144:=GW144;replace HB:=zh hH_.2;clear hb hbox hg hH_;obtain ⟨hcz15_0,hcz15_1,hcz15_2,hfz15_0,hfz15_1,hfz15_2⟩:=cB3 BK144.out)|((with_reducible refine zJ (f:=23) rfl ?_);refine yj (some 27) rfl rfl Tryd.func23 (by kernel_rfl) rfl #[.int .i64 a0_1,.int .i64 0,.int .i64 1] rfl (by (try simp only [zt,zu,zv]);first|done|rfl|(simp only [zw,zx];rfl)|(simp only [yr,ys,zV,zW];rfl)) ?_;(with_reducible refine (Fx.calls  a0_1 0 1 false _ A10.out).mono ?_);rintro e w' ⟨rfl,⟨nd,rfl⟩⟩;refine ⟨_,rfl,?_⟩))
  go_ret
  exact ⟨by first|rfl|(simp [yt,yu] <;> rfl)|(simp [*,yt,yu] <;> rfl),by repeat (with_reducible first|exact HB.out|apply za|apply zb|apply zc|refine zd ?_ GE144.out)⟩
 rw [if_neg c9] at H;have c9b0 : (a0_0 == 1)=false:=zY.mpr c9;have c9b1 : (a0_0 != 1)=true:=zZ.mpr c9
 by_cases c16 : a0_0=2
 ·
  rw [if_pos c16] at H
  have c16b0 : (a0_0 == 2)=true:=ya.mpr c16;have c16b1 : (a0_0 != 2)=false:=zX.mpr c16;clear c16;replace H:=zT.mp H;obtain ⟨t146,A170,H⟩:=H;replace H : (if t146=true then (some (a0_2.toList == ([] : List UInt8))) else (some false))=some r:=H;have A17:=zh A170;clear A170
  by_cases c18 : t146=true
  ·
   subst c18
   have H1 : (some (a0_2.toList == ([] : List UInt8)))=some r:=by rw [if_pos rfl] at H;exact H
   clear H;have H:=H1;clear H1;obtain rfl:=zU H
   go_enter Tryd.func12,Tryd.ntmps12
   go_wp2_with (first|((with_reducible refine zK (N:=2) rfl ?_);(try (refine yz (by rfl) ?_;dsimp only));refine zI ?hg (N:=2) ?hd (cs:=#[.int .i64 a0_0,.int .i64 a0_1,.string a0_2]) (t:=27) ?hr ?_;(case hd|hg => rfl);(case hr => go_simp <;> rfl);intro gb144 hg w19 hbox hb;have BK144:=zh (hbox);have hH_:=cH (by repeat (with_reducible first|exact HB.out|apply za|apply zb|apply zc)) hb hg;have GW144:=zh hH_.1;have GE144:=GW144;replace HB:=zh hH_.2;clear hb hbox hg hH_;obtain ⟨hcz20_0,hcz20_1,hcz20_2,hfz20_0,hfz20_1,hfz20_2⟩:=cB3 BK144.out)|((with_reducible refine zJ (f:=23) rfl ?_);refine yj (some 37) rfl rfl Tryd.func23 (by kernel_rfl) rfl #[.int .i64 a0_1,.int .i64 (-1000000000000),.int .i64 1000000000000] rfl (by (try simp only [zt,zu,zv]);first|done|rfl|(simp only [zw,zx];rfl)|(simp only [yr,ys,zV,zW];rfl)) ?_;(with_reducible refine (Fx.calls  a0_1 (-1000000000000) 1000000000000 true _ A17.out).mono ?_);rintro e w' ⟨rfl,⟨nd,rfl⟩⟩;refine ⟨_,rfl,?_⟩))
   go_ret
   exact ⟨by first|rfl|(simp [yt,yu] <;> rfl)|(simp [*,yt,yu] <;> rfl),by repeat (with_reducible first|exact HB.out|apply za|apply zb|apply zc|refine zd ?_ GE144.out)⟩
  replace c18:=yb.mpr c18;subst c18;have H1 : (some false)=some r:=by rw [if_neg (show ¬ (false=true) by decide)] at H;exact H
  clear H;have H:=H1;clear H1;obtain rfl:=zU H
  go_enter Tryd.func12,Tryd.ntmps12
  go_wp2_with (first|((with_reducible refine zK (N:=2) rfl ?_);(try (refine yz (by rfl) ?_;dsimp only));refine zI ?hg (N:=2) ?hd (cs:=#[.int .i64 a0_0,.int .i64 a0_1,.string a0_2]) (t:=27) ?hr ?_;(case hd|hg => rfl);(case hr => go_simp <;> rfl);intro gb144 hg w21 hbox hb;have BK144:=zh (hbox);have hH_:=cH (by repeat (with_reducible first|exact HB.out|apply za|apply zb|apply zc)) hb hg;have GW144:=zh hH_.1;have GE144:=GW144;replace HB:=zh hH_.2;clear hb hbox hg hH_;obtain ⟨hcz22_0,hcz22_1,hcz22_2,hfz22_0,hfz22_1,hfz22_2⟩:=cB3 BK144.out)|((with_reducible refine zJ (f:=23) rfl ?_);refine yj (some 37) rfl rfl Tryd.func23 (by kernel_rfl) rfl #[.int .i64 a0_1,.int .i64 (-1000000000000),.int .i64 1000000000000] rfl (by (try simp only [zt,zu,zv]);first|done|rfl|(simp only [zw,zx];rfl)|(simp only [yr,ys,zV,zW];rfl)) ?_;(with_reducible refine (Fx.calls  a0_1 (-1000000000000) 1000000000000 false _ A17.out).mono ?_);rintro e w' ⟨rfl,⟨nd,rfl⟩⟩;refine ⟨_,rfl,?_⟩))
  go_ret
  exact ⟨by first|rfl|(simp [yt,yu] <;> rfl)|(simp [*,yt,yu] <;> rfl),by repeat (with_reducible first|exact HB.out|apply za|apply zb|apply zc|refine zd ?_ GE144.out)⟩
 rw [if_neg c16] at H;have c16b0 : (a0_0 == 2)=false:=zY.mpr c16;have c16b1 : (a0_0 != 2)=true:=zZ.mpr c16
 by_cases c23 : a0_0=3
 ·
  rw [if_pos c23] at H
  have c23b0 : (a0_0 == 3)=true:=ya.mpr c23;have c23b1 : (a0_0 != 3)=false:=zX.mpr c23;clear c23
  by_cases c24 : a0_1=0
  ·
   rw [if_pos c24] at H
   have c24b0 : (a0_1 == 0)=true:=ya.mpr c24;have c24b1 : (a0_1 != 0)=false:=zX.mpr c24;clear c24;obtain rfl:=zU H
   go_enter Tryd.func12,Tryd.ntmps12
   go_wp2_with (first|((with_reducible refine zK (N:=2) rfl ?_);(try (refine yz (by rfl) ?_;dsimp only));refine zI ?hg (N:=2) ?hd (cs:=#[.int .i64 a0_0,.int .i64 a0_1,.string a0_2]) (t:=27) ?hr ?_;(case hd|hg => rfl);(case hr => go_simp <;> rfl);intro gb144 hg w25 hbox hb;have BK144:=zh (hbox);have hH_:=cH (by repeat (with_reducible first|exact HB.out|apply za|apply zb|apply zc)) hb hg;have GW144:=zh hH_.1;have GE144:=GW144;replace HB:=zh hH_.2;clear hb hbox hg hH_;obtain ⟨hcz26_0,hcz26_1,hcz26_2,hfz26_0,hfz26_1,hfz26_2⟩:=cB3 BK144.out))
   go_ret
   exact ⟨by first|rfl|(simp [yt,yu] <;> rfl)|(simp [*,yt,yu] <;> rfl),by repeat (with_reducible first|exact HB.out|apply za|apply zb|apply zc|refine zd ?_ GE144.out)⟩
  rw [if_neg c24] at H;have c24b0 : (a0_1 == 0)=false:=zY.mpr c24;have c24b1 : (a0_1 != 0)=true:=zZ.mpr c24;obtain rfl:=zU H
  go_enter Tryd.func12,Tryd.ntmps12
  go_wp2_with (first|((with_reducible refine zK (N:=2) rfl ?_);(try (refine yz (by rfl) ?_;dsimp only));refine zI ?hg (N:=2) ?hd (cs:=#[.int .i64 a0_0,.int .i64 a0_1,.string a0_2]) (t:=27) ?hr ?_;(case hd|hg => rfl);(case hr => go_simp <;> rfl);intro gb144 hg w27 hbox hb;have BK144:=zh (hbox);have hH_:=cH (by repeat (with_reducible first|exact HB.out|apply za|apply zb|apply zc)) hb hg;have GW144:=zh hH_.1;have GE144:=GW144;replace HB:=zh hH_.2;clear hb hbox hg hH_;obtain ⟨hcz28_0,hcz28_1,hcz28_2,hfz28_0,hfz28_1,hfz28_2⟩:=cB3 BK144.out))
  go_ret
  exact ⟨by first|rfl|(simp [yt,yu] <;> rfl)|(simp [*,yt,yu] <;> rfl),by repeat (with_reducible first|exact HB.out|apply za|apply zb|apply zc|refine zd ?_ GE144.out)⟩
 rw [if_neg c23] at H;have c23b0 : (a0_0 == 3)=false:=zY.mpr c23;have c23b1 : (a0_0 != 3)=true:=zZ.mpr c23
 by_cases c29 : a0_0=4
 ·
  rw [if_pos c29] at H
  have c29b0 : (a0_0 == 4)=true:=ya.mpr c29;have c29b1 : (a0_0 != 4)=false:=zX.mpr c29;clear c29;replace H:=zT.mp H;obtain ⟨⟨t147,t148⟩,A300,H⟩:=H;replace H : (if a0_1=0 then (if t148=true then (if (a0_2.size : Int) > 300 then (F0.j0 k a1 t147 true) else (F0.j0 k a1 t147 (a1 == 0))) else (F0.j0 k a1 t147 true)) else (F0.j0 k a1 t147 true))=some r:=H;have A30:=zh A300;clear A300;have HC31:=zh H;clear H
  go_enter Tryd.func12,Tryd.ntmps12
  go_upto_region 12 with (first|((with_reducible refine zK (N:=2) rfl ?_);(try (refine yz (by rfl) ?_;dsimp only));refine zI ?hg (N:=2) ?hd (cs:=#[.int .i64 a0_0,.int .i64 a0_1,.string a0_2]) (t:=27) ?hr ?_;(case hd|hg => rfl);(case hr => go_simp <;> rfl);intro gb144 hg w32 hbox hb;have BK144:=zh (hbox);have hH_:=cH (by repeat (with_reducible first|exact HB.out|apply za|apply zb|apply zc)) hb hg;have GW144:=zh hH_.1;have GE144:=GW144;replace HB:=zh hH_.2;clear hb hbox hg hH_;obtain ⟨hcz33_0,hcz33_1,hcz33_2,hfz33_0,hfz33_1,hfz33_2⟩:=cB3 BK144.out)|((with_reducible refine zJ (f:=14) rfl ?_);refine yj (some 59) rfl rfl Tryd.func14 (by kernel_rfl) rfl #[.string a0_2] rfl (by (try simp only [zt,zu,zv]);first|done|rfl|(simp only [zw,zx];rfl)|(simp only [yr,ys,zV,zW];rfl)) ?_;(with_reducible refine (Fd.calls k  a0_2 t147 t148 _ A30.out).mono ?_);rintro e w34 ⟨v149,rfl,ho0,hb⟩;refine ⟨_,rfl,?_⟩;have HO150:=zh (yy (Kd.R_newB ho0 (g:=gb144) (o:=.cells #[.int .i64 a0_0,.int .i64 a0_1,.string a0_2] 27 (0,0)) (by (with_reducible repeat first|apply ze|apply zf|apply zg);exact BK144.out)) (zB (by repeat (with_reducible first|exact HB.out|apply za|apply zb|apply zc|refine zd ?_ GE144.out))));replace BK144:=zh (cD BK144.out (by (with_reducible repeat first|apply ze|apply zf|apply zg);exact BK144.out) hb);replace HB:=zh (zC (by repeat (with_reducible first|exact HB.out|apply za|apply zb|apply zc|refine zd ?_ GE144.out)) hb);(try clear hb);(try clear hb2);(try clear hk);(try clear hi);(try clear ho0)))
  (try simp only [Act.put,zi,zj,zk])
  go_cut [78] (fun v78 wc => ∃ (kq : Nat) (x78_30 : Bool),v78 = .bool x78_30∧Aside0 (F0.j0 kq a1 t147 x78_30=some r)∧Aside0 (kq≤k)∧Aside0 (Kd.R k27 27 wc w.heap.size (fun k_ => k_≠gb144) v149 t147)∧Aside0 (wc.heap[gb144]? = some (.cells #[.int .i64 a0_0,.int .i64 a0_1,.string a0_2] 27 (0,0)))∧Aside0 (Below w.heap.size w wc))
  case first =>
   have H:=HC31.out;clear HC31
   by_cases c35 : a0_1=0
   ·
    rw [if_pos c35] at H
    have c35b0 : (a0_1 == 0)=true:=ya.mpr c35;have c35b1 : (a0_1 != 0)=false:=zX.mpr c35;clear c35;(first|rw [c35b0]|(simp only [zG,zH];rw [c35b0])|skip)
    by_cases c36 : t148=true
    ·
     subst c36
     have H1 : (if (a0_2.size : Int) > 300 then (F0.j0 k a1 t147 true) else (F0.j0 k a1 t147 (a1 == 0)))=some r:=by rw [if_pos rfl] at H;exact H
     clear H;have H:=H1;clear H1
     by_cases c37 : (a0_2.size : Int) > 300
     ·
      rw [if_pos c37] at H
      have c37b0 : decide (300<(a0_2.size : Int))=true:=decide_eq_true c37;have c37b1 : decide (300<a0_2.size)=true:=decide_eq_true (by omega);clear c37;have H':=zh H;clear H;obtain ⟨hcz38_0,hcz38_1,hcz38_2,hfz38_0,hfz38_1,hfz38_2⟩:=cB3 BK144.out
      go_wp2
      go_meet
      case rel => exact ⟨_,(true),(by first|rfl|(simp;done)|(simp [*];done)),H',⟨by first|omega|exact ye _⟩,⟨by (with_reducible repeat (first|apply zm|apply zn|apply zo));exact zM HO150.out (fun _ hk => hk.2)⟩,⟨by (with_reducible repeat first|apply ze|apply zf|apply zg);exact BK144.out⟩,⟨by repeat (with_reducible first|exact HB.out|apply za|apply zb|apply zc|refine zd ?_ GE144.out)⟩⟩
     rw [if_neg c37] at H;have c37b0 : decide (300<(a0_2.size : Int))=false:=decide_eq_false c37;have c37b1 : decide (300<a0_2.size)=false:=decide_eq_false (by omega);clear c37;have H':=zh H;clear H;obtain ⟨hcz39_0,hcz39_1,hcz39_2,hfz39_0,hfz39_1,hfz39_2⟩:=cB3 BK144.out
     go_wp2
     go_meet
     case rel => exact ⟨_,((a1 == 0)),(by first|rfl|(simp;done)|(simp [*];done)),H',⟨by first|omega|exact ye _⟩,⟨by (with_reducible repeat (first|apply zm|apply zn|apply zo));exact zM HO150.out (fun _ hk => hk.2)⟩,⟨by (with_reducible repeat first|apply ze|apply zf|apply zg);exact BK144.out⟩,⟨by repeat (with_reducible first|exact HB.out|apply za|apply zb|apply zc|refine zd ?_ GE144.out)⟩⟩
    replace c36:=yb.mpr c36;subst c36;have H1 : (F0.j0 k a1 t147 true)=some r:=by rw [if_neg (show ¬ (false=true) by decide)] at H;exact H
    clear H;have H:=H1;clear H1;have H':=zh H;clear H;obtain ⟨hcz40_0,hcz40_1,hcz40_2,hfz40_0,hfz40_1,hfz40_2⟩:=cB3 BK144.out
    go_wp2
    go_meet
    case rel => exact ⟨_,(true),(by first|rfl|(simp;done)|(simp [*];done)),H',⟨by first|omega|exact ye _⟩,⟨by (with_reducible repeat (first|apply zm|apply zn|apply zo));exact zM HO150.out (fun _ hk => hk.2)⟩,⟨by (with_reducible repeat first|apply ze|apply zf|apply zg);exact BK144.out⟩,⟨by repeat (with_reducible first|exact HB.out|apply za|apply zb|apply zc|refine zd ?_ GE144.out)⟩⟩
   rw [if_neg c35] at H;have c35b0 : (a0_1 == 0)=false:=zY.mpr c35;have c35b1 : (a0_1 != 0)=true:=zZ.mpr c35;(first|rw [c35b0]|(simp only [zG,zH];rw [c35b0])|skip);have H':=zh H;clear H;obtain ⟨hcz41_0,hcz41_1,hcz41_2,hfz41_0,hfz41_1,hfz41_2⟩:=cB3 BK144.out
   go_wp2
   go_meet
   case rel => exact ⟨_,(true),(by first|rfl|(simp;done)|(simp [*];done)),H',⟨by first|omega|exact ye _⟩,⟨by (with_reducible repeat (first|apply zm|apply zn|apply zo));exact zM HO150.out (fun _ hk => hk.2)⟩,⟨by (with_reducible repeat first|apply ze|apply zf|apply zg);exact BK144.out⟩,⟨by repeat (with_reducible first|exact HB.out|apply za|apply zb|apply zc|refine zd ?_ GE144.out)⟩⟩
  case rest =>
   clear HC31
   try clear c1 c2
   try clear p2
   try clear c3 c3b0 c3b1 c4 c4b0 c4b1 c9 c9b0 c9b1 c11 c12 c14 c16 c16b0 c16b1 c18 c23 c23b0 c23b1 c24 c24b0 c24b1 c29 c29b0 c29b1 c35 c35b0 c35b1 c36 c37 c37b0 c37b1
   try clear hcz13_0 hcz13_1 hcz13_2
   try clear hcz15_0 hcz15_1 hcz15_2
   try clear hcz20_0 hcz20_1 hcz20_2
   try clear hcz22_0 hcz22_1 hcz22_2
   try clear hcz26_0 hcz26_1 hcz26_2
   try clear hcz28_0 hcz28_1 hcz28_2
   try clear hcz33_0 hcz33_1 hcz33_2
   try clear hcz38_0 hcz38_1 hcz38_2
   try clear hcz39_0 hcz39_1 hcz39_2
   try clear hcz40_0 hcz40_1 hcz40_2
   try clear hcz41_0 hcz41_1 hcz41_2
   try clear hcz6_0 hcz6_1 hcz6_2
   try clear hcz8_0 hcz8_1 hcz8_2
   try clear hfz13_0 hfz13_1 hfz13_2
   try clear hfz15_0 hfz15_1 hfz15_2
   try clear hfz20_0 hfz20_1 hfz20_2
   try clear hfz22_0 hfz22_1 hfz22_2
   try clear hfz26_0 hfz26_1 hfz26_2
   try clear hfz28_0 hfz28_1 hfz28_2
   try clear hfz33_0 hfz33_1 hfz33_2
   try clear hfz38_0 hfz38_1 hfz38_2
   try clear hfz39_0 hfz39_1 hfz39_2
   try clear hfz40_0 hfz40_1 hfz40_2
   try clear hfz41_0 hfz41_1 hfz41_2
   try clear hfz6_0 hfz6_1 hfz6_2
   try clear hfz8_0 hfz8_1 hfz8_2
   obtain ⟨kq,x78_30,rfl,HA,HJ30,HO_5,BK144,HB⟩:=hcut
   cases kq with
   | zero => exact absurd HA.out (by simp [F0.j0])
   | succ kj30 =>
    have H:=HA.out;clear HA;simp only [F0.j0] at H
    by_cases c42 : x78_30=true
    ·
     subst c42
     have H1 : (some false)=some r:=by rw [if_pos rfl] at H;exact H
     clear H;have H:=H1;clear H1;obtain rfl:=zU H
     go_wp2
     go_ret
     exact ⟨by first|rfl|(simp [yt,yu] <;> rfl)|(simp [*,yt,yu] <;> rfl),by repeat (with_reducible first|exact HB.out|apply za|apply zb|apply zc|refine zd ?_ GE144.out)⟩
    replace c42:=yb.mpr c42;subst c42;have H1 : (F0.l0 kj30 a1 t147 0)=some r:=by rw [if_neg (show ¬ (false=true) by decide)] at H;exact H
    clear H;have H:=H1;clear H1;have H':=zh H;clear H
    go_wp2
    go_loopg [7] kj30 (fun kq v7 w' => ∃ (x7_2 : Int),v7 = .int .i64 x7_2∧Aside0 (F0.l0 kq a1 t147 x7_2=some r)∧Aside0 (kq≤kj30)∧Aside0 (Kd.R k27 27 w' w.heap.size (fun k_ => k_≠gb144) v149 t147)∧Aside0 (w'.heap[gb144]? = some (.cells #[.int .i64 a0_0,.int .i64 a0_1,.string a0_2] 27 (0,0)))∧Aside0 (Below w.heap.size w w'))
    case atStart => exact ⟨(0),(by first|rfl|(simp;done)|(simp [*];done)),H',⟨ye _⟩,⟨by (with_reducible repeat (first|apply zm|apply zn|apply zo));exact HO_5.out⟩,⟨by (with_reducible repeat first|apply ze|apply zf|apply zg);exact BK144.out⟩,⟨by repeat (with_reducible first|exact HB.out|apply za|apply zb|apply zc|refine zd ?_ GE144.out)⟩⟩
    case round =>
     clear H'
     try clear c1 c2
     try clear p2
     try clear c3 c3b0 c3b1 c4 c4b0 c4b1 c9 c9b0 c9b1 c11 c12 c14 c16 c16b0 c16b1 c18 c23 c23b0 c23b1 c24 c24b0 c24b1 c29 c29b0 c29b1 c35 c35b0 c35b1 c36 c37 c37b0 c37b1 c42
     try clear hcz13_0 hcz13_1 hcz13_2
     try clear hcz15_0 hcz15_1 hcz15_2
     try clear hcz20_0 hcz20_1 hcz20_2
     try clear hcz22_0 hcz22_1 hcz22_2
     try clear hcz26_0 hcz26_1 hcz26_2
     try clear hcz28_0 hcz28_1 hcz28_2
     try clear hcz33_0 hcz33_1 hcz33_2
     try clear hcz38_0 hcz38_1 hcz38_2
     try clear hcz39_0 hcz39_1 hcz39_2
     try clear hcz40_0 hcz40_1 hcz40_2
     try clear hcz41_0 hcz41_1 hcz41_2
     try clear hcz6_0 hcz6_1 hcz6_2
     try clear hcz8_0 hcz8_1 hcz8_2
     try clear hfz13_0 hfz13_1 hfz13_2
     try clear hfz15_0 hfz15_1 hfz15_2
     try clear hfz20_0 hfz20_1 hfz20_2
     try clear hfz22_0 hfz22_1 hfz22_2
     try clear hfz26_0 hfz26_1 hfz26_2
     try clear hfz28_0 hfz28_1 hfz28_2
     try clear hfz33_0 hfz33_1 hfz33_2
     try clear hfz38_0 hfz38_1 hfz38_2
     try clear hfz39_0 hfz39_1 hfz39_2
     try clear hfz40_0 hfz40_1 hfz40_2
     try clear hfz41_0 hfz41_1 hfz41_2
     try clear hfz6_0 hfz6_1 hfz6_2
     try clear hfz8_0 hfz8_1 hfz8_2
     try clear p2
     obtain ⟨x7_2,rfl,HA,HK2,HO_5,BK144,HB⟩:=hrel
     cases gk with
     | zero => exact absurd HA.out (by simp [F0.l0])
     | succ k2 =>
      have H:=HA.out;clear HA;simp only [F0.l0] at H
      by_cases c43 : x7_2<(t147.length : Int)
      ·
       rw [if_pos c43] at H
       have c43b0 : decide (x7_2<(t147.length : Int))=true:=decide_eq_true c43;clear c43
       by_cases c44 : 0≤x7_2
       ·
        rw [if_pos c44] at H
        have c44b0 : decide (0≤x7_2)=true:=decide_eq_true c44;clear c44;replace H:=zT.mp H;obtain ⟨t152,A450,H⟩:=H;replace H : (if t152=true then (F0.l0 k2 a1 t147 (wrap64 (x7_2 + 1))) else (some false))=some r:=H;have A45:=zh A450;clear A450
        by_cases c46 : t152=true
        ·
         subst c46
         have H1 : (F0.l0 k2 a1 t147 (wrap64 (x7_2 + 1)))=some r:=by rw [if_pos rfl] at H;exact H
         clear H;have H:=H1;clear H1;have H':=zh H;clear H;obtain ⟨Ao47,co47,eo47⟩:=yk HO_5.out;subst eo47;have p151 : 0≤(x7_2 : Int):=zy (by first|(with_reducible assumption)|assumption);have q151 : x7_2<(t147.length : Int):=zy (by first|(with_reducible assumption)|assumption);obtain ⟨ad151,e151,hx151_0,hx151_1,hx151_2⟩:=at_T27 (yh HO_5.out).2.2 x7_2 p151 q151
         cases e151
         replace p151:=eq_true p151;replace q151:=eq_true q151
         go_wp2_with (first|((with_reducible refine zJ (f:=12) rfl ?_);refine yj (some 91) rfl rfl Tryd.func12 (by kernel_rfl) rfl #[.agg #[.int .i64 ((rd_T27 t147 x7_2).f0),.int .i64 ((rd_T27 t147 x7_2).f1),.string ((rd_T27 t147 x7_2).f2)],.int .i64 (wrap64 (a1 - 1))] rfl (by (try simp only [zt,zu,zv]);first|done|rfl|(simp only [zw,zx];rfl)|(simp only [yr,ys,zV,zW];rfl)) ?_;(with_reducible refine (ih k2 (by have:=HJ30.out;have:=HK2.out;omega)  ((rd_T27 t147 x7_2).f0) ((rd_T27 t147 x7_2).f1) ((rd_T27 t147 x7_2).f2) (wrap64 (a1 - 1)) true _ A45.out).mono ?_);rintro e w48 ⟨rfl,hb⟩;refine ⟨_,rfl,?_⟩;replace HO_5:=zh (yg (by (with_reducible repeat (first|apply zm|apply zn|apply zo));exact HO_5.out) hb);replace BK144:=zh (cD BK144.out (by (with_reducible repeat first|apply ze|apply zf|apply zg);exact BK144.out) hb);replace HB:=zh (zC (by repeat (with_reducible first|exact HB.out|apply za|apply zb|apply zc|refine zd ?_ GE144.out)) hb);(try clear hb);(try clear hb2);(try clear hk);(try clear hi)))
         go_roundg k2
         case measure => have:=HJ30.out;have:=HK2.out;omega
         case rel => exact ⟨(wrap64 (x7_2 + 1)),(by first|rfl|(simp;done)|(simp [*];done)),H',⟨by have:=HJ30.out;have:=HK2.out;omega⟩,⟨by (with_reducible repeat (first|apply zm|apply zn|apply zo));exact HO_5.out⟩,⟨by (with_reducible repeat first|apply ze|apply zf|apply zg);exact BK144.out⟩,⟨by repeat (with_reducible first|exact HB.out|apply za|apply zb|apply zc|refine zd ?_ GE144.out)⟩⟩
        replace c46:=yb.mpr c46;subst c46;have H1 : (some false)=some r:=by rw [if_neg (show ¬ (false=true) by decide)] at H;exact H
        clear H;have H:=H1;clear H1;obtain rfl:=zU H;obtain ⟨Ao49,co49,eo49⟩:=yk HO_5.out;subst eo49;have p151 : 0≤(x7_2 : Int):=zy (by first|(with_reducible assumption)|assumption);have q151 : x7_2<(t147.length : Int):=zy (by first|(with_reducible assumption)|assumption);obtain ⟨ad151,e151,hx151_0,hx151_1,hx151_2⟩:=at_T27 (yh HO_5.out).2.2 x7_2 p151 q151
        cases e151
        replace p151:=eq_true p151;replace q151:=eq_true q151
        go_wp2_with (first|((with_reducible refine zJ (f:=12) rfl ?_);refine yj (some 91) rfl rfl Tryd.func12 (by kernel_rfl) rfl #[.agg #[.int .i64 ((rd_T27 t147 x7_2).f0),.int .i64 ((rd_T27 t147 x7_2).f1),.string ((rd_T27 t147 x7_2).f2)],.int .i64 (wrap64 (a1 - 1))] rfl (by (try simp only [zt,zu,zv]);first|done|rfl|(simp only [zw,zx];rfl)|(simp only [yr,ys,zV,zW];rfl)) ?_;(with_reducible refine (ih k2 (by have:=HJ30.out;have:=HK2.out;omega)  ((rd_T27 t147 x7_2).f0) ((rd_T27 t147 x7_2).f1) ((rd_T27 t147 x7_2).f2) (wrap64 (a1 - 1)) false _ A45.out).mono ?_);rintro e w50 ⟨rfl,hb⟩;refine ⟨_,rfl,?_⟩;replace HO_5:=zh (yg (by (with_reducible repeat (first|apply zm|apply zn|apply zo));exact HO_5.out) hb);replace BK144:=zh (cD BK144.out (by (with_reducible repeat first|apply ze|apply zf|apply zg);exact BK144.out) hb);replace HB:=zh (zC (by repeat (with_reducible first|exact HB.out|apply za|apply zb|apply zc|refine zd ?_ GE144.out)) hb);(try clear hb);(try clear hb2);(try clear hk);(try clear hi)))
        go_ret
        exact ⟨by first|rfl|(simp [yt,yu] <;> rfl)|(simp [*,yt,yu] <;> rfl),by repeat (with_reducible first|exact HB.out|apply za|apply zb|apply zc|refine zd ?_ GE144.out)⟩
       rw [if_neg c44] at H;exact absurd H (by simp)
      rw [if_neg c43] at H;have c43b0 : decide (x7_2<(t147.length : Int))=false:=decide_eq_false c43;clear c43;obtain rfl:=zU H;obtain ⟨Ao51,co51,eo51⟩:=yk HO_5.out;subst eo51
      go_wp2
      go_ret
      exact ⟨by first|rfl|(simp [yt,yu] <;> rfl)|(simp [*,yt,yu] <;> rfl),by repeat (with_reducible first|exact HB.out|apply za|apply zb|apply zc|refine zd ?_ GE144.out)⟩
 rw [if_neg c29] at H;have c29b0 : (a0_0 == 4)=false:=zY.mpr c29;have c29b1 : (a0_0 != 4)=true:=zZ.mpr c29
 by_cases c52 : a0_0=5
 ·
  rw [if_pos c52] at H
  have c52b0 : (a0_0 == 5)=true:=ya.mpr c52;have c52b1 : (a0_0 != 5)=false:=zX.mpr c52;clear c52;replace H:=zT.mp H;obtain ⟨⟨t153,t154⟩,A530,H⟩:=H;replace H : (if a0_1=0 then (if t154=true then (if (a0_2.size : Int) > 300 then (F0.j2 k a1 t153 true) else (F0.j2 k a1 t153 (a1 == 0))) else (F0.j2 k a1 t153 true)) else (F0.j2 k a1 t153 true))=some r:=H;have A53:=zh A530;clear A530;have HC54:=zh H;clear H
  go_enter Tryd.func12,Tryd.ntmps12
  go_upto_region 22 with (first|((with_reducible refine zK (N:=2) rfl ?_);(try (refine yz (by rfl) ?_;dsimp only));refine zI ?hg (N:=2) ?hd (cs:=#[.int .i64 a0_0,.int .i64 a0_1,.string a0_2]) (t:=27) ?hr ?_;(case hd|hg => rfl);(case hr => go_simp <;> rfl);intro gb144 hg w55 hbox hb;have BK144:=zh (hbox);have hH_:=cH (by repeat (with_reducible first|exact HB.out|apply za|apply zb|apply zc)) hb hg;have GW144:=zh hH_.1;have GE144:=GW144;replace HB:=zh hH_.2;clear hb hbox hg hH_;obtain ⟨hcz56_0,hcz56_1,hcz56_2,hfz56_0,hfz56_1,hfz56_2⟩:=cB3 BK144.out)|((with_reducible refine zJ (f:=16) rfl ?_);refine yj (some 98) rfl rfl Tryd.func16 (by kernel_rfl) rfl #[.string a0_2] rfl (by (try simp only [zt,zu,zv]);first|done|rfl|(simp only [zw,zx];rfl)|(simp only [yr,ys,zV,zW];rfl)) ?_;(with_reducible refine (Fc.calls k  a0_2 t153 t154 _ A53.out).mono ?_);rintro e w57 ⟨v155,rfl,ho0,hb⟩;refine ⟨_,rfl,?_⟩;have HO156:=zh (yy ho0 (zB (by repeat (with_reducible first|exact HB.out|apply za|apply zb|apply zc|refine zd ?_ GE144.out))));replace BK144:=zh (cD BK144.out (by (with_reducible repeat first|apply ze|apply zf|apply zg);exact BK144.out) hb);replace HB:=zh (zC (by repeat (with_reducible first|exact HB.out|apply za|apply zb|apply zc|refine zd ?_ GE144.out)) hb);(try clear hb);(try clear hb2);(try clear hk);(try clear hi);(try clear ho0)))
  (try simp only [Act.put,zi,zj,zk])
  go_cut [117] (fun v117 wc => ∃ (kq : Nat) (x117_53 : Bool),v117 = .bool x117_53∧Aside0 (F0.j2 kq a1 t153 x117_53=some r)∧Aside0 (kq≤k)∧Aside0 (Kd.R k43 43 wc w.heap.size (fun _ => True) v155 t153)∧Aside0 (wc.heap[gb144]? = some (.cells #[.int .i64 a0_0,.int .i64 a0_1,.string a0_2] 27 (0,0)))∧Aside0 (Below w.heap.size w wc))
  case first =>
   have H:=HC54.out;clear HC54
   by_cases c58 : a0_1=0
   ·
    rw [if_pos c58] at H
    have c58b0 : (a0_1 == 0)=true:=ya.mpr c58;have c58b1 : (a0_1 != 0)=false:=zX.mpr c58;clear c58;(first|rw [c58b0]|(simp only [zG,zH];rw [c58b0])|skip)
    by_cases c59 : t154=true
    ·
     subst c59
     have H1 : (if (a0_2.size : Int) > 300 then (F0.j2 k a1 t153 true) else (F0.j2 k a1 t153 (a1 == 0)))=some r:=by rw [if_pos rfl] at H;exact H
     clear H;have H:=H1;clear H1
     by_cases c60 : (a0_2.size : Int) > 300
     ·
      rw [if_pos c60] at H
      have c60b0 : decide (300<(a0_2.size : Int))=true:=decide_eq_true c60;have c60b1 : decide (300<a0_2.size)=true:=decide_eq_true (by omega);clear c60;have H':=zh H;clear H;obtain ⟨hcz61_0,hcz61_1,hcz61_2,hfz61_0,hfz61_1,hfz61_2⟩:=cB3 BK144.out
      go_wp2
      go_meet
      case rel => exact ⟨_,(true),(by first|rfl|(simp;done)|(simp [*];done)),H',⟨by first|omega|exact ye _⟩,⟨by (with_reducible repeat (first|apply zm|apply zn|apply zo));exact HO156.out⟩,⟨by (with_reducible repeat first|apply ze|apply zf|apply zg);exact BK144.out⟩,⟨by repeat (with_reducible first|exact HB.out|apply za|apply zb|apply zc|refine zd ?_ GE144.out)⟩⟩
     rw [if_neg c60] at H;have c60b0 : decide (300<(a0_2.size : Int))=false:=decide_eq_false c60;have c60b1 : decide (300<a0_2.size)=false:=decide_eq_false (by omega);clear c60;have H':=zh H;clear H;obtain ⟨hcz62_0,hcz62_1,hcz62_2,hfz62_0,hfz62_1,hfz62_2⟩:=cB3 BK144.out
     go_wp2
     go_meet
     case rel => exact ⟨_,((a1 == 0)),(by first|rfl|(simp;done)|(simp [*];done)),H',⟨by first|omega|exact ye _⟩,⟨by (with_reducible repeat (first|apply zm|apply zn|apply zo));exact HO156.out⟩,⟨by (with_reducible repeat first|apply ze|apply zf|apply zg);exact BK144.out⟩,⟨by repeat (with_reducible first|exact HB.out|apply za|apply zb|apply zc|refine zd ?_ GE144.out)⟩⟩
    replace c59:=yb.mpr c59;subst c59;have H1 : (F0.j2 k a1 t153 true)=some r:=by rw [if_neg (show ¬ (false=true) by decide)] at H;exact H
    clear H;have H:=H1;clear H1;have H':=zh H;clear H;obtain ⟨hcz63_0,hcz63_1,hcz63_2,hfz63_0,hfz63_1,hfz63_2⟩:=cB3 BK144.out
    go_wp2
    go_meet
    case rel => exact ⟨_,(true),(by first|rfl|(simp;done)|(simp [*];done)),H',⟨by first|omega|exact ye _⟩,⟨by (with_reducible repeat (first|apply zm|apply zn|apply zo));exact HO156.out⟩,⟨by (with_reducible repeat first|apply ze|apply zf|apply zg);exact BK144.out⟩,⟨by repeat (with_reducible first|exact HB.out|apply za|apply zb|apply zc|refine zd ?_ GE144.out)⟩⟩
   rw [if_neg c58] at H;have c58b0 : (a0_1 == 0)=false:=zY.mpr c58;have c58b1 : (a0_1 != 0)=true:=zZ.mpr c58;(first|rw [c58b0]|(simp only [zG,zH];rw [c58b0])|skip);have H':=zh H;clear H;obtain ⟨hcz64_0,hcz64_1,hcz64_2,hfz64_0,hfz64_1,hfz64_2⟩:=cB3 BK144.out
   go_wp2
   go_meet
   case rel => exact ⟨_,(true),(by first|rfl|(simp;done)|(simp [*];done)),H',⟨by first|omega|exact ye _⟩,⟨by (with_reducible repeat (first|apply zm|apply zn|apply zo));exact HO156.out⟩,⟨by (with_reducible repeat first|apply ze|apply zf|apply zg);exact BK144.out⟩,⟨by repeat (with_reducible first|exact HB.out|apply za|apply zb|apply zc|refine zd ?_ GE144.out)⟩⟩
  case rest =>
   clear HC54
   try clear c1
   try clear p1
   try clear q1
   try clear hx1
   try clear c2
   try clear p2
   try clear c3 c3b0 c3b1 c4 c4b0 c4b1 c5 c6
   try clear p6
   try clear c9 c9b0 c9b1 c11 c12 c14
   try clear p15
   try clear q15
   try clear hx15
   try clear c16 c16b0 c16b1 c18 c23 c23b0 c23b1 c24 c24b0 c24b1 c29 c29b0 c29b1 c35 c35b0 c35b1 c36 c37 c37b0 c37b1 c42 c43 c43b0 c44 c44b0 c46 c52 c52b0 c52b1 c58 c58b0 c58b1 c59 c60 c60b0 c60b1
   try clear p64
   try clear hcz13_0 hcz13_1 hcz13_2
   try clear hcz15_0 hcz15_1 hcz15_2
   try clear hcz20_0 hcz20_1 hcz20_2
   try clear hcz22_0 hcz22_1 hcz22_2
   try clear hcz26_0 hcz26_1 hcz26_2
   try clear hcz28_0 hcz28_1 hcz28_2
   try clear hcz33_0 hcz33_1 hcz33_2
   try clear hcz38_0 hcz38_1 hcz38_2
   try clear hcz39_0 hcz39_1 hcz39_2
   try clear hcz40_0 hcz40_1 hcz40_2
   try clear hcz41_0 hcz41_1 hcz41_2
   try clear hcz56_0 hcz56_1 hcz56_2
   try clear hcz61_0 hcz61_1 hcz61_2
   try clear hcz62_0 hcz62_1 hcz62_2
   try clear hcz63_0 hcz63_1 hcz63_2
   try clear hcz64_0 hcz64_1 hcz64_2
   try clear hcz6_0 hcz6_1 hcz6_2
   try clear hcz8_0 hcz8_1 hcz8_2
   try clear hfz13_0 hfz13_1 hfz13_2
   try clear hfz15_0 hfz15_1 hfz15_2
   try clear hfz20_0 hfz20_1 hfz20_2
   try clear hfz22_0 hfz22_1 hfz22_2
   try clear hfz26_0 hfz26_1 hfz26_2
   try clear hfz28_0 hfz28_1 hfz28_2
   try clear hfz33_0 hfz33_1 hfz33_2
   try clear hfz38_0 hfz38_1 hfz38_2
   try clear hfz39_0 hfz39_1 hfz39_2
   try clear hfz40_0 hfz40_1 hfz40_2
   try clear hfz41_0 hfz41_1 hfz41_2
   try clear hfz56_0 hfz56_1 hfz56_2
   try clear hfz61_0 hfz61_1 hfz61_2
   try clear hfz62_0 hfz62_1 hfz62_2
   try clear hfz63_0 hfz63_1 hfz63_2
   try clear hfz64_0 hfz64_1 hfz64_2
   try clear hfz6_0 hfz6_1 hfz6_2
   try clear hfz8_0 hfz8_1 hfz8_2
   try clear hx151_0
   try clear hx151_1
   try clear hx151_2
   try clear p151
   try clear p2
   try clear q151
   obtain ⟨kq,x117_53,rfl,HA,HJ53,HO_8,BK144,HB⟩:=hcut
   cases kq with
   | zero => exact absurd HA.out (by simp [F0.j2])
   | succ kj53 =>
    have H:=HA.out;clear HA;simp only [F0.j2] at H
    by_cases c65 : x117_53=true
    ·
     subst c65
     have H1 : (some false)=some r:=by rw [if_pos rfl] at H;exact H
     clear H;have H:=H1;clear H1;obtain rfl:=zU H
     go_wp2
     go_ret
     exact ⟨by first|rfl|(simp [yt,yu] <;> rfl)|(simp [*,yt,yu] <;> rfl),by repeat (with_reducible first|exact HB.out|apply za|apply zb|apply zc|refine zd ?_ GE144.out)⟩
    replace c65:=yb.mpr c65;subst c65;have H1 : (F0.l1 kj53 a1 t153 0)=some r:=by rw [if_neg (show ¬ (false=true) by decide)] at H;exact H
    clear H;have H:=H1;clear H1;have H':=zh H;clear H
    go_wp2
    go_loopg [10] kj53 (fun kq v10 w' => ∃ (x10_2 : Int),v10 = .int .i64 x10_2∧Aside0 (F0.l1 kq a1 t153 x10_2=some r)∧Aside0 (kq≤kj53)∧Aside0 (Kd.R k43 43 w' w.heap.size (fun _ => True) v155 t153)∧Aside0 (w'.heap[gb144]? = some (.cells #[.int .i64 a0_0,.int .i64 a0_1,.string a0_2] 27 (0,0)))∧Aside0 (Below w.heap.size w w'))
    case atStart => exact ⟨(0),(by first|rfl|(simp;done)|(simp [*];done)),H',⟨ye _⟩,⟨by (with_reducible repeat (first|apply zm|apply zn|apply zo));exact HO_8.out⟩,⟨by (with_reducible repeat first|apply ze|apply zf|apply zg);exact BK144.out⟩,⟨by repeat (with_reducible first|exact HB.out|apply za|apply zb|apply zc|refine zd ?_ GE144.out)⟩⟩
    case round =>
     clear H'
     try clear c1
     try clear p1
     try clear q1
     try clear hx1
     try clear c2
     try clear p2
     try clear c3 c3b0 c3b1 c4 c4b0 c4b1 c5 c6
     try clear p6
     try clear c9 c9b0 c9b1 c11 c12 c14
     try clear p15
     try clear q15
     try clear hx15
     try clear c16 c16b0 c16b1 c18 c23 c23b0 c23b1 c24 c24b0 c24b1 c29 c29b0 c29b1 c35 c35b0 c35b1 c36 c37 c37b0 c37b1 c42 c43 c43b0 c44 c44b0 c46 c52 c52b0 c52b1 c58 c58b0 c58b1 c59 c60 c60b0 c60b1
     try clear p64
     try clear c65
     try clear hcz13_0 hcz13_1 hcz13_2
     try clear hcz15_0 hcz15_1 hcz15_2
     try clear hcz20_0 hcz20_1 hcz20_2
     try clear hcz22_0 hcz22_1 hcz22_2
     try clear hcz26_0 hcz26_1 hcz26_2
     try clear hcz28_0 hcz28_1 hcz28_2
     try clear hcz33_0 hcz33_1 hcz33_2
     try clear hcz38_0 hcz38_1 hcz38_2
     try clear hcz39_0 hcz39_1 hcz39_2
     try clear hcz40_0 hcz40_1 hcz40_2
     try clear hcz41_0 hcz41_1 hcz41_2
     try clear hcz56_0 hcz56_1 hcz56_2
     try clear hcz61_0 hcz61_1 hcz61_2
     try clear hcz62_0 hcz62_1 hcz62_2
     try clear hcz63_0 hcz63_1 hcz63_2
     try clear hcz64_0 hcz64_1 hcz64_2
     try clear hcz6_0 hcz6_1 hcz6_2
     try clear hcz8_0 hcz8_1 hcz8_2
     try clear hfz13_0 hfz13_1 hfz13_2
     try clear hfz15_0 hfz15_1 hfz15_2
     try clear hfz20_0 hfz20_1 hfz20_2
     try clear hfz22_0 hfz22_1 hfz22_2
     try clear hfz26_0 hfz26_1 hfz26_2
     try clear hfz28_0 hfz28_1 hfz28_2
     try clear hfz33_0 hfz33_1 hfz33_2
     try clear hfz38_0 hfz38_1 hfz38_2
     try clear hfz39_0 hfz39_1 hfz39_2
     try clear hfz40_0 hfz40_1 hfz40_2
     try clear hfz41_0 hfz41_1 hfz41_2
     try clear hfz56_0 hfz56_1 hfz56_2
     try clear hfz61_0 hfz61_1 hfz61_2
     try clear hfz62_0 hfz62_1 hfz62_2
     try clear hfz63_0 hfz63_1 hfz63_2
     try clear hfz64_0 hfz64_1 hfz64_2
     try clear hfz6_0 hfz6_1 hfz6_2
     try clear hfz8_0 hfz8_1 hfz8_2
     try clear hx151_0
     try clear hx151_1
     try clear hx151_2
     try clear p1
     try clear p15
     try clear p151
     try clear p2
     try clear p6
     try clear p64
     try clear q1
     try clear q15
     try clear q151
     obtain ⟨x10_2,rfl,HA,HK2,HO_8,BK144,HB⟩:=hrel
     cases gk with
     | zero => exact absurd HA.out (by simp [F0.l1])
     | succ k2 =>
      have H:=HA.out;clear HA;simp only [F0.l1] at H
      by_cases c66 : x10_2<(t153.length : Int)
      ·
       rw [if_pos c66] at H
       have c66b0 : decide (x10_2<(t153.length : Int))=true:=decide_eq_true c66;clear c66
       by_cases c67 : 0≤x10_2
       ·
        rw [if_pos c67] at H
        have c67b0 : decide (0≤x10_2)=true:=decide_eq_true c67;clear c67;replace H:=zT.mp H;obtain ⟨t158,A680,H⟩:=H;replace H : (if t158=true then (if x10_2 > 0 then (if 0≤(wrap64 (x10_2 - 1)) then (if (wrap64 (x10_2 - 1))<(t153.length : Int) then (if ((Op.bytesLess (((rd_T43 t153 (wrap64 (x10_2 - 1))).f0).toList) (((rd_T43 t153 x10_2).f0).toList))=true) then ((F0.f k2 ((rd_T43 t153 x10_2).f1.f0) ((rd_T43 t153 x10_2).f1.f1) ((rd_T43 t153 x10_2).f1.f2) (wrap64 (a1 - 1))).bind fun t162 => (if t162=true then (F0.l1 k2 a1 t153 (wrap64 (x10_2 + 1))) else (some false))) else (some false)) else (none)) else (none)) else ((F0.f k2 ((rd_T43 t153 x10_2).f1.f0) ((rd_T43 t153 x10_2).f1.f1) ((rd_T43 t153 x10_2).f1.f2) (wrap64 (a1 - 1))).bind fun t164 => (if t164=true then (F0.l1 k2 a1 t153 (wrap64 (x10_2 + 1))) else (some false)))) else (some false))=some r:=H;have A68:=zh A680;clear A680
        by_cases c69 : t158=true
        ·
         subst c69
         have H1 : (if x10_2 > 0 then (if 0≤(wrap64 (x10_2 - 1)) then (if (wrap64 (x10_2 - 1))<(t153.length : Int) then (if ((Op.bytesLess (((rd_T43 t153 (wrap64 (x10_2 - 1))).f0).toList) (((rd_T43 t153 x10_2).f0).toList))=true) then ((F0.f k2 ((rd_T43 t153 x10_2).f1.f0) ((rd_T43 t153 x10_2).f1.f1) ((rd_T43 t153 x10_2).f1.f2) (wrap64 (a1 - 1))).bind fun t162 => (if t162=true then (F0.l1 k2 a1 t153 (wrap64 (x10_2 + 1))) else (some false))) else (some false)) else (none)) else (none)) else ((F0.f k2 ((rd_T43 t153 x10_2).f1.f0) ((rd_T43 t153 x10_2).f1.f1) ((rd_T43 t153 x10_2).f1.f2) (wrap64 (a1 - 1))).bind fun t164 => (if t164=true then (F0.l1 k2 a1 t153 (wrap64 (x10_2 + 1))) else (some false))))=some r:=by rw [if_pos rfl] at H;exact H
         clear H;have H:=H1;clear H1
         by_cases c70 : x10_2 > 0
         ·
          rw [if_pos c70] at H
          have c70b0 : decide (0<x10_2)=true:=decide_eq_true c70;clear c70;obtain ⟨ji71,hji71⟩ : ∃ j_ : Int,(wrap64 (x10_2 - 1))=j_:=⟨_,rfl⟩;replace H : (if 0≤(ji71) then (if (ji71)<(t153.length : Int) then (if ((Op.bytesLess (((rd_T43 t153 (ji71)).f0).toList) (((rd_T43 t153 x10_2).f0).toList))=true) then ((F0.f k2 ((rd_T43 t153 x10_2).f1.f0) ((rd_T43 t153 x10_2).f1.f1) ((rd_T43 t153 x10_2).f1.f2) (wrap64 (a1 - 1))).bind fun t162 => (if t162=true then (F0.l1 k2 a1 t153 (wrap64 (x10_2 + 1))) else (some false))) else (some false)) else (none)) else (none))=some r:=by first|(rw [hji71] at H;exact H)|(simp only [hji71] at H ⊢;exact H)
          (try rw [hji71] at A68);have hji71w : (IntKind.i64.wrap (x10_2 - 1))=ji71:=(zG _).trans hji71
          by_cases c72 : 0≤(ji71)
          ·
           rw [if_pos c72] at H
           have c72b0 : decide (0≤(ji71))=true:=decide_eq_true c72;clear c72
           by_cases c73 : (ji71)<(t153.length : Int)
           ·
            rw [if_pos c73] at H
            have c73b0 : decide ((ji71)<(t153.length : Int))=true:=decide_eq_true c73;clear c73
            by_cases c74 : ((Op.bytesLess (((rd_T43 t153 (ji71)).f0).toList) (((rd_T43 t153 x10_2).f0).toList))=true)
            ·
             rw [if_pos c74] at H
             have c74b0 : (Op.bytesLess (((rd_T43 t153 (ji71)).f0).toList) (((rd_T43 t153 x10_2).f0).toList))=true:=c74;clear c74;replace H:=zT.mp H;obtain ⟨t162,A750,H⟩:=H;replace H : (if t162=true then (F0.l1 k2 a1 t153 (wrap64 (x10_2 + 1))) else (some false))=some r:=H;have A75:=zh A750;clear A750
             by_cases c76 : t162=true
             ·
              subst c76
              have H1 : (F0.l1 k2 a1 t153 (wrap64 (x10_2 + 1)))=some r:=by rw [if_pos rfl] at H;exact H
              clear H;have H:=H1;clear H1;have H':=zh H;clear H;obtain ⟨Ao77,co77,eo77⟩:=yk HO_8.out;subst eo77
              try go_wp2
              replace HO_8:=zh (zo HO_8.out);replace BK144:=zh (zf BK144.out);replace HB:=zh (zc HB.out);have p157 : 0≤(x10_2 : Int):=zy (by first|(with_reducible assumption)|assumption);have q157 : x10_2<(t153.length : Int):=zy (by first|(with_reducible assumption)|assumption);obtain ⟨ad157,e157,hx157_0,hx157_1,hx157_2,hx157_3⟩:=at_T43 (yh HO_8.out).2.2 x10_2 p157 q157
              cases e157
              replace p157:=eq_true p157;replace q157:=eq_true q157;have p159 : 0≤((ji71) : Int):=zy (by first|(with_reducible assumption)|assumption);have q159 : (ji71)<(t153.length : Int):=zy (by first|(with_reducible assumption)|assumption);obtain ⟨ad159,e159,hx159_0,hx159_1,hx159_2,hx159_3⟩:=at_T43 (yh HO_8.out).2.2 (ji71) p159 q159;obtain rfl : ad157=ad159:=(by injection e159);replace p159:=eq_true p159;replace q159:=eq_true q159;have p160 : 0≤(x10_2 : Int):=zy (by first|(with_reducible assumption)|assumption);have q160 : x10_2<(t153.length : Int):=zy (by first|(with_reducible assumption)|assumption);obtain ⟨ad160,e160,hx160_0,hx160_1,hx160_2,hx160_3⟩:=at_T43 (yh HO_8.out).2.2 x10_2 p160 q160;obtain rfl : ad157=ad160:=(by injection e160);replace p160:=eq_true p160;replace q160:=eq_true q160;have p161 : 0≤(x10_2 : Int):=zy (by first|(with_reducible assumption)|assumption);have q161 : x10_2<(t153.length : Int):=zy (by first|(with_reducible assumption)|assumption);obtain ⟨ad161,e161,hx161_0,hx161_1,hx161_2,hx161_3⟩:=at_T43 (yh HO_8.out).2.2 x10_2 p161 q161;obtain rfl : ad157=ad161:=(by injection e161);replace p161:=eq_true p161;replace q161:=eq_true q161;refine start_ (n:=36) (S:=fun w' => w'.cell? (ad157.add ((x10_2).toNat * 4))=some (.string ((rd_T43 t153 x10_2).f0))∧w'.cell? ⟨(ad157.add ((x10_2).toNat * 4)).block,(ad157.add ((x10_2).toNat * 4)).off + 1,none⟩=some (.int .i64 ((rd_T43 t153 x10_2).f1.f0))∧w'.cell? ⟨(ad157.add ((x10_2).toNat * 4)).block,(ad157.add ((x10_2).toNat * 4)).off + 2,none⟩=some (.int .i64 ((rd_T43 t153 x10_2).f1.f1))∧w'.cell? ⟨(ad157.add ((x10_2).toNat * 4)).block,(ad157.add ((x10_2).toNat * 4)).off + 3,none⟩=some (.string ((rd_T43 t153 x10_2).f1.f2))∧w'.cell? (ad157.add (((ji71)).toNat * 4))=some (.string ((rd_T43 t153 (ji71)).f0))∧w'.cell? ⟨(ad157.add (((ji71)).toNat * 4)).block,(ad157.add (((ji71)).toNat * 4)).off + 1,none⟩=some (.int .i64 ((rd_T43 t153 (ji71)).f1.f0))∧w'.cell? ⟨(ad157.add (((ji71)).toNat * 4)).block,(ad157.add (((ji71)).toNat * 4)).off + 2,none⟩=some (.int .i64 ((rd_T43 t153 (ji71)).f1.f1))∧w'.cell? ⟨(ad157.add (((ji71)).toNat * 4)).block,(ad157.add (((ji71)).toNat * 4)).off + 3,none⟩=some (.string ((rd_T43 t153 (ji71)).f1.f2))∧w'.cell? (ad157.add ((x10_2).toNat * 4))=some (.string ((rd_T43 t153 x10_2).f0))∧w'.cell? ⟨(ad157.add ((x10_2).toNat * 4)).block,(ad157.add ((x10_2).toNat * 4)).off + 1,none⟩=some (.int .i64 ((rd_T43 t153 x10_2).f1.f0))∧w'.cell? ⟨(ad157.add ((x10_2).toNat * 4)).block,(ad157.add ((x10_2).toNat * 4)).off + 2,none⟩=some (.int .i64 ((rd_T43 t153 x10_2).f1.f1))∧w'.cell? ⟨(ad157.add ((x10_2).toNat * 4)).block,(ad157.add ((x10_2).toNat * 4)).off + 3,none⟩=some (.string ((rd_T43 t153 x10_2).f1.f2))∧w'.cell? (ad157.add ((x10_2).toNat * 4))=some (.string ((rd_T43 t153 x10_2).f0))∧w'.cell? ⟨(ad157.add ((x10_2).toNat * 4)).block,(ad157.add ((x10_2).toNat * 4)).off + 1,none⟩=some (.int .i64 ((rd_T43 t153 x10_2).f1.f0))∧w'.cell? ⟨(ad157.add ((x10_2).toNat * 4)).block,(ad157.add ((x10_2).toNat * 4)).off + 2,none⟩=some (.int .i64 ((rd_T43 t153 x10_2).f1.f1))∧w'.cell? ⟨(ad157.add ((x10_2).toNat * 4)).block,(ad157.add ((x10_2).toNat * 4)).off + 3,none⟩=some (.string ((rd_T43 t153 x10_2).f1.f2))) (ds:=[]) (bm_ 0 36) (by kernel_rfl) rfl rfl ⟨hx157_0,hx157_1,hx157_2,hx157_3,hx159_0,hx159_1,hx159_2,hx159_3,hx160_0,hx160_1,hx160_2,hx160_3,hx161_0,hx161_1,hx161_2,hx161_3⟩ (fun hHeld => ?_);refine with_tabW F0.tab27 F0.bits27 (fun HT_ HW_ => ?_);generalize wr.drew=w78 at HO_8 BK144 HB hx157_0 hx157_1 hx157_2 hx157_3 hx159_0 hx159_1 hx159_2 hx159_3 hx160_0 hx160_1 hx160_2 hx160_3 hx161_0 hx161_1 hx161_2 hx161_3 hHeld ⊢;refine pure_ (i:=0) (N:=some 124) (v:=?_) (a':=?_) (bm_ 1 36) rfl rfl (any_of HT_.out (by kernel_rfl)) (fun _ _ _ h => h) (Or.inl ⟨by rfl,?_⟩) ?_ ?_;rotate_left
              ·
               intro w'
               go_simp
               with_reducible rfl
              rotate_left
              ·
               simp only [Act.put,zi,zj,zk,zG,zH]
               rfl
              refine pure_ (i:=1) (N:=some 125) (v:=?_) (a':=?_) (bm_ 2 36) rfl rfl (any_of HT_.out (by kernel_rfl)) (fun _ _ _ h => h) (Or.inl ⟨by rfl,?_⟩) ?_ ?_;rotate_left
              ·
               intro w'
               go_simp
               with_reducible rfl
              rotate_left
              ·
               simp only [Act.put,zi,zj,zk,zG,zH]
               rfl
              refine pure_ (i:=2) (N:=some 126) (v:=?_) (a':=?_) (bm_ 3 36) rfl rfl (any_of HT_.out (by kernel_rfl)) (fun _ _ _ h => h) (Or.inl ⟨by rfl,?_⟩) ?_ ?_;rotate_left
              ·
               intro w'
               go_simp
               with_reducible rfl
              rotate_left
              ·
               simp only [Act.put,zi,zj,zk,zG,zH]
               rfl
              refine pure_ (i:=3) (N:=some 127) (v:=?_) (a':=?_) (bm_ 4 36) rfl rfl (any_of HT_.out (by kernel_rfl)) (fun _ _ _ h => h) (Or.inl ⟨by rfl,?_⟩) ?_ ?_;rotate_left
              ·
               intro w'
               go_simp
               with_reducible rfl
              rotate_left
              ·
               simp only [Act.put,zi,zj,zk,zG,zH]
               rfl
              refine take_ (i:=4) (N:=some 128) (v:=?_) (a':=?_) (bm_ 5 36) rfl rfl (yo HT_.out HW_.out (by kernel_rfl)) (fun _ _ _ h => h) (Or.inl ⟨by rfl,?_⟩) hHeld ?_ ?_;rotate_left
              ·
               rintro w' ⟨s0,s1,s2,s3,s4,s5,s6,s7,s8,s9,s10,s11,s12,s13,s14,s15⟩
               go_simp
               with_reducible rfl
              rotate_left
              ·
               simp only [Act.put,zi,zj,zk,zG,zH]
               rfl
              refine one_ (i:=5) (N:=some 129) (bm_ 6 36) rfl rfl (one_of HT_.out (by kernel_rfl)) (by decide) (fun K hK => ?_);refine goes_ Tryd.func24 (by kernel_rfl) rfl #[.string ((rd_T43 t153 x10_2).f0)] (by rfl) rfl rfl (by (try simp only [zt,zu,zv]);first|done|rfl|(simp only [zw,zx];rfl)|(simp only [yr,ys,zV,zW];rfl)) ?_
              with_reducible refine (Fm.calls k2  ((rd_T43 t153 x10_2).f0) true _ A68.out).mono ?_
              rintro e w' ⟨rfl,⟨nd,rfl⟩⟩;refine ⟨_,rfl,?_⟩;refine hK.out _ _ ⟨hHeld.1,hHeld.2.1,hHeld.2.2.1,hHeld.2.2.2.1,hHeld.2.2.2.2.1,hHeld.2.2.2.2.2.1,hHeld.2.2.2.2.2.2.1,hHeld.2.2.2.2.2.2.2.1,hHeld.2.2.2.2.2.2.2.2.1,hHeld.2.2.2.2.2.2.2.2.2.1,hHeld.2.2.2.2.2.2.2.2.2.2.1,hHeld.2.2.2.2.2.2.2.2.2.2.2.1,hHeld.2.2.2.2.2.2.2.2.2.2.2.2.1,hHeld.2.2.2.2.2.2.2.2.2.2.2.2.2.1,hHeld.2.2.2.2.2.2.2.2.2.2.2.2.2.2.1,hHeld.2.2.2.2.2.2.2.2.2.2.2.2.2.2.2⟩ (fun hHeld => ?_);clear hK K;refine norm_ (a':=?_) ?_ ?_;rotate_left
              ·
               show Act.put _ (some 129) _=_
               simp only [Act.put,zi,zj,zk,zG,zH]
               rfl
              refine pure_ (i:=6) (N:=some 130) (v:=?_) (a':=?_) (bm_ 7 36) rfl rfl (any_of HT_.out (by kernel_rfl)) (fun _ _ _ h => h) (Or.inl ⟨by rfl,?_⟩) ?_ ?_;rotate_left
              ·
               intro w'
               go_simp
               with_reducible rfl
              rotate_left
              ·
               simp only [Act.put,zi,zj,zk,zG,zH]
               rfl
              refine pure_ (i:=7) (N:=some 131) (v:=?_) (a':=?_) (bm_ 8 36) rfl rfl (any_of HT_.out (by kernel_rfl)) (fun _ _ _ h => h) (Or.inl ⟨by rfl,?_⟩) ?_ ?_;rotate_left
              ·
               intro w'
               go_simp
               with_reducible rfl
              rotate_left
              ·
               simp only [Act.put,zi,zj,zk,zG,zH]
               rfl
              refine pure_ (i:=8) (N:=some 132) (v:=?_) (a':=?_) (bm_ 9 36) rfl rfl (any_of HT_.out (by kernel_rfl)) (fun _ _ _ h => h) (Or.inl ⟨by rfl,?_⟩) ?_ ?_;rotate_left
              ·
               intro w'
               go_simp
               with_reducible rfl
              rotate_left
              ·
               simp only [Act.put,zi,zj,zk,zG,zH]
               rfl
              refine pure_ (i:=9) (N:=some 133) (v:=?_) (a':=?_) (bm_ 10 36) rfl rfl (any_of HT_.out (by kernel_rfl)) (fun _ _ _ h => h) (Or.inl ⟨by rfl,?_⟩) ?_ ?_;rotate_left
              ·
               intro w'
               go_simp
               with_reducible rfl
              rotate_left
              ·
               simp only [Act.put,zi,zj,zk,zG,zH]
               rfl
              refine pure_ (i:=10) (N:=some 134) (v:=?_) (a':=?_) (bm_ 11 36) rfl rfl (any_of HT_.out (by kernel_rfl)) (fun _ _ _ h => h) (Or.inl ⟨by rfl,?_⟩) ?_ ?_;rotate_left
              ·
               intro w'
               go_simp
               with_reducible rfl
              rotate_left
              ·
               simp only [Act.put,zi,zj,zk,zG,zH]
               rfl
              refine pure_ (i:=11) (N:=some 135) (v:=?_) (a':=?_) (bm_ 12 36) rfl rfl (any_of HT_.out (by kernel_rfl)) (fun _ _ _ h => h) (Or.inl ⟨by rfl,?_⟩) ?_ ?_;rotate_left
              ·
               intro w'
               go_simp
               with_reducible rfl
              rotate_left
              ·
               simp only [Act.put,zi,zj,zk,zG,zH]
               rfl
              refine pure_ (i:=12) (N:=some 136) (v:=?_) (a':=?_) (bm_ 13 36) rfl rfl (any_of HT_.out (by kernel_rfl)) (fun _ _ _ h => h) (Or.inl ⟨by rfl,?_⟩) ?_ ?_;rotate_left
              ·
               intro w'
               go_simp
               with_reducible rfl
              rotate_left
              ·
               simp only [Act.put,zi,zj,zk,zG,zH]
               rfl
              refine pure_ (i:=13) (N:=some 137) (v:=?_) (a':=?_) (bm_ 14 36) rfl rfl (any_of HT_.out (by kernel_rfl)) (fun _ _ _ h => h) (Or.inl ⟨by rfl,?_⟩) ?_ ?_;rotate_left
              ·
               intro w'
               go_simp
               with_reducible rfl
              rotate_left
              ·
               simp only [Act.put,zi,zj,zk,zG,zH]
               rfl
              refine pure_ (i:=14) (N:=some 138) (v:=?_) (a':=?_) (bm_ 15 36) rfl rfl (any_of HT_.out (by kernel_rfl)) (fun _ _ _ h => h) (Or.inl ⟨by rfl,?_⟩) ?_ ?_;rotate_left
              ·
               intro w'
               go_simp
               with_reducible rfl
              rotate_left
              ·
               simp only [Act.put,zi,zj,zk,zG,zH]
               rfl
              refine pure_ (i:=15) (N:=some 139) (v:=?_) (a':=?_) (bm_ 16 36) rfl rfl (any_of HT_.out (by kernel_rfl)) (fun _ _ _ h => h) (Or.inl ⟨by rfl,?_⟩) ?_ ?_;rotate_left
              ·
               intro w'
               go_simp
               with_reducible rfl
              rotate_left
              ·
               simp only [Act.put,zi,zj,zk,zG,zH]
               rfl
              refine pure_ (i:=17) (N:=some 141) (v:=?_) (a':=?_) #[true,true,true,true,true,true,true,true,true,true,true,true,true,true,true,true,false,true,false,false,false,false,false,false,false,false,false,false,false,false,false,false,false,false,false,false] rfl rfl (any_of HT_.out (by kernel_rfl)) (fun _ _ _ h => h) (Or.inl ⟨by rfl,?_⟩) ?_ ?_;rotate_left
              ·
               intro w'
               go_simp
               with_reducible rfl
              rotate_left
              ·
               simp only [Act.put,zi,zj,zk,zG,zH]
               rfl
              refine pure_ (i:=18) (N:=some 142) (v:=?_) (a':=?_) #[true,true,true,true,true,true,true,true,true,true,true,true,true,true,true,true,false,true,true,false,false,false,false,false,false,false,false,false,false,false,false,false,false,false,false,false] rfl rfl (any_of HT_.out (by kernel_rfl)) (fun _ _ _ h => h) (Or.inl ⟨by rfl,?_⟩) ?_ ?_;rotate_left
              ·
               intro w'
               go_simp
               with_reducible rfl
              rotate_left
              ·
               simp only [Act.put,zi,zj,zk,zG,zH]
               rfl
              refine pure_ (i:=19) (N:=some 143) (v:=?_) (a':=?_) #[true,true,true,true,true,true,true,true,true,true,true,true,true,true,true,true,false,true,true,true,false,false,false,false,false,false,false,false,false,false,false,false,false,false,false,false] rfl rfl (any_of HT_.out (by kernel_rfl)) (fun _ _ _ h => h) (Or.inl ⟨by rfl,?_⟩) ?_ ?_;rotate_left
              ·
               intro w'
               go_simp
               with_reducible rfl
              rotate_left
              ·
               simp only [Act.put,zi,zj,zk,zG,zH]
               rfl
              refine pure_ (i:=20) (N:=some 144) (v:=?_) (a':=?_) #[true,true,true,true,true,true,true,true,true,true,true,true,true,true,true,true,false,true,true,true,true,false,false,false,false,false,false,false,false,false,false,false,false,false,false,false] rfl rfl (any_of HT_.out (by kernel_rfl)) (fun _ _ _ h => h) (Or.inl ⟨by rfl,?_⟩) ?_ ?_;rotate_left
              ·
               intro w'
               go_simp
               with_reducible rfl
              rotate_left
              ·
               simp only [Act.put,zi,zj,zk,zG,zH]
               rfl
              refine take_ (i:=16) (N:=some 140) (v:=?_) (a':=?_) (bm_ 21 36) rfl rfl (yo HT_.out HW_.out (by kernel_rfl)) (fun _ _ _ h => h) (Or.inl ⟨by rfl,?_⟩) hHeld ?_ ?_;rotate_left
              ·
               rintro w' ⟨s0,s1,s2,s3,s4,s5,s6,s7,s8,s9,s10,s11,s12,s13,s14,s15⟩
               go_simp
               with_reducible rfl
              rotate_left
              ·
               simp only [Act.put,zi,zj,zk,zG,zH]
               rfl
              refine take_ (i:=21) (N:=some 145) (v:=?_) (a':=?_) (bm_ 22 36) rfl rfl (yo HT_.out HW_.out (by kernel_rfl)) (fun _ _ _ h => h) (Or.inl ⟨by rfl,?_⟩) hHeld ?_ ?_;rotate_left
              ·
               rintro w' ⟨s0,s1,s2,s3,s4,s5,s6,s7,s8,s9,s10,s11,s12,s13,s14,s15⟩
               go_simp
               with_reducible rfl
              rotate_left
              ·
               simp only [Act.put,zi,zj,zk,zG,zH]
               rfl
              refine pure_ (i:=22) (N:=some 146) (v:=?_) (a':=?_) (bm_ 23 36) rfl rfl (any_of HT_.out (by kernel_rfl)) (fun _ _ _ h => h) (Or.inl ⟨by rfl,?_⟩) ?_ ?_;rotate_left
              ·
               intro w'
               go_simp
               with_reducible rfl
              rotate_left
              ·
               simp only [Act.put,zi,zj,zk,zG,zH]
               rfl
              refine pure_ (i:=23) (N:=some 147) (v:=?_) (a':=?_) (bm_ 24 36) rfl rfl (any_of HT_.out (by kernel_rfl)) (fun _ _ _ h => h) (Or.inl ⟨by rfl,?_⟩) ?_ ?_;rotate_left
              ·
               intro w'
               go_simp
               with_reducible rfl
              rotate_left
              ·
               simp only [Act.put,zi,zj,zk,zG,zH]
               rfl
              refine pure_ (i:=24) (N:=some 148) (v:=?_) (a':=?_) (bm_ 25 36) rfl rfl (any_of HT_.out (by kernel_rfl)) (fun _ _ _ h => h) (Or.inl ⟨by rfl,?_⟩) ?_ ?_;rotate_left
              ·
               intro w'
               go_simp
               with_reducible rfl
              rotate_left
              ·
               simp only [Act.put,zi,zj,zk,zG,zH]
               rfl
              refine pure_ (i:=25) (N:=some 149) (v:=?_) (a':=?_) (bm_ 26 36) rfl rfl (any_of HT_.out (by kernel_rfl)) (fun _ _ _ h => h) (Or.inl ⟨by rfl,?_⟩) ?_ ?_;rotate_left
              ·
               intro w'
               go_simp
               with_reducible rfl
              rotate_left
              ·
               simp only [Act.put,zi,zj,zk,zG,zH]
               rfl
              refine pure_ (i:=26) (N:=some 150) (v:=?_) (a':=?_) (bm_ 27 36) rfl rfl (any_of HT_.out (by kernel_rfl)) (fun _ _ _ h => h) (Or.inl ⟨by rfl,?_⟩) ?_ ?_;rotate_left
              ·
               intro w'
               go_simp
               with_reducible rfl
              rotate_left
              ·
               simp only [Act.put,zi,zj,zk,zG,zH]
               rfl
              refine pure_ (i:=27) (N:=some 151) (v:=?_) (a':=?_) (bm_ 28 36) rfl rfl (any_of HT_.out (by kernel_rfl)) (fun _ _ _ h => h) (Or.inl ⟨by rfl,?_⟩) ?_ ?_;rotate_left
              ·
               intro w'
               go_simp
               with_reducible rfl
              rotate_left
              ·
               simp only [Act.put,zi,zj,zk,zG,zH]
               rfl
              refine pure_ (i:=28) (N:=some 152) (v:=?_) (a':=?_) (bm_ 29 36) rfl rfl (any_of HT_.out (by kernel_rfl)) (fun _ _ _ h => h) (Or.inl ⟨by rfl,?_⟩) ?_ ?_;rotate_left
              ·
               intro w'
               go_simp
               with_reducible rfl
              rotate_left
              ·
               simp only [Act.put,zi,zj,zk,zG,zH]
               rfl
              refine pure_ (i:=29) (N:=some 153) (v:=?_) (a':=?_) (bm_ 30 36) rfl rfl (any_of HT_.out (by kernel_rfl)) (fun _ _ _ h => h) (Or.inl ⟨by rfl,?_⟩) ?_ ?_;rotate_left
              ·
               intro w'
               go_simp
               with_reducible rfl
              rotate_left
              ·
               simp only [Act.put,zi,zj,zk,zG,zH]
               rfl
              refine pure_ (i:=31) (N:=some 155) (v:=?_) (a':=?_) #[true,true,true,true,true,true,true,true,true,true,true,true,true,true,true,true,true,true,true,true,true,true,true,true,true,true,true,true,true,true,false,true,false,false,false,false] rfl rfl (any_of HT_.out (by kernel_rfl)) (fun _ _ _ h => h) (Or.inl ⟨by rfl,?_⟩) ?_ ?_;rotate_left
              ·
               intro w'
               go_simp
               with_reducible rfl
              rotate_left
              ·
               simp only [Act.put,zi,zj,zk,zG,zH]
               rfl
              refine pure_ (i:=32) (N:=some 156) (v:=?_) (a':=?_) #[true,true,true,true,true,true,true,true,true,true,true,true,true,true,true,true,true,true,true,true,true,true,true,true,true,true,true,true,true,true,false,true,true,false,false,false] rfl rfl (any_of HT_.out (by kernel_rfl)) (fun _ _ _ h => h) (Or.inl ⟨by rfl,?_⟩) ?_ ?_;rotate_left
              ·
               intro w'
               go_simp
               with_reducible rfl
              rotate_left
              ·
               simp only [Act.put,zi,zj,zk,zG,zH]
               rfl
              refine take_ (i:=30) (N:=some 154) (v:=?_) (a':=?_) (bm_ 33 36) rfl rfl (yo HT_.out HW_.out (by kernel_rfl)) (fun _ _ _ h => h) (Or.inl ⟨by rfl,?_⟩) hHeld ?_ ?_;rotate_left
              ·
               rintro w' ⟨s0,s1,s2,s3,s4,s5,s6,s7,s8,s9,s10,s11,s12,s13,s14,s15⟩
               go_simp
               with_reducible rfl
              rotate_left
              ·
               simp only [Act.put,zi,zj,zk,zG,zH]
               rfl
              refine one_ (i:=33) (N:=some 157) (bm_ 34 36) rfl rfl (one_of HT_.out (by kernel_rfl)) (by decide) (fun K hK => ?_);refine goes_ Tryd.func12 (by kernel_rfl) rfl #[.agg #[.int .i64 ((rd_T43 t153 x10_2).f1.f0),.int .i64 ((rd_T43 t153 x10_2).f1.f1),.string ((rd_T43 t153 x10_2).f1.f2)],.int .i64 (wrap64 (a1 - 1))] (by rfl) rfl rfl (by (try simp only [zt,zu,zv]);first|done|rfl|(simp only [zw,zx];rfl)|(simp only [yr,ys,zV,zW];rfl)) ?_
              with_reducible refine (ih k2 (by have:=HJ53.out;have:=HK2.out;omega)  ((rd_T43 t153 x10_2).f1.f0) ((rd_T43 t153 x10_2).f1.f1) ((rd_T43 t153 x10_2).f1.f2) (wrap64 (a1 - 1)) true _ A75.out).mono ?_
              rintro e w79 ⟨rfl,hb⟩;have HS0_:=(hb.cell (zl _ _ (hHeld.1))).trans (hHeld.1);have HS1_:=(hb.cell (zl _ _ (hHeld.2.1))).trans (hHeld.2.1);have HS2_:=(hb.cell (zl _ _ (hHeld.2.2.1))).trans (hHeld.2.2.1);have HS3_:=(hb.cell (zl _ _ (hHeld.2.2.2.1))).trans (hHeld.2.2.2.1);have HS4_:=(hb.cell (zl _ _ (hHeld.2.2.2.2.1))).trans (hHeld.2.2.2.2.1);have HS5_:=(hb.cell (zl _ _ (hHeld.2.2.2.2.2.1))).trans (hHeld.2.2.2.2.2.1);have HS6_:=(hb.cell (zl _ _ (hHeld.2.2.2.2.2.2.1))).trans (hHeld.2.2.2.2.2.2.1);have HS7_:=(hb.cell (zl _ _ (hHeld.2.2.2.2.2.2.2.1))).trans (hHeld.2.2.2.2.2.2.2.1);have HS8_:=(hb.cell (zl _ _ (hHeld.2.2.2.2.2.2.2.2.1))).trans (hHeld.2.2.2.2.2.2.2.2.1);have HS9_:=(hb.cell (zl _ _ (hHeld.2.2.2.2.2.2.2.2.2.1))).trans (hHeld.2.2.2.2.2.2.2.2.2.1);have HS10_:=(hb.cell (zl _ _ (hHeld.2.2.2.2.2.2.2.2.2.2.1))).trans (hHeld.2.2.2.2.2.2.2.2.2.2.1);have HS11_:=(hb.cell (zl _ _ (hHeld.2.2.2.2.2.2.2.2.2.2.2.1))).trans (hHeld.2.2.2.2.2.2.2.2.2.2.2.1);have HS12_:=(hb.cell (zl _ _ (hHeld.2.2.2.2.2.2.2.2.2.2.2.2.1))).trans (hHeld.2.2.2.2.2.2.2.2.2.2.2.2.1);have HS13_:=(hb.cell (zl _ _ (hHeld.2.2.2.2.2.2.2.2.2.2.2.2.2.1))).trans (hHeld.2.2.2.2.2.2.2.2.2.2.2.2.2.1);have HS14_:=(hb.cell (zl _ _ (hHeld.2.2.2.2.2.2.2.2.2.2.2.2.2.2.1))).trans (hHeld.2.2.2.2.2.2.2.2.2.2.2.2.2.2.1);have HS15_:=(hb.cell (zl _ _ (hHeld.2.2.2.2.2.2.2.2.2.2.2.2.2.2.2))).trans (hHeld.2.2.2.2.2.2.2.2.2.2.2.2.2.2.2);refine ⟨_,rfl,?_⟩;replace HO_8:=zh (yg (by (with_reducible repeat (first|apply zm|apply zn|apply zo));exact HO_8.out) hb);replace BK144:=zh (cD BK144.out (by (with_reducible repeat first|apply ze|apply zf|apply zg);exact BK144.out) hb);replace HB:=zh (zC (by repeat (with_reducible first|exact HB.out|apply za|apply zb|apply zc|refine zd ?_ GE144.out)) hb);(try clear hb);(try clear hb2);(try clear hk);(try clear hi);refine hK.out _ _ ⟨HS0_,HS1_,HS2_,HS3_,HS4_,HS5_,HS6_,HS7_,HS8_,HS9_,HS10_,HS11_,HS12_,HS13_,HS14_,HS15_⟩ (fun hHeld => ?_);clear hK K;refine norm_ (a':=?_) ?_ ?_;rotate_left
              ·
               show Act.put _ (some 157) _=_
               simp only [Act.put,zi,zj,zk,zG,zH]
               rfl
              refine pure_ (i:=34) (N:=some 158) (v:=?_) (a':=?_) (bm_ 35 36) rfl rfl (any_of HT_.out (by kernel_rfl)) (fun _ _ _ h => h) (Or.inl ⟨by rfl,?_⟩) ?_ ?_;rotate_left
              ·
               intro w'
               go_simp
               with_reducible rfl
              rotate_left
              ·
               simp only [Act.put,zi,zj,zk,zG,zH]
               rfl
              refine pure_ (i:=35) (N:=some 159) (v:=?_) (a':=?_) (bm_ 36 36) rfl rfl (any_of HT_.out (by kernel_rfl)) (fun _ _ _ h => h) (Or.inl ⟨by rfl,?_⟩) ?_ ?_;rotate_left
              ·
               intro w'
               go_simp
               with_reducible rfl
              rotate_left
              ·
               simp only [Act.put,zi,zj,zk,zG,zH]
               rfl
              refine done_ (done_of HT_.out (by kernel_rfl)) ?_
              try go_wp2
              go_roundg k2
              case measure => have:=HJ53.out;have:=HK2.out;omega
              case rel => exact ⟨(wrap64 (x10_2 + 1)),(by first|rfl|(simp;done)|(simp [*];done)),H',⟨by have:=HJ53.out;have:=HK2.out;omega⟩,⟨by (with_reducible repeat (first|apply zm|apply zn|apply zo));exact HO_8.out⟩,⟨by (with_reducible repeat first|apply ze|apply zf|apply zg);exact BK144.out⟩,⟨by repeat (with_reducible first|exact HB.out|apply za|apply zb|apply zc|refine zd ?_ GE144.out)⟩⟩
             replace c76:=yb.mpr c76;subst c76;have H1 : (some false)=some r:=by rw [if_neg (show ¬ (false=true) by decide)] at H;exact H
             clear H;have H:=H1;clear H1;obtain rfl:=zU H;obtain ⟨Ao80,co80,eo80⟩:=yk HO_8.out;subst eo80
             try go_wp2
             replace HO_8:=zh (zo HO_8.out);replace BK144:=zh (zf BK144.out);replace HB:=zh (zc HB.out);have p157 : 0≤(x10_2 : Int):=zy (by first|(with_reducible assumption)|assumption);have q157 : x10_2<(t153.length : Int):=zy (by first|(with_reducible assumption)|assumption);obtain ⟨ad157,e157,hx157_0,hx157_1,hx157_2,hx157_3⟩:=at_T43 (yh HO_8.out).2.2 x10_2 p157 q157
             cases e157
             replace p157:=eq_true p157;replace q157:=eq_true q157;have p159 : 0≤((ji71) : Int):=zy (by first|(with_reducible assumption)|assumption);have q159 : (ji71)<(t153.length : Int):=zy (by first|(with_reducible assumption)|assumption);obtain ⟨ad159,e159,hx159_0,hx159_1,hx159_2,hx159_3⟩:=at_T43 (yh HO_8.out).2.2 (ji71) p159 q159;obtain rfl : ad157=ad159:=(by injection e159);replace p159:=eq_true p159;replace q159:=eq_true q159;have p160 : 0≤(x10_2 : Int):=zy (by first|(with_reducible assumption)|assumption);have q160 : x10_2<(t153.length : Int):=zy (by first|(with_reducible assumption)|assumption);obtain ⟨ad160,e160,hx160_0,hx160_1,hx160_2,hx160_3⟩:=at_T43 (yh HO_8.out).2.2 x10_2 p160 q160;obtain rfl : ad157=ad160:=(by injection e160);replace p160:=eq_true p160;replace q160:=eq_true q160;have p161 : 0≤(x10_2 : Int):=zy (by first|(with_reducible assumption)|assumption);have q161 : x10_2<(t153.length : Int):=zy (by first|(with_reducible assumption)|assumption);obtain ⟨ad161,e161,hx161_0,hx161_1,hx161_2,hx161_3⟩:=at_T43 (yh HO_8.out).2.2 x10_2 p161 q161;obtain rfl : ad157=ad161:=(by injection e161);replace p161:=eq_true p161;replace q161:=eq_true q161;refine start_ (n:=36) (S:=fun w' => w'.cell? (ad157.add ((x10_2).toNat * 4))=some (.string ((rd_T43 t153 x10_2).f0))∧w'.cell? ⟨(ad157.add ((x10_2).toNat * 4)).block,(ad157.add ((x10_2).toNat * 4)).off + 1,none⟩=some (.int .i64 ((rd_T43 t153 x10_2).f1.f0))∧w'.cell? ⟨(ad157.add ((x10_2).toNat * 4)).block,(ad157.add ((x10_2).toNat * 4)).off + 2,none⟩=some (.int .i64 ((rd_T43 t153 x10_2).f1.f1))∧w'.cell? ⟨(ad157.add ((x10_2).toNat * 4)).block,(ad157.add ((x10_2).toNat * 4)).off + 3,none⟩=some (.string ((rd_T43 t153 x10_2).f1.f2))∧w'.cell? (ad157.add (((ji71)).toNat * 4))=some (.string ((rd_T43 t153 (ji71)).f0))∧w'.cell? ⟨(ad157.add (((ji71)).toNat * 4)).block,(ad157.add (((ji71)).toNat * 4)).off + 1,none⟩=some (.int .i64 ((rd_T43 t153 (ji71)).f1.f0))∧w'.cell? ⟨(ad157.add (((ji71)).toNat * 4)).block,(ad157.add (((ji71)).toNat * 4)).off + 2,none⟩=some (.int .i64 ((rd_T43 t153 (ji71)).f1.f1))∧w'.cell? ⟨(ad157.add (((ji71)).toNat * 4)).block,(ad157.add (((ji71)).toNat * 4)).off + 3,none⟩=some (.string ((rd_T43 t153 (ji71)).f1.f2))∧w'.cell? (ad157.add ((x10_2).toNat * 4))=some (.string ((rd_T43 t153 x10_2).f0))∧w'.cell? ⟨(ad157.add ((x10_2).toNat * 4)).block,(ad157.add ((x10_2).toNat * 4)).off + 1,none⟩=some (.int .i64 ((rd_T43 t153 x10_2).f1.f0))∧w'.cell? ⟨(ad157.add ((x10_2).toNat * 4)).block,(ad157.add ((x10_2).toNat * 4)).off + 2,none⟩=some (.int .i64 ((rd_T43 t153 x10_2).f1.f1))∧w'.cell? ⟨(ad157.add ((x10_2).toNat * 4)).block,(ad157.add ((x10_2).toNat * 4)).off + 3,none⟩=some (.string ((rd_T43 t153 x10_2).f1.f2))∧w'.cell? (ad157.add ((x10_2).toNat * 4))=some (.string ((rd_T43 t153 x10_2).f0))∧w'.cell? ⟨(ad157.add ((x10_2).toNat * 4)).block,(ad157.add ((x10_2).toNat * 4)).off + 1,none⟩=some (.int .i64 ((rd_T43 t153 x10_2).f1.f0))∧w'.cell? ⟨(ad157.add ((x10_2).toNat * 4)).block,(ad157.add ((x10_2).toNat * 4)).off + 2,none⟩=some (.int .i64 ((rd_T43 t153 x10_2).f1.f1))∧w'.cell? ⟨(ad157.add ((x10_2).toNat * 4)).block,(ad157.add ((x10_2).toNat * 4)).off + 3,none⟩=some (.string ((rd_T43 t153 x10_2).f1.f2))) (ds:=[]) (bm_ 0 36) (by kernel_rfl) rfl rfl ⟨hx157_0,hx157_1,hx157_2,hx157_3,hx159_0,hx159_1,hx159_2,hx159_3,hx160_0,hx160_1,hx160_2,hx160_3,hx161_0,hx161_1,hx161_2,hx161_3⟩ (fun hHeld => ?_);refine with_tabW F0.tab27 F0.bits27 (fun HT_ HW_ => ?_);generalize wr.drew=w81 at HO_8 BK144 HB hx157_0 hx157_1 hx157_2 hx157_3 hx159_0 hx159_1 hx159_2 hx159_3 hx160_0 hx160_1 hx160_2 hx160_3 hx161_0 hx161_1 hx161_2 hx161_3 hHeld ⊢;refine pure_ (i:=0) (N:=some 124) (v:=?_) (a':=?_) (bm_ 1 36) rfl rfl (any_of HT_.out (by kernel_rfl)) (fun _ _ _ h => h) (Or.inl ⟨by rfl,?_⟩) ?_ ?_;rotate_left
             ·
              intro w'
              go_simp
              with_reducible rfl
             rotate_left
             ·
              simp only [Act.put,zi,zj,zk,zG,zH]
              rfl
             refine pure_ (i:=1) (N:=some 125) (v:=?_) (a':=?_) (bm_ 2 36) rfl rfl (any_of HT_.out (by kernel_rfl)) (fun _ _ _ h => h) (Or.inl ⟨by rfl,?_⟩) ?_ ?_;rotate_left
             ·
              intro w'
              go_simp
              with_reducible rfl
             rotate_left
             ·
              simp only [Act.put,zi,zj,zk,zG,zH]
              rfl
             refine pure_ (i:=2) (N:=some 126) (v:=?_) (a':=?_) (bm_ 3 36) rfl rfl (any_of HT_.out (by kernel_rfl)) (fun _ _ _ h => h) (Or.inl ⟨by rfl,?_⟩) ?_ ?_;rotate_left
             ·
              intro w'
              go_simp
              with_reducible rfl
             rotate_left
             ·
              simp only [Act.put,zi,zj,zk,zG,zH]
              rfl
             refine pure_ (i:=3) (N:=some 127) (v:=?_) (a':=?_) (bm_ 4 36) rfl rfl (any_of HT_.out (by kernel_rfl)) (fun _ _ _ h => h) (Or.inl ⟨by rfl,?_⟩) ?_ ?_;rotate_left
             ·
              intro w'
              go_simp
              with_reducible rfl
             rotate_left
             ·
              simp only [Act.put,zi,zj,zk,zG,zH]
              rfl
             refine take_ (i:=4) (N:=some 128) (v:=?_) (a':=?_) (bm_ 5 36) rfl rfl (yo HT_.out HW_.out (by kernel_rfl)) (fun _ _ _ h => h) (Or.inl ⟨by rfl,?_⟩) hHeld ?_ ?_;rotate_left
             ·
              rintro w' ⟨s0,s1,s2,s3,s4,s5,s6,s7,s8,s9,s10,s11,s12,s13,s14,s15⟩
              go_simp
              with_reducible rfl
             rotate_left
             ·
              simp only [Act.put,zi,zj,zk,zG,zH]
              rfl
             refine one_ (i:=5) (N:=some 129) (bm_ 6 36) rfl rfl (one_of HT_.out (by kernel_rfl)) (by decide) (fun K hK => ?_);refine goes_ Tryd.func24 (by kernel_rfl) rfl #[.string ((rd_T43 t153 x10_2).f0)] (by rfl) rfl rfl (by (try simp only [zt,zu,zv]);first|done|rfl|(simp only [zw,zx];rfl)|(simp only [yr,ys,zV,zW];rfl)) ?_
             with_reducible refine (Fm.calls k2  ((rd_T43 t153 x10_2).f0) true _ A68.out).mono ?_
             rintro e w' ⟨rfl,⟨nd,rfl⟩⟩;refine ⟨_,rfl,?_⟩;refine hK.out _ _ ⟨hHeld.1,hHeld.2.1,hHeld.2.2.1,hHeld.2.2.2.1,hHeld.2.2.2.2.1,hHeld.2.2.2.2.2.1,hHeld.2.2.2.2.2.2.1,hHeld.2.2.2.2.2.2.2.1,hHeld.2.2.2.2.2.2.2.2.1,hHeld.2.2.2.2.2.2.2.2.2.1,hHeld.2.2.2.2.2.2.2.2.2.2.1,hHeld.2.2.2.2.2.2.2.2.2.2.2.1,hHeld.2.2.2.2.2.2.2.2.2.2.2.2.1,hHeld.2.2.2.2.2.2.2.2.2.2.2.2.2.1,hHeld.2.2.2.2.2.2.2.2.2.2.2.2.2.2.1,hHeld.2.2.2.2.2.2.2.2.2.2.2.2.2.2.2⟩ (fun hHeld => ?_);clear hK K;refine norm_ (a':=?_) ?_ ?_;rotate_left
             ·
              show Act.put _ (some 129) _=_
              simp only [Act.put,zi,zj,zk,zG,zH]
              rfl
             refine pure_ (i:=6) (N:=some 130) (v:=?_) (a':=?_) (bm_ 7 36) rfl rfl (any_of HT_.out (by kernel_rfl)) (fun _ _ _ h => h) (Or.inl ⟨by rfl,?_⟩) ?_ ?_;rotate_left
             ·
              intro w'
              go_simp
              with_reducible rfl
             rotate_left
             ·
              simp only [Act.put,zi,zj,zk,zG,zH]
              rfl
             refine pure_ (i:=7) (N:=some 131) (v:=?_) (a':=?_) (bm_ 8 36) rfl rfl (any_of HT_.out (by kernel_rfl)) (fun _ _ _ h => h) (Or.inl ⟨by rfl,?_⟩) ?_ ?_;rotate_left
             ·
              intro w'
              go_simp
              with_reducible rfl
             rotate_left
             ·
              simp only [Act.put,zi,zj,zk,zG,zH]
              rfl
             refine pure_ (i:=8) (N:=some 132) (v:=?_) (a':=?_) (bm_ 9 36) rfl rfl (any_of HT_.out (by kernel_rfl)) (fun _ _ _ h => h) (Or.inl ⟨by rfl,?_⟩) ?_ ?_;rotate_left
             ·
              intro w'
              go_simp
              with_reducible rfl
             rotate_left
             ·
              simp only [Act.put,zi,zj,zk,zG,zH]
              rfl
             refine pure_ (i:=9) (N:=some 133) (v:=?_) (a':=?_) (bm_ 10 36) rfl rfl (any_of HT_.out (by kernel_rfl)) (fun _ _ _ h => h) (Or.inl ⟨by rfl,?_⟩) ?_ ?_;rotate_left
             ·
              intro w'
              go_simp
              with_reducible rfl
             rotate_left
             ·
              simp only [Act.put,zi,zj,zk,zG,zH]
              rfl
             refine pure_ (i:=10) (N:=some 134) (v:=?_) (a':=?_) (bm_ 11 36) rfl rfl (any_of HT_.out (by kernel_rfl)) (fun _ _ _ h => h) (Or.inl ⟨by rfl,?_⟩) ?_ ?_;rotate_left
             ·
              intro w'
              go_simp
              with_reducible rfl
             rotate_left
             ·
              simp only [Act.put,zi,zj,zk,zG,zH]
              rfl
             refine pure_ (i:=11) (N:=some 135) (v:=?_) (a':=?_) (bm_ 12 36) rfl rfl (any_of HT_.out (by kernel_rfl)) (fun _ _ _ h => h) (Or.inl ⟨by rfl,?_⟩) ?_ ?_;rotate_left
             ·
              intro w'
              go_simp
              with_reducible rfl
             rotate_left
             ·
              simp only [Act.put,zi,zj,zk,zG,zH]
              rfl
             refine pure_ (i:=12) (N:=some 136) (v:=?_) (a':=?_) (bm_ 13 36) rfl rfl (any_of HT_.out (by kernel_rfl)) (fun _ _ _ h => h) (Or.inl ⟨by rfl,?_⟩) ?_ ?_;rotate_left
             ·
              intro w'
              go_simp
              with_reducible rfl
             rotate_left
             ·
              simp only [Act.put,zi,zj,zk,zG,zH]
              rfl
             refine pure_ (i:=13) (N:=some 137) (v:=?_) (a':=?_) (bm_ 14 36) rfl rfl (any_of HT_.out (by kernel_rfl)) (fun _ _ _ h => h) (Or.inl ⟨by rfl,?_⟩) ?_ ?_;rotate_left
             ·
              intro w'
              go_simp
              with_reducible rfl
             rotate_left
             ·
              simp only [Act.put,zi,zj,zk,zG,zH]
              rfl
             refine pure_ (i:=14) (N:=some 138) (v:=?_) (a':=?_) (bm_ 15 36) rfl rfl (any_of HT_.out (by kernel_rfl)) (fun _ _ _ h => h) (Or.inl ⟨by rfl,?_⟩) ?_ ?_;rotate_left
             ·
              intro w'
              go_simp
              with_reducible rfl
             rotate_left
             ·
              simp only [Act.put,zi,zj,zk,zG,zH]
              rfl
             refine pure_ (i:=15) (N:=some 139) (v:=?_) (a':=?_) (bm_ 16 36) rfl rfl (any_of HT_.out (by kernel_rfl)) (fun _ _ _ h => h) (Or.inl ⟨by rfl,?_⟩) ?_ ?_;rotate_left
             ·
              intro w'
              go_simp
              with_reducible rfl
             rotate_left
             ·
              simp only [Act.put,zi,zj,zk,zG,zH]
              rfl
             refine pure_ (i:=17) (N:=some 141) (v:=?_) (a':=?_) #[true,true,true,true,true,true,true,true,true,true,true,true,true,true,true,true,false,true,false,false,false,false,false,false,false,false,false,false,false,false,false,false,false,false,false,false] rfl rfl (any_of HT_.out (by kernel_rfl)) (fun _ _ _ h => h) (Or.inl ⟨by rfl,?_⟩) ?_ ?_;rotate_left
             ·
              intro w'
              go_simp
              with_reducible rfl
             rotate_left
             ·
              simp only [Act.put,zi,zj,zk,zG,zH]
              rfl
             refine pure_ (i:=18) (N:=some 142) (v:=?_) (a':=?_) #[true,true,true,true,true,true,true,true,true,true,true,true,true,true,true,true,false,true,true,false,false,false,false,false,false,false,false,false,false,false,false,false,false,false,false,false] rfl rfl (any_of HT_.out (by kernel_rfl)) (fun _ _ _ h => h) (Or.inl ⟨by rfl,?_⟩) ?_ ?_;rotate_left
             ·
              intro w'
              go_simp
              with_reducible rfl
             rotate_left
             ·
              simp only [Act.put,zi,zj,zk,zG,zH]
              rfl
             refine pure_ (i:=19) (N:=some 143) (v:=?_) (a':=?_) #[true,true,true,true,true,true,true,true,true,true,true,true,true,true,true,true,false,true,true,true,false,false,false,false,false,false,false,false,false,false,false,false,false,false,false,false] rfl rfl (any_of HT_.out (by kernel_rfl)) (fun _ _ _ h => h) (Or.inl ⟨by rfl,?_⟩) ?_ ?_;rotate_left
             ·
              intro w'
              go_simp
              with_reducible rfl
             rotate_left
             ·
              simp only [Act.put,zi,zj,zk,zG,zH]
              rfl
             refine pure_ (i:=20) (N:=some 144) (v:=?_) (a':=?_) #[true,true,true,true,true,true,true,true,true,true,true,true,true,true,true,true,false,true,true,true,true,false,false,false,false,false,false,false,false,false,false,false,false,false,false,false] rfl rfl (any_of HT_.out (by kernel_rfl)) (fun _ _ _ h => h) (Or.inl ⟨by rfl,?_⟩) ?_ ?_;rotate_left
             ·
              intro w'
              go_simp
              with_reducible rfl
             rotate_left
             ·
              simp only [Act.put,zi,zj,zk,zG,zH]
              rfl
             refine take_ (i:=16) (N:=some 140) (v:=?_) (a':=?_) (bm_ 21 36) rfl rfl (yo HT_.out HW_.out (by kernel_rfl)) (fun _ _ _ h => h) (Or.inl ⟨by rfl,?_⟩) hHeld ?_ ?_;rotate_left
             ·
              rintro w' ⟨s0,s1,s2,s3,s4,s5,s6,s7,s8,s9,s10,s11,s12,s13,s14,s15⟩
              go_simp
              with_reducible rfl
             rotate_left
             ·
              simp only [Act.put,zi,zj,zk,zG,zH]
              rfl
             refine take_ (i:=21) (N:=some 145) (v:=?_) (a':=?_) (bm_ 22 36) rfl rfl (yo HT_.out HW_.out (by kernel_rfl)) (fun _ _ _ h => h) (Or.inl ⟨by rfl,?_⟩) hHeld ?_ ?_;rotate_left
             ·
              rintro w' ⟨s0,s1,s2,s3,s4,s5,s6,s7,s8,s9,s10,s11,s12,s13,s14,s15⟩
              go_simp
              with_reducible rfl
             rotate_left
             ·
              simp only [Act.put,zi,zj,zk,zG,zH]
              rfl
             refine pure_ (i:=22) (N:=some 146) (v:=?_) (a':=?_) (bm_ 23 36) rfl rfl (any_of HT_.out (by kernel_rfl)) (fun _ _ _ h => h) (Or.inl ⟨by rfl,?_⟩) ?_ ?_;rotate_left
             ·
              intro w'
              go_simp
              with_reducible rfl
             rotate_left
             ·
              simp only [Act.put,zi,zj,zk,zG,zH]
              rfl
             refine pure_ (i:=23) (N:=some 147) (v:=?_) (a':=?_) (bm_ 24 36) rfl rfl (any_of HT_.out (by kernel_rfl)) (fun _ _ _ h => h) (Or.inl ⟨by rfl,?_⟩) ?_ ?_;rotate_left
             ·
              intro w'
              go_simp
              with_reducible rfl
             rotate_left
             ·
              simp only [Act.put,zi,zj,zk,zG,zH]
              rfl
             refine pure_ (i:=24) (N:=some 148) (v:=?_) (a':=?_) (bm_ 25 36) rfl rfl (any_of HT_.out (by kernel_rfl)) (fun _ _ _ h => h) (Or.inl ⟨by rfl,?_⟩) ?_ ?_;rotate_left
             ·
              intro w'
              go_simp
              with_reducible rfl
             rotate_left
             ·
              simp only [Act.put,zi,zj,zk,zG,zH]
              rfl
             refine pure_ (i:=25) (N:=some 149) (v:=?_) (a':=?_) (bm_ 26 36) rfl rfl (any_of HT_.out (by kernel_rfl)) (fun _ _ _ h => h) (Or.inl ⟨by rfl,?_⟩) ?_ ?_;rotate_left
             ·
              intro w'
              go_simp
              with_reducible rfl
             rotate_left
             ·
              simp only [Act.put,zi,zj,zk,zG,zH]
              rfl
             refine pure_ (i:=26) (N:=some 150) (v:=?_) (a':=?_) (bm_ 27 36) rfl rfl (any_of HT_.out (by kernel_rfl)) (fun _ _ _ h => h) (Or.inl ⟨by rfl,?_⟩) ?_ ?_;rotate_left
             ·
              intro w'
              go_simp
              with_reducible rfl
             rotate_left
             ·
              simp only [Act.put,zi,zj,zk,zG,zH]
              rfl
             refine pure_ (i:=27) (N:=some 151) (v:=?_) (a':=?_) (bm_ 28 36) rfl rfl (any_of HT_.out (by kernel_rfl)) (fun _ _ _ h => h) (Or.inl ⟨by rfl,?_⟩) ?_ ?_;rotate_left
             ·
              intro w'
              go_simp
              with_reducible rfl
             rotate_left
             ·
              simp only [Act.put,zi,zj,zk,zG,zH]
              rfl
             refine pure_ (i:=28) (N:=some 152) (v:=?_) (a':=?_) (bm_ 29 36) rfl rfl (any_of HT_.out (by kernel_rfl)) (fun _ _ _ h => h) (Or.inl ⟨by rfl,?_⟩) ?_ ?_;rotate_left
             ·
              intro w'
              go_simp
              with_reducible rfl
             rotate_left
             ·
              simp only [Act.put,zi,zj,zk,zG,zH]
              rfl
             refine pure_ (i:=29) (N:=some 153) (v:=?_) (a':=?_) (bm_ 30 36) rfl rfl (any_of HT_.out (by kernel_rfl)) (fun _ _ _ h => h) (Or.inl ⟨by rfl,?_⟩) ?_ ?_;rotate_left
             ·
              intro w'
              go_simp
              with_reducible rfl
             rotate_left
             ·
              simp only [Act.put,zi,zj,zk,zG,zH]
              rfl
             refine pure_ (i:=31) (N:=some 155) (v:=?_) (a':=?_) #[true,true,true,true,true,true,true,true,true,true,true,true,true,true,true,true,true,true,true,true,true,true,true,true,true,true,true,true,true,true,false,true,false,false,false,false] rfl rfl (any_of HT_.out (by kernel_rfl)) (fun _ _ _ h => h) (Or.inl ⟨by rfl,?_⟩) ?_ ?_;rotate_left
             ·
              intro w'
              go_simp
              with_reducible rfl
             rotate_left
             ·
              simp only [Act.put,zi,zj,zk,zG,zH]
              rfl
             refine pure_ (i:=32) (N:=some 156) (v:=?_) (a':=?_) #[true,true,true,true,true,true,true,true,true,true,true,true,true,true,true,true,true,true,true,true,true,true,true,true,true,true,true,true,true,true,false,true,true,false,false,false] rfl rfl (any_of HT_.out (by kernel_rfl)) (fun _ _ _ h => h) (Or.inl ⟨by rfl,?_⟩) ?_ ?_;rotate_left
             ·
              intro w'
              go_simp
              with_reducible rfl
             rotate_left
             ·
              simp only [Act.put,zi,zj,zk,zG,zH]
              rfl
             refine take_ (i:=30) (N:=some 154) (v:=?_) (a':=?_) (bm_ 33 36) rfl rfl (yo HT_.out HW_.out (by kernel_rfl)) (fun _ _ _ h => h) (Or.inl ⟨by rfl,?_⟩) hHeld ?_ ?_;rotate_left
             ·
              rintro w' ⟨s0,s1,s2,s3,s4,s5,s6,s7,s8,s9,s10,s11,s12,s13,s14,s15⟩
              go_simp
              with_reducible rfl
             rotate_left
             ·
              simp only [Act.put,zi,zj,zk,zG,zH]
              rfl
             refine one_ (i:=33) (N:=some 157) (bm_ 34 36) rfl rfl (one_of HT_.out (by kernel_rfl)) (by decide) (fun K hK => ?_);refine goes_ Tryd.func12 (by kernel_rfl) rfl #[.agg #[.int .i64 ((rd_T43 t153 x10_2).f1.f0),.int .i64 ((rd_T43 t153 x10_2).f1.f1),.string ((rd_T43 t153 x10_2).f1.f2)],.int .i64 (wrap64 (a1 - 1))] (by rfl) rfl rfl (by (try simp only [zt,zu,zv]);first|done|rfl|(simp only [zw,zx];rfl)|(simp only [yr,ys,zV,zW];rfl)) ?_
             with_reducible refine (ih k2 (by have:=HJ53.out;have:=HK2.out;omega)  ((rd_T43 t153 x10_2).f1.f0) ((rd_T43 t153 x10_2).f1.f1) ((rd_T43 t153 x10_2).f1.f2) (wrap64 (a1 - 1)) false _ A75.out).mono ?_
             rintro e w82 ⟨rfl,hb⟩;have HS0_:=(hb.cell (zl _ _ (hHeld.1))).trans (hHeld.1);have HS1_:=(hb.cell (zl _ _ (hHeld.2.1))).trans (hHeld.2.1);have HS2_:=(hb.cell (zl _ _ (hHeld.2.2.1))).trans (hHeld.2.2.1);have HS3_:=(hb.cell (zl _ _ (hHeld.2.2.2.1))).trans (hHeld.2.2.2.1);have HS4_:=(hb.cell (zl _ _ (hHeld.2.2.2.2.1))).trans (hHeld.2.2.2.2.1);have HS5_:=(hb.cell (zl _ _ (hHeld.2.2.2.2.2.1))).trans (hHeld.2.2.2.2.2.1);have HS6_:=(hb.cell (zl _ _ (hHeld.2.2.2.2.2.2.1))).trans (hHeld.2.2.2.2.2.2.1);have HS7_:=(hb.cell (zl _ _ (hHeld.2.2.2.2.2.2.2.1))).trans (hHeld.2.2.2.2.2.2.2.1);have HS8_:=(hb.cell (zl _ _ (hHeld.2.2.2.2.2.2.2.2.1))).trans (hHeld.2.2.2.2.2.2.2.2.1);have HS9_:=(hb.cell (zl _ _ (hHeld.2.2.2.2.2.2.2.2.2.1))).trans (hHeld.2.2.2.2.2.2.2.2.2.1);have HS10_:=(hb.cell (zl _ _ (hHeld.2.2.2.2.2.2.2.2.2.2.1))).trans (hHeld.2.2.2.2.2.2.2.2.2.2.1);have HS11_:=(hb.cell (zl _ _ (hHeld.2.2.2.2.2.2.2.2.2.2.2.1))).trans (hHeld.2.2.2.2.2.2.2.2.2.2.2.1);have HS12_:=(hb.cell (zl _ _ (hHeld.2.2.2.2.2.2.2.2.2.2.2.2.1))).trans (hHeld.2.2.2.2.2.2.2.2.2.2.2.2.1);have HS13_:=(hb.cell (zl _ _ (hHeld.2.2.2.2.2.2.2.2.2.2.2.2.2.1))).trans (hHeld.2.2.2.2.2.2.2.2.2.2.2.2.2.1);have HS14_:=(hb.cell (zl _ _ (hHeld.2.2.2.2.2.2.2.2.2.2.2.2.2.2.1))).trans (hHeld.2.2.2.2.2.2.2.2.2.2.2.2.2.2.1);have HS15_:=(hb.cell (zl _ _ (hHeld.2.2.2.2.2.2.2.2.2.2.2.2.2.2.2))).trans (hHeld.2.2.2.2.2.2.2.2.2.2.2.2.2.2.2);refine ⟨_,rfl,?_⟩;replace HO_8:=zh (yg (by (with_reducible repeat (first|apply zm|apply zn|apply zo));exact HO_8.out) hb);replace BK144:=zh (cD BK144.out (by (with_reducible repeat first|apply ze|apply zf|apply zg);exact BK144.out) hb);replace HB:=zh (zC (by repeat (with_reducible first|exact HB.out|apply za|apply zb|apply zc|refine zd ?_ GE144.out)) hb);(try clear hb);(try clear hb2);(try clear hk);(try clear hi);refine hK.out _ _ ⟨HS0_,HS1_,HS2_,HS3_,HS4_,HS5_,HS6_,HS7_,HS8_,HS9_,HS10_,HS11_,HS12_,HS13_,HS14_,HS15_⟩ (fun hHeld => ?_);clear hK K;refine norm_ (a':=?_) ?_ ?_;rotate_left
             ·
              show Act.put _ (some 157) _=_
              simp only [Act.put,zi,zj,zk,zG,zH]
              rfl
             refine pure_ (i:=34) (N:=some 158) (v:=?_) (a':=?_) (bm_ 35 36) rfl rfl (any_of HT_.out (by kernel_rfl)) (fun _ _ _ h => h) (Or.inl ⟨by rfl,?_⟩) ?_ ?_;rotate_left
             ·
              intro w'
              go_simp
              with_reducible rfl
             rotate_left
             ·
              simp only [Act.put,zi,zj,zk,zG,zH]
              rfl
             refine pure_ (i:=35) (N:=some 159) (v:=?_) (a':=?_) (bm_ 36 36) rfl rfl (any_of HT_.out (by kernel_rfl)) (fun _ _ _ h => h) (Or.inl ⟨by rfl,?_⟩) ?_ ?_;rotate_left
             ·
              intro w'
              go_simp
              with_reducible rfl
             rotate_left
             ·
              simp only [Act.put,zi,zj,zk,zG,zH]
              rfl
             refine done_ (done_of HT_.out (by kernel_rfl)) ?_
             try go_wp2
             go_ret
             exact ⟨by first|rfl|(simp [yt,yu] <;> rfl)|(simp only [← hji71];first|rfl|(simp [yt,yu] <;> rfl))|(simp [*,yt,yu] <;> rfl),by repeat (with_reducible first|exact HB.out|apply za|apply zb|apply zc|refine zd ?_ GE144.out)⟩
            rw [if_neg c74] at H;have c74b0 : (Op.bytesLess (((rd_T43 t153 (ji71)).f0).toList) (((rd_T43 t153 x10_2).f0).toList))=false:=by simpa using c74
            clear c74;obtain rfl:=zU H;obtain ⟨Ao83,co83,eo83⟩:=yk HO_8.out;subst eo83
            try go_wp2
            replace HO_8:=zh (zo HO_8.out);replace BK144:=zh (zf BK144.out);replace HB:=zh (zc HB.out);have p157 : 0≤(x10_2 : Int):=zy (by first|(with_reducible assumption)|assumption);have q157 : x10_2<(t153.length : Int):=zy (by first|(with_reducible assumption)|assumption);obtain ⟨ad157,e157,hx157_0,hx157_1,hx157_2,hx157_3⟩:=at_T43 (yh HO_8.out).2.2 x10_2 p157 q157
            cases e157
            replace p157:=eq_true p157;replace q157:=eq_true q157;have p159 : 0≤((ji71) : Int):=zy (by first|(with_reducible assumption)|assumption);have q159 : (ji71)<(t153.length : Int):=zy (by first|(with_reducible assumption)|assumption);obtain ⟨ad159,e159,hx159_0,hx159_1,hx159_2,hx159_3⟩:=at_T43 (yh HO_8.out).2.2 (ji71) p159 q159;obtain rfl : ad157=ad159:=(by injection e159);replace p159:=eq_true p159;replace q159:=eq_true q159;have p160 : 0≤(x10_2 : Int):=zy (by first|(with_reducible assumption)|assumption);have q160 : x10_2<(t153.length : Int):=zy (by first|(with_reducible assumption)|assumption);obtain ⟨ad160,e160,hx160_0,hx160_1,hx160_2,hx160_3⟩:=at_T43 (yh HO_8.out).2.2 x10_2 p160 q160;obtain rfl : ad157=ad160:=(by injection e160);replace p160:=eq_true p160;replace q160:=eq_true q160;refine start_ (n:=36) (S:=fun w' => w'.cell? (ad157.add ((x10_2).toNat * 4))=some (.string ((rd_T43 t153 x10_2).f0))∧w'.cell? ⟨(ad157.add ((x10_2).toNat * 4)).block,(ad157.add ((x10_2).toNat * 4)).off + 1,none⟩=some (.int .i64 ((rd_T43 t153 x10_2).f1.f0))∧w'.cell? ⟨(ad157.add ((x10_2).toNat * 4)).block,(ad157.add ((x10_2).toNat * 4)).off + 2,none⟩=some (.int .i64 ((rd_T43 t153 x10_2).f1.f1))∧w'.cell? ⟨(ad157.add ((x10_2).toNat * 4)).block,(ad157.add ((x10_2).toNat * 4)).off + 3,none⟩=some (.string ((rd_T43 t153 x10_2).f1.f2))∧w'.cell? (ad157.add (((ji71)).toNat * 4))=some (.string ((rd_T43 t153 (ji71)).f0))∧w'.cell? ⟨(ad157.add (((ji71)).toNat * 4)).block,(ad157.add (((ji71)).toNat * 4)).off + 1,none⟩=some (.int .i64 ((rd_T43 t153 (ji71)).f1.f0))∧w'.cell? ⟨(ad157.add (((ji71)).toNat * 4)).block,(ad157.add (((ji71)).toNat * 4)).off + 2,none⟩=some (.int .i64 ((rd_T43 t153 (ji71)).f1.f1))∧w'.cell? ⟨(ad157.add (((ji71)).toNat * 4)).block,(ad157.add (((ji71)).toNat * 4)).off + 3,none⟩=some (.string ((rd_T43 t153 (ji71)).f1.f2))∧w'.cell? (ad157.add ((x10_2).toNat * 4))=some (.string ((rd_T43 t153 x10_2).f0))∧w'.cell? ⟨(ad157.add ((x10_2).toNat * 4)).block,(ad157.add ((x10_2).toNat * 4)).off + 1,none⟩=some (.int .i64 ((rd_T43 t153 x10_2).f1.f0))∧w'.cell? ⟨(ad157.add ((x10_2).toNat * 4)).block,(ad157.add ((x10_2).toNat * 4)).off + 2,none⟩=some (.int .i64 ((rd_T43 t153 x10_2).f1.f1))∧w'.cell? ⟨(ad157.add ((x10_2).toNat * 4)).block,(ad157.add ((x10_2).toNat * 4)).off + 3,none⟩=some (.string ((rd_T43 t153 x10_2).f1.f2))) (ds:=[]) (bm_ 0 36) (by kernel_rfl) rfl rfl ⟨hx157_0,hx157_1,hx157_2,hx157_3,hx159_0,hx159_1,hx159_2,hx159_3,hx160_0,hx160_1,hx160_2,hx160_3⟩ (fun hHeld => ?_);refine with_tabW F0.tab27 F0.bits27 (fun HT_ HW_ => ?_);generalize wr.drew=w84 at HO_8 BK144 HB hx157_0 hx157_1 hx157_2 hx157_3 hx159_0 hx159_1 hx159_2 hx159_3 hx160_0 hx160_1 hx160_2 hx160_3 hHeld ⊢;refine pure_ (i:=0) (N:=some 124) (v:=?_) (a':=?_) (bm_ 1 36) rfl rfl (any_of HT_.out (by kernel_rfl)) (fun _ _ _ h => h) (Or.inl ⟨by rfl,?_⟩) ?_ ?_;rotate_left
            ·
             intro w'
             go_simp
             with_reducible rfl
            rotate_left
            ·
             simp only [Act.put,zi,zj,zk,zG,zH]
             rfl
            refine pure_ (i:=1) (N:=some 125) (v:=?_) (a':=?_) (bm_ 2 36) rfl rfl (any_of HT_.out (by kernel_rfl)) (fun _ _ _ h => h) (Or.inl ⟨by rfl,?_⟩) ?_ ?_;rotate_left
            ·
             intro w'
             go_simp
             with_reducible rfl
            rotate_left
            ·
             simp only [Act.put,zi,zj,zk,zG,zH]
             rfl
            refine pure_ (i:=2) (N:=some 126) (v:=?_) (a':=?_) (bm_ 3 36) rfl rfl (any_of HT_.out (by kernel_rfl)) (fun _ _ _ h => h) (Or.inl ⟨by rfl,?_⟩) ?_ ?_;rotate_left
            ·
             intro w'
             go_simp
             with_reducible rfl
            rotate_left
            ·
             simp only [Act.put,zi,zj,zk,zG,zH]
             rfl
            refine pure_ (i:=3) (N:=some 127) (v:=?_) (a':=?_) (bm_ 4 36) rfl rfl (any_of HT_.out (by kernel_rfl)) (fun _ _ _ h => h) (Or.inl ⟨by rfl,?_⟩) ?_ ?_;rotate_left
            ·
             intro w'
             go_simp
             with_reducible rfl
            rotate_left
            ·
             simp only [Act.put,zi,zj,zk,zG,zH]
             rfl
            refine take_ (i:=4) (N:=some 128) (v:=?_) (a':=?_) (bm_ 5 36) rfl rfl (yo HT_.out HW_.out (by kernel_rfl)) (fun _ _ _ h => h) (Or.inl ⟨by rfl,?_⟩) hHeld ?_ ?_;rotate_left
            ·
             rintro w' ⟨s0,s1,s2,s3,s4,s5,s6,s7,s8,s9,s10,s11⟩
             go_simp
             with_reducible rfl
            rotate_left
            ·
             simp only [Act.put,zi,zj,zk,zG,zH]
             rfl
            refine one_ (i:=5) (N:=some 129) (bm_ 6 36) rfl rfl (one_of HT_.out (by kernel_rfl)) (by decide) (fun K hK => ?_);refine goes_ Tryd.func24 (by kernel_rfl) rfl #[.string ((rd_T43 t153 x10_2).f0)] (by rfl) rfl rfl (by (try simp only [zt,zu,zv]);first|done|rfl|(simp only [zw,zx];rfl)|(simp only [yr,ys,zV,zW];rfl)) ?_
            with_reducible refine (Fm.calls k2  ((rd_T43 t153 x10_2).f0) true _ A68.out).mono ?_
            rintro e w' ⟨rfl,⟨nd,rfl⟩⟩;refine ⟨_,rfl,?_⟩;refine hK.out _ _ ⟨hHeld.1,hHeld.2.1,hHeld.2.2.1,hHeld.2.2.2.1,hHeld.2.2.2.2.1,hHeld.2.2.2.2.2.1,hHeld.2.2.2.2.2.2.1,hHeld.2.2.2.2.2.2.2.1,hHeld.2.2.2.2.2.2.2.2.1,hHeld.2.2.2.2.2.2.2.2.2.1,hHeld.2.2.2.2.2.2.2.2.2.2.1,hHeld.2.2.2.2.2.2.2.2.2.2.2⟩ (fun hHeld => ?_);clear hK K;refine norm_ (a':=?_) ?_ ?_;rotate_left
            ·
             show Act.put _ (some 129) _=_
             simp only [Act.put,zi,zj,zk,zG,zH]
             rfl
            refine pure_ (i:=6) (N:=some 130) (v:=?_) (a':=?_) (bm_ 7 36) rfl rfl (any_of HT_.out (by kernel_rfl)) (fun _ _ _ h => h) (Or.inl ⟨by rfl,?_⟩) ?_ ?_;rotate_left
            ·
             intro w'
             go_simp
             with_reducible rfl
            rotate_left
            ·
             simp only [Act.put,zi,zj,zk,zG,zH]
             rfl
            refine pure_ (i:=7) (N:=some 131) (v:=?_) (a':=?_) (bm_ 8 36) rfl rfl (any_of HT_.out (by kernel_rfl)) (fun _ _ _ h => h) (Or.inl ⟨by rfl,?_⟩) ?_ ?_;rotate_left
            ·
             intro w'
             go_simp
             with_reducible rfl
            rotate_left
            ·
             simp only [Act.put,zi,zj,zk,zG,zH]
             rfl
            refine pure_ (i:=8) (N:=some 132) (v:=?_) (a':=?_) (bm_ 9 36) rfl rfl (any_of HT_.out (by kernel_rfl)) (fun _ _ _ h => h) (Or.inl ⟨by rfl,?_⟩) ?_ ?_;rotate_left
            ·
             intro w'
             go_simp
             with_reducible rfl
            rotate_left
            ·
             simp only [Act.put,zi,zj,zk,zG,zH]
             rfl
            refine pure_ (i:=9) (N:=some 133) (v:=?_) (a':=?_) (bm_ 10 36) rfl rfl (any_of HT_.out (by kernel_rfl)) (fun _ _ _ h => h) (Or.inl ⟨by rfl,?_⟩) ?_ ?_;rotate_left
            ·
             intro w'
             go_simp
             with_reducible rfl
            rotate_left
            ·
             simp only [Act.put,zi,zj,zk,zG,zH]
             rfl
            refine pure_ (i:=10) (N:=some 134) (v:=?_) (a':=?_) (bm_ 11 36) rfl rfl (any_of HT_.out (by kernel_rfl)) (fun _ _ _ h => h) (Or.inl ⟨by rfl,?_⟩) ?_ ?_;rotate_left
            ·
             intro w'
             go_simp
             with_reducible rfl
            rotate_left
            ·
             simp only [Act.put,zi,zj,zk,zG,zH]
             rfl
            refine pure_ (i:=11) (N:=some 135) (v:=?_) (a':=?_) (bm_ 12 36) rfl rfl (any_of HT_.out (by kernel_rfl)) (fun _ _ _ h => h) (Or.inl ⟨by rfl,?_⟩) ?_ ?_;rotate_left
            ·
             intro w'
             go_simp
             with_reducible rfl
            rotate_left
            ·
             simp only [Act.put,zi,zj,zk,zG,zH]
             rfl
            refine pure_ (i:=12) (N:=some 136) (v:=?_) (a':=?_) (bm_ 13 36) rfl rfl (any_of HT_.out (by kernel_rfl)) (fun _ _ _ h => h) (Or.inl ⟨by rfl,?_⟩) ?_ ?_;rotate_left
            ·
             intro w'
             go_simp
             with_reducible rfl
            rotate_left
            ·
             simp only [Act.put,zi,zj,zk,zG,zH]
             rfl
            refine pure_ (i:=13) (N:=some 137) (v:=?_) (a':=?_) (bm_ 14 36) rfl rfl (any_of HT_.out (by kernel_rfl)) (fun _ _ _ h => h) (Or.inl ⟨by rfl,?_⟩) ?_ ?_;rotate_left
            ·
             intro w'
             go_simp
             with_reducible rfl
            rotate_left
            ·
             simp only [Act.put,zi,zj,zk,zG,zH]
             rfl
            refine pure_ (i:=14) (N:=some 138) (v:=?_) (a':=?_) (bm_ 15 36) rfl rfl (any_of HT_.out (by kernel_rfl)) (fun _ _ _ h => h) (Or.inl ⟨by rfl,?_⟩) ?_ ?_;rotate_left
            ·
             intro w'
             go_simp
             with_reducible rfl
            rotate_left
            ·
             simp only [Act.put,zi,zj,zk,zG,zH]
             rfl
            refine pure_ (i:=15) (N:=some 139) (v:=?_) (a':=?_) (bm_ 16 36) rfl rfl (any_of HT_.out (by kernel_rfl)) (fun _ _ _ h => h) (Or.inl ⟨by rfl,?_⟩) ?_ ?_;rotate_left
            ·
             intro w'
             go_simp
             with_reducible rfl
            rotate_left
            ·
             simp only [Act.put,zi,zj,zk,zG,zH]
             rfl
            refine pure_ (i:=17) (N:=some 141) (v:=?_) (a':=?_) #[true,true,true,true,true,true,true,true,true,true,true,true,true,true,true,true,false,true,false,false,false,false,false,false,false,false,false,false,false,false,false,false,false,false,false,false] rfl rfl (any_of HT_.out (by kernel_rfl)) (fun _ _ _ h => h) (Or.inl ⟨by rfl,?_⟩) ?_ ?_;rotate_left
            ·
             intro w'
             go_simp
             with_reducible rfl
            rotate_left
            ·
             simp only [Act.put,zi,zj,zk,zG,zH]
             rfl
            refine pure_ (i:=18) (N:=some 142) (v:=?_) (a':=?_) #[true,true,true,true,true,true,true,true,true,true,true,true,true,true,true,true,false,true,true,false,false,false,false,false,false,false,false,false,false,false,false,false,false,false,false,false] rfl rfl (any_of HT_.out (by kernel_rfl)) (fun _ _ _ h => h) (Or.inl ⟨by rfl,?_⟩) ?_ ?_;rotate_left
            ·
             intro w'
             go_simp
             with_reducible rfl
            rotate_left
            ·
             simp only [Act.put,zi,zj,zk,zG,zH]
             rfl
            refine pure_ (i:=19) (N:=some 143) (v:=?_) (a':=?_) #[true,true,true,true,true,true,true,true,true,true,true,true,true,true,true,true,false,true,true,true,false,false,false,false,false,false,false,false,false,false,false,false,false,false,false,false] rfl rfl (any_of HT_.out (by kernel_rfl)) (fun _ _ _ h => h) (Or.inl ⟨by rfl,?_⟩) ?_ ?_;rotate_left
            ·
             intro w'
             go_simp
             with_reducible rfl
            rotate_left
            ·
             simp only [Act.put,zi,zj,zk,zG,zH]
             rfl
            refine pure_ (i:=20) (N:=some 144) (v:=?_) (a':=?_) #[true,true,true,true,true,true,true,true,true,true,true,true,true,true,true,true,false,true,true,true,true,false,false,false,false,false,false,false,false,false,false,false,false,false,false,false] rfl rfl (any_of HT_.out (by kernel_rfl)) (fun _ _ _ h => h) (Or.inl ⟨by rfl,?_⟩) ?_ ?_;rotate_left
            ·
             intro w'
             go_simp
             with_reducible rfl
            rotate_left
            ·
             simp only [Act.put,zi,zj,zk,zG,zH]
             rfl
            refine take_ (i:=16) (N:=some 140) (v:=?_) (a':=?_) (bm_ 21 36) rfl rfl (yo HT_.out HW_.out (by kernel_rfl)) (fun _ _ _ h => h) (Or.inl ⟨by rfl,?_⟩) hHeld ?_ ?_;rotate_left
            ·
             rintro w' ⟨s0,s1,s2,s3,s4,s5,s6,s7,s8,s9,s10,s11⟩
             go_simp
             with_reducible rfl
            rotate_left
            ·
             simp only [Act.put,zi,zj,zk,zG,zH]
             rfl
            refine take_ (i:=21) (N:=some 145) (v:=?_) (a':=?_) (bm_ 22 36) rfl rfl (yo HT_.out HW_.out (by kernel_rfl)) (fun _ _ _ h => h) (Or.inl ⟨by rfl,?_⟩) hHeld ?_ ?_;rotate_left
            ·
             rintro w' ⟨s0,s1,s2,s3,s4,s5,s6,s7,s8,s9,s10,s11⟩
             go_simp
             with_reducible rfl
            rotate_left
            ·
             simp only [Act.put,zi,zj,zk,zG,zH]
             rfl
            refine pure_ (i:=22) (N:=some 146) (v:=?_) (a':=?_) (bm_ 23 36) rfl rfl (any_of HT_.out (by kernel_rfl)) (fun _ _ _ h => h) (Or.inl ⟨by rfl,?_⟩) ?_ ?_;rotate_left
            ·
             intro w'
             go_simp
             with_reducible rfl
            rotate_left
            ·
             simp only [Act.put,zi,zj,zk,zG,zH]
             rfl
            refine pure_ (i:=23) (N:=some 147) (v:=?_) (a':=?_) (bm_ 24 36) rfl rfl (any_of HT_.out (by kernel_rfl)) (fun _ _ _ h => h) (Or.inl ⟨by rfl,?_⟩) ?_ ?_;rotate_left
            ·
             intro w'
             go_simp
             with_reducible rfl
            rotate_left
            ·
             simp only [Act.put,zi,zj,zk,zG,zH]
             rfl
            refine pure_ (i:=24) (N:=some 148) (v:=?_) (a':=?_) (bm_ 25 36) rfl rfl (any_of HT_.out (by kernel_rfl)) (fun _ _ _ h => h) (Or.inl ⟨by rfl,?_⟩) ?_ ?_;rotate_left
            ·
             intro w'
             go_simp
             with_reducible rfl
            rotate_left
            ·
             simp only [Act.put,zi,zj,zk,zG,zH]
             rfl
            refine pure_ (i:=25) (N:=some 149) (v:=?_) (a':=?_) (bm_ 26 36) rfl rfl (any_of HT_.out (by kernel_rfl)) (fun _ _ _ h => h) (Or.inl ⟨by rfl,?_⟩) ?_ ?_;rotate_left
            ·
             intro w'
             go_simp
             with_reducible rfl
            rotate_left
            ·
             simp only [Act.put,zi,zj,zk,zG,zH]
             rfl
            refine pure_ (i:=26) (N:=some 150) (v:=undef) (a':=?_) (bm_ 27 36) rfl rfl (any_of HT_.out (by kernel_rfl)) (fun _ _ _ h => h) (Or.inr ⟨by rfl,rfl⟩) ?_ ?_;rotate_left
            ·
             simp only [Act.put,zi,zj,zk,zG,zH]
             rfl
            refine pure_ (i:=27) (N:=some 151) (v:=undef) (a':=?_) (bm_ 28 36) rfl rfl (any_of HT_.out (by kernel_rfl)) (fun _ _ _ h => h) (Or.inr ⟨by rfl,rfl⟩) ?_ ?_;rotate_left
            ·
             simp only [Act.put,zi,zj,zk,zG,zH]
             rfl
            refine pure_ (i:=28) (N:=some 152) (v:=undef) (a':=?_) (bm_ 29 36) rfl rfl (any_of HT_.out (by kernel_rfl)) (fun _ _ _ h => h) (Or.inr ⟨by rfl,rfl⟩) ?_ ?_;rotate_left
            ·
             simp only [Act.put,zi,zj,zk,zG,zH]
             rfl
            refine pure_ (i:=29) (N:=some 153) (v:=undef) (a':=?_) (bm_ 30 36) rfl rfl (any_of HT_.out (by kernel_rfl)) (fun _ _ _ h => h) (Or.inr ⟨by rfl,rfl⟩) ?_ ?_;rotate_left
            ·
             simp only [Act.put,zi,zj,zk,zG,zH]
             rfl
            refine pure_ (i:=30) (N:=some 154) (v:=undef) (a':=?_) (bm_ 31 36) rfl rfl (any_of HT_.out (by kernel_rfl)) (fun _ _ _ h => h) (Or.inr ⟨by rfl,rfl⟩) ?_ ?_;rotate_left
            ·
             simp only [Act.put,zi,zj,zk,zG,zH]
             rfl
            refine pure_ (i:=31) (N:=some 155) (v:=undef) (a':=?_) (bm_ 32 36) rfl rfl (any_of HT_.out (by kernel_rfl)) (fun _ _ _ h => h) (Or.inr ⟨by rfl,rfl⟩) ?_ ?_;rotate_left
            ·
             simp only [Act.put,zi,zj,zk,zG,zH]
             rfl
            refine pure_ (i:=32) (N:=some 156) (v:=undef) (a':=?_) (bm_ 33 36) rfl rfl (any_of HT_.out (by kernel_rfl)) (fun _ _ _ h => h) (Or.inr ⟨by rfl,rfl⟩) ?_ ?_;rotate_left
            ·
             simp only [Act.put,zi,zj,zk,zG,zH]
             rfl
            refine pure_ (i:=33) (N:=some 157) (v:=undef) (a':=?_) (bm_ 34 36) rfl rfl (any_of HT_.out (by kernel_rfl)) (fun _ _ _ h => h) (Or.inr ⟨by rfl,rfl⟩) ?_ ?_;rotate_left
            ·
             simp only [Act.put,zi,zj,zk,zG,zH]
             rfl
            refine pure_ (i:=34) (N:=some 158) (v:=undef) (a':=?_) (bm_ 35 36) rfl rfl (any_of HT_.out (by kernel_rfl)) (fun _ _ _ h => h) (Or.inr ⟨by rfl,rfl⟩) ?_ ?_;rotate_left
            ·
             simp only [Act.put,zi,zj,zk,zG,zH]
             rfl
            refine pure_ (i:=35) (N:=some 159) (v:=?_) (a':=?_) (bm_ 36 36) rfl rfl (any_of HT_.out (by kernel_rfl)) (fun _ _ _ h => h) (Or.inl ⟨by rfl,?_⟩) ?_ ?_;rotate_left
            ·
             intro w'
             go_simp
             with_reducible rfl
            rotate_left
            ·
             simp only [Act.put,zi,zj,zk,zG,zH]
             rfl
            refine done_ (done_of HT_.out (by kernel_rfl)) ?_
            try go_wp2
            go_ret
            exact ⟨by first|rfl|(simp [yt,yu] <;> rfl)|(simp only [← hji71];first|rfl|(simp [yt,yu] <;> rfl))|(simp [*,yt,yu] <;> rfl),by repeat (with_reducible first|exact HB.out|apply za|apply zb|apply zc|refine zd ?_ GE144.out)⟩
           rw [if_neg c73] at H;exact absurd H (by simp)
          rw [if_neg c72] at H;exact absurd H (by simp)
         rw [if_neg c70] at H;have c70b0 : decide (0<x10_2)=false:=decide_eq_false c70;clear c70;replace H:=zT.mp H;obtain ⟨t164,A850,H⟩:=H;replace H : (if t164=true then (F0.l1 k2 a1 t153 (wrap64 (x10_2 + 1))) else (some false))=some r:=H;have A85:=zh A850;clear A850
         by_cases c86 : t164=true
         ·
          subst c86
          have H1 : (F0.l1 k2 a1 t153 (wrap64 (x10_2 + 1)))=some r:=by rw [if_pos rfl] at H;exact H
          clear H;have H:=H1;clear H1;have H':=zh H;clear H;obtain ⟨Ao87,co87,eo87⟩:=yk HO_8.out;subst eo87
          try go_wp2
          replace HO_8:=zh (zo HO_8.out);replace BK144:=zh (zf BK144.out);replace HB:=zh (zc HB.out);have p157 : 0≤(x10_2 : Int):=zy (by first|(with_reducible assumption)|assumption);have q157 : x10_2<(t153.length : Int):=zy (by first|(with_reducible assumption)|assumption);obtain ⟨ad157,e157,hx157_0,hx157_1,hx157_2,hx157_3⟩:=at_T43 (yh HO_8.out).2.2 x10_2 p157 q157
          cases e157
          replace p157:=eq_true p157;replace q157:=eq_true q157;have p163 : 0≤(x10_2 : Int):=zy (by first|(with_reducible assumption)|assumption);have q163 : x10_2<(t153.length : Int):=zy (by first|(with_reducible assumption)|assumption);obtain ⟨ad163,e163,hx163_0,hx163_1,hx163_2,hx163_3⟩:=at_T43 (yh HO_8.out).2.2 x10_2 p163 q163;obtain rfl : ad157=ad163:=(by injection e163);replace p163:=eq_true p163;replace q163:=eq_true q163;refine start_ (n:=36) (S:=fun w' => w'.cell? (ad157.add ((x10_2).toNat * 4))=some (.string ((rd_T43 t153 x10_2).f0))∧w'.cell? ⟨(ad157.add ((x10_2).toNat * 4)).block,(ad157.add ((x10_2).toNat * 4)).off + 1,none⟩=some (.int .i64 ((rd_T43 t153 x10_2).f1.f0))∧w'.cell? ⟨(ad157.add ((x10_2).toNat * 4)).block,(ad157.add ((x10_2).toNat * 4)).off + 2,none⟩=some (.int .i64 ((rd_T43 t153 x10_2).f1.f1))∧w'.cell? ⟨(ad157.add ((x10_2).toNat * 4)).block,(ad157.add ((x10_2).toNat * 4)).off + 3,none⟩=some (.string ((rd_T43 t153 x10_2).f1.f2))∧w'.cell? (ad157.add ((x10_2).toNat * 4))=some (.string ((rd_T43 t153 x10_2).f0))∧w'.cell? ⟨(ad157.add ((x10_2).toNat * 4)).block,(ad157.add ((x10_2).toNat * 4)).off + 1,none⟩=some (.int .i64 ((rd_T43 t153 x10_2).f1.f0))∧w'.cell? ⟨(ad157.add ((x10_2).toNat * 4)).block,(ad157.add ((x10_2).toNat * 4)).off + 2,none⟩=some (.int .i64 ((rd_T43 t153 x10_2).f1.f1))∧w'.cell? ⟨(ad157.add ((x10_2).toNat * 4)).block,(ad157.add ((x10_2).toNat * 4)).off + 3,none⟩=some (.string ((rd_T43 t153 x10_2).f1.f2))) (ds:=[]) (bm_ 0 36) (by kernel_rfl) rfl rfl ⟨hx157_0,hx157_1,hx157_2,hx157_3,hx163_0,hx163_1,hx163_2,hx163_3⟩ (fun hHeld => ?_);refine with_tabW F0.tab27 F0.bits27 (fun HT_ HW_ => ?_);generalize wr.drew=w88 at HO_8 BK144 HB hx157_0 hx157_1 hx157_2 hx157_3 hx163_0 hx163_1 hx163_2 hx163_3 hHeld ⊢;refine pure_ (i:=0) (N:=some 124) (v:=?_) (a':=?_) (bm_ 1 36) rfl rfl (any_of HT_.out (by kernel_rfl)) (fun _ _ _ h => h) (Or.inl ⟨by rfl,?_⟩) ?_ ?_;rotate_left
          ·
           intro w'
           go_simp
           with_reducible rfl
          rotate_left
          ·
           simp only [Act.put,zi,zj,zk,zG,zH]
           rfl
          refine pure_ (i:=1) (N:=some 125) (v:=?_) (a':=?_) (bm_ 2 36) rfl rfl (any_of HT_.out (by kernel_rfl)) (fun _ _ _ h => h) (Or.inl ⟨by rfl,?_⟩) ?_ ?_;rotate_left
          ·
           intro w'
           go_simp
           with_reducible rfl
          rotate_left
          ·
           simp only [Act.put,zi,zj,zk,zG,zH]
           rfl
          refine pure_ (i:=2) (N:=some 126) (v:=?_) (a':=?_) (bm_ 3 36) rfl rfl (any_of HT_.out (by kernel_rfl)) (fun _ _ _ h => h) (Or.inl ⟨by rfl,?_⟩) ?_ ?_;rotate_left
          ·
           intro w'
           go_simp
           with_reducible rfl
          rotate_left
          ·
           simp only [Act.put,zi,zj,zk,zG,zH]
           rfl
          refine pure_ (i:=3) (N:=some 127) (v:=?_) (a':=?_) (bm_ 4 36) rfl rfl (any_of HT_.out (by kernel_rfl)) (fun _ _ _ h => h) (Or.inl ⟨by rfl,?_⟩) ?_ ?_;rotate_left
          ·
           intro w'
           go_simp
           with_reducible rfl
          rotate_left
          ·
           simp only [Act.put,zi,zj,zk,zG,zH]
           rfl
          refine take_ (i:=4) (N:=some 128) (v:=?_) (a':=?_) (bm_ 5 36) rfl rfl (yo HT_.out HW_.out (by kernel_rfl)) (fun _ _ _ h => h) (Or.inl ⟨by rfl,?_⟩) hHeld ?_ ?_;rotate_left
          ·
           rintro w' ⟨s0,s1,s2,s3,s4,s5,s6,s7⟩
           go_simp
           with_reducible rfl
          rotate_left
          ·
           simp only [Act.put,zi,zj,zk,zG,zH]
           rfl
          refine one_ (i:=5) (N:=some 129) (bm_ 6 36) rfl rfl (one_of HT_.out (by kernel_rfl)) (by decide) (fun K hK => ?_);refine goes_ Tryd.func24 (by kernel_rfl) rfl #[.string ((rd_T43 t153 x10_2).f0)] (by rfl) rfl rfl (by (try simp only [zt,zu,zv]);first|done|rfl|(simp only [zw,zx];rfl)|(simp only [yr,ys,zV,zW];rfl)) ?_
          with_reducible refine (Fm.calls k2  ((rd_T43 t153 x10_2).f0) true _ A68.out).mono ?_
          rintro e w' ⟨rfl,⟨nd,rfl⟩⟩;refine ⟨_,rfl,?_⟩;refine hK.out _ _ ⟨hHeld.1,hHeld.2.1,hHeld.2.2.1,hHeld.2.2.2.1,hHeld.2.2.2.2.1,hHeld.2.2.2.2.2.1,hHeld.2.2.2.2.2.2.1,hHeld.2.2.2.2.2.2.2⟩ (fun hHeld => ?_);clear hK K;refine norm_ (a':=?_) ?_ ?_;rotate_left
          ·
           show Act.put _ (some 129) _=_
           simp only [Act.put,zi,zj,zk,zG,zH]
           rfl
          refine pure_ (i:=6) (N:=some 130) (v:=?_) (a':=?_) (bm_ 7 36) rfl rfl (any_of HT_.out (by kernel_rfl)) (fun _ _ _ h => h) (Or.inl ⟨by rfl,?_⟩) ?_ ?_;rotate_left
          ·
           intro w'
           go_simp
           with_reducible rfl
          rotate_left
          ·
           simp only [Act.put,zi,zj,zk,zG,zH]
           rfl
          refine pure_ (i:=7) (N:=some 131) (v:=?_) (a':=?_) (bm_ 8 36) rfl rfl (any_of HT_.out (by kernel_rfl)) (fun _ _ _ h => h) (Or.inl ⟨by rfl,?_⟩) ?_ ?_;rotate_left
          ·
           intro w'
           go_simp
           with_reducible rfl
          rotate_left
          ·
           simp only [Act.put,zi,zj,zk,zG,zH]
           rfl
          refine pure_ (i:=8) (N:=some 132) (v:=?_) (a':=?_) (bm_ 9 36) rfl rfl (any_of HT_.out (by kernel_rfl)) (fun _ _ _ h => h) (Or.inl ⟨by rfl,?_⟩) ?_ ?_;rotate_left
          ·
           intro w'
           go_simp
           with_reducible rfl
          rotate_left
          ·
           simp only [Act.put,zi,zj,zk,zG,zH]
           rfl
          refine pure_ (i:=9) (N:=some 133) (v:=?_) (a':=?_) (bm_ 10 36) rfl rfl (any_of HT_.out (by kernel_rfl)) (fun _ _ _ h => h) (Or.inl ⟨by rfl,?_⟩) ?_ ?_;rotate_left
          ·
           intro w'
           go_simp
           with_reducible rfl
          rotate_left
          ·
           simp only [Act.put,zi,zj,zk,zG,zH]
           rfl
          refine pure_ (i:=10) (N:=some 134) (v:=?_) (a':=?_) (bm_ 11 36) rfl rfl (any_of HT_.out (by kernel_rfl)) (fun _ _ _ h => h) (Or.inl ⟨by rfl,?_⟩) ?_ ?_;rotate_left
          ·
           intro w'
           go_simp
           with_reducible rfl
          rotate_left
          ·
           simp only [Act.put,zi,zj,zk,zG,zH]
           rfl
          refine pure_ (i:=11) (N:=some 135) (v:=undef) (a':=?_) (bm_ 12 36) rfl rfl (any_of HT_.out (by kernel_rfl)) (fun _ _ _ h => h) (Or.inr ⟨by rfl,rfl⟩) ?_ ?_;rotate_left
          ·
           simp only [Act.put,zi,zj,zk,zG,zH]
           rfl
          refine pure_ (i:=12) (N:=some 136) (v:=undef) (a':=?_) (bm_ 13 36) rfl rfl (any_of HT_.out (by kernel_rfl)) (fun _ _ _ h => h) (Or.inr ⟨by rfl,rfl⟩) ?_ ?_;rotate_left
          ·
           simp only [Act.put,zi,zj,zk,zG,zH]
           rfl
          refine pure_ (i:=13) (N:=some 137) (v:=undef) (a':=?_) (bm_ 14 36) rfl rfl (any_of HT_.out (by kernel_rfl)) (fun _ _ _ h => h) (Or.inr ⟨by rfl,rfl⟩) ?_ ?_;rotate_left
          ·
           simp only [Act.put,zi,zj,zk,zG,zH]
           rfl
          refine pure_ (i:=14) (N:=some 138) (v:=undef) (a':=?_) (bm_ 15 36) rfl rfl (any_of HT_.out (by kernel_rfl)) (fun _ _ _ h => h) (Or.inr ⟨by rfl,rfl⟩) ?_ ?_;rotate_left
          ·
           simp only [Act.put,zi,zj,zk,zG,zH]
           rfl
          refine pure_ (i:=15) (N:=some 139) (v:=undef) (a':=?_) (bm_ 16 36) rfl rfl (any_of HT_.out (by kernel_rfl)) (fun _ _ _ h => h) (Or.inr ⟨by rfl,rfl⟩) ?_ ?_;rotate_left
          ·
           simp only [Act.put,zi,zj,zk,zG,zH]
           rfl
          refine pure_ (i:=16) (N:=some 140) (v:=undef) (a':=?_) (bm_ 17 36) rfl rfl (any_of HT_.out (by kernel_rfl)) (fun _ _ _ h => h) (Or.inr ⟨by rfl,rfl⟩) ?_ ?_;rotate_left
          ·
           simp only [Act.put,zi,zj,zk,zG,zH]
           rfl
          refine pure_ (i:=17) (N:=some 141) (v:=undef) (a':=?_) (bm_ 18 36) rfl rfl (any_of HT_.out (by kernel_rfl)) (fun _ _ _ h => h) (Or.inr ⟨by rfl,rfl⟩) ?_ ?_;rotate_left
          ·
           simp only [Act.put,zi,zj,zk,zG,zH]
           rfl
          refine pure_ (i:=18) (N:=some 142) (v:=undef) (a':=?_) (bm_ 19 36) rfl rfl (any_of HT_.out (by kernel_rfl)) (fun _ _ _ h => h) (Or.inr ⟨by rfl,rfl⟩) ?_ ?_;rotate_left
          ·
           simp only [Act.put,zi,zj,zk,zG,zH]
           rfl
          refine pure_ (i:=19) (N:=some 143) (v:=undef) (a':=?_) (bm_ 20 36) rfl rfl (any_of HT_.out (by kernel_rfl)) (fun _ _ _ h => h) (Or.inr ⟨by rfl,rfl⟩) ?_ ?_;rotate_left
          ·
           simp only [Act.put,zi,zj,zk,zG,zH]
           rfl
          refine pure_ (i:=20) (N:=some 144) (v:=undef) (a':=?_) (bm_ 21 36) rfl rfl (any_of HT_.out (by kernel_rfl)) (fun _ _ _ h => h) (Or.inr ⟨by rfl,rfl⟩) ?_ ?_;rotate_left
          ·
           simp only [Act.put,zi,zj,zk,zG,zH]
           rfl
          refine pure_ (i:=21) (N:=some 145) (v:=undef) (a':=?_) (bm_ 22 36) rfl rfl (any_of HT_.out (by kernel_rfl)) (fun _ _ _ h => h) (Or.inr ⟨by rfl,rfl⟩) ?_ ?_;rotate_left
          ·
           simp only [Act.put,zi,zj,zk,zG,zH]
           rfl
          refine pure_ (i:=22) (N:=some 146) (v:=undef) (a':=?_) (bm_ 23 36) rfl rfl (any_of HT_.out (by kernel_rfl)) (fun _ _ _ h => h) (Or.inr ⟨by rfl,rfl⟩) ?_ ?_;rotate_left
          ·
           simp only [Act.put,zi,zj,zk,zG,zH]
           rfl
          refine pure_ (i:=23) (N:=some 147) (v:=?_) (a':=?_) (bm_ 24 36) rfl rfl (any_of HT_.out (by kernel_rfl)) (fun _ _ _ h => h) (Or.inl ⟨by rfl,?_⟩) ?_ ?_;rotate_left
          ·
           intro w'
           go_simp
           with_reducible rfl
          rotate_left
          ·
           simp only [Act.put,zi,zj,zk,zG,zH]
           rfl
          refine pure_ (i:=24) (N:=some 148) (v:=?_) (a':=?_) (bm_ 25 36) rfl rfl (any_of HT_.out (by kernel_rfl)) (fun _ _ _ h => h) (Or.inl ⟨by rfl,?_⟩) ?_ ?_;rotate_left
          ·
           intro w'
           go_simp
           with_reducible rfl
          rotate_left
          ·
           simp only [Act.put,zi,zj,zk,zG,zH]
           rfl
          refine pure_ (i:=25) (N:=some 149) (v:=?_) (a':=?_) (bm_ 26 36) rfl rfl (any_of HT_.out (by kernel_rfl)) (fun _ _ _ h => h) (Or.inl ⟨by rfl,?_⟩) ?_ ?_;rotate_left
          ·
           intro w'
           go_simp
           with_reducible rfl
          rotate_left
          ·
           simp only [Act.put,zi,zj,zk,zG,zH]
           rfl
          refine pure_ (i:=26) (N:=some 150) (v:=?_) (a':=?_) (bm_ 27 36) rfl rfl (any_of HT_.out (by kernel_rfl)) (fun _ _ _ h => h) (Or.inl ⟨by rfl,?_⟩) ?_ ?_;rotate_left
          ·
           intro w'
           go_simp
           with_reducible rfl
          rotate_left
          ·
           simp only [Act.put,zi,zj,zk,zG,zH]
           rfl
          refine pure_ (i:=27) (N:=some 151) (v:=?_) (a':=?_) (bm_ 28 36) rfl rfl (any_of HT_.out (by kernel_rfl)) (fun _ _ _ h => h) (Or.inl ⟨by rfl,?_⟩) ?_ ?_;rotate_left
          ·
           intro w'
           go_simp
           with_reducible rfl
          rotate_left
          ·
           simp only [Act.put,zi,zj,zk,zG,zH]
           rfl
          refine pure_ (i:=28) (N:=some 152) (v:=?_) (a':=?_) (bm_ 29 36) rfl rfl (any_of HT_.out (by kernel_rfl)) (fun _ _ _ h => h) (Or.inl ⟨by rfl,?_⟩) ?_ ?_;rotate_left
          ·
           intro w'
           go_simp
           with_reducible rfl
          rotate_left
          ·
           simp only [Act.put,zi,zj,zk,zG,zH]
           rfl
          refine pure_ (i:=29) (N:=some 153) (v:=?_) (a':=?_) (bm_ 30 36) rfl rfl (any_of HT_.out (by kernel_rfl)) (fun _ _ _ h => h) (Or.inl ⟨by rfl,?_⟩) ?_ ?_;rotate_left
          ·
           intro w'
           go_simp
           with_reducible rfl
          rotate_left
          ·
           simp only [Act.put,zi,zj,zk,zG,zH]
           rfl
          refine pure_ (i:=31) (N:=some 155) (v:=?_) (a':=?_) #[true,true,true,true,true,true,true,true,true,true,true,true,true,true,true,true,true,true,true,true,true,true,true,true,true,true,true,true,true,true,false,true,false,false,false,false] rfl rfl (any_of HT_.out (by kernel_rfl)) (fun _ _ _ h => h) (Or.inl ⟨by rfl,?_⟩) ?_ ?_;rotate_left
          ·
           intro w'
           go_simp
           with_reducible rfl
          rotate_left
          ·
           simp only [Act.put,zi,zj,zk,zG,zH]
           rfl
          refine pure_ (i:=32) (N:=some 156) (v:=?_) (a':=?_) #[true,true,true,true,true,true,true,true,true,true,true,true,true,true,true,true,true,true,true,true,true,true,true,true,true,true,true,true,true,true,false,true,true,false,false,false] rfl rfl (any_of HT_.out (by kernel_rfl)) (fun _ _ _ h => h) (Or.inl ⟨by rfl,?_⟩) ?_ ?_;rotate_left
          ·
           intro w'
           go_simp
           with_reducible rfl
          rotate_left
          ·
           simp only [Act.put,zi,zj,zk,zG,zH]
           rfl
          refine take_ (i:=30) (N:=some 154) (v:=?_) (a':=?_) (bm_ 33 36) rfl rfl (yo HT_.out HW_.out (by kernel_rfl)) (fun _ _ _ h => h) (Or.inl ⟨by rfl,?_⟩) hHeld ?_ ?_;rotate_left
          ·
           rintro w' ⟨s0,s1,s2,s3,s4,s5,s6,s7⟩
           go_simp
           with_reducible rfl
          rotate_left
          ·
           simp only [Act.put,zi,zj,zk,zG,zH]
           rfl
          refine one_ (i:=33) (N:=some 157) (bm_ 34 36) rfl rfl (one_of HT_.out (by kernel_rfl)) (by decide) (fun K hK => ?_);refine goes_ Tryd.func12 (by kernel_rfl) rfl #[.agg #[.int .i64 ((rd_T43 t153 x10_2).f1.f0),.int .i64 ((rd_T43 t153 x10_2).f1.f1),.string ((rd_T43 t153 x10_2).f1.f2)],.int .i64 (wrap64 (a1 - 1))] (by rfl) rfl rfl (by (try simp only [zt,zu,zv]);first|done|rfl|(simp only [zw,zx];rfl)|(simp only [yr,ys,zV,zW];rfl)) ?_
          with_reducible refine (ih k2 (by have:=HJ53.out;have:=HK2.out;omega)  ((rd_T43 t153 x10_2).f1.f0) ((rd_T43 t153 x10_2).f1.f1) ((rd_T43 t153 x10_2).f1.f2) (wrap64 (a1 - 1)) true _ A85.out).mono ?_
          rintro e w89 ⟨rfl,hb⟩;have HS0_:=(hb.cell (zl _ _ (hHeld.1))).trans (hHeld.1);have HS1_:=(hb.cell (zl _ _ (hHeld.2.1))).trans (hHeld.2.1);have HS2_:=(hb.cell (zl _ _ (hHeld.2.2.1))).trans (hHeld.2.2.1);have HS3_:=(hb.cell (zl _ _ (hHeld.2.2.2.1))).trans (hHeld.2.2.2.1);have HS4_:=(hb.cell (zl _ _ (hHeld.2.2.2.2.1))).trans (hHeld.2.2.2.2.1);have HS5_:=(hb.cell (zl _ _ (hHeld.2.2.2.2.2.1))).trans (hHeld.2.2.2.2.2.1);have HS6_:=(hb.cell (zl _ _ (hHeld.2.2.2.2.2.2.1))).trans (hHeld.2.2.2.2.2.2.1);have HS7_:=(hb.cell (zl _ _ (hHeld.2.2.2.2.2.2.2))).trans (hHeld.2.2.2.2.2.2.2);refine ⟨_,rfl,?_⟩;replace HO_8:=zh (yg (by (with_reducible repeat (first|apply zm|apply zn|apply zo));exact HO_8.out) hb);replace BK144:=zh (cD BK144.out (by (with_reducible repeat first|apply ze|apply zf|apply zg);exact BK144.out) hb);replace HB:=zh (zC (by repeat (with_reducible first|exact HB.out|apply za|apply zb|apply zc|refine zd ?_ GE144.out)) hb);(try clear hb);(try clear hb2);(try clear hk);(try clear hi);refine hK.out _ _ ⟨HS0_,HS1_,HS2_,HS3_,HS4_,HS5_,HS6_,HS7_⟩ (fun hHeld => ?_);clear hK K;refine norm_ (a':=?_) ?_ ?_;rotate_left
          ·
           show Act.put _ (some 157) _=_
           simp only [Act.put,zi,zj,zk,zG,zH]
           rfl
          refine pure_ (i:=34) (N:=some 158) (v:=?_) (a':=?_) (bm_ 35 36) rfl rfl (any_of HT_.out (by kernel_rfl)) (fun _ _ _ h => h) (Or.inl ⟨by rfl,?_⟩) ?_ ?_;rotate_left
          ·
           intro w'
           go_simp
           with_reducible rfl
          rotate_left
          ·
           simp only [Act.put,zi,zj,zk,zG,zH]
           rfl
          refine pure_ (i:=35) (N:=some 159) (v:=?_) (a':=?_) (bm_ 36 36) rfl rfl (any_of HT_.out (by kernel_rfl)) (fun _ _ _ h => h) (Or.inl ⟨by rfl,?_⟩) ?_ ?_;rotate_left
          ·
           intro w'
           go_simp
           with_reducible rfl
          rotate_left
          ·
           simp only [Act.put,zi,zj,zk,zG,zH]
           rfl
          refine done_ (done_of HT_.out (by kernel_rfl)) ?_
          try go_wp2
          go_roundg k2
          case measure => have:=HJ53.out;have:=HK2.out;omega
          case rel => exact ⟨(wrap64 (x10_2 + 1)),(by first|rfl|(simp;done)|(simp [*];done)),H',⟨by have:=HJ53.out;have:=HK2.out;omega⟩,⟨by (with_reducible repeat (first|apply zm|apply zn|apply zo));exact HO_8.out⟩,⟨by (with_reducible repeat first|apply ze|apply zf|apply zg);exact BK144.out⟩,⟨by repeat (with_reducible first|exact HB.out|apply za|apply zb|apply zc|refine zd ?_ GE144.out)⟩⟩
         replace c86:=yb.mpr c86;subst c86;have H1 : (some false)=some r:=by rw [if_neg (show ¬ (false=true) by decide)] at H;exact H
         clear H;have H:=H1;clear H1;obtain rfl:=zU H;obtain ⟨Ao90,co90,eo90⟩:=yk HO_8.out;subst eo90
         try go_wp2
         replace HO_8:=zh (zo HO_8.out);replace BK144:=zh (zf BK144.out);replace HB:=zh (zc HB.out);have p157 : 0≤(x10_2 : Int):=zy (by first|(with_reducible assumption)|assumption);have q157 : x10_2<(t153.length : Int):=zy (by first|(with_reducible assumption)|assumption);obtain ⟨ad157,e157,hx157_0,hx157_1,hx157_2,hx157_3⟩:=at_T43 (yh HO_8.out).2.2 x10_2 p157 q157
         cases e157
         replace p157:=eq_true p157;replace q157:=eq_true q157;have p163 : 0≤(x10_2 : Int):=zy (by first|(with_reducible assumption)|assumption);have q163 : x10_2<(t153.length : Int):=zy (by first|(with_reducible assumption)|assumption);obtain ⟨ad163,e163,hx163_0,hx163_1,hx163_2,hx163_3⟩:=at_T43 (yh HO_8.out).2.2 x10_2 p163 q163;obtain rfl : ad157=ad163:=(by injection e163);replace p163:=eq_true p163;replace q163:=eq_true q163;refine start_ (n:=36) (S:=fun w' => w'.cell? (ad157.add ((x10_2).toNat * 4))=some (.string ((rd_T43 t153 x10_2).f0))∧w'.cell? ⟨(ad157.add ((x10_2).toNat * 4)).block,(ad157.add ((x10_2).toNat * 4)).off + 1,none⟩=some (.int .i64 ((rd_T43 t153 x10_2).f1.f0))∧w'.cell? ⟨(ad157.add ((x10_2).toNat * 4)).block,(ad157.add ((x10_2).toNat * 4)).off + 2,none⟩=some (.int .i64 ((rd_T43 t153 x10_2).f1.f1))∧w'.cell? ⟨(ad157.add ((x10_2).toNat * 4)).block,(ad157.add ((x10_2).toNat * 4)).off + 3,none⟩=some (.string ((rd_T43 t153 x10_2).f1.f2))∧w'.cell? (ad157.add ((x10_2).toNat * 4))=some (.string ((rd_T43 t153 x10_2).f0))∧w'.cell? ⟨(ad157.add ((x10_2).toNat * 4)).block,(ad157.add ((x10_2).toNat * 4)).off + 1,none⟩=some (.int .i64 ((rd_T43 t153 x10_2).f1.f0))∧w'.cell? ⟨(ad157.add ((x10_2).toNat * 4)).block,(ad157.add ((x10_2).toNat * 4)).off + 2,none⟩=some (.int .i64 ((rd_T43 t153 x10_2).f1.f1))∧w'.cell? ⟨(ad157.add ((x10_2).toNat * 4)).block,(ad157.add ((x10_2).toNat * 4)).off + 3,none⟩=some (.string ((rd_T43 t153 x10_2).f1.f2))) (ds:=[]) (bm_ 0 36) (by kernel_rfl) rfl rfl ⟨hx157_0,hx157_1,hx157_2,hx157_3,hx163_0,hx163_1,hx163_2,hx163_3⟩ (fun hHeld => ?_);refine with_tabW F0.tab27 F0.bits27 (fun HT_ HW_ => ?_);generalize wr.drew=w91 at HO_8 BK144 HB hx157_0 hx157_1 hx157_2 hx157_3 hx163_0 hx163_1 hx163_2 hx163_3 hHeld ⊢;refine pure_ (i:=0) (N:=some 124) (v:=?_) (a':=?_) (bm_ 1 36) rfl rfl (any_of HT_.out (by kernel_rfl)) (fun _ _ _ h => h) (Or.inl ⟨by rfl,?_⟩) ?_ ?_;rotate_left
         ·
          intro w'
          go_simp
          with_reducible rfl
         rotate_left
         ·
          simp only [Act.put,zi,zj,zk,zG,zH]
          rfl
         refine pure_ (i:=1) (N:=some 125) (v:=?_) (a':=?_) (bm_ 2 36) rfl rfl (any_of HT_.out (by kernel_rfl)) (fun _ _ _ h => h) (Or.inl ⟨by rfl,?_⟩) ?_ ?_;rotate_left
         ·
          intro w'
          go_simp
          with_reducible rfl
         rotate_left
         ·
          simp only [Act.put,zi,zj,zk,zG,zH]
          rfl
         refine pure_ (i:=2) (N:=some 126) (v:=?_) (a':=?_) (bm_ 3 36) rfl rfl (any_of HT_.out (by kernel_rfl)) (fun _ _ _ h => h) (Or.inl ⟨by rfl,?_⟩) ?_ ?_;rotate_left
         ·
          intro w'
          go_simp
          with_reducible rfl
         rotate_left
         ·
          simp only [Act.put,zi,zj,zk,zG,zH]
          rfl
         refine pure_ (i:=3) (N:=some 127) (v:=?_) (a':=?_) (bm_ 4 36) rfl rfl (any_of HT_.out (by kernel_rfl)) (fun _ _ _ h => h) (Or.inl ⟨by rfl,?_⟩) ?_ ?_;rotate_left
         ·
          intro w'
          go_simp
          with_reducible rfl
         rotate_left
         ·
          simp only [Act.put,zi,zj,zk,zG,zH]
          rfl
         refine take_ (i:=4) (N:=some 128) (v:=?_) (a':=?_) (bm_ 5 36) rfl rfl (yo HT_.out HW_.out (by kernel_rfl)) (fun _ _ _ h => h) (Or.inl ⟨by rfl,?_⟩) hHeld ?_ ?_;rotate_left
         ·
          rintro w' ⟨s0,s1,s2,s3,s4,s5,s6,s7⟩
          go_simp
          with_reducible rfl
         rotate_left
         ·
          simp only [Act.put,zi,zj,zk,zG,zH]
          rfl
         refine one_ (i:=5) (N:=some 129) (bm_ 6 36) rfl rfl (one_of HT_.out (by kernel_rfl)) (by decide) (fun K hK => ?_);refine goes_ Tryd.func24 (by kernel_rfl) rfl #[.string ((rd_T43 t153 x10_2).f0)] (by rfl) rfl rfl (by (try simp only [zt,zu,zv]);first|done|rfl|(simp only [zw,zx];rfl)|(simp only [yr,ys,zV,zW];rfl)) ?_
         with_reducible refine (Fm.calls k2  ((rd_T43 t153 x10_2).f0) true _ A68.out).mono ?_
         rintro e w' ⟨rfl,⟨nd,rfl⟩⟩;refine ⟨_,rfl,?_⟩;refine hK.out _ _ ⟨hHeld.1,hHeld.2.1,hHeld.2.2.1,hHeld.2.2.2.1,hHeld.2.2.2.2.1,hHeld.2.2.2.2.2.1,hHeld.2.2.2.2.2.2.1,hHeld.2.2.2.2.2.2.2⟩ (fun hHeld => ?_);clear hK K;refine norm_ (a':=?_) ?_ ?_;rotate_left
         ·
          show Act.put _ (some 129) _=_
          simp only [Act.put,zi,zj,zk,zG,zH]
          rfl
         refine pure_ (i:=6) (N:=some 130) (v:=?_) (a':=?_) (bm_ 7 36) rfl rfl (any_of HT_.out (by kernel_rfl)) (fun _ _ _ h => h) (Or.inl ⟨by rfl,?_⟩) ?_ ?_;rotate_left
         ·
          intro w'
          go_simp
          with_reducible rfl
         rotate_left
         ·
          simp only [Act.put,zi,zj,zk,zG,zH]
          rfl
         refine pure_ (i:=7) (N:=some 131) (v:=?_) (a':=?_) (bm_ 8 36) rfl rfl (any_of HT_.out (by kernel_rfl)) (fun _ _ _ h => h) (Or.inl ⟨by rfl,?_⟩) ?_ ?_;rotate_left
         ·
          intro w'
          go_simp
          with_reducible rfl
         rotate_left
         ·
          simp only [Act.put,zi,zj,zk,zG,zH]
          rfl
         refine pure_ (i:=8) (N:=some 132) (v:=?_) (a':=?_) (bm_ 9 36) rfl rfl (any_of HT_.out (by kernel_rfl)) (fun _ _ _ h => h) (Or.inl ⟨by rfl,?_⟩) ?_ ?_;rotate_left
         ·
          intro w'
          go_simp
          with_reducible rfl
         rotate_left
         ·
          simp only [Act.put,zi,zj,zk,zG,zH]
          rfl
         refine pure_ (i:=9) (N:=some 133) (v:=?_) (a':=?_) (bm_ 10 36) rfl rfl (any_of HT_.out (by kernel_rfl)) (fun _ _ _ h => h) (Or.inl ⟨by rfl,?_⟩) ?_ ?_;rotate_left
         ·
          intro w'
          go_simp
          with_reducible rfl
         rotate_left
         ·
          simp only [Act.put,zi,zj,zk,zG,zH]
          rfl
         refine pure_ (i:=10) (N:=some 134) (v:=?_) (a':=?_) (bm_ 11 36) rfl rfl (any_of HT_.out (by kernel_rfl)) (fun _ _ _ h => h) (Or.inl ⟨by rfl,?_⟩) ?_ ?_;rotate_left
         ·
          intro w'
          go_simp
          with_reducible rfl
         rotate_left
         ·
          simp only [Act.put,zi,zj,zk,zG,zH]
          rfl
         refine pure_ (i:=11) (N:=some 135) (v:=undef) (a':=?_) (bm_ 12 36) rfl rfl (any_of HT_.out (by kernel_rfl)) (fun _ _ _ h => h) (Or.inr ⟨by rfl,rfl⟩) ?_ ?_;rotate_left
         ·
          simp only [Act.put,zi,zj,zk,zG,zH]
          rfl
         refine pure_ (i:=12) (N:=some 136) (v:=undef) (a':=?_) (bm_ 13 36) rfl rfl (any_of HT_.out (by kernel_rfl)) (fun _ _ _ h => h) (Or.inr ⟨by rfl,rfl⟩) ?_ ?_;rotate_left
         ·
          simp only [Act.put,zi,zj,zk,zG,zH]
          rfl
         refine pure_ (i:=13) (N:=some 137) (v:=undef) (a':=?_) (bm_ 14 36) rfl rfl (any_of HT_.out (by kernel_rfl)) (fun _ _ _ h => h) (Or.inr ⟨by rfl,rfl⟩) ?_ ?_;rotate_left
         ·
          simp only [Act.put,zi,zj,zk,zG,zH]
          rfl
         refine pure_ (i:=14) (N:=some 138) (v:=undef) (a':=?_) (bm_ 15 36) rfl rfl (any_of HT_.out (by kernel_rfl)) (fun _ _ _ h => h) (Or.inr ⟨by rfl,rfl⟩) ?_ ?_;rotate_left
         ·
          simp only [Act.put,zi,zj,zk,zG,zH]
          rfl
         refine pure_ (i:=15) (N:=some 139) (v:=undef) (a':=?_) (bm_ 16 36) rfl rfl (any_of HT_.out (by kernel_rfl)) (fun _ _ _ h => h) (Or.inr ⟨by rfl,rfl⟩) ?_ ?_;rotate_left
         ·
          simp only [Act.put,zi,zj,zk,zG,zH]
          rfl
         refine pure_ (i:=16) (N:=some 140) (v:=undef) (a':=?_) (bm_ 17 36) rfl rfl (any_of HT_.out (by kernel_rfl)) (fun _ _ _ h => h) (Or.inr ⟨by rfl,rfl⟩) ?_ ?_;rotate_left
         ·
          simp only [Act.put,zi,zj,zk,zG,zH]
          rfl
         refine pure_ (i:=17) (N:=some 141) (v:=undef) (a':=?_) (bm_ 18 36) rfl rfl (any_of HT_.out (by kernel_rfl)) (fun _ _ _ h => h) (Or.inr ⟨by rfl,rfl⟩) ?_ ?_;rotate_left
         ·
          simp only [Act.put,zi,zj,zk,zG,zH]
          rfl
         refine pure_ (i:=18) (N:=some 142) (v:=undef) (a':=?_) (bm_ 19 36) rfl rfl (any_of HT_.out (by kernel_rfl)) (fun _ _ _ h => h) (Or.inr ⟨by rfl,rfl⟩) ?_ ?_;rotate_left
         ·
          simp only [Act.put,zi,zj,zk,zG,zH]
          rfl
         refine pure_ (i:=19) (N:=some 143) (v:=undef) (a':=?_) (bm_ 20 36) rfl rfl (any_of HT_.out (by kernel_rfl)) (fun _ _ _ h => h) (Or.inr ⟨by rfl,rfl⟩) ?_ ?_;rotate_left
         ·
          simp only [Act.put,zi,zj,zk,zG,zH]
          rfl
         refine pure_ (i:=20) (N:=some 144) (v:=undef) (a':=?_) (bm_ 21 36) rfl rfl (any_of HT_.out (by kernel_rfl)) (fun _ _ _ h => h) (Or.inr ⟨by rfl,rfl⟩) ?_ ?_;rotate_left
         ·
          simp only [Act.put,zi,zj,zk,zG,zH]
          rfl
         refine pure_ (i:=21) (N:=some 145) (v:=undef) (a':=?_) (bm_ 22 36) rfl rfl (any_of HT_.out (by kernel_rfl)) (fun _ _ _ h => h) (Or.inr ⟨by rfl,rfl⟩) ?_ ?_;rotate_left
         ·
          simp only [Act.put,zi,zj,zk,zG,zH]
          rfl
         refine pure_ (i:=22) (N:=some 146) (v:=undef) (a':=?_) (bm_ 23 36) rfl rfl (any_of HT_.out (by kernel_rfl)) (fun _ _ _ h => h) (Or.inr ⟨by rfl,rfl⟩) ?_ ?_;rotate_left
         ·
          simp only [Act.put,zi,zj,zk,zG,zH]
          rfl
         refine pure_ (i:=23) (N:=some 147) (v:=?_) (a':=?_) (bm_ 24 36) rfl rfl (any_of HT_.out (by kernel_rfl)) (fun _ _ _ h => h) (Or.inl ⟨by rfl,?_⟩) ?_ ?_;rotate_left
         ·
          intro w'
          go_simp
          with_reducible rfl
         rotate_left
         ·
          simp only [Act.put,zi,zj,zk,zG,zH]
          rfl
         refine pure_ (i:=24) (N:=some 148) (v:=?_) (a':=?_) (bm_ 25 36) rfl rfl (any_of HT_.out (by kernel_rfl)) (fun _ _ _ h => h) (Or.inl ⟨by rfl,?_⟩) ?_ ?_;rotate_left
         ·
          intro w'
          go_simp
          with_reducible rfl
         rotate_left
         ·
          simp only [Act.put,zi,zj,zk,zG,zH]
          rfl
         refine pure_ (i:=25) (N:=some 149) (v:=?_) (a':=?_) (bm_ 26 36) rfl rfl (any_of HT_.out (by kernel_rfl)) (fun _ _ _ h => h) (Or.inl ⟨by rfl,?_⟩) ?_ ?_;rotate_left
         ·
          intro w'
          go_simp
          with_reducible rfl
         rotate_left
         ·
          simp only [Act.put,zi,zj,zk,zG,zH]
          rfl
         refine pure_ (i:=26) (N:=some 150) (v:=?_) (a':=?_) (bm_ 27 36) rfl rfl (any_of HT_.out (by kernel_rfl)) (fun _ _ _ h => h) (Or.inl ⟨by rfl,?_⟩) ?_ ?_;rotate_left
         ·
          intro w'
          go_simp
          with_reducible rfl
         rotate_left
         ·
          simp only [Act.put,zi,zj,zk,zG,zH]
          rfl
         refine pure_ (i:=27) (N:=some 151) (v:=?_) (a':=?_) (bm_ 28 36) rfl rfl (any_of HT_.out (by kernel_rfl)) (fun _ _ _ h => h) (Or.inl ⟨by rfl,?_⟩) ?_ ?_;rotate_left
         ·
          intro w'
          go_simp
          with_reducible rfl
         rotate_left
         ·
          simp only [Act.put,zi,zj,zk,zG,zH]
          rfl
         refine pure_ (i:=28) (N:=some 152) (v:=?_) (a':=?_) (bm_ 29 36) rfl rfl (any_of HT_.out (by kernel_rfl)) (fun _ _ _ h => h) (Or.inl ⟨by rfl,?_⟩) ?_ ?_;rotate_left
         ·
          intro w'
          go_simp
          with_reducible rfl
         rotate_left
         ·
          simp only [Act.put,zi,zj,zk,zG,zH]
          rfl
         refine pure_ (i:=29) (N:=some 153) (v:=?_) (a':=?_) (bm_ 30 36) rfl rfl (any_of HT_.out (by kernel_rfl)) (fun _ _ _ h => h) (Or.inl ⟨by rfl,?_⟩) ?_ ?_;rotate_left
         ·
          intro w'
          go_simp
          with_reducible rfl
         rotate_left
         ·
          simp only [Act.put,zi,zj,zk,zG,zH]
          rfl
         refine pure_ (i:=31) (N:=some 155) (v:=?_) (a':=?_) #[true,true,true,true,true,true,true,true,true,true,true,true,true,true,true,true,true,true,true,true,true,true,true,true,true,true,true,true,true,true,false,true,false,false,false,false] rfl rfl (any_of HT_.out (by kernel_rfl)) (fun _ _ _ h => h) (Or.inl ⟨by rfl,?_⟩) ?_ ?_;rotate_left
         ·
          intro w'
          go_simp
          with_reducible rfl
         rotate_left
         ·
          simp only [Act.put,zi,zj,zk,zG,zH]
          rfl
         refine pure_ (i:=32) (N:=some 156) (v:=?_) (a':=?_) #[true,true,true,true,true,true,true,true,true,true,true,true,true,true,true,true,true,true,true,true,true,true,true,true,true,true,true,true,true,true,false,true,true,false,false,false] rfl rfl (any_of HT_.out (by kernel_rfl)) (fun _ _ _ h => h) (Or.inl ⟨by rfl,?_⟩) ?_ ?_;rotate_left
         ·
          intro w'
          go_simp
          with_reducible rfl
         rotate_left
         ·
          simp only [Act.put,zi,zj,zk,zG,zH]
          rfl
         refine take_ (i:=30) (N:=some 154) (v:=?_) (a':=?_) (bm_ 33 36) rfl rfl (yo HT_.out HW_.out (by kernel_rfl)) (fun _ _ _ h => h) (Or.inl ⟨by rfl,?_⟩) hHeld ?_ ?_;rotate_left
         ·
          rintro w' ⟨s0,s1,s2,s3,s4,s5,s6,s7⟩
          go_simp
          with_reducible rfl
         rotate_left
         ·
          simp only [Act.put,zi,zj,zk,zG,zH]
          rfl
         refine one_ (i:=33) (N:=some 157) (bm_ 34 36) rfl rfl (one_of HT_.out (by kernel_rfl)) (by decide) (fun K hK => ?_);refine goes_ Tryd.func12 (by kernel_rfl) rfl #[.agg #[.int .i64 ((rd_T43 t153 x10_2).f1.f0),.int .i64 ((rd_T43 t153 x10_2).f1.f1),.string ((rd_T43 t153 x10_2).f1.f2)],.int .i64 (wrap64 (a1 - 1))] (by rfl) rfl rfl (by (try simp only [zt,zu,zv]);first|done|rfl|(simp only [zw,zx];rfl)|(simp only [yr,ys,zV,zW];rfl)) ?_
         with_reducible refine (ih k2 (by have:=HJ53.out;have:=HK2.out;omega)  ((rd_T43 t153 x10_2).f1.f0) ((rd_T43 t153 x10_2).f1.f1) ((rd_T43 t153 x10_2).f1.f2) (wrap64 (a1 - 1)) false _ A85.out).mono ?_
         rintro e w92 ⟨rfl,hb⟩;have HS0_:=(hb.cell (zl _ _ (hHeld.1))).trans (hHeld.1);have HS1_:=(hb.cell (zl _ _ (hHeld.2.1))).trans (hHeld.2.1);have HS2_:=(hb.cell (zl _ _ (hHeld.2.2.1))).trans (hHeld.2.2.1);have HS3_:=(hb.cell (zl _ _ (hHeld.2.2.2.1))).trans (hHeld.2.2.2.1);have HS4_:=(hb.cell (zl _ _ (hHeld.2.2.2.2.1))).trans (hHeld.2.2.2.2.1);have HS5_:=(hb.cell (zl _ _ (hHeld.2.2.2.2.2.1))).trans (hHeld.2.2.2.2.2.1);have HS6_:=(hb.cell (zl _ _ (hHeld.2.2.2.2.2.2.1))).trans (hHeld.2.2.2.2.2.2.1);have HS7_:=(hb.cell (zl _ _ (hHeld.2.2.2.2.2.2.2))).trans (hHeld.2.2.2.2.2.2.2);refine ⟨_,rfl,?_⟩;replace HO_8:=zh (yg (by (with_reducible repeat (first|apply zm|apply zn|apply zo));exact HO_8.out) hb);replace BK144:=zh (cD BK144.out (by (with_reducible repeat first|apply ze|apply zf|apply zg);exact BK144.out) hb);replace HB:=zh (zC (by repeat (with_reducible first|exact HB.out|apply za|apply zb|apply zc|refine zd ?_ GE144.out)) hb);(try clear hb);(try clear hb2);(try clear hk);(try clear hi);refine hK.out _ _ ⟨HS0_,HS1_,HS2_,HS3_,HS4_,HS5_,HS6_,HS7_⟩ (fun hHeld => ?_);clear hK K;refine norm_ (a':=?_) ?_ ?_;rotate_left
         ·
          show Act.put _ (some 157) _=_
          simp only [Act.put,zi,zj,zk,zG,zH]
          rfl
         refine pure_ (i:=34) (N:=some 158) (v:=?_) (a':=?_) (bm_ 35 36) rfl rfl (any_of HT_.out (by kernel_rfl)) (fun _ _ _ h => h) (Or.inl ⟨by rfl,?_⟩) ?_ ?_;rotate_left
         ·
          intro w'
          go_simp
          with_reducible rfl
         rotate_left
         ·
          simp only [Act.put,zi,zj,zk,zG,zH]
          rfl
         refine pure_ (i:=35) (N:=some 159) (v:=?_) (a':=?_) (bm_ 36 36) rfl rfl (any_of HT_.out (by kernel_rfl)) (fun _ _ _ h => h) (Or.inl ⟨by rfl,?_⟩) ?_ ?_;rotate_left
         ·
          intro w'
          go_simp
          with_reducible rfl
         rotate_left
         ·
          simp only [Act.put,zi,zj,zk,zG,zH]
          rfl
         refine done_ (done_of HT_.out (by kernel_rfl)) ?_
         try go_wp2
         go_ret
         exact ⟨by first|rfl|(simp [yt,yu] <;> rfl)|(simp [*,yt,yu] <;> rfl),by repeat (with_reducible first|exact HB.out|apply za|apply zb|apply zc|refine zd ?_ GE144.out)⟩
        replace c69:=yb.mpr c69;subst c69;have H1 : (some false)=some r:=by rw [if_neg (show ¬ (false=true) by decide)] at H;exact H
        clear H;have H:=H1;clear H1;obtain rfl:=zU H;obtain ⟨Ao93,co93,eo93⟩:=yk HO_8.out;subst eo93
        try go_wp2
        replace HO_8:=zh (zo HO_8.out);replace BK144:=zh (zf BK144.out);replace HB:=zh (zc HB.out);have p157 : 0≤(x10_2 : Int):=zy (by first|(with_reducible assumption)|assumption);have q157 : x10_2<(t153.length : Int):=zy (by first|(with_reducible assumption)|assumption);obtain ⟨ad157,e157,hx157_0,hx157_1,hx157_2,hx157_3⟩:=at_T43 (yh HO_8.out).2.2 x10_2 p157 q157
        cases e157
        replace p157:=eq_true p157;replace q157:=eq_true q157;refine start_ (n:=36) (S:=fun w' => w'.cell? (ad157.add ((x10_2).toNat * 4))=some (.string ((rd_T43 t153 x10_2).f0))∧w'.cell? ⟨(ad157.add ((x10_2).toNat * 4)).block,(ad157.add ((x10_2).toNat * 4)).off + 1,none⟩=some (.int .i64 ((rd_T43 t153 x10_2).f1.f0))∧w'.cell? ⟨(ad157.add ((x10_2).toNat * 4)).block,(ad157.add ((x10_2).toNat * 4)).off + 2,none⟩=some (.int .i64 ((rd_T43 t153 x10_2).f1.f1))∧w'.cell? ⟨(ad157.add ((x10_2).toNat * 4)).block,(ad157.add ((x10_2).toNat * 4)).off + 3,none⟩=some (.string ((rd_T43 t153 x10_2).f1.f2))) (ds:=[]) (bm_ 0 36) (by kernel_rfl) rfl rfl ⟨hx157_0,hx157_1,hx157_2,hx157_3⟩ (fun hHeld => ?_);refine with_tabW F0.tab27 F0.bits27 (fun HT_ HW_ => ?_);generalize wr.drew=w94 at HO_8 BK144 HB hx157_0 hx157_1 hx157_2 hx157_3 hHeld ⊢;refine pure_ (i:=0) (N:=some 124) (v:=?_) (a':=?_) (bm_ 1 36) rfl rfl (any_of HT_.out (by kernel_rfl)) (fun _ _ _ h => h) (Or.inl ⟨by rfl,?_⟩) ?_ ?_;rotate_left
        ·
         intro w'
         go_simp
         with_reducible rfl
        rotate_left
        ·
         simp only [Act.put,zi,zj,zk,zG,zH]
         rfl
        refine pure_ (i:=1) (N:=some 125) (v:=?_) (a':=?_) (bm_ 2 36) rfl rfl (any_of HT_.out (by kernel_rfl)) (fun _ _ _ h => h) (Or.inl ⟨by rfl,?_⟩) ?_ ?_;rotate_left
        ·
         intro w'
         go_simp
         with_reducible rfl
        rotate_left
        ·
         simp only [Act.put,zi,zj,zk,zG,zH]
         rfl
        refine pure_ (i:=2) (N:=some 126) (v:=?_) (a':=?_) (bm_ 3 36) rfl rfl (any_of HT_.out (by kernel_rfl)) (fun _ _ _ h => h) (Or.inl ⟨by rfl,?_⟩) ?_ ?_;rotate_left
        ·
         intro w'
         go_simp
         with_reducible rfl
        rotate_left
        ·
         simp only [Act.put,zi,zj,zk,zG,zH]
         rfl
        refine pure_ (i:=3) (N:=some 127) (v:=?_) (a':=?_) (bm_ 4 36) rfl rfl (any_of HT_.out (by kernel_rfl)) (fun _ _ _ h => h) (Or.inl ⟨by rfl,?_⟩) ?_ ?_;rotate_left
        ·
         intro w'
         go_simp
         with_reducible rfl
        rotate_left
        ·
         simp only [Act.put,zi,zj,zk,zG,zH]
         rfl
        refine take_ (i:=4) (N:=some 128) (v:=?_) (a':=?_) (bm_ 5 36) rfl rfl (yo HT_.out HW_.out (by kernel_rfl)) (fun _ _ _ h => h) (Or.inl ⟨by rfl,?_⟩) hHeld ?_ ?_;rotate_left
        ·
         rintro w' ⟨s0,s1,s2,s3⟩
         go_simp
         with_reducible rfl
        rotate_left
        ·
         simp only [Act.put,zi,zj,zk,zG,zH]
         rfl
        refine one_ (i:=5) (N:=some 129) (bm_ 6 36) rfl rfl (one_of HT_.out (by kernel_rfl)) (by decide) (fun K hK => ?_);refine goes_ Tryd.func24 (by kernel_rfl) rfl #[.string ((rd_T43 t153 x10_2).f0)] (by rfl) rfl rfl (by (try simp only [zt,zu,zv]);first|done|rfl|(simp only [zw,zx];rfl)|(simp only [yr,ys,zV,zW];rfl)) ?_
        with_reducible refine (Fm.calls k2  ((rd_T43 t153 x10_2).f0) false _ A68.out).mono ?_
        rintro e w' ⟨rfl,⟨nd,rfl⟩⟩;refine ⟨_,rfl,?_⟩;refine hK.out _ _ ⟨hHeld.1,hHeld.2.1,hHeld.2.2.1,hHeld.2.2.2⟩ (fun hHeld => ?_);clear hK K;refine norm_ (a':=?_) ?_ ?_;rotate_left
        ·
         show Act.put _ (some 129) _=_
         simp only [Act.put,zi,zj,zk,zG,zH]
         rfl
        refine pure_ (i:=6) (N:=some 130) (v:=?_) (a':=?_) (bm_ 7 36) rfl rfl (any_of HT_.out (by kernel_rfl)) (fun _ _ _ h => h) (Or.inl ⟨by rfl,?_⟩) ?_ ?_;rotate_left
        ·
         intro w'
         go_simp
         with_reducible rfl
        rotate_left
        ·
         simp only [Act.put,zi,zj,zk,zG,zH]
         rfl
        refine pure_ (i:=7) (N:=some 131) (v:=?_) (a':=?_) (bm_ 8 36) rfl rfl (any_of HT_.out (by kernel_rfl)) (fun _ _ _ h => h) (Or.inl ⟨by rfl,?_⟩) ?_ ?_;rotate_left
        ·
         intro w'
         go_simp
         with_reducible rfl
        rotate_left
        ·
         simp only [Act.put,zi,zj,zk,zG,zH]
         rfl
        refine pure_ (i:=8) (N:=some 132) (v:=undef) (a':=?_) (bm_ 9 36) rfl rfl (any_of HT_.out (by kernel_rfl)) (fun _ _ _ h => h) (Or.inr ⟨by rfl,rfl⟩) ?_ ?_;rotate_left
        ·
         simp only [Act.put,zi,zj,zk,zG,zH]
         rfl
        refine pure_ (i:=9) (N:=some 133) (v:=undef) (a':=?_) (bm_ 10 36) rfl rfl (any_of HT_.out (by kernel_rfl)) (fun _ _ _ h => h) (Or.inr ⟨by rfl,rfl⟩) ?_ ?_;rotate_left
        ·
         simp only [Act.put,zi,zj,zk,zG,zH]
         rfl
        refine pure_ (i:=10) (N:=some 134) (v:=undef) (a':=?_) (bm_ 11 36) rfl rfl (any_of HT_.out (by kernel_rfl)) (fun _ _ _ h => h) (Or.inr ⟨by rfl,rfl⟩) ?_ ?_;rotate_left
        ·
         simp only [Act.put,zi,zj,zk,zG,zH]
         rfl
        refine pure_ (i:=11) (N:=some 135) (v:=undef) (a':=?_) (bm_ 12 36) rfl rfl (any_of HT_.out (by kernel_rfl)) (fun _ _ _ h => h) (Or.inr ⟨by rfl,rfl⟩) ?_ ?_;rotate_left
        ·
         simp only [Act.put,zi,zj,zk,zG,zH]
         rfl
        refine pure_ (i:=12) (N:=some 136) (v:=undef) (a':=?_) (bm_ 13 36) rfl rfl (any_of HT_.out (by kernel_rfl)) (fun _ _ _ h => h) (Or.inr ⟨by rfl,rfl⟩) ?_ ?_;rotate_left
        ·
         simp only [Act.put,zi,zj,zk,zG,zH]
         rfl
        refine pure_ (i:=13) (N:=some 137) (v:=undef) (a':=?_) (bm_ 14 36) rfl rfl (any_of HT_.out (by kernel_rfl)) (fun _ _ _ h => h) (Or.inr ⟨by rfl,rfl⟩) ?_ ?_;rotate_left
        ·
         simp only [Act.put,zi,zj,zk,zG,zH]
         rfl
        refine pure_ (i:=14) (N:=some 138) (v:=undef) (a':=?_) (bm_ 15 36) rfl rfl (any_of HT_.out (by kernel_rfl)) (fun _ _ _ h => h) (Or.inr ⟨by rfl,rfl⟩) ?_ ?_;rotate_left
        ·
         simp only [Act.put,zi,zj,zk,zG,zH]
         rfl
        refine pure_ (i:=15) (N:=some 139) (v:=undef) (a':=?_) (bm_ 16 36) rfl rfl (any_of HT_.out (by kernel_rfl)) (fun _ _ _ h => h) (Or.inr ⟨by rfl,rfl⟩) ?_ ?_;rotate_left
        ·
         simp only [Act.put,zi,zj,zk,zG,zH]
         rfl
        refine pure_ (i:=16) (N:=some 140) (v:=undef) (a':=?_) (bm_ 17 36) rfl rfl (any_of HT_.out (by kernel_rfl)) (fun _ _ _ h => h) (Or.inr ⟨by rfl,rfl⟩) ?_ ?_;rotate_left
        ·
         simp only [Act.put,zi,zj,zk,zG,zH]
         rfl
        refine pure_ (i:=17) (N:=some 141) (v:=undef) (a':=?_) (bm_ 18 36) rfl rfl (any_of HT_.out (by kernel_rfl)) (fun _ _ _ h => h) (Or.inr ⟨by rfl,rfl⟩) ?_ ?_;rotate_left
        ·
         simp only [Act.put,zi,zj,zk,zG,zH]
         rfl
        refine pure_ (i:=18) (N:=some 142) (v:=undef) (a':=?_) (bm_ 19 36) rfl rfl (any_of HT_.out (by kernel_rfl)) (fun _ _ _ h => h) (Or.inr ⟨by rfl,rfl⟩) ?_ ?_;rotate_left
        ·
         simp only [Act.put,zi,zj,zk,zG,zH]
         rfl
        refine pure_ (i:=19) (N:=some 143) (v:=undef) (a':=?_) (bm_ 20 36) rfl rfl (any_of HT_.out (by kernel_rfl)) (fun _ _ _ h => h) (Or.inr ⟨by rfl,rfl⟩) ?_ ?_;rotate_left
        ·
         simp only [Act.put,zi,zj,zk,zG,zH]
         rfl
        refine pure_ (i:=20) (N:=some 144) (v:=undef) (a':=?_) (bm_ 21 36) rfl rfl (any_of HT_.out (by kernel_rfl)) (fun _ _ _ h => h) (Or.inr ⟨by rfl,rfl⟩) ?_ ?_;rotate_left
        ·
         simp only [Act.put,zi,zj,zk,zG,zH]
         rfl
        refine pure_ (i:=21) (N:=some 145) (v:=undef) (a':=?_) (bm_ 22 36) rfl rfl (any_of HT_.out (by kernel_rfl)) (fun _ _ _ h => h) (Or.inr ⟨by rfl,rfl⟩) ?_ ?_;rotate_left
        ·
         simp only [Act.put,zi,zj,zk,zG,zH]
         rfl
        refine pure_ (i:=22) (N:=some 146) (v:=undef) (a':=?_) (bm_ 23 36) rfl rfl (any_of HT_.out (by kernel_rfl)) (fun _ _ _ h => h) (Or.inr ⟨by rfl,rfl⟩) ?_ ?_;rotate_left
        ·
         simp only [Act.put,zi,zj,zk,zG,zH]
         rfl
        refine pure_ (i:=23) (N:=some 147) (v:=undef) (a':=?_) (bm_ 24 36) rfl rfl (any_of HT_.out (by kernel_rfl)) (fun _ _ _ h => h) (Or.inr ⟨by rfl,rfl⟩) ?_ ?_;rotate_left
        ·
         simp only [Act.put,zi,zj,zk,zG,zH]
         rfl
        refine pure_ (i:=24) (N:=some 148) (v:=?_) (a':=?_) (bm_ 25 36) rfl rfl (any_of HT_.out (by kernel_rfl)) (fun _ _ _ h => h) (Or.inl ⟨by rfl,?_⟩) ?_ ?_;rotate_left
        ·
         intro w'
         go_simp
         with_reducible rfl
        rotate_left
        ·
         simp only [Act.put,zi,zj,zk,zG,zH]
         rfl
        refine pure_ (i:=25) (N:=some 149) (v:=?_) (a':=?_) (bm_ 26 36) rfl rfl (any_of HT_.out (by kernel_rfl)) (fun _ _ _ h => h) (Or.inl ⟨by rfl,?_⟩) ?_ ?_;rotate_left
        ·
         intro w'
         go_simp
         with_reducible rfl
        rotate_left
        ·
         simp only [Act.put,zi,zj,zk,zG,zH]
         rfl
        refine pure_ (i:=26) (N:=some 150) (v:=undef) (a':=?_) (bm_ 27 36) rfl rfl (any_of HT_.out (by kernel_rfl)) (fun _ _ _ h => h) (Or.inr ⟨by rfl,rfl⟩) ?_ ?_;rotate_left
        ·
         simp only [Act.put,zi,zj,zk,zG,zH]
         rfl
        refine pure_ (i:=27) (N:=some 151) (v:=undef) (a':=?_) (bm_ 28 36) rfl rfl (any_of HT_.out (by kernel_rfl)) (fun _ _ _ h => h) (Or.inr ⟨by rfl,rfl⟩) ?_ ?_;rotate_left
        ·
         simp only [Act.put,zi,zj,zk,zG,zH]
         rfl
        refine pure_ (i:=28) (N:=some 152) (v:=undef) (a':=?_) (bm_ 29 36) rfl rfl (any_of HT_.out (by kernel_rfl)) (fun _ _ _ h => h) (Or.inr ⟨by rfl,rfl⟩) ?_ ?_;rotate_left
        ·
         simp only [Act.put,zi,zj,zk,zG,zH]
         rfl
        refine pure_ (i:=29) (N:=some 153) (v:=undef) (a':=?_) (bm_ 30 36) rfl rfl (any_of HT_.out (by kernel_rfl)) (fun _ _ _ h => h) (Or.inr ⟨by rfl,rfl⟩) ?_ ?_;rotate_left
        ·
         simp only [Act.put,zi,zj,zk,zG,zH]
         rfl
        refine pure_ (i:=30) (N:=some 154) (v:=undef) (a':=?_) (bm_ 31 36) rfl rfl (any_of HT_.out (by kernel_rfl)) (fun _ _ _ h => h) (Or.inr ⟨by rfl,rfl⟩) ?_ ?_;rotate_left
        ·
         simp only [Act.put,zi,zj,zk,zG,zH]
         rfl
        refine pure_ (i:=31) (N:=some 155) (v:=undef) (a':=?_) (bm_ 32 36) rfl rfl (any_of HT_.out (by kernel_rfl)) (fun _ _ _ h => h) (Or.inr ⟨by rfl,rfl⟩) ?_ ?_;rotate_left
        ·
         simp only [Act.put,zi,zj,zk,zG,zH]
         rfl
        refine pure_ (i:=32) (N:=some 156) (v:=undef) (a':=?_) (bm_ 33 36) rfl rfl (any_of HT_.out (by kernel_rfl)) (fun _ _ _ h => h) (Or.inr ⟨by rfl,rfl⟩) ?_ ?_;rotate_left
        ·
         simp only [Act.put,zi,zj,zk,zG,zH]
         rfl
        refine pure_ (i:=33) (N:=some 157) (v:=undef) (a':=?_) (bm_ 34 36) rfl rfl (any_of HT_.out (by kernel_rfl)) (fun _ _ _ h => h) (Or.inr ⟨by rfl,rfl⟩) ?_ ?_;rotate_left
        ·
         simp only [Act.put,zi,zj,zk,zG,zH]
         rfl
        refine pure_ (i:=34) (N:=some 158) (v:=undef) (a':=?_) (bm_ 35 36) rfl rfl (any_of HT_.out (by kernel_rfl)) (fun _ _ _ h => h) (Or.inr ⟨by rfl,rfl⟩) ?_ ?_;rotate_left
        ·
         simp only [Act.put,zi,zj,zk,zG,zH]
         rfl
        refine pure_ (i:=35) (N:=some 159) (v:=?_) (a':=?_) (bm_ 36 36) rfl rfl (any_of HT_.out (by kernel_rfl)) (fun _ _ _ h => h) (Or.inl ⟨by rfl,?_⟩) ?_ ?_;rotate_left
        ·
         intro w'
         go_simp
         with_reducible rfl
        rotate_left
        ·
         simp only [Act.put,zi,zj,zk,zG,zH]
         rfl
        refine done_ (done_of HT_.out (by kernel_rfl)) ?_
        try go_wp2
        go_ret
        exact ⟨by first|rfl|(simp [yt,yu] <;> rfl)|(simp [*,yt,yu] <;> rfl),by repeat (with_reducible first|exact HB.out|apply za|apply zb|apply zc|refine zd ?_ GE144.out)⟩
       rw [if_neg c67] at H;exact absurd H (by simp)
      rw [if_neg c66] at H;have c66b0 : decide (x10_2<(t153.length : Int))=false:=decide_eq_false c66;clear c66;obtain rfl:=zU H;obtain ⟨Ao95,co95,eo95⟩:=yk HO_8.out;subst eo95
      go_wp2
      go_ret
      exact ⟨by first|rfl|(simp [yt,yu] <;> rfl)|(simp [*,yt,yu] <;> rfl),by repeat (with_reducible first|exact HB.out|apply za|apply zb|apply zc|refine zd ?_ GE144.out)⟩
 rw [if_neg c52] at H;have c52b0 : (a0_0 == 5)=false:=zY.mpr c52;have c52b1 : (a0_0 != 5)=true:=zZ.mpr c52;obtain rfl:=zU H
 go_enter Tryd.func12,Tryd.ntmps12
 go_wp2_with (first|((with_reducible refine zK (N:=2) rfl ?_);(try (refine yz (by rfl) ?_;dsimp only));refine zI ?hg (N:=2) ?hd (cs:=#[.int .i64 a0_0,.int .i64 a0_1,.string a0_2]) (t:=27) ?hr ?_;(case hd|hg => rfl);(case hr => go_simp <;> rfl);intro gb144 hg w96 hbox hb;have BK144:=zh (hbox);have hH_:=cH (by repeat (with_reducible first|exact HB.out|apply za|apply zb|apply zc)) hb hg;have GW144:=zh hH_.1;have GE144:=GW144;replace HB:=zh hH_.2;clear hb hbox hg hH_;obtain ⟨hcz97_0,hcz97_1,hcz97_2,hfz97_0,hfz97_1,hfz97_2⟩:=cB3 BK144.out))
 go_ret
 exact ⟨by first|rfl|(simp [yt,yu] <;> rfl)|(simp [*,yt,yu] <;> rfl),by repeat (with_reducible first|exact HB.out|apply za|apply zb|apply zc|refine zd ?_ GE144.out)⟩

end Go.Proofs.YtjaknpeeopkojaaDoor.Q
end
section
namespace Go.Proofs.YtjaknpeeopkojaaDoor.Q
open Go.RowKit Go.Proofs.YtjaknpeeopkojaaDoorW.PrintWords Go.Proofs.YtjaknpeeopkojaaDoorW.PrintLast Go.Proofs.YtjaknpeeopkojaaDoorW.PrintMore
attribute [local go_sem] max2_int min2_int max_two min_two max_three min_three max_four min_four max2_str min2_str str_geq str_gtr str_leq
set_option linter.unusedVariables false
set_option linter.unusedSimpArgs false

def Ft.f (k : Nat) (a0_0 : Int) (a0_1 : Int) (a0_2 : ByteArray) : Option (Bool):=if (a0_2.size : Int)≤65536 then ((F0.f k a0_0 a0_1 a0_2 5).bind fun t166 => (some t166)) else (some false)
theorem Ft.mono : ∀ a0 a1 a2 k,LeO (Ft.f k a0 a1 a2) (Ft.f (k + 1) a0 a1 a2):=by
 intro a0 a1 a2 k;unfold Ft.f
 repeat' first|(with_reducible first|exact F0.mono _ _ _ _ _|exact zQ _|exact zN _|refine zP ?_ ?_|refine zO ?_ (fun _ => ?_))|refine zP ?_ ?_|refine zO ?_ (fun _ => ?_)
set_option maxHeartbeats 8000000 in
set_option maxRecDepth 100000 in
theorem Ft.calls (k : Nat) (a0_0 : Int) (a0_1 : Int) (a0_2 : ByteArray) (r : Bool) (w : World) (h : Ft.f k a0_0 a0_1 a0_2=some r) :
  Calls Tryd.prog 8 #[.agg #[.int .i64 a0_0,.int .i64 a0_1,.string a0_2]] w fun e w' => e = .returned (.bool r)∧Below w.heap.size w w':=by
 have hu27:=Tryd.underlying27;have HB:=zh (Below.refl w.heap.size w);have H : (if (a0_2.size : Int)≤65536 then ((F0.f k a0_0 a0_1 a0_2 5).bind fun t166 => (some t166)) else (some false))=some r:=h;clear h
 by_cases c2 : (a0_2.size : Int)≤65536
 ·
  rw [if_pos c2] at H
  have c2b0 : decide ((a0_2.size : Int)≤65536)=true:=decide_eq_true c2;have c2b1 : decide (a0_2.size≤65536)=true:=decide_eq_true (by omega);clear c2;replace H:=zT.mp H;obtain ⟨t166,A30,H⟩:=H;replace H : (some t166)=some r:=H;have A3:=zh A30;clear A30;obtain rfl:=zU H
  go_enter Tryd.func8,Tryd.ntmps8
  go_wp2_with (first|((with_reducible refine zK (N:=1) rfl ?_);refine zI ?hg (N:=1) ?hd (cs:=#[.int .i64 a0_0,.int .i64 a0_1,.string a0_2]) (t:=27) ?hr ?_;(case hd|hg => rfl);(case hr => go_simp <;> rfl);intro gb165 hg w4 hbox hb;have BK165:=zh (hbox);have hH_:=cH (by repeat (with_reducible first|exact HB.out|apply za|apply zb|apply zc)) hb hg;have GW165:=zh hH_.1;have GE165:=GW165;replace HB:=zh hH_.2;clear hb hbox hg hH_;obtain ⟨hcz5_0,hcz5_1,hcz5_2,hfz5_0,hfz5_1,hfz5_2⟩:=cB3 BK165.out)|(go_at_call 12;(with_reducible refine (F0.calls k  a0_0 a0_1 a0_2 5 t166 _ A3.out).mono ?_);rintro e w6 ⟨rfl,hb⟩;replace BK165:=zh (cD BK165.out (by (with_reducible repeat first|apply ze|apply zf|apply zg);exact BK165.out) hb);replace HB:=zh (zC (by repeat (with_reducible first|exact HB.out|apply za|apply zb|apply zc|refine zd ?_ GE165.out)) hb);(try clear hb);(try clear hb2);(try clear hk);(try clear hi)))
  go_ret
  exact ⟨by first|rfl|(simp [yt,yu] <;> rfl)|(simp [*,yt,yu] <;> rfl),by repeat (with_reducible first|exact HB.out|apply za|apply zb|apply zc|refine zd ?_ GE165.out)⟩
 rw [if_neg c2] at H;have c2b0 : decide ((a0_2.size : Int)≤65536)=false:=decide_eq_false c2;have c2b1 : decide (a0_2.size≤65536)=false:=decide_eq_false (by omega);clear c2;obtain rfl:=zU H
 go_enter Tryd.func8,Tryd.ntmps8
 go_wp2_with (first|((with_reducible refine zK (N:=1) rfl ?_);refine zI ?hg (N:=1) ?hd (cs:=#[.int .i64 a0_0,.int .i64 a0_1,.string a0_2]) (t:=27) ?hr ?_;(case hd|hg => rfl);(case hr => go_simp <;> rfl);intro gb165 hg w7 hbox hb;have BK165:=zh (hbox);have hH_:=cH (by repeat (with_reducible first|exact HB.out|apply za|apply zb|apply zc)) hb hg;have GW165:=zh hH_.1;have GE165:=GW165;replace HB:=zh hH_.2;clear hb hbox hg hH_;obtain ⟨hcz8_0,hcz8_1,hcz8_2,hfz8_0,hfz8_1,hfz8_2⟩:=cB3 BK165.out))
 go_ret
 exact ⟨by first|rfl|(simp [yt,yu] <;> rfl)|(simp [*,yt,yu] <;> rfl),by repeat (with_reducible first|exact HB.out|apply za|apply zb|apply zc|refine zd ?_ GE165.out)⟩


def Fe.f : Nat→Int→Option (ByteArray)
 | 0,_ => none
 | k + 1,a0 => if a0=(-9223372036854775808) then (some (⟨#[45,57,50,50,51,51,55,50,48,51,54,56,53,52,55,55,53,56,48,56]⟩ : ByteArray)) else (if a0<0 then ((Fe.f k (wrap64 (-a0))).bind fun t167 => (if 1 + t167.size≤9223372036854775807 then (some ((⟨#[45]⟩ : ByteArray) ++ t167)) else (none))) else (if a0<10 then (some (strOfNums (([(wrap64 (48 + a0)) % 256] : List Int)))) else ((Fe.f k (wrap64 (Int.tdiv a0 10))).bind fun t171 => ((some (([(wrap64 (48 + (Int.tmod a0 10))) % 256] : List Int) : List Int)).bind fun y172 => (if t171.size + (strOfNums y172).size≤9223372036854775807 then (some (t171 ++ (strOfNums y172))) else (none))))))
theorem Fe.mono_l : ∀ k,(∀ y0,LeO (Fe.f k y0) (Fe.f (k + 1) y0))
 | 0 => fun _ r h => by simp [Fe.f] at h
 | k + 1 => by
  have ih0:=Fe.mono_l k;intro y0;unfold Fe.f
  repeat' first|(with_reducible first|exact ih0 _|exact zQ _|exact zN _|refine zP ?_ ?_|refine zO ?_ (fun _ => ?_))|refine zP ?_ ?_|refine zO ?_ (fun _ => ?_)
theorem Fe.mono : ∀ a0 k,LeO (Fe.f k a0) (Fe.f (k + 1) a0):=by
 intro a0 k;have ih0:=Fe.mono_l k;exact ih0 a0
def Fe.T7 : Bool×List (List Nat×List Nat):=(true,[([],[]),([0],[0]),([1],[1]),([],[]),([3],[3]),([4],[4]),([5],[5]),([6],[6]),([7],[7]),([2,8],[2,8]),([9,2,0,1,2,3,4,5,6,7,8,9],[9])])
def Fe.B7 : List Nat:=[0,1,3,0,8,24,56,120,248,511,1023]
theorem Fe.tab7 : rtab .any (opsOf Tryd.f13 7)=Fe.T7:=by kernel_rfl
theorem Fe.bits7 : waitsOk Fe.T7.2 Fe.B7=true:=by kernel_rfl
set_option maxHeartbeats 8000000 in
set_option maxRecDepth 100000 in
theorem Fe.calls (k : Nat) : ∀ (a0 : Int) (r : ByteArray) (w : World) (h : Fe.f k a0=some r),
  Calls Tryd.prog 13 #[.int .i64 a0] w fun e w' => e = .returned (.string r)∧Below w.heap.size w w':=by
 induction k using Nat.strongRecOn with
 | _ k ih =>
 intro a0 r w h
 cases k with
 | zero => exact absurd h (by simp [Fe.f])
 | succ k =>
 simp only [Fe.f] at h;have HB:=zh (Below.refl w.heap.size w);have H : (if a0=(-9223372036854775808) then (some (⟨#[45,57,50,50,51,51,55,50,48,51,54,56,53,52,55,55,53,56,48,56]⟩ : ByteArray)) else (if a0<0 then ((Fe.f k (wrap64 (-a0))).bind fun t167 => (if 1 + t167.size≤9223372036854775807 then (some ((⟨#[45]⟩ : ByteArray) ++ t167)) else (none))) else (if a0<10 then (some (strOfNums (([(wrap64 (48 + a0)) % 256] : List Int)))) else ((Fe.f k (wrap64 (Int.tdiv a0 10))).bind fun t171 => ((some (([(wrap64 (48 + (Int.tmod a0 10))) % 256] : List Int) : List Int)).bind fun y172 => (if t171.size + (strOfNums y172).size≤9223372036854775807 then (some (t171 ++ (strOfNums y172))) else (none)))))))=some r:=h;clear h
 by_cases c2 : a0=(-9223372036854775808)
 ·
  rw [if_pos c2] at H
  have c2b0 : (a0 == (-9223372036854775808))=true:=ya.mpr c2;have c2b1 : (a0 != (-9223372036854775808))=false:=zX.mpr c2;clear c2;obtain rfl:=zU H
  go_enter Tryd.func13,Tryd.ntmps13
  go_wp2
  go_ret
  exact ⟨by first|rfl|(simp [yt,yu] <;> rfl)|(simp [*,yt,yu] <;> rfl),by repeat (with_reducible first|exact HB.out|apply za|apply zb|apply zc)⟩
 rw [if_neg c2] at H;have c2b0 : (a0 == (-9223372036854775808))=false:=zY.mpr c2;have c2b1 : (a0 != (-9223372036854775808))=true:=zZ.mpr c2
 by_cases c3 : a0<0
 ·
  rw [if_pos c3] at H
  have c3b0 : decide (a0<0)=true:=decide_eq_true c3;clear c3;replace H:=zT.mp H;obtain ⟨t167,A40,H⟩:=H;replace H : (if 1 + t167.size≤9223372036854775807 then (some ((⟨#[45]⟩ : ByteArray) ++ t167)) else (none))=some r:=H;have A4:=zh A40;clear A40
  by_cases c5 : 1 + t167.size≤9223372036854775807
  ·
   rw [if_pos c5] at H
   have c5b0:=eq_true c5;have c5b1 : decide (1 + t167.size≤9223372036854775807)=true:=decide_eq_true c5
   try have c5b2 : (9223372036854775807<1 + t167.size)=False:=eq_false (Nat.not_lt.2 c5)
   obtain rfl:=zU H
   go_enter Tryd.func13,Tryd.ntmps13
   go_wp2_with (first|((with_reducible refine zJ (f:=13) rfl ?_);refine yj (some 9) rfl rfl Tryd.func13 (by kernel_rfl) rfl #[.int .i64 (wrap64 (-a0))] rfl (by (try simp only [zt,zu,zv]);first|done|rfl|(simp only [zw,zx];rfl)|(simp only [yr,ys,zV,zW];rfl)) ?_;(with_reducible refine (ih k (by omega)  (wrap64 (-a0)) t167 _ A4.out).mono ?_);rintro e w6 ⟨rfl,hb⟩;refine ⟨_,rfl,?_⟩;replace HB:=zh (zC (by repeat (with_reducible first|exact HB.out|apply za|apply zb|apply zc)) hb);(try clear hb);(try clear hb2);(try clear hk);(try clear hi)))
   go_ret
   exact ⟨by first|rfl|(simp [yt,yu] <;> rfl)|(simp [*,yt,yu] <;> rfl),by repeat (with_reducible first|exact HB.out|apply za|apply zb|apply zc)⟩
  rw [if_neg c5] at H;exact absurd H (by simp)
 rw [if_neg c3] at H;have c3b0 : decide (a0<0)=false:=decide_eq_false c3;clear c3
 by_cases c7 : a0<10
 ·
  rw [if_pos c7] at H
  have c7b0 : decide (a0<10)=true:=decide_eq_true c7;clear c7;obtain ⟨y168,hy168⟩ : ∃ y_ : List Int,y_=(([(wrap64 (48 + a0)) % 256] : List Int)):=⟨_,rfl⟩;replace H : (some (strOfNums y168))=some r:=by first|(rw [hy168];with_reducible exact H)|(have H2_:=(Option.bind_some _ _).symm.trans H;rw [hy168];with_reducible exact H2_)|(have H2_:=(Option.bind_some _ _).symm.trans H;with_reducible exact H2_)|with_reducible exact H|(rw [hy168];exact H)|exact H
  have Ny168:=zh hy168;clear hy168;obtain rfl:=zU H
  go_enter Tryd.func13,Tryd.ntmps13
  go_wp2_with (first|((with_reducible refine zK (N:=16) rfl ?_);refine Kd.R_lit (Kd.int .u8) _ 5 ?hg (N:=16) ?hd (xs:=([(wrap64 (48 + a0)) % 256] : List Int)) (inner:=[.int .u8 ((wrap64 (48 + a0)) % 256)]) (ok:=fun _ => True) (okp:=fun _ => True) ?hr ?hp (fun _ hk => hk) trivial (Below.refl _ _) (ye _) (by simp) ?_;(case hd|hg => rfl);(case hr => go_simp <;> rfl);(case hp => exact (Reps.one (show Kd.M (Kd.int .u8) _ _ _ ((wrap64 (48 + a0)) % 256) [.int .u8 ((wrap64 (48 + a0)) % 256)] from rfl) (Reps.none _ _)));intro v169 w8 ho9 hb hg_ hnew_;clear hg_ hnew_;(first|rw [← Ny168.out] at ho9|(simp only [Int.reduceToNat] at ho9;rw [← Ny168.out] at ho9));have HO170:=zh (yy ho9 (zB (by repeat (with_reducible first|exact HB.out|apply za|apply zb|apply zc))));replace HB:=zh (zC (by repeat (with_reducible first|exact HB.out|apply za|apply zb|apply zc)) hb);clear hb ho9;have hcv10:=own_string (P:=Tryd.prog) Tryd.underlying49 Tryd.underlying5 Tryd.underlying9 (Kd.own_of_R HO170.out)))
  go_ret
  exact ⟨by first|rfl|(simp [yt,yu] <;> rfl)|(simp [*,yt,yu] <;> rfl),by repeat (with_reducible first|exact HB.out|apply za|apply zb|apply zc)⟩
 rw [if_neg c7] at H;have c7b0 : decide (a0<10)=false:=decide_eq_false c7;clear c7;replace H:=zT.mp H;obtain ⟨t171,A110,H⟩:=H;replace H : ((some (([(wrap64 (48 + (Int.tmod a0 10))) % 256] : List Int) : List Int)).bind fun y172 => (if t171.size + (strOfNums y172).size≤9223372036854775807 then (some (t171 ++ (strOfNums y172))) else (none)))=some r:=H;have A11:=zh A110;clear A110;obtain ⟨y172,hy172⟩ : ∃ y_ : List Int,y_=(([(wrap64 (48 + (Int.tmod a0 10))) % 256] : List Int)):=⟨_,rfl⟩;replace H : (if t171.size + (strOfNums y172).size≤9223372036854775807 then (some (t171 ++ (strOfNums y172))) else (none))=some r:=by first|(rw [hy172];with_reducible exact H)|(have H2_:=(Option.bind_some _ _).symm.trans H;rw [hy172];with_reducible exact H2_)|(have H2_:=(Option.bind_some _ _).symm.trans H;with_reducible exact H2_)|with_reducible exact H|(rw [hy172];exact H)|exact H
 have Ny172:=zh hy172;clear hy172
 by_cases c12 : t171.size + (strOfNums y172).size≤9223372036854775807
 ·
  rw [if_pos c12] at H
  have c12b0:=eq_true c12;have c12b1 : decide (t171.size + (strOfNums y172).size≤9223372036854775807)=true:=decide_eq_true c12
  try have c12b2 : (9223372036854775807<t171.size + (strOfNums y172).size)=False:=eq_false (Nat.not_lt.2 c12)
  obtain rfl:=zU H
  go_enter Tryd.func13,Tryd.ntmps13
  try go_wp2
  replace HB:=zh (zc HB.out);refine start_ (n:=11) (S:=fun w' => True) (ds:=[]) (bm_ 0 11) (by kernel_rfl) rfl rfl trivial (fun hHeld => ?_);refine with_tabW Fe.tab7 Fe.bits7 (fun HT_ HW_ => ?_);generalize w.drew=w13 at HB hHeld ⊢;refine pure_ (i:=0) (N:=some 18) (v:=?_) (a':=?_) (bm_ 1 11) rfl rfl (any_of HT_.out (by kernel_rfl)) (fun _ _ _ h => h) (Or.inl ⟨by rfl,?_⟩) ?_ ?_;rotate_left
  ·
   intro w'
   go_simp
   with_reducible rfl
  rotate_left
  ·
   simp only [Act.put,zi,zj,zk,zG,zH]
   rfl
  refine pure_ (i:=1) (N:=some 19) (v:=?_) (a':=?_) (bm_ 2 11) rfl rfl (any_of HT_.out (by kernel_rfl)) (fun _ _ _ h => h) (Or.inl ⟨by rfl,?_⟩) ?_ ?_;rotate_left
  ·
   intro w'
   go_simp
   with_reducible rfl
  rotate_left
  ·
   simp only [Act.put,zi,zj,zk,zG,zH]
   rfl
  refine pure_ (i:=3) (N:=some 21) (v:=?_) (a':=?_) #[true,true,false,true,false,false,false,false,false,false,false] rfl rfl (any_of HT_.out (by kernel_rfl)) (fun _ _ _ h => h) (Or.inl ⟨by rfl,?_⟩) ?_ ?_;rotate_left
  ·
   intro w'
   go_simp
   with_reducible rfl
  rotate_left
  ·
   simp only [Act.put,zi,zj,zk,zG,zH]
   rfl
  refine pure_ (i:=4) (N:=some 22) (v:=?_) (a':=?_) #[true,true,false,true,true,false,false,false,false,false,false] rfl rfl (any_of HT_.out (by kernel_rfl)) (fun _ _ _ h => h) (Or.inl ⟨by rfl,?_⟩) ?_ ?_;rotate_left
  ·
   intro w'
   go_simp
   with_reducible rfl
  rotate_left
  ·
   simp only [Act.put,zi,zj,zk,zG,zH]
   rfl
  refine pure_ (i:=5) (N:=some 23) (v:=?_) (a':=?_) #[true,true,false,true,true,true,false,false,false,false,false] rfl rfl (any_of HT_.out (by kernel_rfl)) (fun _ _ _ h => h) (Or.inl ⟨by rfl,?_⟩) ?_ ?_;rotate_left
  ·
   intro w'
   go_simp
   with_reducible rfl
  rotate_left
  ·
   simp only [Act.put,zi,zj,zk,zG,zH]
   rfl
  refine pure_ (i:=6) (N:=some 24) (v:=?_) (a':=?_) #[true,true,false,true,true,true,true,false,false,false,false] rfl rfl (any_of HT_.out (by kernel_rfl)) (fun _ _ _ h => h) (Or.inl ⟨by rfl,?_⟩) ?_ ?_;rotate_left
  ·
   intro w'
   go_simp
   with_reducible rfl
  rotate_left
  ·
   simp only [Act.put,zi,zj,zk,zG,zH]
   rfl
  refine join_ (σ:=Value) 2 (bm_ 9 11) (fun s_ => [(20,.string t171),(25,s_),(26,.string (strOfNums y172))]) (fun s_ w' => (Kd.R (Kd.int .u8) 5 w' w.heap.size (fun _ => True) s_ y172)∧(Below w.heap.size w w')) ?_ ?_;rotate_left
  ·
   intro hCont
   refine two_ (i:=2) (j:=7) (Ni:=some 20) (Nj:=some 25) (bm_ 7 11) #[true,true,false,true,true,true,true,true,false,false,false] rfl rfl rfl rfl (two_of HT_.out (by kernel_rfl)) (by decide) (by decide) (fun K hK => ?_) (fun K hK => ?_)
   ·
    skip
    refine goes_ Tryd.func13 (by kernel_rfl) rfl #[.int .i64 (wrap64 (Int.tdiv a0 10))] (by rfl) rfl rfl (by (try simp only [zt,zu,zv]);first|done|rfl|(simp only [zw,zx];rfl)|(simp only [yr,ys,zV,zW];rfl)) ?_
    with_reducible refine (ih k (by omega)  (wrap64 (Int.tdiv a0 10)) t171 _ A11.out).mono ?_
    rintro e w14 ⟨rfl,hb⟩;refine ⟨_,rfl,?_⟩;replace HB:=zh (zC (by repeat (with_reducible first|exact HB.out|apply za|apply zb|apply zc)) hb);(try clear hb);(try clear hb2);(try clear hk);(try clear hi);refine hK.out _ _ trivial (fun hHeld => ?_);clear hK K;refine norm_ (a':=?_) ?_ ?_;rotate_left
    ·
     show Act.put _ (some 20) _=_
     simp only [Act.put,zi,zj,zk,zG,zH]
     rfl
    refine one_ (i:=7) (N:=some 25) (bm_ 8 11) rfl rfl (one_of HT_.out (by kernel_rfl)) (by decide) (fun K hK => ?_);refine Kd.R_lit_step (Kd.int .u8) _ 5 ?hg (N:=25) ?hd (xs:=([(wrap64 (48 + (Int.tmod a0 10))) % 256] : List Int)) (inner:=[.int .u8 ((wrap64 (48 + (Int.tmod a0 10))) % 256)]) (ok:=fun _ => True) (okp:=fun _ => True) ?hr ?hp (fun _ hk => hk) trivial (Below.refl _ _) (ye _) (by simp) ?_;(case hd|hg => rfl);(case hr => go_simp <;> rfl);(case hp => exact (Reps.one (show Kd.M (Kd.int .u8) _ _ _ ((wrap64 (48 + (Int.tmod a0 10))) % 256) [.int .u8 ((wrap64 (48 + (Int.tmod a0 10))) % 256)] from rfl) (Reps.none _ _)));intro v173 w15 ho16 hb hg_ hnew_;clear hg_ hnew_;(first|rw [← Ny172.out] at ho16|(simp only [Int.reduceToNat] at ho16;rw [← Ny172.out] at ho16));have HO174:=zh (yy ho16 (zB (by repeat (with_reducible first|exact HB.out|apply za|apply zb|apply zc))));replace HB:=zh (zC (by repeat (with_reducible first|exact HB.out|apply za|apply zb|apply zc)) hb);clear hb ho16;refine hK.out _ _ trivial (fun hHeld => ?_);clear hK K;refine norm_ (a':=?_) ?_ ?_;rotate_left
    ·
     show Act.put _ (some 25) _=_
     simp only [Act.put,zi,zj,zk,zG,zH]
     rfl
    refine one_ (i:=8) (N:=some 26) (bm_ 9 11) rfl rfl (one_of HT_.out (by kernel_rfl)) (by decide) (fun K hK => ?_);have hcv17:=own_string (P:=Tryd.prog) Tryd.underlying49 Tryd.underlying5 Tryd.underlying9 (Kd.own_of_R HO174.out);refine value_ (w1:=?_) (v:=?_) (by rfl) rfl ?_ ?_;rotate_left 2
    ·
     go_simp
     constructor
     ·
      rfl
     rfl
    clear hcv17;refine hK.out _ _ trivial (fun hHeld => ?_);clear hK K;refine norm_ (a':=?_) ?_ ?_;rotate_left
    ·
     show Act.put _ (some 26) _=_
     simp only [Act.put,zi,zj,zk,zG,zH]
     rfl
    exact norm_ (by simp only [putAll,Act.put,zi,zj,zk]) (hCont (v173) _ ⟨(by (with_reducible repeat (first|apply zm|apply zn|apply zo));exact HO174.out),(by repeat (with_reducible first|exact HB.out|apply za|apply zb|apply zc))⟩)
   skip
   refine Kd.R_lit_step (Kd.int .u8) _ 5 ?hg (N:=25) ?hd (xs:=([(wrap64 (48 + (Int.tmod a0 10))) % 256] : List Int)) (inner:=[.int .u8 ((wrap64 (48 + (Int.tmod a0 10))) % 256)]) (ok:=fun _ => True) (okp:=fun _ => True) ?hr ?hp (fun _ hk => hk) trivial (Below.refl _ _) (ye _) (by simp) ?_;(case hd|hg => rfl);(case hr => go_simp <;> rfl);(case hp => exact (Reps.one (show Kd.M (Kd.int .u8) _ _ _ ((wrap64 (48 + (Int.tmod a0 10))) % 256) [.int .u8 ((wrap64 (48 + (Int.tmod a0 10))) % 256)] from rfl) (Reps.none _ _)));intro v173 w14 ho15 hb hg_ hnew_;clear hg_ hnew_;(first|rw [← Ny172.out] at ho15|(simp only [Int.reduceToNat] at ho15;rw [← Ny172.out] at ho15));have HO174:=zh (yy ho15 (zB (by repeat (with_reducible first|exact HB.out|apply za|apply zb|apply zc))));replace HB:=zh (zC (by repeat (with_reducible first|exact HB.out|apply za|apply zb|apply zc)) hb);clear hb ho15;refine hK.out _ _ trivial (fun hHeld => ?_);clear hK K;refine norm_ (a':=?_) ?_ ?_;rotate_left
   ·
    show Act.put _ (some 25) _=_
    simp only [Act.put,zi,zj,zk,zG,zH]
    rfl
   refine two_ (i:=2) (j:=8) (Ni:=some 20) (Nj:=some 26) (bm_ 8 11) #[true,true,false,true,true,true,true,true,true,false,false] rfl rfl rfl rfl (two_of HT_.out (by kernel_rfl)) (by decide) (by decide) (fun K hK => ?_) (fun K hK => ?_)
   ·
    skip
    refine goes_ Tryd.func13 (by kernel_rfl) rfl #[.int .i64 (wrap64 (Int.tdiv a0 10))] (by rfl) rfl rfl (by (try simp only [zt,zu,zv]);first|done|rfl|(simp only [zw,zx];rfl)|(simp only [yr,ys,zV,zW];rfl)) ?_
    with_reducible refine (ih k (by omega)  (wrap64 (Int.tdiv a0 10)) t171 _ A11.out).mono ?_
    rintro e w16 ⟨rfl,hb⟩;refine ⟨_,rfl,?_⟩;replace HO174:=zh (yg (by (with_reducible repeat (first|apply zm|apply zn|apply zo));exact HO174.out) hb);replace HB:=zh (zC (by repeat (with_reducible first|exact HB.out|apply za|apply zb|apply zc)) hb);(try clear hb);(try clear hb2);(try clear hk);(try clear hi);refine hK.out _ _ trivial (fun hHeld => ?_);clear hK K;refine norm_ (a':=?_) ?_ ?_;rotate_left
    ·
     show Act.put _ (some 20) _=_
     simp only [Act.put,zi,zj,zk,zG,zH]
     rfl
    refine one_ (i:=8) (N:=some 26) (bm_ 9 11) rfl rfl (one_of HT_.out (by kernel_rfl)) (by decide) (fun K hK => ?_);have hcv17:=own_string (P:=Tryd.prog) Tryd.underlying49 Tryd.underlying5 Tryd.underlying9 (Kd.own_of_R HO174.out);refine value_ (w1:=?_) (v:=?_) (by rfl) rfl ?_ ?_;rotate_left 2
    ·
     go_simp
     constructor
     ·
      rfl
     rfl
    clear hcv17;refine hK.out _ _ trivial (fun hHeld => ?_);clear hK K;refine norm_ (a':=?_) ?_ ?_;rotate_left
    ·
     show Act.put _ (some 26) _=_
     simp only [Act.put,zi,zj,zk,zG,zH]
     rfl
    exact norm_ (by simp only [putAll,Act.put,zi,zj,zk]) (hCont (v173) _ ⟨(by (with_reducible repeat (first|apply zm|apply zn|apply zo));exact HO174.out),(by repeat (with_reducible first|exact HB.out|apply za|apply zb|apply zc))⟩)
   skip
   have hcv16:=own_string (P:=Tryd.prog) Tryd.underlying49 Tryd.underlying5 Tryd.underlying9 (Kd.own_of_R HO174.out);refine value_ (w1:=?_) (v:=?_) (by rfl) rfl ?_ ?_;rotate_left 2
   ·
    go_simp
    constructor
    ·
     rfl
    rfl
   clear hcv16;refine hK.out _ _ trivial (fun hHeld => ?_);clear hK K;refine norm_ (a':=?_) ?_ ?_;rotate_left
   ·
    show Act.put _ (some 26) _=_
    simp only [Act.put,zi,zj,zk,zG,zH]
    rfl
   refine one_ (i:=2) (N:=some 20) (bm_ 9 11) rfl rfl (one_of HT_.out (by kernel_rfl)) (by decide) (fun K hK => ?_);refine goes_ Tryd.func13 (by kernel_rfl) rfl #[.int .i64 (wrap64 (Int.tdiv a0 10))] (by rfl) rfl rfl (by (try simp only [zt,zu,zv]);first|done|rfl|(simp only [zw,zx];rfl)|(simp only [yr,ys,zV,zW];rfl)) ?_
   with_reducible refine (ih k (by omega)  (wrap64 (Int.tdiv a0 10)) t171 _ A11.out).mono ?_
   rintro e w17 ⟨rfl,hb⟩;refine ⟨_,rfl,?_⟩;replace HO174:=zh (yg (by (with_reducible repeat (first|apply zm|apply zn|apply zo));exact HO174.out) hb);replace HB:=zh (zC (by repeat (with_reducible first|exact HB.out|apply za|apply zb|apply zc)) hb);(try clear hb);(try clear hb2);(try clear hk);(try clear hi);refine hK.out _ _ trivial (fun hHeld => ?_);clear hK K;refine norm_ (a':=?_) ?_ ?_;rotate_left
   ·
    show Act.put _ (some 20) _=_
    simp only [Act.put,zi,zj,zk,zG,zH]
    rfl
   exact norm_ (by simp only [putAll,Act.put,zi,zj,zk]) (hCont (v173) _ ⟨(by (with_reducible repeat (first|apply zm|apply zn|apply zo));exact HO174.out),(by repeat (with_reducible first|exact HB.out|apply za|apply zb|apply zc))⟩)
  rintro v173 w18 ⟨h0_,h1_⟩;have HO174 : Aside0 (Kd.R (Kd.int .u8) 5 w18 w.heap.size (fun _ => True) v173 y172):=⟨h0_⟩;replace HB : Aside0 (Below w.heap.size w w18):=⟨h1_⟩;clear h0_ h1_;have hHeld:=trivial;refine norm_ (a':=?_) ?_ ?_;rotate_left
  ·
   simp only [putAll,Act.put,zi,zj,zk]
   rfl
  refine pure_ (i:=9) (N:=some 27) (v:=?_) (a':=?_) (bm_ 10 11) rfl rfl (any_of HT_.out (by kernel_rfl)) (fun _ _ _ h => h) (Or.inl ⟨by rfl,?_⟩) ?_ ?_;rotate_left
  ·
   intro w'
   go_simp
   with_reducible rfl
  rotate_left
  ·
   simp only [Act.put,zi,zj,zk,zG,zH]
   rfl
  refine pure_ (i:=10) (N:=some 2) (v:=?_) (a':=?_) (bm_ 11 11) rfl rfl (any_of HT_.out (by kernel_rfl)) (fun _ _ _ h => h) (Or.inl ⟨by rfl,?_⟩) ?_ ?_;rotate_left
  ·
   intro w'
   go_simp
   with_reducible rfl
  rotate_left
  ·
   simp only [Act.put,zi,zj,zk,zG,zH]
   rfl
  refine done_ (done_of HT_.out (by kernel_rfl)) ?_
  try go_wp2
  go_ret
  exact ⟨by first|rfl|(simp [yt,yu] <;> rfl)|(simp [*,yt,yu] <;> rfl),by repeat (with_reducible first|exact HB.out|apply za|apply zb|apply zc)⟩
 rw [if_neg c12] at H;exact absurd H (by simp)


def Fi.l0 : Nat→List ByteArray→ByteArray→ByteArray→Int→Option (ByteArray)
 | 0,_,_,_,_ => none
 | k + 1,x0,x1,x5,x6 => if x6<(x0.length : Int) then (if x6 > 0 then (if x5.size + x1.size≤9223372036854775807 then (if 0≤x6 then (if (x5 ++ x1).size + (rdOf ByteArray.empty x0 x6).size≤9223372036854775807 then (Fi.l0 k x0 x1 ((x5 ++ x1) ++ (rdOf ByteArray.empty x0 x6)) (wrap64 (x6 + 1))) else (none)) else (none)) else (none)) else (if 0≤x6 then (if x5.size + (rdOf ByteArray.empty x0 x6).size≤9223372036854775807 then (Fi.l0 k x0 x1 (x5 ++ (rdOf ByteArray.empty x0 x6)) (wrap64 (x6 + 1))) else (none)) else (none))) else (some x5)
def Fi.f (k : Nat) (l0 : List ByteArray) (a1 : ByteArray) : Option (ByteArray):=Fi.l0 k l0 a1 (⟨#[]⟩ : ByteArray) 0
theorem Fi.mono_l : ∀ k,(∀ y0 y1 y2 y3,LeO (Fi.l0 k y0 y1 y2 y3) (Fi.l0 (k + 1) y0 y1 y2 y3))
 | 0 => fun _ _ _ _ r h => by simp [Fi.l0] at h
 | k + 1 => by
  have ih0:=Fi.mono_l k;intro y0 y1 y2 y3;unfold Fi.l0
  repeat' first|(with_reducible first|exact ih0 _ _ _ _|exact zQ _|exact zN _|refine zP ?_ ?_|refine zO ?_ (fun _ => ?_))|refine zP ?_ ?_|refine zO ?_ (fun _ => ?_)
theorem Fi.mono : ∀ a0 a1 k,LeO (Fi.f k a0 a1) (Fi.f (k + 1) a0 a1):=by
 intro a0 a1 k;have ih0:=Fi.mono_l k;unfold Fi.f
 repeat' first|(with_reducible first|exact ih0 _ _ _ _|exact zQ _|exact zN _|refine zP ?_ ?_|refine zO ?_ (fun _ => ?_))|refine zP ?_ ?_|refine zO ?_ (fun _ => ?_)
set_option maxHeartbeats 8000000 in
set_option maxRecDepth 100000 in
theorem Fi.calls (k : Nat) (A0 : Option Addr) (c0 : Nat) (l0 : List ByteArray) (a1 : ByteArray) (r : ByteArray) (w : World) (hr0 : Kd.C Kd.string w A0 l0.length l0) (hc0 : l0.length≤c0) (h : Fi.f k l0 a1=some r) :
  Calls Tryd.prog 15 #[.slice A0 l0.length c0,.string a1] w fun e w' => e = .returned (.string r)∧Drawn0 w w':=by
 have HR0:=zh hr0;have HC0:=zh hc0;clear hr0 hc0;have H : (Fi.l0 k l0 a1 (⟨#[]⟩ : ByteArray) 0)=some r:=h;clear h;have H':=zh H;clear H
 go_enter Tryd.func15,Tryd.ntmps15
 go_wp2
 go_loopg [5,6] k (fun kq v5 v6 w' => ∃ (x5_1 : ByteArray) (x6_1 : Int),v5 = .string x5_1∧v6 = .int .i64 x6_1∧Aside0 (Fi.l0 kq l0 a1 x5_1 x6_1=some r)∧Aside0 (kq≤k)∧Drawn0 w w')
 case atStart => exact ⟨((⟨#[]⟩ : ByteArray)),(0),(by first|rfl|(simp;done)|(simp [*];done)),(by first|rfl|(simp;done)|(simp [*];done)),H',⟨ye _⟩,by repeat (first|exact yp _|apply yq)⟩
 case round =>
  clear H'
  try clear c1
  try clear p2
  obtain ⟨x5_1,x6_1,rfl,rfl,HA,HK1,⟨m1,rfl⟩⟩:=hrel
  cases gk with
  | zero => exact absurd HA.out (by simp [Fi.l0])
  | succ k1 =>
   have H:=HA.out;clear HA;simp only [Fi.l0] at H
   by_cases c3 : x6_1<(l0.length : Int)
   ·
    rw [if_pos c3] at H
    have c3b0 : decide (x6_1<(l0.length : Int))=true:=decide_eq_true c3;clear c3
    by_cases c4 : x6_1 > 0
    ·
     rw [if_pos c4] at H
     have c4b0 : decide (0<x6_1)=true:=decide_eq_true c4;clear c4
     by_cases c5 : x5_1.size + a1.size≤9223372036854775807
     ·
      rw [if_pos c5] at H
      have c5b0:=eq_true c5;have c5b1 : decide (x5_1.size + a1.size≤9223372036854775807)=true:=decide_eq_true c5
      try have c5b2 : (9223372036854775807<x5_1.size + a1.size)=False:=eq_false (Nat.not_lt.2 c5)
      by_cases c6 : 0≤x6_1
      ·
       rw [if_pos c6] at H
       have c6b0 : decide (0≤x6_1)=true:=decide_eq_true c6;clear c6
       by_cases c7 : (x5_1 ++ a1).size + (rdOf ByteArray.empty l0 x6_1).size≤9223372036854775807
       ·
        rw [if_pos c7] at H
        have c7b0:=eq_true c7;have c7b1 : decide ((x5_1 ++ a1).size + (rdOf ByteArray.empty l0 x6_1).size≤9223372036854775807)=true:=decide_eq_true c7
        try have c7b2 : (9223372036854775807<(x5_1 ++ a1).size + (rdOf ByteArray.empty l0 x6_1).size)=False:=eq_false (Nat.not_lt.2 c7)
        (try have c7b4:=c7b2;simp only [ByteArray.size_append] at c7b4);have H':=zh H;clear H;have p175 : 0≤(x6_1 : Int):=zy (by first|(with_reducible assumption)|assumption);have q175 : x6_1<(l0.length : Int):=zy (by first|(with_reducible assumption)|assumption);obtain ⟨ad175,e175,hx175_0⟩:=Kd.at_string HR0.out x6_1 p175 q175
        cases e175
        replace p175:=eq_true p175;replace q175:=eq_true q175
        go_wp2
        go_roundg k1
        case measure => have:=HK1.out;omega
        case rel => exact ⟨((x5_1 ++ a1) ++ (rdOf ByteArray.empty l0 x6_1)),(wrap64 (x6_1 + 1)),(by first|rfl|(simp;done)|(simp [*];done)),(by first|rfl|(simp;done)|(simp [*];done)),H',⟨by have:=HK1.out;omega⟩,by repeat (first|exact yp _|apply yq)⟩
       rw [if_neg c7] at H;exact absurd H (by simp)
      rw [if_neg c6] at H;exact absurd H (by simp)
     rw [if_neg c5] at H;exact absurd H (by simp)
    rw [if_neg c4] at H;have c4b0 : decide (0<x6_1)=false:=decide_eq_false c4;clear c4
    by_cases c8 : 0≤x6_1
    ·
     rw [if_pos c8] at H
     have c8b0 : decide (0≤x6_1)=true:=decide_eq_true c8;clear c8
     by_cases c9 : x5_1.size + (rdOf ByteArray.empty l0 x6_1).size≤9223372036854775807
     ·
      rw [if_pos c9] at H
      have c9b0:=eq_true c9;have c9b1 : decide (x5_1.size + (rdOf ByteArray.empty l0 x6_1).size≤9223372036854775807)=true:=decide_eq_true c9
      try have c9b2 : (9223372036854775807<x5_1.size + (rdOf ByteArray.empty l0 x6_1).size)=False:=eq_false (Nat.not_lt.2 c9)
      have H':=zh H;clear H;have p176 : 0≤(x6_1 : Int):=zy (by first|(with_reducible assumption)|assumption);have q176 : x6_1<(l0.length : Int):=zy (by first|(with_reducible assumption)|assumption);obtain ⟨ad176,e176,hx176_0⟩:=Kd.at_string HR0.out x6_1 p176 q176
      cases e176
      replace p176:=eq_true p176;replace q176:=eq_true q176
      go_wp2
      go_roundg k1
      case measure => have:=HK1.out;omega
      case rel => exact ⟨(x5_1 ++ (rdOf ByteArray.empty l0 x6_1)),(wrap64 (x6_1 + 1)),(by first|rfl|(simp;done)|(simp [*];done)),(by first|rfl|(simp;done)|(simp [*];done)),H',⟨by have:=HK1.out;omega⟩,by repeat (first|exact yp _|apply yq)⟩
     rw [if_neg c9] at H;exact absurd H (by simp)
    rw [if_neg c8] at H;exact absurd H (by simp)
   rw [if_neg c3] at H;have c3b0 : decide (x6_1<(l0.length : Int))=false:=decide_eq_false c3;clear c3;obtain rfl:=zU H
   go_wp2
   go_ret
   exact ⟨by first|rfl|(simp;done)|(simp [*];done),by repeat (first|exact yp _|apply yq)⟩

end Go.Proofs.YtjaknpeeopkojaaDoor.Q
end
section
namespace Go.Proofs.YtjaknpeeopkojaaDoor.Q
open Go.RowKit Go.Proofs.YtjaknpeeopkojaaDoorW.PrintWords Go.Proofs.YtjaknpeeopkojaaDoorW.PrintLast Go.Proofs.YtjaknpeeopkojaaDoorW.PrintMore
attribute [local go_sem] max2_int min2_int max_two min_two max_three min_three max_four min_four max2_str min2_str str_geq str_gtr str_leq   -- for this text's walks alone
set_option linter.unusedVariables false
set_option linter.unusedSimpArgs false

mutual
def F3.l0 : Nat→List ByteArray→List (S27)→Int→Option (ByteArray)
 | 0,_,_,_ => none
 | k + 1,x3,x4,x6 => if x6<(x4.length : Int) then (if 0≤x6 then ((F3.f k ((rd_T27 x4 x6).f0) ((rd_T27 x4 x6).f1) ((rd_T27 x4 x6).f2)).bind fun t187 => (if x3.length<8796093022208 then (F3.l0 k (x3 ++ [t187]) x4 (wrap64 (x6 + 1))) else (none))) else (none)) else ((Fi.f k x3 (⟨#[44]⟩ : ByteArray)).bind fun t191 => (if 1 + t191.size≤9223372036854775807 then (if ((⟨#[91]⟩ : ByteArray) ++ t191).size + 1≤9223372036854775807 then (some (((⟨#[91]⟩ : ByteArray) ++ t191) ++ (⟨#[93]⟩ : ByteArray))) else (none)) else (none)))
def F3.l1 : Nat→List ByteArray→List (S43)→Int→Option (ByteArray)
 | 0,_,_,_ => none
 | k + 1,x3,x7,x9 => if x9<(x7.length : Int) then (if 0≤x9 then (if ((rd_T43 x7 x9).f0).size + 1≤9223372036854775807 then ((F3.f k ((rd_T43 x7 x9).f1.f0) ((rd_T43 x7 x9).f1.f1) ((rd_T43 x7 x9).f1.f2)).bind fun t198 => (if (((rd_T43 x7 x9).f0) ++ (⟨#[58]⟩ : ByteArray)).size + t198.size≤9223372036854775807 then (if x3.length<8796093022208 then (F3.l1 k (x3 ++ [(((rd_T43 x7 x9).f0) ++ (⟨#[58]⟩ : ByteArray)) ++ t198]) x7 (wrap64 (x9 + 1))) else (none)) else (none))) else (none)) else (none)) else ((Fi.f k x3 (⟨#[44]⟩ : ByteArray)).bind fun t202 => (if 1 + t202.size≤9223372036854775807 then (if ((⟨#[123]⟩ : ByteArray) ++ t202).size + 1≤9223372036854775807 then (some (((⟨#[123]⟩ : ByteArray) ++ t202) ++ (⟨#[125]⟩ : ByteArray))) else (none)) else (none)))
def F3.f : Nat→Int→Int→ByteArray→Option (ByteArray)
 | 0,_,_,_ => none
 | k + 1,a0_0,a0_1,a0_2 => (some (([] : List ByteArray) : List ByteArray)).bind fun y178 => (if a0_0=0 then (some (⟨#[110,117,108,108]⟩ : ByteArray)) else (if a0_0=1 then (if a0_1=1 then (some (⟨#[116,114,117,101]⟩ : ByteArray)) else (some (⟨#[102,97,108,115,101]⟩ : ByteArray))) else (if a0_0=2 then ((Fe.f k a0_1).bind fun t181 => (some t181)) else (if a0_0=3 then (if 1 + a0_2.size≤9223372036854775807 then (if ((⟨#[39]⟩ : ByteArray) ++ a0_2).size + 1≤9223372036854775807 then (some (((⟨#[39]⟩ : ByteArray) ++ a0_2) ++ (⟨#[39]⟩ : ByteArray))) else (none)) else (none)) else (if a0_0=4 then ((Fd.f k a0_2).bind fun bt182 => (F3.l0 k y178 bt182.1 0)) else ((Fc.f k a0_2).bind fun bt192 => (F3.l1 k y178 bt192.1 0)))))))
end
theorem F3.mono_l : ∀ k,(∀ y0 y1 y2,LeO (F3.f k y0 y1 y2) (F3.f (k + 1) y0 y1 y2))∧(∀ y0 y1 y2,LeO (F3.l0 k y0 y1 y2) (F3.l0 (k + 1) y0 y1 y2))∧(∀ y0 y1 y2,LeO (F3.l1 k y0 y1 y2) (F3.l1 (k + 1) y0 y1 y2))
 | 0 => ⟨fun _ _ _ r h => by simp [F3.f] at h,fun _ _ _ r h => by simp [F3.l0] at h,fun _ _ _ r h => by simp [F3.l1] at h⟩
 | k + 1 => by
  obtain ⟨ih0,ih1,ih2⟩:=F3.mono_l k;refine ⟨?_,?_,?_⟩
  ·
   intro y0 y1 y2
   unfold F3.f
   repeat' first|(with_reducible first|exact ih0 _ _ _|exact ih1 _ _ _|exact ih2 _ _ _|exact Fe.mono _ _|exact Fd.mono _ _|exact Fi.mono _ _ _|exact Fc.mono _ _|exact zQ _|exact zN _|refine zP ?_ ?_|refine zO ?_ (fun _ => ?_))|refine zP ?_ ?_|refine zO ?_ (fun _ => ?_)
  ·
   intro y0 y1 y2
   unfold F3.l0
   repeat' first|(with_reducible first|exact ih0 _ _ _|exact ih1 _ _ _|exact ih2 _ _ _|exact Fe.mono _ _|exact Fd.mono _ _|exact Fi.mono _ _ _|exact Fc.mono _ _|exact zQ _|exact zN _|refine zP ?_ ?_|refine zO ?_ (fun _ => ?_))|refine zP ?_ ?_|refine zO ?_ (fun _ => ?_)
  intro y0 y1 y2;unfold F3.l1
  repeat' first|(with_reducible first|exact ih0 _ _ _|exact ih1 _ _ _|exact ih2 _ _ _|exact Fe.mono _ _|exact Fd.mono _ _|exact Fi.mono _ _ _|exact Fc.mono _ _|exact zQ _|exact zN _|refine zP ?_ ?_|refine zO ?_ (fun _ => ?_))|refine zP ?_ ?_|refine zO ?_ (fun _ => ?_)
theorem F3.mono : ∀ a0 a1 a2 k,LeO (F3.f k a0 a1 a2) (F3.f (k + 1) a0 a1 a2):=by
 intro a0 a1 a2 k;obtain ⟨ih0,ih1,ih2⟩:=F3.mono_l k;exact ih0 a0 a1 a2
def F3.T24 : Bool×List (List Nat×List Nat):=(true,[([],[]),([],[]),([],[]),([1,2],[1,2]),([3],[3]),([4],[4]),([5],[5]),([],[]),([],[]),([7,8],[7,8]),([9],[9]),([10],[10]),([11],[11]),([6,12],[6,12]),([13],[13]),([0,14,12],[0,14]),([15,15,0,1,2,3,4,5,6,7,8,9,10,11,12,13,14,15],[0,15])])
def F3.B24 : List Nat:=[0,0,0,6,14,30,62,0,0,384,896,1920,3968,8190,16382,32767,65535]
theorem F3.tab24 : rtab .any (opsOf Tryd.f9 24)=F3.T24:=by kernel_rfl
theorem F3.bits24 : waitsOk F3.T24.2 F3.B24=true:=by kernel_rfl
set_option maxHeartbeats 8000000 in
set_option maxRecDepth 100000 in
theorem F3.calls (k : Nat) : ∀ (a0_0 : Int) (a0_1 : Int) (a0_2 : ByteArray) (r : ByteArray) (w : World) (h : F3.f k a0_0 a0_1 a0_2=some r),
  Calls Tryd.prog 9 #[.agg #[.int .i64 a0_0,.int .i64 a0_1,.string a0_2]] w fun e w' => e = .returned (.string r)∧Below w.heap.size w w':=by
 induction k using Nat.strongRecOn with
 | _ k ih =>
 intro a0_0 a0_1 a0_2 r w h
 cases k with
 | zero => exact absurd h (by simp [F3.f])
 | succ k =>
 simp only [F3.f] at h;have hu27:=Tryd.underlying27;have HB:=zh (Below.refl w.heap.size w);have H : ((some (([] : List ByteArray) : List ByteArray)).bind fun y178 => (if a0_0=0 then (some (⟨#[110,117,108,108]⟩ : ByteArray)) else (if a0_0=1 then (if a0_1=1 then (some (⟨#[116,114,117,101]⟩ : ByteArray)) else (some (⟨#[102,97,108,115,101]⟩ : ByteArray))) else (if a0_0=2 then ((Fe.f k a0_1).bind fun t181 => (some t181)) else (if a0_0=3 then (if 1 + a0_2.size≤9223372036854775807 then (if ((⟨#[39]⟩ : ByteArray) ++ a0_2).size + 1≤9223372036854775807 then (some (((⟨#[39]⟩ : ByteArray) ++ a0_2) ++ (⟨#[39]⟩ : ByteArray))) else (none)) else (none)) else (if a0_0=4 then ((Fd.f k a0_2).bind fun bt182 => (F3.l0 k y178 bt182.1 0)) else ((Fc.f k a0_2).bind fun bt192 => (F3.l1 k y178 bt192.1 0))))))))=some r:=h;clear h;obtain ⟨y178,hy178⟩ : ∃ y_ : List ByteArray,y_=(([] : List ByteArray)):=⟨_,rfl⟩;replace H : (if a0_0=0 then (some (⟨#[110,117,108,108]⟩ : ByteArray)) else (if a0_0=1 then (if a0_1=1 then (some (⟨#[116,114,117,101]⟩ : ByteArray)) else (some (⟨#[102,97,108,115,101]⟩ : ByteArray))) else (if a0_0=2 then ((Fe.f k a0_1).bind fun t181 => (some t181)) else (if a0_0=3 then (if 1 + a0_2.size≤9223372036854775807 then (if ((⟨#[39]⟩ : ByteArray) ++ a0_2).size + 1≤9223372036854775807 then (some (((⟨#[39]⟩ : ByteArray) ++ a0_2) ++ (⟨#[39]⟩ : ByteArray))) else (none)) else (none)) else (if a0_0=4 then ((Fd.f k a0_2).bind fun bt182 => (F3.l0 k y178 bt182.1 0)) else ((Fc.f k a0_2).bind fun bt192 => (F3.l1 k y178 bt192.1 0)))))))=some r:=by first|(rw [hy178];with_reducible exact H)|(have H2_:=(Option.bind_some _ _).symm.trans H;rw [hy178];with_reducible exact H2_)|(have H2_:=(Option.bind_some _ _).symm.trans H;with_reducible exact H2_)|with_reducible exact H|(rw [hy178];exact H)|exact H
 have Ny178:=zh hy178;clear hy178
 by_cases c2 : a0_0=0
 ·
  rw [if_pos c2] at H
  have c2b0 : (a0_0 == 0)=true:=ya.mpr c2;have c2b1 : (a0_0 != 0)=false:=zX.mpr c2;clear c2;obtain rfl:=zU H
  go_enter Tryd.func9,Tryd.ntmps9
  go_wp2_with (first|((with_reducible refine zK (N:=1) rfl ?_);refine zI ?hg (N:=1) ?hd (cs:=#[.int .i64 a0_0,.int .i64 a0_1,.string a0_2]) (t:=27) ?hr ?_;(case hd|hg => rfl);(case hr => go_simp <;> rfl);intro gb177 hg w3 hbox hb;have BK177:=zh (hbox);have hH_:=cH (by repeat (with_reducible first|exact HB.out|apply za|apply zb|apply zc)) hb hg;have GW177:=zh hH_.1;have GE177:=GW177;replace HB:=zh hH_.2;clear hb hbox hg hH_)|((with_reducible refine zK (N:=10) rfl ?_);refine Kd.R_lit Kd.string _ 9 ?hg (N:=10) ?hd (xs:=([] : List ByteArray)) (inner:=[]) (ok:=fun _ => True) (okp:=fun _ => True) ?hr ?hp (fun _ hk => hk) trivial (Below.refl _ _) (ye _) (by simp) ?_;(case hd|hg => rfl);(case hr => go_simp <;> rfl);(case hp => exact (Reps.none _ _));intro v179 w4 ho5 hb hg_ hnew_;clear hg_ hnew_;(first|rw [← Ny178.out] at ho5|(simp only [Int.reduceToNat] at ho5;rw [← Ny178.out] at ho5));have HO180:=zh (yy ho5 (zB (by repeat (with_reducible first|exact HB.out|apply za|apply zb|apply zc|refine zd ?_ GE177.out))));replace BK177:=zh (cD BK177.out (by (with_reducible repeat first|apply ze|apply zf|apply zg);exact BK177.out) hb);replace HB:=zh (zC (by repeat (with_reducible first|exact HB.out|apply za|apply zb|apply zc|refine zd ?_ GE177.out)) hb);clear hb ho5;obtain ⟨hcz6_0,hcz6_1,hcz6_2,hfz6_0,hfz6_1,hfz6_2⟩:=cB3 BK177.out))
  go_ret
  exact ⟨by first|rfl|(simp [yt,yu] <;> rfl)|(simp [*,yt,yu] <;> rfl),by repeat (with_reducible first|exact HB.out|apply za|apply zb|apply zc|refine zd ?_ GE177.out)⟩
 rw [if_neg c2] at H;have c2b0 : (a0_0 == 0)=false:=zY.mpr c2;have c2b1 : (a0_0 != 0)=true:=zZ.mpr c2
 by_cases c7 : a0_0=1
 ·
  rw [if_pos c7] at H
  have c7b0 : (a0_0 == 1)=true:=ya.mpr c7;have c7b1 : (a0_0 != 1)=false:=zX.mpr c7;clear c7
  by_cases c8 : a0_1=1
  ·
   rw [if_pos c8] at H
   have c8b0 : (a0_1 == 1)=true:=ya.mpr c8;have c8b1 : (a0_1 != 1)=false:=zX.mpr c8;clear c8;obtain rfl:=zU H
   go_enter Tryd.func9,Tryd.ntmps9
   go_wp2_with (first|((with_reducible refine zK (N:=1) rfl ?_);refine zI ?hg (N:=1) ?hd (cs:=#[.int .i64 a0_0,.int .i64 a0_1,.string a0_2]) (t:=27) ?hr ?_;(case hd|hg => rfl);(case hr => go_simp <;> rfl);intro gb177 hg w9 hbox hb;have BK177:=zh (hbox);have hH_:=cH (by repeat (with_reducible first|exact HB.out|apply za|apply zb|apply zc)) hb hg;have GW177:=zh hH_.1;have GE177:=GW177;replace HB:=zh hH_.2;clear hb hbox hg hH_)|((with_reducible refine zK (N:=10) rfl ?_);refine Kd.R_lit Kd.string _ 9 ?hg (N:=10) ?hd (xs:=([] : List ByteArray)) (inner:=[]) (ok:=fun _ => True) (okp:=fun _ => True) ?hr ?hp (fun _ hk => hk) trivial (Below.refl _ _) (ye _) (by simp) ?_;(case hd|hg => rfl);(case hr => go_simp <;> rfl);(case hp => exact (Reps.none _ _));intro v179 w10 ho11 hb hg_ hnew_;clear hg_ hnew_;(first|rw [← Ny178.out] at ho11|(simp only [Int.reduceToNat] at ho11;rw [← Ny178.out] at ho11));have HO180:=zh (yy ho11 (zB (by repeat (with_reducible first|exact HB.out|apply za|apply zb|apply zc|refine zd ?_ GE177.out))));replace BK177:=zh (cD BK177.out (by (with_reducible repeat first|apply ze|apply zf|apply zg);exact BK177.out) hb);replace HB:=zh (zC (by repeat (with_reducible first|exact HB.out|apply za|apply zb|apply zc|refine zd ?_ GE177.out)) hb);clear hb ho11;obtain ⟨hcz12_0,hcz12_1,hcz12_2,hfz12_0,hfz12_1,hfz12_2⟩:=cB3 BK177.out))
   go_ret
   exact ⟨by first|rfl|(simp [yt,yu] <;> rfl)|(simp [*,yt,yu] <;> rfl),by repeat (with_reducible first|exact HB.out|apply za|apply zb|apply zc|refine zd ?_ GE177.out)⟩
  rw [if_neg c8] at H;have c8b0 : (a0_1 == 1)=false:=zY.mpr c8;have c8b1 : (a0_1 != 1)=true:=zZ.mpr c8;obtain rfl:=zU H
  go_enter Tryd.func9,Tryd.ntmps9
  go_wp2_with (first|((with_reducible refine zK (N:=1) rfl ?_);refine zI ?hg (N:=1) ?hd (cs:=#[.int .i64 a0_0,.int .i64 a0_1,.string a0_2]) (t:=27) ?hr ?_;(case hd|hg => rfl);(case hr => go_simp <;> rfl);intro gb177 hg w13 hbox hb;have BK177:=zh (hbox);have hH_:=cH (by repeat (with_reducible first|exact HB.out|apply za|apply zb|apply zc)) hb hg;have GW177:=zh hH_.1;have GE177:=GW177;replace HB:=zh hH_.2;clear hb hbox hg hH_)|((with_reducible refine zK (N:=10) rfl ?_);refine Kd.R_lit Kd.string _ 9 ?hg (N:=10) ?hd (xs:=([] : List ByteArray)) (inner:=[]) (ok:=fun _ => True) (okp:=fun _ => True) ?hr ?hp (fun _ hk => hk) trivial (Below.refl _ _) (ye _) (by simp) ?_;(case hd|hg => rfl);(case hr => go_simp <;> rfl);(case hp => exact (Reps.none _ _));intro v179 w14 ho15 hb hg_ hnew_;clear hg_ hnew_;(first|rw [← Ny178.out] at ho15|(simp only [Int.reduceToNat] at ho15;rw [← Ny178.out] at ho15));have HO180:=zh (yy ho15 (zB (by repeat (with_reducible first|exact HB.out|apply za|apply zb|apply zc|refine zd ?_ GE177.out))));replace BK177:=zh (cD BK177.out (by (with_reducible repeat first|apply ze|apply zf|apply zg);exact BK177.out) hb);replace HB:=zh (zC (by repeat (with_reducible first|exact HB.out|apply za|apply zb|apply zc|refine zd ?_ GE177.out)) hb);clear hb ho15;obtain ⟨hcz16_0,hcz16_1,hcz16_2,hfz16_0,hfz16_1,hfz16_2⟩:=cB3 BK177.out))
  go_ret
  exact ⟨by first|rfl|(simp [yt,yu] <;> rfl)|(simp [*,yt,yu] <;> rfl),by repeat (with_reducible first|exact HB.out|apply za|apply zb|apply zc|refine zd ?_ GE177.out)⟩
 rw [if_neg c7] at H;have c7b0 : (a0_0 == 1)=false:=zY.mpr c7;have c7b1 : (a0_0 != 1)=true:=zZ.mpr c7
 by_cases c17 : a0_0=2
 ·
  rw [if_pos c17] at H
  have c17b0 : (a0_0 == 2)=true:=ya.mpr c17;have c17b1 : (a0_0 != 2)=false:=zX.mpr c17;clear c17;replace H:=zT.mp H;obtain ⟨t181,A180,H⟩:=H;replace H : (some t181)=some r:=H;have A18:=zh A180;clear A180;obtain rfl:=zU H
  go_enter Tryd.func9,Tryd.ntmps9
  go_wp2_with (first|((with_reducible refine zK (N:=1) rfl ?_);refine zI ?hg (N:=1) ?hd (cs:=#[.int .i64 a0_0,.int .i64 a0_1,.string a0_2]) (t:=27) ?hr ?_;(case hd|hg => rfl);(case hr => go_simp <;> rfl);intro gb177 hg w19 hbox hb;have BK177:=zh (hbox);have hH_:=cH (by repeat (with_reducible first|exact HB.out|apply za|apply zb|apply zc)) hb hg;have GW177:=zh hH_.1;have GE177:=GW177;replace HB:=zh hH_.2;clear hb hbox hg hH_)|((with_reducible refine zK (N:=10) rfl ?_);refine Kd.R_lit Kd.string _ 9 ?hg (N:=10) ?hd (xs:=([] : List ByteArray)) (inner:=[]) (ok:=fun _ => True) (okp:=fun _ => True) ?hr ?hp (fun _ hk => hk) trivial (Below.refl _ _) (ye _) (by simp) ?_;(case hd|hg => rfl);(case hr => go_simp <;> rfl);(case hp => exact (Reps.none _ _));intro v179 w20 ho21 hb hg_ hnew_;clear hg_ hnew_;(first|rw [← Ny178.out] at ho21|(simp only [Int.reduceToNat] at ho21;rw [← Ny178.out] at ho21));have HO180:=zh (yy ho21 (zB (by repeat (with_reducible first|exact HB.out|apply za|apply zb|apply zc|refine zd ?_ GE177.out))));replace BK177:=zh (cD BK177.out (by (with_reducible repeat first|apply ze|apply zf|apply zg);exact BK177.out) hb);replace HB:=zh (zC (by repeat (with_reducible first|exact HB.out|apply za|apply zb|apply zc|refine zd ?_ GE177.out)) hb);clear hb ho21;obtain ⟨hcz22_0,hcz22_1,hcz22_2,hfz22_0,hfz22_1,hfz22_2⟩:=cB3 BK177.out)|((with_reducible refine zJ (f:=13) rfl ?_);refine yj (some 24) rfl rfl Tryd.func13 (by kernel_rfl) rfl #[.int .i64 a0_1] rfl (by (try simp only [zt,zu,zv]);first|done|rfl|(simp only [zw,zx];rfl)|(simp only [yr,ys,zV,zW];rfl)) ?_;(with_reducible refine (Fe.calls k  a0_1 t181 _ A18.out).mono ?_);rintro e w23 ⟨rfl,hb⟩;refine ⟨_,rfl,?_⟩;replace HO180:=zh (yg (by (with_reducible repeat (first|apply zm|apply zn|apply zo));exact HO180.out) hb);replace BK177:=zh (cD BK177.out (by (with_reducible repeat first|apply ze|apply zf|apply zg);exact BK177.out) hb);replace HB:=zh (zC (by repeat (with_reducible first|exact HB.out|apply za|apply zb|apply zc|refine zd ?_ GE177.out)) hb);(try clear hb);(try clear hb2);(try clear hk);(try clear hi)))
  go_ret
  exact ⟨by first|rfl|(simp [yt,yu] <;> rfl)|(simp [*,yt,yu] <;> rfl),by repeat (with_reducible first|exact HB.out|apply za|apply zb|apply zc|refine zd ?_ GE177.out)⟩
 rw [if_neg c17] at H;have c17b0 : (a0_0 == 2)=false:=zY.mpr c17;have c17b1 : (a0_0 != 2)=true:=zZ.mpr c17
 by_cases c24 : a0_0=3
 ·
  rw [if_pos c24] at H
  have c24b0 : (a0_0 == 3)=true:=ya.mpr c24;have c24b1 : (a0_0 != 3)=false:=zX.mpr c24;clear c24
  by_cases c25 : 1 + a0_2.size≤9223372036854775807
  ·
   rw [if_pos c25] at H
   have c25b0:=eq_true c25;have c25b1 : decide (1 + a0_2.size≤9223372036854775807)=true:=decide_eq_true c25
   try have c25b2 : (9223372036854775807<1 + a0_2.size)=False:=eq_false (Nat.not_lt.2 c25)
   by_cases c26 : ((⟨#[39]⟩ : ByteArray) ++ a0_2).size + 1≤9223372036854775807
   ·
    rw [if_pos c26] at H
    have c26b0:=eq_true c26;have c26b1 : decide (((⟨#[39]⟩ : ByteArray) ++ a0_2).size + 1≤9223372036854775807)=true:=decide_eq_true c26
    try have c26b2 : (9223372036854775807<((⟨#[39]⟩ : ByteArray) ++ a0_2).size + 1)=False:=eq_false (Nat.not_lt.2 c26)
    (try have c26b4:=c26b2;simp only [ByteArray.size_append,show (⟨#[39]⟩ : ByteArray).size=1 from rfl] at c26b4);obtain rfl:=zU H
    go_enter Tryd.func9,Tryd.ntmps9
    go_wp2_with (first|((with_reducible refine zK (N:=1) rfl ?_);refine zI ?hg (N:=1) ?hd (cs:=#[.int .i64 a0_0,.int .i64 a0_1,.string a0_2]) (t:=27) ?hr ?_;(case hd|hg => rfl);(case hr => go_simp <;> rfl);intro gb177 hg w27 hbox hb;have BK177:=zh (hbox);have hH_:=cH (by repeat (with_reducible first|exact HB.out|apply za|apply zb|apply zc)) hb hg;have GW177:=zh hH_.1;have GE177:=GW177;replace HB:=zh hH_.2;clear hb hbox hg hH_)|((with_reducible refine zK (N:=10) rfl ?_);refine Kd.R_lit Kd.string _ 9 ?hg (N:=10) ?hd (xs:=([] : List ByteArray)) (inner:=[]) (ok:=fun _ => True) (okp:=fun _ => True) ?hr ?hp (fun _ hk => hk) trivial (Below.refl _ _) (ye _) (by simp) ?_;(case hd|hg => rfl);(case hr => go_simp <;> rfl);(case hp => exact (Reps.none _ _));intro v179 w28 ho29 hb hg_ hnew_;clear hg_ hnew_;(first|rw [← Ny178.out] at ho29|(simp only [Int.reduceToNat] at ho29;rw [← Ny178.out] at ho29));have HO180:=zh (yy ho29 (zB (by repeat (with_reducible first|exact HB.out|apply za|apply zb|apply zc|refine zd ?_ GE177.out))));replace BK177:=zh (cD BK177.out (by (with_reducible repeat first|apply ze|apply zf|apply zg);exact BK177.out) hb);replace HB:=zh (zC (by repeat (with_reducible first|exact HB.out|apply za|apply zb|apply zc|refine zd ?_ GE177.out)) hb);clear hb ho29;obtain ⟨hcz30_0,hcz30_1,hcz30_2,hfz30_0,hfz30_1,hfz30_2⟩:=cB3 BK177.out))
    go_ret
    exact ⟨by first|rfl|(simp [yt,yu] <;> rfl)|(simp [*,yt,yu] <;> rfl),by repeat (with_reducible first|exact HB.out|apply za|apply zb|apply zc|refine zd ?_ GE177.out)⟩
   rw [if_neg c26] at H;exact absurd H (by simp)
  rw [if_neg c25] at H;exact absurd H (by simp)
 rw [if_neg c24] at H;have c24b0 : (a0_0 == 3)=false:=zY.mpr c24;have c24b1 : (a0_0 != 3)=true:=zZ.mpr c24
 by_cases c31 : a0_0=4
 ·
  rw [if_pos c31] at H
  have c31b0 : (a0_0 == 4)=true:=ya.mpr c31;have c31b1 : (a0_0 != 4)=false:=zX.mpr c31;clear c31;replace H:=zT.mp H;obtain ⟨⟨t182,t183⟩,A320,H⟩:=H;replace H : (F3.l0 k y178 t182 0)=some r:=H;have A32:=zh A320;clear A320;have H':=zh H;clear H
  go_enter Tryd.func9,Tryd.ntmps9
  go_wp2_with (first|((with_reducible refine zK (N:=1) rfl ?_);refine zI ?hg (N:=1) ?hd (cs:=#[.int .i64 a0_0,.int .i64 a0_1,.string a0_2]) (t:=27) ?hr ?_;(case hd|hg => rfl);(case hr => go_simp <;> rfl);intro gb177 hg w33 hbox hb;have BK177:=zh (hbox);have hH_:=cH (by repeat (with_reducible first|exact HB.out|apply za|apply zb|apply zc)) hb hg;have GW177:=zh hH_.1;have GE177:=GW177;replace HB:=zh hH_.2;clear hb hbox hg hH_)|((with_reducible refine zK (N:=10) rfl ?_);refine Kd.R_lit Kd.string _ 9 ?hg (N:=10) ?hd (xs:=([] : List ByteArray)) (inner:=[]) (ok:=fun _ => True) (okp:=fun _ => True) ?hr ?hp (fun _ hk => hk) trivial (Below.refl _ _) (ye _) (by simp) ?_;(case hd|hg => rfl);(case hr => go_simp <;> rfl);(case hp => exact (Reps.none _ _));intro v179 w34 ho35 hb hg_ hnew_;clear hg_ hnew_;(first|rw [← Ny178.out] at ho35|(simp only [Int.reduceToNat] at ho35;rw [← Ny178.out] at ho35));have HO180:=zh (yy ho35 (zB (by repeat (with_reducible first|exact HB.out|apply za|apply zb|apply zc|refine zd ?_ GE177.out))));replace BK177:=zh (cD BK177.out (by (with_reducible repeat first|apply ze|apply zf|apply zg);exact BK177.out) hb);replace HB:=zh (zC (by repeat (with_reducible first|exact HB.out|apply za|apply zb|apply zc|refine zd ?_ GE177.out)) hb);clear hb ho35;obtain ⟨hcz36_0,hcz36_1,hcz36_2,hfz36_0,hfz36_1,hfz36_2⟩:=cB3 BK177.out)|((with_reducible refine zJ (f:=14) rfl ?_);refine yj (some 36) rfl rfl Tryd.func14 (by kernel_rfl) rfl #[.string a0_2] rfl (by (try simp only [zt,zu,zv]);first|done|rfl|(simp only [zw,zx];rfl)|(simp only [yr,ys,zV,zW];rfl)) ?_;(with_reducible refine (Fd.calls k  a0_2 t182 t183 _ A32.out).mono ?_);rintro e w37 ⟨v184,rfl,ho0,hb⟩;refine ⟨_,rfl,?_⟩;replace HO180:=zh (yg (by (with_reducible repeat (first|apply zm|apply zn|apply zo));exact HO180.out) hb);have HO185:=zh (yy (Kd.R_newB ho0 (g:=gb177) (o:=.cells #[.int .i64 a0_0,.int .i64 a0_1,.string a0_2] 27 (0,0)) (by (with_reducible repeat first|apply ze|apply zf|apply zg);exact BK177.out)) (zB (by repeat (with_reducible first|exact HB.out|apply za|apply zb|apply zc|refine zd ?_ GE177.out))));replace BK177:=zh (cD BK177.out (by (with_reducible repeat first|apply ze|apply zf|apply zg);exact BK177.out) hb);replace HB:=zh (zC (by repeat (with_reducible first|exact HB.out|apply za|apply zb|apply zc|refine zd ?_ GE177.out)) hb);(try clear hb);(try clear hb2);(try clear hk);(try clear hi);(try clear ho0)))
  go_loopg [3,6] k (fun kq v3 v6 w' => ∃ (x3_1 : List ByteArray) (x6_1 : Int),v6 = .int .i64 x6_1∧Aside0 (F3.l0 kq x3_1 t182 x6_1=some r)∧Aside0 (kq≤k)∧Aside0 (Kd.R Kd.string 9 w' w.heap.size (fun _ => True) v3 x3_1)∧Aside0 (Kd.R k27 27 w' w.heap.size (fun k_ => k_≠gb177) v184 t182)∧Aside0 (w'.heap[gb177]? = some (.cells #[.int .i64 a0_0,.int .i64 a0_1,.string a0_2] 27 (0,0)))∧Aside0 (Below w.heap.size w w'))
  case atStart => exact ⟨(y178),(0),(by first|rfl|(simp;done)|(simp [*];done)),H',⟨ye _⟩,⟨by (with_reducible repeat (first|apply zm|apply zn|apply zo));exact HO180.out⟩,⟨by (with_reducible repeat (first|apply zm|apply zn|apply zo));exact zM HO185.out (fun _ hk => hk.2)⟩,⟨by (with_reducible repeat first|apply ze|apply zf|apply zg);exact BK177.out⟩,⟨by repeat (with_reducible first|exact HB.out|apply za|apply zb|apply zc|refine zd ?_ GE177.out)⟩⟩
  case round =>
   clear H'
   try clear c1 c2 c2b0 c2b1
   try clear p2
   try clear c3 c7 c7b0 c7b1 c8 c8b0 c8b1 c9 c13 c14 c17 c17b0 c17b1 c24 c24b0 c24b1 c25 c25b0 c25b1 c25b2 c26 c26b0 c26b1 c26b2 c31 c31b0 c31b1
   try clear hcz12_0 hcz12_1 hcz12_2
   try clear hcz16_0 hcz16_1 hcz16_2
   try clear hcz22_0 hcz22_1 hcz22_2
   try clear hcz30_0 hcz30_1 hcz30_2
   try clear hcz36_0 hcz36_1 hcz36_2
   try clear hcz6_0 hcz6_1 hcz6_2
   try clear hfz12_0 hfz12_1 hfz12_2
   try clear hfz16_0 hfz16_1 hfz16_2
   try clear hfz22_0 hfz22_1 hfz22_2
   try clear hfz30_0 hfz30_1 hfz30_2
   try clear hfz36_0 hfz36_1 hfz36_2
   try clear hfz6_0 hfz6_1 hfz6_2
   obtain ⟨x3_1,x6_1,rfl,HA,HK1,HO_3,HO_4,BK177,HB⟩:=hrel
   cases gk with
   | zero => exact absurd HA.out (by simp [F3.l0])
   | succ k1 =>
    have H:=HA.out;clear HA;simp only [F3.l0] at H
    by_cases c38 : x6_1<(t182.length : Int)
    ·
     rw [if_pos c38] at H
     have c38b0 : decide (x6_1<(t182.length : Int))=true:=decide_eq_true c38;clear c38
     by_cases c39 : 0≤x6_1
     ·
      rw [if_pos c39] at H
      have c39b0 : decide (0≤x6_1)=true:=decide_eq_true c39;clear c39;replace H:=zT.mp H;obtain ⟨t187,A400,H⟩:=H;replace H : (if x3_1.length<8796093022208 then (F3.l0 k1 (x3_1 ++ [t187]) t182 (wrap64 (x6_1 + 1))) else (none))=some r:=H;have A40:=zh A400;clear A400
      by_cases c41 : x3_1.length<8796093022208
      ·
       rw [if_pos c41] at H
       have LMc41:=zh c41;clear c41;obtain ⟨y188,hy188⟩ : ∃ y_ : List ByteArray,y_=(x3_1 ++ [t187]):=⟨_,rfl⟩;replace H : (F3.l0 k1 y188 t182 (wrap64 (x6_1 + 1)))=some r:=by first|(rw [hy188];with_reducible exact H)|(have H2_:=(Option.bind_some _ _).symm.trans H;rw [hy188];with_reducible exact H2_)|(have H2_:=(Option.bind_some _ _).symm.trans H;with_reducible exact H2_)|with_reducible exact H|(rw [hy188];exact H)|exact H
       have Ny188:=zh hy188;clear hy188;have H':=zh H;clear H;obtain ⟨Ao42,co42,eo42⟩:=yk HO_4.out;subst eo42;have p186 : 0≤(x6_1 : Int):=zy (by first|(with_reducible assumption)|assumption);have q186 : x6_1<(t182.length : Int):=zy (by first|(with_reducible assumption)|assumption);obtain ⟨ad186,e186,hx186_0,hx186_1,hx186_2⟩:=at_T27 (yh HO_4.out).2.2 x6_1 p186 q186
       cases e186
       replace p186:=eq_true p186;replace q186:=eq_true q186
       go_wp2_with (first|((with_reducible refine zJ (f:=9) rfl ?_);refine yj (some 50) rfl rfl Tryd.func9 (by kernel_rfl) rfl #[.agg #[.int .i64 ((rd_T27 t182 x6_1).f0),.int .i64 ((rd_T27 t182 x6_1).f1),.string ((rd_T27 t182 x6_1).f2)]] rfl (by (try simp only [zt,zu,zv]);first|done|rfl|(simp only [zw,zx];rfl)|(simp only [yr,ys,zV,zW];rfl)) ?_;(with_reducible refine (ih k1 (by have:=HK1.out;omega)  ((rd_T27 t182 x6_1).f0) ((rd_T27 t182 x6_1).f1) ((rd_T27 t182 x6_1).f2) t187 _ A40.out).mono ?_);rintro e w43 ⟨rfl,hb⟩;refine ⟨_,rfl,?_⟩;replace HO_3:=zh (yg (by (with_reducible repeat (first|apply zm|apply zn|apply zo));exact HO_3.out) hb);replace HO_4:=zh (yg (by (with_reducible repeat (first|apply zm|apply zn|apply zo));exact HO_4.out) hb);replace BK177:=zh (cD BK177.out (by (with_reducible repeat first|apply ze|apply zf|apply zg);exact BK177.out) hb);replace HB:=zh (zC (by repeat (with_reducible first|exact HB.out|apply za|apply zb|apply zc|refine zd ?_ GE177.out)) hb);(try clear hb);(try clear hb2);(try clear hk);(try clear hi))|((with_reducible refine yB (b:=.append) (xs:=#[.tmp 45,.tmp 51]) rfl ?_);at_builtin;refine Kd.R_append Kd.string (w0:=w) w.heap.size rfl (.tmp 45) (.tmp 51) 33 9 (.string ⟨#[]⟩) 16 rfl Tryd.underlying33 info9 rfl (by decide) (by omega) u3 x3_1 t187 [.string t187] (fun _ => True) (fun _ => False) rfl rfl ?aP (fun _ hk => hk.elim) ?aF ?aO ?aB ?aS ?aL ?_;(case aP => exact rfl);(case aB => exact (by repeat (with_reducible first|exact HB.out|apply za|apply zb|apply zc|refine zd ?_ GE177.out)));(case aF => exact (fun _ _ => trivial));(case aO => exact (by (with_reducible repeat (first|apply zm|apply zn|apply zo));exact HO_3.out));(case aS => exact (zB (by repeat (with_reducible first|exact HB.out|apply za|apply zb|apply zc|refine zd ?_ GE177.out))));(case aL => have:=LMc41.out;omega);intro v189 w44 ho hb hg hat;rw [← Ny188.out] at ho;replace HO_4:=zh (Kd.R_over' (by (with_reducible repeat (first|apply zm|apply zn|apply zo));exact HO_4.out) (Kd.R_typed (by (with_reducible repeat (first|apply zm|apply zn|apply zo));exact HO_3.out)) (by decide) hg);replace BK177:=zh (yw (g:=gb177) (o:=.cells #[.int .i64 a0_0,.int .i64 a0_1,.string a0_2] 27 (0,0)) (by (with_reducible repeat first|apply ze|apply zf|apply zg);exact BK177.out) hg (Kd.R_ne HO_3.out BK177.out (by decide)));replace HB:=zh (hb);have HO190:=zh (ho);clear HO_3 ho hb hg hat))
       go_roundg k1
       case measure => have:=HK1.out;omega
       case rel => exact ⟨(y188),(wrap64 (x6_1 + 1)),(by first|rfl|(simp;done)|(simp [*];done)),H',⟨by have:=HK1.out;omega⟩,⟨by (with_reducible repeat (first|apply zm|apply zn|apply zo));exact HO190.out⟩,⟨by (with_reducible repeat (first|apply zm|apply zn|apply zo));exact HO_4.out⟩,⟨by (with_reducible repeat first|apply ze|apply zf|apply zg);exact BK177.out⟩,⟨by repeat (with_reducible first|exact HB.out|apply za|apply zb|apply zc|refine zd ?_ GE177.out)⟩⟩
      rw [if_neg c41] at H;exact absurd H (by simp)
     rw [if_neg c39] at H;exact absurd H (by simp)
    rw [if_neg c38] at H;have c38b0 : decide (x6_1<(t182.length : Int))=false:=decide_eq_false c38;clear c38;replace H:=zT.mp H;obtain ⟨t191,A450,H⟩:=H;replace H : (if 1 + t191.size≤9223372036854775807 then (if ((⟨#[91]⟩ : ByteArray) ++ t191).size + 1≤9223372036854775807 then (some (((⟨#[91]⟩ : ByteArray) ++ t191) ++ (⟨#[93]⟩ : ByteArray))) else (none)) else (none))=some r:=H;have A45:=zh A450;clear A450
    by_cases c46 : 1 + t191.size≤9223372036854775807
    ·
     rw [if_pos c46] at H
     have c46b0:=eq_true c46;have c46b1 : decide (1 + t191.size≤9223372036854775807)=true:=decide_eq_true c46
     try have c46b2 : (9223372036854775807<1 + t191.size)=False:=eq_false (Nat.not_lt.2 c46)
     by_cases c47 : ((⟨#[91]⟩ : ByteArray) ++ t191).size + 1≤9223372036854775807
     ·
      rw [if_pos c47] at H
      have c47b0:=eq_true c47;have c47b1 : decide (((⟨#[91]⟩ : ByteArray) ++ t191).size + 1≤9223372036854775807)=true:=decide_eq_true c47
      try have c47b2 : (9223372036854775807<((⟨#[91]⟩ : ByteArray) ++ t191).size + 1)=False:=eq_false (Nat.not_lt.2 c47)
      (try have c47b4:=c47b2;simp only [ByteArray.size_append,show (⟨#[91]⟩ : ByteArray).size=1 from rfl] at c47b4);obtain rfl:=zU H;obtain ⟨Ao48,co48,eo48⟩:=yk HO_4.out;subst eo48;obtain ⟨Ao49,co49,eo49⟩:=yk HO_3.out;subst eo49
      go_wp2_with (first|((with_reducible refine zJ (f:=15) rfl ?_);refine yj (some 54) rfl rfl Tryd.func15 (by kernel_rfl) rfl #[.slice Ao49 x3_1.length co49,.string (⟨#[44]⟩ : ByteArray)] rfl (by (try simp only [zt,zu,zv]);first|done|rfl|(simp only [zw,zx];rfl)|(simp only [yr,ys,zV,zW];rfl)) ?_;(with_reducible refine (Fi.calls k1  _ _ x3_1 (⟨#[44]⟩ : ByteArray) t191 _ ?side1 ?side2 A45.out).mono ?_);(case side1 => repeat (first|exact (yh HO_3.out).2.2|(with_reducible refine Kd.C_alloc ?_ _)|(with_reducible refine Kd.C_drewN ?_ _)|(with_reducible refine Kd.C_drew ?_)));(case side2 => exact (yh HO_3.out).2.1);rintro e w' ⟨rfl,⟨nd,rfl⟩⟩;refine ⟨_,rfl,?_⟩))
      go_ret
      exact ⟨by first|rfl|(simp [yt,yu] <;> rfl)|(simp [*,yt,yu] <;> rfl),by repeat (with_reducible first|exact HB.out|apply za|apply zb|apply zc|refine zd ?_ GE177.out)⟩
     rw [if_neg c47] at H;exact absurd H (by simp)
    rw [if_neg c46] at H;exact absurd H (by simp)
 rw [if_neg c31] at H;have c31b0 : (a0_0 == 4)=false:=zY.mpr c31;have c31b1 : (a0_0 != 4)=true:=zZ.mpr c31;replace H:=zT.mp H;obtain ⟨⟨t192,t193⟩,A500,H⟩:=H;replace H : (F3.l1 k y178 t192 0)=some r:=H;have A50:=zh A500;clear A500;have H':=zh H;clear H
 go_enter Tryd.func9,Tryd.ntmps9
 go_wp2_with (first|((with_reducible refine zK (N:=1) rfl ?_);refine zI ?hg (N:=1) ?hd (cs:=#[.int .i64 a0_0,.int .i64 a0_1,.string a0_2]) (t:=27) ?hr ?_;(case hd|hg => rfl);(case hr => go_simp <;> rfl);intro gb177 hg w51 hbox hb;have BK177:=zh (hbox);have hH_:=cH (by repeat (with_reducible first|exact HB.out|apply za|apply zb|apply zc)) hb hg;have GW177:=zh hH_.1;have GE177:=GW177;replace HB:=zh hH_.2;clear hb hbox hg hH_)|((with_reducible refine zK (N:=10) rfl ?_);refine Kd.R_lit Kd.string _ 9 ?hg (N:=10) ?hd (xs:=([] : List ByteArray)) (inner:=[]) (ok:=fun _ => True) (okp:=fun _ => True) ?hr ?hp (fun _ hk => hk) trivial (Below.refl _ _) (ye _) (by simp) ?_;(case hd|hg => rfl);(case hr => go_simp <;> rfl);(case hp => exact (Reps.none _ _));intro v179 w52 ho53 hb hg_ hnew_;clear hg_ hnew_;(first|rw [← Ny178.out] at ho53|(simp only [Int.reduceToNat] at ho53;rw [← Ny178.out] at ho53));have HO180:=zh (yy ho53 (zB (by repeat (with_reducible first|exact HB.out|apply za|apply zb|apply zc|refine zd ?_ GE177.out))));replace BK177:=zh (cD BK177.out (by (with_reducible repeat first|apply ze|apply zf|apply zg);exact BK177.out) hb);replace HB:=zh (zC (by repeat (with_reducible first|exact HB.out|apply za|apply zb|apply zc|refine zd ?_ GE177.out)) hb);clear hb ho53;obtain ⟨hcz54_0,hcz54_1,hcz54_2,hfz54_0,hfz54_1,hfz54_2⟩:=cB3 BK177.out)|((with_reducible refine zJ (f:=16) rfl ?_);refine yj (some 60) rfl rfl Tryd.func16 (by kernel_rfl) rfl #[.string a0_2] rfl (by (try simp only [zt,zu,zv]);first|done|rfl|(simp only [zw,zx];rfl)|(simp only [yr,ys,zV,zW];rfl)) ?_;(with_reducible refine (Fc.calls k  a0_2 t192 t193 _ A50.out).mono ?_);rintro e w55 ⟨v194,rfl,ho0,hb⟩;refine ⟨_,rfl,?_⟩;replace HO180:=zh (yg (by (with_reducible repeat (first|apply zm|apply zn|apply zo));exact HO180.out) hb);have HO195:=zh (yy ho0 (zB (by repeat (with_reducible first|exact HB.out|apply za|apply zb|apply zc|refine zd ?_ GE177.out))));replace BK177:=zh (cD BK177.out (by (with_reducible repeat first|apply ze|apply zf|apply zg);exact BK177.out) hb);replace HB:=zh (zC (by repeat (with_reducible first|exact HB.out|apply za|apply zb|apply zc|refine zd ?_ GE177.out)) hb);(try clear hb);(try clear hb2);(try clear hk);(try clear hi);(try clear ho0)))
 go_loopg [3,9] k (fun kq v3 v9 w' => ∃ (x3_1 : List ByteArray) (x9_1 : Int),v9 = .int .i64 x9_1∧Aside0 (F3.l1 kq x3_1 t192 x9_1=some r)∧Aside0 (kq≤k)∧Aside0 (Kd.R Kd.string 9 w' w.heap.size (fun _ => True) v3 x3_1)∧Aside0 (Kd.R k43 43 w' w.heap.size (fun _ => True) v194 t192)∧Aside0 (w'.heap[gb177]? = some (.cells #[.int .i64 a0_0,.int .i64 a0_1,.string a0_2] 27 (0,0)))∧Aside0 (Below w.heap.size w w'))
 case atStart => exact ⟨(y178),(0),(by first|rfl|(simp;done)|(simp [*];done)),H',⟨ye _⟩,⟨by (with_reducible repeat (first|apply zm|apply zn|apply zo));exact HO180.out⟩,⟨by (with_reducible repeat (first|apply zm|apply zn|apply zo));exact HO195.out⟩,⟨by (with_reducible repeat first|apply ze|apply zf|apply zg);exact BK177.out⟩,⟨by repeat (with_reducible first|exact HB.out|apply za|apply zb|apply zc|refine zd ?_ GE177.out)⟩⟩
 case round =>
  clear H'
  try clear c1
  try clear p1
  try clear q1
  try clear hx1
  try clear c2 c2b0 c2b1
  try clear p2
  try clear c3 c4
  try clear p6
  try clear c7 c7b0 c7b1 c8 c8b0 c8b1 c9 c13 c14 c15 c16 c17 c17b0 c17b1
  try clear p18
  try clear q18
  try clear hx18
  try clear c24 c24b0 c24b1 c25 c25b0 c25b1 c25b2 c26 c26b0 c26b1 c26b2 c31 c31b0 c31b1 c38 c38b0 c39 c39b0 c41 c46 c46b0 c46b1 c46b2 c47 c47b0 c47b1 c47b2
  try clear hcz12_0 hcz12_1 hcz12_2
  try clear hcz16_0 hcz16_1 hcz16_2
  try clear hcz22_0 hcz22_1 hcz22_2
  try clear hcz30_0 hcz30_1 hcz30_2
  try clear hcz36_0 hcz36_1 hcz36_2
  try clear hcz54_0 hcz54_1 hcz54_2
  try clear hcz6_0 hcz6_1 hcz6_2
  try clear hfz12_0 hfz12_1 hfz12_2
  try clear hfz16_0 hfz16_1 hfz16_2
  try clear hfz22_0 hfz22_1 hfz22_2
  try clear hfz30_0 hfz30_1 hfz30_2
  try clear hfz36_0 hfz36_1 hfz36_2
  try clear hfz54_0 hfz54_1 hfz54_2
  try clear hfz6_0 hfz6_1 hfz6_2
  try clear hx186_0
  try clear hx186_1
  try clear hx186_2
  try clear p186
  try clear p2
  try clear q186
  obtain ⟨x3_1,x9_1,rfl,HA,HK1,HO_3,HO_7,BK177,HB⟩:=hrel
  cases gk with
  | zero => exact absurd HA.out (by simp [F3.l1])
  | succ k1 =>
   have H:=HA.out;clear HA;simp only [F3.l1] at H
   by_cases c56 : x9_1<(t192.length : Int)
   ·
    rw [if_pos c56] at H
    have c56b0 : decide (x9_1<(t192.length : Int))=true:=decide_eq_true c56;clear c56
    by_cases c57 : 0≤x9_1
    ·
     rw [if_pos c57] at H
     have c57b0 : decide (0≤x9_1)=true:=decide_eq_true c57;clear c57
     by_cases c58 : ((rd_T43 t192 x9_1).f0).size + 1≤9223372036854775807
     ·
      rw [if_pos c58] at H
      have c58b0:=eq_true c58;have c58b1 : decide (((rd_T43 t192 x9_1).f0).size + 1≤9223372036854775807)=true:=decide_eq_true c58
      try have c58b2 : (9223372036854775807<((rd_T43 t192 x9_1).f0).size + 1)=False:=eq_false (Nat.not_lt.2 c58)
      replace H:=zT.mp H;obtain ⟨t198,A590,H⟩:=H;replace H : (if (((rd_T43 t192 x9_1).f0) ++ (⟨#[58]⟩ : ByteArray)).size + t198.size≤9223372036854775807 then (if x3_1.length<8796093022208 then (F3.l1 k1 (x3_1 ++ [(((rd_T43 t192 x9_1).f0) ++ (⟨#[58]⟩ : ByteArray)) ++ t198]) t192 (wrap64 (x9_1 + 1))) else (none)) else (none))=some r:=H;have A59:=zh A590;clear A590
      by_cases c60 : (((rd_T43 t192 x9_1).f0) ++ (⟨#[58]⟩ : ByteArray)).size + t198.size≤9223372036854775807
      ·
       rw [if_pos c60] at H
       have c60b0:=eq_true c60;have c60b1 : decide ((((rd_T43 t192 x9_1).f0) ++ (⟨#[58]⟩ : ByteArray)).size + t198.size≤9223372036854775807)=true:=decide_eq_true c60
       try have c60b2 : (9223372036854775807<(((rd_T43 t192 x9_1).f0) ++ (⟨#[58]⟩ : ByteArray)).size + t198.size)=False:=eq_false (Nat.not_lt.2 c60)
       (try have c60b4:=c60b2;simp only [ByteArray.size_append,show (⟨#[58]⟩ : ByteArray).size=1 from rfl] at c60b4)
       by_cases c61 : x3_1.length<8796093022208
       ·
        rw [if_pos c61] at H
        have LMc61:=zh c61;clear c61;obtain ⟨y199,hy199⟩ : ∃ y_ : List ByteArray,y_=(x3_1 ++ [(((rd_T43 t192 x9_1).f0) ++ (⟨#[58]⟩ : ByteArray)) ++ t198]):=⟨_,rfl⟩;replace H : (F3.l1 k1 y199 t192 (wrap64 (x9_1 + 1)))=some r:=by first|(rw [hy199];with_reducible exact H)|(have H2_:=(Option.bind_some _ _).symm.trans H;rw [hy199];with_reducible exact H2_)|(have H2_:=(Option.bind_some _ _).symm.trans H;with_reducible exact H2_)|with_reducible exact H|(rw [hy199];exact H)|exact H
        have Ny199:=zh hy199;clear hy199;have H':=zh H;clear H;obtain ⟨Ao62,co62,eo62⟩:=yk HO_7.out;subst eo62
        try go_wp2
        replace HO_3:=zh (zo HO_3.out);replace HO_7:=zh (zo HO_7.out);replace BK177:=zh (zf BK177.out);replace HB:=zh (zc HB.out);have p196 : 0≤(x9_1 : Int):=zy (by first|(with_reducible assumption)|assumption);have q196 : x9_1<(t192.length : Int):=zy (by first|(with_reducible assumption)|assumption);obtain ⟨ad196,e196,hx196_0,hx196_1,hx196_2,hx196_3⟩:=at_T43 (yh HO_7.out).2.2 x9_1 p196 q196
        cases e196
        replace p196:=eq_true p196;replace q196:=eq_true q196;have p197 : 0≤(x9_1 : Int):=zy (by first|(with_reducible assumption)|assumption);have q197 : x9_1<(t192.length : Int):=zy (by first|(with_reducible assumption)|assumption);obtain ⟨ad197,e197,hx197_0,hx197_1,hx197_2,hx197_3⟩:=at_T43 (yh HO_7.out).2.2 x9_1 p197 q197;obtain rfl : ad196=ad197:=(by injection e197);replace p197:=eq_true p197;replace q197:=eq_true q197;refine start_ (n:=17) (S:=fun w' => w'.cell? (ad196.add ((x9_1).toNat * 4))=some (.string ((rd_T43 t192 x9_1).f0))∧w'.cell? ⟨(ad196.add ((x9_1).toNat * 4)).block,(ad196.add ((x9_1).toNat * 4)).off + 1,none⟩=some (.int .i64 ((rd_T43 t192 x9_1).f1.f0))∧w'.cell? ⟨(ad196.add ((x9_1).toNat * 4)).block,(ad196.add ((x9_1).toNat * 4)).off + 2,none⟩=some (.int .i64 ((rd_T43 t192 x9_1).f1.f1))∧w'.cell? ⟨(ad196.add ((x9_1).toNat * 4)).block,(ad196.add ((x9_1).toNat * 4)).off + 3,none⟩=some (.string ((rd_T43 t192 x9_1).f1.f2))∧w'.cell? (ad196.add ((x9_1).toNat * 4))=some (.string ((rd_T43 t192 x9_1).f0))∧w'.cell? ⟨(ad196.add ((x9_1).toNat * 4)).block,(ad196.add ((x9_1).toNat * 4)).off + 1,none⟩=some (.int .i64 ((rd_T43 t192 x9_1).f1.f0))∧w'.cell? ⟨(ad196.add ((x9_1).toNat * 4)).block,(ad196.add ((x9_1).toNat * 4)).off + 2,none⟩=some (.int .i64 ((rd_T43 t192 x9_1).f1.f1))∧w'.cell? ⟨(ad196.add ((x9_1).toNat * 4)).block,(ad196.add ((x9_1).toNat * 4)).off + 3,none⟩=some (.string ((rd_T43 t192 x9_1).f1.f2))) (ds:=[14,15]) (bm_ 0 17) (by kernel_rfl) rfl rfl ⟨hx196_0,hx196_1,hx196_2,hx196_3,hx197_0,hx197_1,hx197_2,hx197_3⟩ (fun hHeld => ?_);refine with_tabW F3.tab24 F3.bits24 (fun HT_ HW_ => ?_);generalize wr.drew=w63 at HO_3 HO_7 BK177 HB hx196_0 hx196_1 hx196_2 hx196_3 hx197_0 hx197_1 hx197_2 hx197_3 hHeld ⊢;refine pure_ (i:=0) (N:=some 69) (v:=?_) (a':=?_) (bm_ 1 17) rfl rfl (any_of HT_.out (by kernel_rfl)) (fun _ _ _ h => h) (Or.inl ⟨by rfl,?_⟩) ?_ ?_;rotate_left
        ·
         intro w'
         go_simp
         with_reducible rfl
        rotate_left
        ·
         simp only [Act.put,zi,zj,zk,zG,zH]
         rfl
        refine pure_ (i:=1) (N:=some 70) (v:=?_) (a':=?_) (bm_ 2 17) rfl rfl (any_of HT_.out (by kernel_rfl)) (fun _ _ _ h => h) (Or.inl ⟨by rfl,?_⟩) ?_ ?_;rotate_left
        ·
         intro w'
         go_simp
         with_reducible rfl
        rotate_left
        ·
         simp only [Act.put,zi,zj,zk,zG,zH]
         rfl
        refine pure_ (i:=2) (N:=some 71) (v:=?_) (a':=?_) (bm_ 3 17) rfl rfl (any_of HT_.out (by kernel_rfl)) (fun _ _ _ h => h) (Or.inl ⟨by rfl,?_⟩) ?_ ?_;rotate_left
        ·
         intro w'
         go_simp
         with_reducible rfl
        rotate_left
        ·
         simp only [Act.put,zi,zj,zk,zG,zH]
         rfl
        refine pure_ (i:=3) (N:=some 72) (v:=?_) (a':=?_) (bm_ 4 17) rfl rfl (any_of HT_.out (by kernel_rfl)) (fun _ _ _ h => h) (Or.inl ⟨by rfl,?_⟩) ?_ ?_;rotate_left
        ·
         intro w'
         go_simp
         with_reducible rfl
        rotate_left
        ·
         simp only [Act.put,zi,zj,zk,zG,zH]
         rfl
        refine pure_ (i:=4) (N:=some 73) (v:=?_) (a':=?_) (bm_ 5 17) rfl rfl (any_of HT_.out (by kernel_rfl)) (fun _ _ _ h => h) (Or.inl ⟨by rfl,?_⟩) ?_ ?_;rotate_left
        ·
         intro w'
         go_simp
         with_reducible rfl
        rotate_left
        ·
         simp only [Act.put,zi,zj,zk,zG,zH]
         rfl
        refine pure_ (i:=7) (N:=some 76) (v:=?_) (a':=?_) #[true,true,true,true,true,false,false,true,false,false,false,false,false,false,false,false,false] rfl rfl (any_of HT_.out (by kernel_rfl)) (fun _ _ _ h => h) (Or.inl ⟨by rfl,?_⟩) ?_ ?_;rotate_left
        ·
         intro w'
         go_simp
         with_reducible rfl
        rotate_left
        ·
         simp only [Act.put,zi,zj,zk,zG,zH]
         rfl
        refine pure_ (i:=8) (N:=some 77) (v:=?_) (a':=?_) #[true,true,true,true,true,false,false,true,true,false,false,false,false,false,false,false,false] rfl rfl (any_of HT_.out (by kernel_rfl)) (fun _ _ _ h => h) (Or.inl ⟨by rfl,?_⟩) ?_ ?_;rotate_left
        ·
         intro w'
         go_simp
         with_reducible rfl
        rotate_left
        ·
         simp only [Act.put,zi,zj,zk,zG,zH]
         rfl
        refine pure_ (i:=9) (N:=some 78) (v:=?_) (a':=?_) #[true,true,true,true,true,false,false,true,true,true,false,false,false,false,false,false,false] rfl rfl (any_of HT_.out (by kernel_rfl)) (fun _ _ _ h => h) (Or.inl ⟨by rfl,?_⟩) ?_ ?_;rotate_left
        ·
         intro w'
         go_simp
         with_reducible rfl
        rotate_left
        ·
         simp only [Act.put,zi,zj,zk,zG,zH]
         rfl
        refine pure_ (i:=10) (N:=some 79) (v:=?_) (a':=?_) #[true,true,true,true,true,false,false,true,true,true,true,false,false,false,false,false,false] rfl rfl (any_of HT_.out (by kernel_rfl)) (fun _ _ _ h => h) (Or.inl ⟨by rfl,?_⟩) ?_ ?_;rotate_left
        ·
         intro w'
         go_simp
         with_reducible rfl
        rotate_left
        ·
         simp only [Act.put,zi,zj,zk,zG,zH]
         rfl
        refine take_ (i:=5) (N:=some 74) (v:=?_) (a':=?_) #[true,true,true,true,true,true,false,true,true,true,true,false,false,false,false,false,false] rfl rfl (yo HT_.out HW_.out (by kernel_rfl)) (fun _ _ _ h => h) (Or.inl ⟨by rfl,?_⟩) hHeld ?_ ?_;rotate_left
        ·
         rintro w' ⟨s0,s1,s2,s3,s4,s5,s6,s7⟩
         go_simp
         with_reducible rfl
        rotate_left
        ·
         simp only [Act.put,zi,zj,zk,zG,zH]
         rfl
        refine pure_ (i:=6) (N:=some 75) (v:=?_) (a':=?_) (bm_ 11 17) rfl rfl (any_of HT_.out (by kernel_rfl)) (fun _ _ _ h => h) (Or.inl ⟨by rfl,?_⟩) ?_ ?_;rotate_left
        ·
         intro w'
         go_simp
         with_reducible rfl
        rotate_left
        ·
         simp only [Act.put,zi,zj,zk,zG,zH]
         rfl
        refine take_ (i:=11) (N:=some 80) (v:=?_) (a':=?_) (bm_ 12 17) rfl rfl (yo HT_.out HW_.out (by kernel_rfl)) (fun _ _ _ h => h) (Or.inl ⟨by rfl,?_⟩) hHeld ?_ ?_;rotate_left
        ·
         rintro w' ⟨s0,s1,s2,s3,s4,s5,s6,s7⟩
         go_simp
         with_reducible rfl
        rotate_left
        ·
         simp only [Act.put,zi,zj,zk,zG,zH]
         rfl
        refine one_ (i:=12) (N:=some 81) (bm_ 13 17) rfl rfl (one_of HT_.out (by kernel_rfl)) (by decide) (fun K hK => ?_);refine goes_ Tryd.func9 (by kernel_rfl) rfl #[.agg #[.int .i64 ((rd_T43 t192 x9_1).f1.f0),.int .i64 ((rd_T43 t192 x9_1).f1.f1),.string ((rd_T43 t192 x9_1).f1.f2)]] (by rfl) rfl rfl (by (try simp only [zt,zu,zv]);first|done|rfl|(simp only [zw,zx];rfl)|(simp only [yr,ys,zV,zW];rfl)) ?_
        with_reducible refine (ih k1 (by have:=HK1.out;omega)  ((rd_T43 t192 x9_1).f1.f0) ((rd_T43 t192 x9_1).f1.f1) ((rd_T43 t192 x9_1).f1.f2) t198 _ A59.out).mono ?_
        rintro e w64 ⟨rfl,hb⟩;have HS0_:=(hb.cell (zl _ _ (hHeld.1))).trans (hHeld.1);have HS1_:=(hb.cell (zl _ _ (hHeld.2.1))).trans (hHeld.2.1);have HS2_:=(hb.cell (zl _ _ (hHeld.2.2.1))).trans (hHeld.2.2.1);have HS3_:=(hb.cell (zl _ _ (hHeld.2.2.2.1))).trans (hHeld.2.2.2.1);have HS4_:=(hb.cell (zl _ _ (hHeld.2.2.2.2.1))).trans (hHeld.2.2.2.2.1);have HS5_:=(hb.cell (zl _ _ (hHeld.2.2.2.2.2.1))).trans (hHeld.2.2.2.2.2.1);have HS6_:=(hb.cell (zl _ _ (hHeld.2.2.2.2.2.2.1))).trans (hHeld.2.2.2.2.2.2.1);have HS7_:=(hb.cell (zl _ _ (hHeld.2.2.2.2.2.2.2))).trans (hHeld.2.2.2.2.2.2.2);refine ⟨_,rfl,?_⟩;replace HO_3:=zh (yg (by (with_reducible repeat (first|apply zm|apply zn|apply zo));exact HO_3.out) hb);replace HO_7:=zh (yg (by (with_reducible repeat (first|apply zm|apply zn|apply zo));exact HO_7.out) hb);replace BK177:=zh (cD BK177.out (by (with_reducible repeat first|apply ze|apply zf|apply zg);exact BK177.out) hb);replace HB:=zh (zC (by repeat (with_reducible first|exact HB.out|apply za|apply zb|apply zc|refine zd ?_ GE177.out)) hb);(try clear hb);(try clear hb2);(try clear hk);(try clear hi);refine hK.out _ _ ⟨HS0_,HS1_,HS2_,HS3_,HS4_,HS5_,HS6_,HS7_⟩ (fun hHeld => ?_);clear hK K;refine norm_ (a':=?_) ?_ ?_;rotate_left
        ·
         show Act.put _ (some 81) _=_
         simp only [Act.put,zi,zj,zk,zG,zH]
         rfl
        refine pure_ (i:=13) (N:=some 82) (v:=?_) (a':=?_) (bm_ 14 17) rfl rfl (any_of HT_.out (by kernel_rfl)) (fun _ _ _ h => h) (Or.inl ⟨by rfl,?_⟩) ?_ ?_;rotate_left
        ·
         intro w'
         go_simp
         with_reducible rfl
        rotate_left
        ·
         simp only [Act.put,zi,zj,zk,zG,zH]
         rfl
        refine last_ (i:=14) (N:=some 83) (bm_ 15 17) rfl rfl (one_of HT_.out (by kernel_rfl)) (by decide) (fun K hK => ?_);refine value_ (w1:=?_) (v:=?_) (by rfl) rfl ?_ ?_;rotate_left 2
        ·
         go_simp
         constructor
         ·
          rfl
         rfl
        refine hK.out _ _ ?_;clear hK K;refine norm_ (a':=?_) ?_ ?_;rotate_left
        ·
         show Act.put _ (some 83) _=_
         simp only [Act.put,zi,zj,zk,zG,zH]
         rfl
        refine last_ (i:=15) (N:=some 84) (bm_ 16 17) rfl rfl (one_of HT_.out (by kernel_rfl)) (by decide) (fun K hK => ?_);refine Kd.R_append_step Kd.string (w0:=w) w.heap.size (by rfl) (.tmp 69) (.tmp 83) 33 9 (.string ⟨#[]⟩) 16 rfl Tryd.underlying33 info9 rfl (by decide) (by omega) u3 x3_1 ((((rd_T43 t192 x9_1).f0) ++ (⟨#[58]⟩ : ByteArray)) ++ t198) [.string ((((rd_T43 t192 x9_1).f0) ++ (⟨#[58]⟩ : ByteArray)) ++ t198)] (fun _ => True) (fun _ => False) rfl rfl ?aP (fun _ hk => hk.elim) ?aF ?aO ?aB ?aS ?aL ?_;(case aP => exact rfl)
        (case aB => exact (by repeat (with_reducible first|exact HB.out|apply za|apply zb|apply zc|refine zd ?_ GE177.out)))
        (case aF => exact (fun _ _ => trivial))
        (case aO => exact (by (with_reducible repeat (first|apply zm|apply zn|apply zo));exact HO_3.out))
        (case aS => exact (zB (by repeat (with_reducible first|exact HB.out|apply za|apply zb|apply zc|refine zd ?_ GE177.out))))
        (case aL => have:=LMc61.out;omega)
        intro v200 w65 ho hb hg hat;rw [← Ny199.out] at ho;replace HO_7:=zh (Kd.R_over' (by (with_reducible repeat (first|apply zm|apply zn|apply zo));exact HO_7.out) (Kd.R_typed (by (with_reducible repeat (first|apply zm|apply zn|apply zo));exact HO_3.out)) (by decide) hg);replace BK177:=zh (yw (g:=gb177) (o:=.cells #[.int .i64 a0_0,.int .i64 a0_1,.string a0_2] 27 (0,0)) (by (with_reducible repeat first|apply ze|apply zf|apply zg);exact BK177.out) hg (Kd.R_ne HO_3.out BK177.out (by decide)));replace HB:=zh (hb);have HO201:=zh (ho);clear HO_3 ho hb hg hat;refine hK.out _ _ ?_;clear hK K;refine norm_ (a':=?_) ?_ ?_;rotate_left
        ·
         show Act.put _ (some 84) _=_
         simp only [Act.put,zi,zj,zk,zG,zH]
         rfl
        refine pure_ (i:=16) (N:=some 3) (v:=?_) (a':=?_) (bm_ 17 17) rfl rfl (any_of HT_.out (by kernel_rfl)) (fun _ _ _ h => h) (Or.inl ⟨by rfl,?_⟩) ?_ ?_;rotate_left
        ·
         intro w'
         go_simp
         with_reducible rfl
        rotate_left
        ·
         simp only [Act.put,zi,zj,zk,zG,zH]
         rfl
        refine done_ (done_of HT_.out (by kernel_rfl)) ?_
        try go_wp2
        go_roundg k1
        case measure => have:=HK1.out;omega
        case rel => exact ⟨(y199),(wrap64 (x9_1 + 1)),(by first|rfl|(simp;done)|(simp [*];done)),H',⟨by have:=HK1.out;omega⟩,⟨by (with_reducible repeat (first|apply zm|apply zn|apply zo));exact HO201.out⟩,⟨by (with_reducible repeat (first|apply zm|apply zn|apply zo));exact HO_7.out⟩,⟨by (with_reducible repeat first|apply ze|apply zf|apply zg);exact BK177.out⟩,⟨by repeat (with_reducible first|exact HB.out|apply za|apply zb|apply zc|refine zd ?_ GE177.out)⟩⟩
       rw [if_neg c61] at H;exact absurd H (by simp)
      rw [if_neg c60] at H;exact absurd H (by simp)
     rw [if_neg c58] at H;exact absurd H (by simp)
    rw [if_neg c57] at H;exact absurd H (by simp)
   rw [if_neg c56] at H;have c56b0 : decide (x9_1<(t192.length : Int))=false:=decide_eq_false c56;clear c56;replace H:=zT.mp H;obtain ⟨t202,A660,H⟩:=H;replace H : (if 1 + t202.size≤9223372036854775807 then (if ((⟨#[123]⟩ : ByteArray) ++ t202).size + 1≤9223372036854775807 then (some (((⟨#[123]⟩ : ByteArray) ++ t202) ++ (⟨#[125]⟩ : ByteArray))) else (none)) else (none))=some r:=H;have A66:=zh A660;clear A660
   by_cases c67 : 1 + t202.size≤9223372036854775807
   ·
    rw [if_pos c67] at H
    have c67b0:=eq_true c67;have c67b1 : decide (1 + t202.size≤9223372036854775807)=true:=decide_eq_true c67
    try have c67b2 : (9223372036854775807<1 + t202.size)=False:=eq_false (Nat.not_lt.2 c67)
    by_cases c68 : ((⟨#[123]⟩ : ByteArray) ++ t202).size + 1≤9223372036854775807
    ·
     rw [if_pos c68] at H
     have c68b0:=eq_true c68;have c68b1 : decide (((⟨#[123]⟩ : ByteArray) ++ t202).size + 1≤9223372036854775807)=true:=decide_eq_true c68
     try have c68b2 : (9223372036854775807<((⟨#[123]⟩ : ByteArray) ++ t202).size + 1)=False:=eq_false (Nat.not_lt.2 c68)
     (try have c68b4:=c68b2;simp only [ByteArray.size_append,show (⟨#[123]⟩ : ByteArray).size=1 from rfl] at c68b4);obtain rfl:=zU H;obtain ⟨Ao69,co69,eo69⟩:=yk HO_7.out;subst eo69;obtain ⟨Ao70,co70,eo70⟩:=yk HO_3.out;subst eo70
     go_wp2_with (first|((with_reducible refine zJ (f:=15) rfl ?_);refine yj (some 86) rfl rfl Tryd.func15 (by kernel_rfl) rfl #[.slice Ao70 x3_1.length co70,.string (⟨#[44]⟩ : ByteArray)] rfl (by (try simp only [zt,zu,zv]);first|done|rfl|(simp only [zw,zx];rfl)|(simp only [yr,ys,zV,zW];rfl)) ?_;(with_reducible refine (Fi.calls k1  _ _ x3_1 (⟨#[44]⟩ : ByteArray) t202 _ ?side1 ?side2 A66.out).mono ?_);(case side1 => repeat (first|exact (yh HO_3.out).2.2|(with_reducible refine Kd.C_alloc ?_ _)|(with_reducible refine Kd.C_drewN ?_ _)|(with_reducible refine Kd.C_drew ?_)));(case side2 => exact (yh HO_3.out).2.1);rintro e w' ⟨rfl,⟨nd,rfl⟩⟩;refine ⟨_,rfl,?_⟩))
     go_ret
     exact ⟨by first|rfl|(simp [yt,yu] <;> rfl)|(simp [*,yt,yu] <;> rfl),by repeat (with_reducible first|exact HB.out|apply za|apply zb|apply zc|refine zd ?_ GE177.out)⟩
    rw [if_neg c68] at H;exact absurd H (by simp)
   rw [if_neg c67] at H;exact absurd H (by simp)

end Go.Proofs.YtjaknpeeopkojaaDoor.Q
end
section
namespace Go.Proofs.YtjaknpeeopkojaaDoor.Q
open Go.RowKit Go.Proofs.YtjaknpeeopkojaaDoorW.PrintWords Go.Proofs.YtjaknpeeopkojaaDoorW.PrintLast Go.Proofs.YtjaknpeeopkojaaDoorW.PrintMore
attribute [local go_sem] max2_int min2_int max_two min_two max_three min_three max_four min_four max2_str min2_str str_geq str_gtr str_leq
set_option linter.unusedVariables false
set_option linter.unusedSimpArgs false

def Fq.f (k : Nat) (a0_0 : Int) (a0_1 : Int) (a0_2 : ByteArray) : Option (ByteArray×Int):=(Ft.f k a0_0 a0_1 a0_2).bind fun t204 => (if t204=true then ((F3.f k a0_0 a0_1 a0_2).bind fun t205 => (some (t205,0))) else (some ((⟨#[]⟩ : ByteArray),1)))
theorem Fq.mono : ∀ a0 a1 a2 k,LeO (Fq.f k a0 a1 a2) (Fq.f (k + 1) a0 a1 a2):=by
 intro a0 a1 a2 k;unfold Fq.f
 repeat' first|(with_reducible first|exact Ft.mono _ _ _ _|exact F3.mono _ _ _ _|exact zQ _|exact zN _|refine zP ?_ ?_|refine zO ?_ (fun _ => ?_))|refine zP ?_ ?_|refine zO ?_ (fun _ => ?_)
set_option maxHeartbeats 8000000 in
set_option maxRecDepth 100000 in
theorem Fq.calls (k : Nat) (a0_0 : Int) (a0_1 : Int) (a0_2 : ByteArray) (r1 : ByteArray) (r2 : Int) (w : World) (h : Fq.f k a0_0 a0_1 a0_2=some (r1,r2)) :
  Calls Tryd.prog 5 #[.agg #[.int .i64 a0_0,.int .i64 a0_1,.string a0_2]] w fun e w' => e = .returned (.tuple #[.string r1,.int .i64 r2])∧Below w.heap.size w w':=by
 have hu27:=Tryd.underlying27;have HB:=zh (Below.refl w.heap.size w);have H : ((Ft.f k a0_0 a0_1 a0_2).bind fun t204 => (if t204=true then ((F3.f k a0_0 a0_1 a0_2).bind fun t205 => (some (t205,0))) else (some ((⟨#[]⟩ : ByteArray),1))))=some (r1,r2):=h;clear h;replace H:=zT.mp H;obtain ⟨t204,A20,H⟩:=H;replace H : (if t204=true then ((F3.f k a0_0 a0_1 a0_2).bind fun t205 => (some (t205,0))) else (some ((⟨#[]⟩ : ByteArray),1)))=some (r1,r2):=H;have A2:=zh A20;clear A20
 by_cases c3 : t204=true
 ·
  subst c3
  have H1 : ((F3.f k a0_0 a0_1 a0_2).bind fun t205 => (some (t205,0)))=some (r1,r2):=by rw [if_pos rfl] at H;exact H
  clear H;have H:=H1;clear H1;replace H:=zT.mp H;obtain ⟨t205,A40,H⟩:=H;replace H : (some (t205,0))=some (r1,r2):=H;have A4:=zh A40;clear A40;simp only [Option.some.injEq,Prod.mk.injEq] at H;obtain ⟨rfl,rfl⟩:=H
  go_enter Tryd.func5,Tryd.ntmps5
  go_wp2_with (first|((with_reducible refine zK (N:=1) rfl ?_);refine zI ?hg (N:=1) ?hd (cs:=#[.int .i64 a0_0,.int .i64 a0_1,.string a0_2]) (t:=27) ?hr ?_;(case hd|hg => rfl);(case hr => go_simp <;> rfl);intro gb203 hg w5 hbox hb;have BK203:=zh (hbox);have hH_:=cH (by repeat (with_reducible first|exact HB.out|apply za|apply zb|apply zc)) hb hg;have GW203:=zh hH_.1;have GE203:=GW203;replace HB:=zh hH_.2;clear hb hbox hg hH_;obtain ⟨hcz6_0,hcz6_1,hcz6_2,hfz6_0,hfz6_1,hfz6_2⟩:=cB3 BK203.out)|((with_reducible refine zJ (f:=8) rfl ?_);refine yj (some 5) rfl rfl Tryd.func8 (by kernel_rfl) rfl #[.agg #[.int .i64 a0_0,.int .i64 a0_1,.string a0_2]] rfl (by (try simp only [zt,zu,zv]);first|done|rfl|(simp only [zw,zx];rfl)|(simp only [yr,ys,zV,zW];rfl)) ?_;(with_reducible refine (Ft.calls k  a0_0 a0_1 a0_2 true _ A2.out).mono ?_);rintro e w7 ⟨rfl,hb⟩;refine ⟨_,rfl,?_⟩;replace BK203:=zh (cD BK203.out (by (with_reducible repeat first|apply ze|apply zf|apply zg);exact BK203.out) hb);replace HB:=zh (zC (by repeat (with_reducible first|exact HB.out|apply za|apply zb|apply zc|refine zd ?_ GE203.out)) hb);(try clear hb);(try clear hb2);(try clear hk);(try clear hi);obtain ⟨hcz8_0,hcz8_1,hcz8_2,hfz8_0,hfz8_1,hfz8_2⟩:=cB3 BK203.out)|((with_reducible refine zJ (f:=9) rfl ?_);refine yj (some 8) rfl rfl Tryd.func9 (by kernel_rfl) rfl #[.agg #[.int .i64 a0_0,.int .i64 a0_1,.string a0_2]] rfl (by (try simp only [zt,zu,zv]);first|done|rfl|(simp only [zw,zx];rfl)|(simp only [yr,ys,zV,zW];rfl)) ?_;(with_reducible refine (F3.calls k  a0_0 a0_1 a0_2 t205 _ A4.out).mono ?_);rintro e w9 ⟨rfl,hb⟩;refine ⟨_,rfl,?_⟩;replace BK203:=zh (cD BK203.out (by (with_reducible repeat first|apply ze|apply zf|apply zg);exact BK203.out) hb);replace HB:=zh (zC (by repeat (with_reducible first|exact HB.out|apply za|apply zb|apply zc|refine zd ?_ GE203.out)) hb);(try clear hb);(try clear hb2);(try clear hk);(try clear hi)))
  go_ret2
  exact ⟨by first|rfl|(simp [yt,yu] <;> rfl)|(simp [*,yt,yu] <;> rfl),by repeat (with_reducible first|exact HB.out|apply za|apply zb|apply zc|refine zd ?_ GE203.out)⟩
 replace c3:=yb.mpr c3;subst c3;have H1 : (some ((⟨#[]⟩ : ByteArray),1))=some (r1,r2):=by rw [if_neg (show ¬ (false=true) by decide)] at H;exact H
 clear H;have H:=H1;clear H1;simp only [Option.some.injEq,Prod.mk.injEq] at H;obtain ⟨rfl,rfl⟩:=H
 go_enter Tryd.func5,Tryd.ntmps5
 go_wp2_with (first|((with_reducible refine zK (N:=1) rfl ?_);refine zI ?hg (N:=1) ?hd (cs:=#[.int .i64 a0_0,.int .i64 a0_1,.string a0_2]) (t:=27) ?hr ?_;(case hd|hg => rfl);(case hr => go_simp <;> rfl);intro gb203 hg w10 hbox hb;have BK203:=zh (hbox);have hH_:=cH (by repeat (with_reducible first|exact HB.out|apply za|apply zb|apply zc)) hb hg;have GW203:=zh hH_.1;have GE203:=GW203;replace HB:=zh hH_.2;clear hb hbox hg hH_;obtain ⟨hcz11_0,hcz11_1,hcz11_2,hfz11_0,hfz11_1,hfz11_2⟩:=cB3 BK203.out)|((with_reducible refine zJ (f:=8) rfl ?_);refine yj (some 5) rfl rfl Tryd.func8 (by kernel_rfl) rfl #[.agg #[.int .i64 a0_0,.int .i64 a0_1,.string a0_2]] rfl (by (try simp only [zt,zu,zv]);first|done|rfl|(simp only [zw,zx];rfl)|(simp only [yr,ys,zV,zW];rfl)) ?_;(with_reducible refine (Ft.calls k  a0_0 a0_1 a0_2 false _ A2.out).mono ?_);rintro e w12 ⟨rfl,hb⟩;refine ⟨_,rfl,?_⟩;replace BK203:=zh (cD BK203.out (by (with_reducible repeat first|apply ze|apply zf|apply zg);exact BK203.out) hb);replace HB:=zh (zC (by repeat (with_reducible first|exact HB.out|apply za|apply zb|apply zc|refine zd ?_ GE203.out)) hb);(try clear hb);(try clear hb2);(try clear hk);(try clear hi)))
 go_ret2
 exact ⟨by first|rfl|(simp [yt,yu] <;> rfl)|(simp [*,yt,yu] <;> rfl),by repeat (with_reducible first|exact HB.out|apply za|apply zb|apply zc|refine zd ?_ GE203.out)⟩


def Fp.f (a0_0 : Int) (a0_1 : Int) (a0_2 : ByteArray) : Option (Int×Int×ByteArray):=some (a0_0,a0_1,a0_2)
set_option maxHeartbeats 8000000 in
set_option maxRecDepth 100000 in
theorem Fp.calls (a0_0 : Int) (a0_1 : Int) (a0_2 : ByteArray) (r1 : Int) (r2 : Int) (r3 : ByteArray) (w : World) (h : Fp.f a0_0 a0_1 a0_2=some (r1,r2,r3)) :
  Calls Tryd.prog 6 #[.agg #[.int .i64 a0_0,.int .i64 a0_1,.string a0_2]] w fun e w' => e = .returned (.agg #[.int .i64 r1,.int .i64 r2,.string r3])∧Below w.heap.size w w':=by
 have hu23:=Tryd.underlying23;have hu27:=Tryd.underlying27;have HB:=zh (Below.refl w.heap.size w);have H : (some (a0_0,a0_1,a0_2))=some (r1,r2,r3):=h;clear h;simp only [Option.some.injEq,Prod.mk.injEq] at H;obtain ⟨rfl,rfl,rfl⟩:=H
 go_enter Tryd.func6,Tryd.ntmps6
 go_wp2_with (first|((with_reducible refine zK (N:=1) rfl ?_);refine zI ?hg (N:=1) ?hd (cs:=#[.int .i64 a0_0,.int .i64 a0_1,.string a0_2]) (t:=23) ?hr ?_;(case hd|hg => rfl);(case hr => go_simp <;> rfl);intro gb206 hg w2 hbox hb;have BK206:=zh (hbox);have hH_:=cH (by repeat (with_reducible first|exact HB.out|apply za|apply zb|apply zc)) hb hg;have GW206:=zh hH_.1;have GE206:=GW206;replace HB:=zh hH_.2;clear hb hbox hg hH_)|((with_reducible refine zK (N:=2) rfl ?_);refine zI ?hg (N:=2) ?hd (cs:=#[.int .i64 0,.int .i64 0,.string (⟨#[]⟩ : ByteArray)]) (t:=27) ?hr ?_;(case hd|hg => rfl);(case hr => go_simp <;> rfl);intro gb207 hg w3 hbox hb;have BK207:=zh (hbox);have hH_:=cH (by repeat (with_reducible first|exact HB.out|apply za|apply zb|apply zc|refine zd ?_ GE206.out)) hb hg;have GW207:=zh hH_.1;have GE207:=GW207;replace HB:=zh hH_.2;have NB206_207:=zh ((by rw [hg];exact yc (yi (g:=gb206) (o:=.cells #[.int .i64 a0_0,.int .i64 a0_1,.string a0_2] 23 (0,0)) (by (with_reducible repeat first|apply ze|apply zf|apply zg);exact BK206.out)) : gb206≠gb207));have NB207_206:=zh NB206_207.out.symm;replace BK206:=zh (cD BK206.out (by (with_reducible repeat first|apply ze|apply zf|apply zg);exact BK206.out) hb);clear hb hbox hg hH_)|((with_reducible refine zK (N:=3) rfl ?_);refine zI ?hg (N:=3) ?hd (cs:=#[.int .i64 0,.int .i64 0,.string (⟨#[]⟩ : ByteArray)]) (t:=27) ?hr ?_;(case hd|hg => rfl);(case hr => go_simp <;> rfl);intro gb208 hg w4 hbox hb;have BK208:=zh (hbox);have hH_:=cH (by repeat (with_reducible first|exact HB.out|apply za|apply zb|apply zc|refine zd ?_ GE206.out|refine zd ?_ GE207.out)) hb hg;have GW208:=zh hH_.1;have GE208:=GW208;replace HB:=zh hH_.2;have NB206_208:=zh ((by rw [hg];exact yc (yi (g:=gb206) (o:=.cells #[.int .i64 a0_0,.int .i64 a0_1,.string a0_2] 23 (0,0)) (by (with_reducible repeat first|apply ze|apply zf|apply zg);exact BK206.out)) : gb206≠gb208));have NB208_206:=zh NB206_208.out.symm;replace BK206:=zh (cD BK206.out (by (with_reducible repeat first|apply ze|apply zf|apply zg);exact BK206.out) hb);have NB207_208:=zh ((by rw [hg];exact yc (yi (g:=gb207) (o:=.cells #[.int .i64 0,.int .i64 0,.string (⟨#[]⟩ : ByteArray)] 27 (0,0)) (by (with_reducible repeat first|apply ze|apply zf|apply zg);exact BK207.out)) : gb207≠gb208));have NB208_207:=zh NB207_208.out.symm;replace BK207:=zh (cD BK207.out (by (with_reducible repeat first|apply ze|apply zf|apply zg);exact BK207.out) hb);clear hb hbox hg hH_;have hnb5:=NB206_207.out;have hnc5:=NB207_206.out;have hnb6:=NB206_208.out;have hnc6:=NB208_206.out;obtain ⟨hcz7_0,hcz7_1,hcz7_2,hfz7_0,hfz7_1,hfz7_2⟩:=cB3 BK206.out;have hnb8:=NB208_207.out;have hnc8:=NB207_208.out;obtain ⟨hcz9_0,hcz9_1,hcz9_2,hfz9_0,hfz9_1,hfz9_2⟩:=cB3 BK208.out;obtain ⟨hcz10_0,hcz10_1,hcz10_2,hfz10_0,hfz10_1,hfz10_2⟩:=cB3 BK207.out))
 refine bodyPost_ret (results_cell_row rfl _ _ gb207 27 #[.int .i64 a0_0,.int .i64 a0_1,.string a0_2] (0,0) _ rfl (by (with_reducible repeat first|apply ze|apply zf|apply zg);refine zL (cs:=#[.int .i64 a0_0,.int .i64 a0_1,.string (⟨#[]⟩ : ByteArray)]) ?_ 2 _ rfl;(with_reducible repeat first|apply ze|apply zf|apply zg);refine zL (cs:=#[.int .i64 a0_0,.int .i64 0,.string (⟨#[]⟩ : ByteArray)]) ?_ 1 _ rfl;(with_reducible repeat first|apply ze|apply zf|apply zg);refine zL (cs:=#[.int .i64 0,.int .i64 0,.string (⟨#[]⟩ : ByteArray)]) ?_ 0 _ rfl;(with_reducible repeat first|apply ze|apply zf|apply zg);refine cS3 ?_ NB207_208.out;(with_reducible repeat first|apply ze|apply zf|apply zg);exact BK207.out) Tryd.underlying27 rfl (by kernel_rfl)) rfl ?_;exact ⟨by first|rfl|(simp [yt,yu] <;> rfl)|(simp [*,yt,yu] <;> rfl),by repeat (with_reducible first|exact HB.out|apply za|apply zb|apply zc|refine zd ?_ GE206.out|refine zd ?_ GE207.out|refine zd ?_ GE208.out)⟩


def Fs.f (a0 : Int) (a1 : Int) (a2 : Int) : Option (Bool):=if a1≤a0 then (some (decide (a0≤a2))) else (some false)
set_option maxHeartbeats 8000000 in
set_option maxRecDepth 100000 in
theorem Fs.calls (a0 : Int) (a1 : Int) (a2 : Int) (r : Bool) (w : World) (h : Fs.f a0 a1 a2=some r) :
  Calls Tryd.prog 26 #[.int .i64 a0,.int .i64 a1,.int .i64 a2] w fun e w' => e = .returned (.bool r)∧Drawn0 w w':=by
 have H : (if a1≤a0 then (some (decide (a0≤a2))) else (some false))=some r:=h;clear h
 by_cases c4 : a1≤a0
 ·
  rw [if_pos c4] at H
  have c4b0 : decide (a1≤a0)=true:=decide_eq_true c4;clear c4;obtain rfl:=zU H
  go_enter Tryd.func26,Tryd.ntmps26
  go_wp2
  go_ret
  exact ⟨by first|rfl|(simp;done)|(simp [*];done),by repeat (first|exact yp _|apply yq)⟩
 rw [if_neg c4] at H;have c4b0 : decide (a1≤a0)=false:=decide_eq_false c4;clear c4;obtain rfl:=zU H
 go_enter Tryd.func26,Tryd.ntmps26
 go_wp2
 go_ret
 exact ⟨by first|rfl|(simp;done)|(simp [*];done),by repeat (first|exact yp _|apply yq)⟩


def F02.f (a0 : Int) : Option (Bool):=(Fs.f a0 (-1000000000000) 1000000000000).bind fun t209 => (some t209)
set_option maxHeartbeats 8000000 in
set_option maxRecDepth 100000 in
theorem F02.calls (a0 : Int) (r : Bool) (w : World) (h : F02.f a0=some r) :
  Calls Tryd.prog 27 #[.int .i64 a0] w fun e w' => e = .returned (.bool r)∧Drawn0 w w':=by
 have H : ((Fs.f a0 (-1000000000000) 1000000000000).bind fun t209 => (some t209))=some r:=h;clear h;replace H:=zT.mp H;obtain ⟨t209,A20,H⟩:=H;replace H : (some t209)=some r:=H;have A2:=zh A20;clear A20;obtain rfl:=zU H
 go_enter Tryd.func27,Tryd.ntmps27
 go_wp2_with (first|((with_reducible refine zJ (f:=26) rfl ?_);refine yj (some 4) rfl rfl Tryd.func26 (by kernel_rfl) rfl #[.int .i64 a0,.int .i64 (-1000000000000),.int .i64 1000000000000] rfl (by (try simp only [zt,zu,zv]);first|done|rfl|(simp only [zw,zx];rfl)|(simp only [yr,ys,zV,zW];rfl)) ?_;(with_reducible refine (Fs.calls  a0 (-1000000000000) 1000000000000 t209 _ A2.out).mono ?_);rintro e w' ⟨rfl,⟨nd,rfl⟩⟩;refine ⟨_,rfl,?_⟩))
 go_ret
 exact ⟨by first|rfl|(simp;done)|(simp [*];done),by repeat (first|exact yp _|apply yq)⟩


def strings_Repeat.f (a0 : ByteArray) (a1 : Int) : Option (ByteArray):=if 0≤a1 then (if a0.size * a1.toNat≤140737488355328 then (if a1≤9223372036854775807 then (some ⟨(Lib.repeatL a0.data.toList a1.toNat).toArray⟩) else (none)) else (none)) else (none)
theorem strings_Repeat.calls (a0 : ByteArray) (a1 : Int) (r : ByteArray) (w : World) (h : strings_Repeat.f a0 a1=some r) :
  Calls Tryd.prog 46 #[.string a0,.int .i64 a1] w fun e w' => e = .returned (.string r)∧Below w.heap.size w w':=by
 unfold strings_Repeat.f at h
 by_cases h0 : 0≤a1
 ·
  rw [if_pos h0] at h
  by_cases h1 : a0.size * a1.toNat≤140737488355328
  ·
   rw [if_pos h1] at h
   by_cases h2 : a1≤9223372036854775807
   ·
    rw [if_pos h2] at h
    obtain rfl:=zU h;have:=Tryd.strings_Repeat a0 a1.toNat w (by omega) h1;rw [Int.toNat_of_nonneg h0] at this;exact this
   rw [if_neg h2] at h;exact absurd h (by simp)
  rw [if_neg h1] at h;exact absurd h (by simp)
 rw [if_neg h0] at h;exact absurd h (by simp)


def IsS56 (w0 W : World) (g : Nat) (f0 : ByteArray) (f1 : Bool) : Prop:=W.heap[g]? = some (.cells #[.string f0,.bool f1] 56 (0,0))∧w0.heap.size≤g
theorem IsS56.grown {w0 W : World} {g : Nat} {f0 : ByteArray} {f1 : Bool} {W1 : World} {row : Option Nat} (h : IsS56 w0 W g f0 f1) (hw : W.grownBy W1 row) (hne : some g≠row) : IsS56 w0 W1 g f0 f1:=by
 obtain ⟨hb,hg⟩:=h;exact ⟨yw hb hw hne,hg⟩
theorem IsS56.fresh {w0 W : World} {g : Nat} {f0 : ByteArray} {f1 : Bool} (h : IsS56 w0 W g f0 f1) : ∀ k,W.heap.size≤k→k≠g:=by
 obtain ⟨hb,hg⟩:=h;exact Kd.freshB hb
theorem IsS56.kept {w0 W : World} {g : Nat} {f0 : ByteArray} {f1 : Bool} {W1 : World} {S : Nat→Prop} (h : IsS56 w0 W g f0 f1) (hk : Kept W W1 S) (hne : ¬ S g) : IsS56 w0 W1 g f0 f1:=by
 obtain ⟨hb,hg⟩:=h;exact ⟨blk_kept hb hk hne,hg⟩
theorem IsS56.below {w0 W : World} {g : Nat} {f0 : ByteArray} {f1 : Bool} {W1 : World} (h : IsS56 w0 W g f0 f1) (hw : Below W.heap.size W W1) : IsS56 w0 W1 g f0 f1:=h.grown (grown_of_below hw none) (by simp)
theorem IsS56.alloc {w0 W : World} {g : Nat} {f0 : ByteArray} {f1 : Bool} (h : IsS56 w0 W g f0 f1) (o : Obj) : IsS56 w0 (W.alloc o) g f0 f1:=h.below (za (Below.refl _ _) o)
theorem IsS56.drewN {w0 W : World} {g : Nat} {f0 : ByteArray} {f1 : Bool} (h : IsS56 w0 W g f0 f1) (m : Nat) : IsS56 w0 (W.drewN m) g f0 f1:=h
theorem IsS56.drew {w0 W : World} {g : Nat} {f0 : ByteArray} {f1 : Bool} (h : IsS56 w0 W g f0 f1) : IsS56 w0 W.drew g f0 f1:=h
theorem IsS56.at_ {w0 W : World} {g : Nat} {f0 : ByteArray} {f1 : Bool} {w' : World} {m : Nat} (hq : W.drewN m=w') (h : IsS56 w0 W g f0 f1) : IsS56 w0 w' g f0 f1:=by subst hq;exact IsS56.drewN h m
theorem IsS56.apart {w0 W : World} {g : Nat} {f0 : ByteArray} {f1 : Bool} {α : Type} {d : Kd α} {e : Nat} {base : Nat} {ok : Nat→Prop} {v : Value} {xs : List α} (h : IsS56 w0 W g f0 f1) (ho : d.R e W base ok v xs) (ht : ∀ q,q ∈ e :: d.E→q≠56) : d.R e W base (fun k => ok k∧k≠g) v xs:=by
 obtain ⟨hb,hg⟩:=h;exact yf ho hb ht
theorem IsS56.own_ne {w0 W : World} {g : Nat} {f0 : ByteArray} {f1 : Bool} {α : Type} {d : Kd α} {e : Nat} {base : Nat} {ok : Nat→Prop} {v : Value} {xs : List α} (h : IsS56 w0 W g f0 f1) (ho : d.R e W base ok v xs) (ht : e≠56) : some g≠v.ownBlock:=by
 obtain ⟨hb,hg⟩:=h;exact Kd.R_ne ho hb ht
theorem IsS56.lt {w0 W : World} {g : Nat} {f0 : ByteArray} {f1 : Bool} (h : IsS56 w0 W g f0 f1) : g<W.heap.size:=by
 obtain ⟨hb,hg⟩:=h;exact yi hb
theorem IsS56.ge {w0 W : World} {g : Nat} {f0 : ByteArray} {f1 : Bool} (h : IsS56 w0 W g f0 f1) : w0.heap.size≤g:=by
 obtain ⟨hb,hg⟩:=h;exact hg
theorem IsS56.far {w0 W : World} {g : Nat} {f0 : ByteArray} {f1 : Bool} {p : Addr} (h : IsS56 w0 W g f0 f1) (hne : g≠p.block) (u : Value) : IsS56 w0 (W.setCell p u) g f0 f1:=by
 obtain ⟨hb,hg⟩:=h;exact ⟨zS hb hne u,hg⟩
theorem cellS56_0 {W : World} {g : Nat} {f0 : ByteArray} {f1 : Bool} (h : W.heap[g]? = some (.cells #[.string f0,.bool f1] 56 (0,0))) : W.cell? ⟨g,0,none⟩=some (.string f0):=(zz h 0).trans rfl
theorem IsS56.set_0 {w0 W : World} {g : Nat} {f0 : ByteArray} {f1 : Bool} (h : IsS56 w0 W g f0 f1) (x : ByteArray) : IsS56 w0 (W.setCell ⟨g,0,none⟩ (.string x)) g x f1:=by
 obtain ⟨hb,hg⟩:=h;exact ⟨by simpa using blk_set hb 0 (.string x),hg⟩
theorem cellS56_1 {W : World} {g : Nat} {f0 : ByteArray} {f1 : Bool} (h : W.heap[g]? = some (.cells #[.string f0,.bool f1] 56 (0,0))) : W.cell? ⟨g,1,none⟩=some (.bool f1):=(zz h 1).trans rfl
theorem IsS56.set_1 {w0 W : World} {g : Nat} {f0 : ByteArray} {f1 : Bool} (h : IsS56 w0 W g f0 f1) (x : Bool) : IsS56 w0 (W.setCell ⟨g,1,none⟩ (.bool x)) g f0 x:=by
 obtain ⟨hb,hg⟩:=h;exact ⟨by simpa using blk_set hb 1 (.bool x),hg⟩
theorem IsS56.new (w0 W : World) (f0 : ByteArray) (f1 : Bool) (hB : Below w0.heap.size w0 W) : IsS56 w0 (W.alloc (.cells #[.string f0,.bool f1] 56)) W.heap.size f0 f1:=⟨by simpa using heap_alloc_new W _,hB.size⟩

def Fo.f (s0_0 : ByteArray) (s0_1 : Bool) (a1 : Int) : Option (ByteArray×ByteArray×Bool):=if a1 > (s0_0.size : Int) then ((strings_Repeat.f (⟨#[0]⟩ : ByteArray) a1).bind fun t213 => (some (t213,s0_0,true))) else (if 0≤a1 then (if a1≤(s0_0.size : Int) then (some (s0_0.extract 0 (a1 : Int).toNat,s0_0.extract (a1 : Int).toNat s0_0.size,s0_1)) else (none)) else (none))
set_option maxHeartbeats 8000000 in
set_option maxRecDepth 100000 in
theorem Fo.calls (g : Nat) (s0_0 : ByteArray) (s0_1 : Bool) (a1 : Int) (r1 : ByteArray) (r2 : ByteArray) (r3 : Bool) (w0 w : World) (hI : IsS56 w0 w g s0_0 s0_1) (hB : Below w0.heap.size w0 w) (h : Fo.f s0_0 s0_1 a1=some (r1,r2,r3)) :
  Calls Tryd.prog 37 #[.pointer (some ⟨g,0,none⟩),.int .i64 a1] w fun e w' => e = .returned (.string r1)∧IsS56 w0 w' g r2 r3∧Below w0.heap.size w0 w' ∧ KeepBut w w' g none:=by
 have HI0:=zh hI;have HK:=zh (KeepBut.refl w g none);have HL:=zh hB.size;clear hI;have HW0:=zh hB.size;have HB:=zh hB;clear hB;have H : (if a1 > (s0_0.size : Int) then ((strings_Repeat.f (⟨#[0]⟩ : ByteArray) a1).bind fun t213 => (some (t213,s0_0,true))) else (if 0≤a1 then (if a1≤(s0_0.size : Int) then (some (s0_0.extract 0 (a1 : Int).toNat,s0_0.extract (a1 : Int).toNat s0_0.size,s0_1)) else (none)) else (none)))=some (r1,r2,r3):=h;clear h
 by_cases c3 : a1 > (s0_0.size : Int)
 ·
  rw [if_pos c3] at H
  have c3b0 : decide ((s0_0.size : Int)<a1)=true:=decide_eq_true c3;clear c3;replace H:=zT.mp H;obtain ⟨t213,A40,H⟩:=H;replace H : (some (t213,s0_0,true))=some (r1,r2,r3):=H;have A4:=zh A40;clear A40;simp only [Option.some.injEq,Prod.mk.injEq] at H;obtain ⟨rfl,rfl,rfl⟩:=H;obtain ⟨HGz5,hgz5⟩:=HI0.out;have hcz5_0:=cellS56_0 HGz5;have hcz5_1:=cellS56_1 HGz5;have hfz5_0:=zA HGz5 0;have hfz5_1:=zA HGz5 1;clear HGz5 hgz5
  go_enter Tryd.func37,Tryd.ntmps37
  go_wp2_with (first|((with_reducible refine zJ (f:=46) rfl ?_);refine yj (some 17) rfl rfl Tryd.func46 (by kernel_rfl) rfl #[.string (⟨#[0]⟩ : ByteArray),.int .i64 a1] rfl (by (try simp only [zt,zu,zv]);first|done|rfl|(simp only [zw,zx];rfl)|(simp only [yr,ys,zV,zW];rfl)) ?_;(with_reducible refine (strings_Repeat.calls  (⟨#[0]⟩ : ByteArray) a1 t213 _ A4.out).mono ?_);rintro e w6 ⟨rfl,hb⟩;refine ⟨_,rfl,?_⟩;replace HK:=zh (KeepBut.trans (by repeat (with_reducible first|exact HK.out|apply yl|apply ym|apply yx|apply yn)) (KeepBut.of_below hb g none) (.inl rfl));replace HB:=zh (zC (by repeat (with_reducible first|exact HB.out|apply za|apply zb|apply zc|refine zd ?_ (IsS56.ge HI0.out))) hb);replace HI0:=zh (IsS56.below (show IsS56 w0 (w.setCell ⟨g,1,none⟩ (.bool true)) g s0_0 true from by repeat (with_reducible first|exact HI0.out|apply IsS56.alloc|apply IsS56.drewN|apply IsS56.drew|apply IsS56.set_0|apply IsS56.set_1)) hb);(try clear hb);(try clear hb2);(try clear hk);(try clear hi)))
  go_ret
  exact ⟨by first|rfl|(simp [yt,yu] <;> rfl)|(simp [*,yt,yu] <;> rfl),by repeat (with_reducible first|exact HI0.out|apply IsS56.alloc|apply IsS56.drewN|apply IsS56.drew|apply IsS56.set_0|apply IsS56.set_1),by repeat (with_reducible first|exact HB.out|apply za|apply zb|apply zc|refine zd ?_ (IsS56.ge HI0.out)),by repeat (with_reducible first|exact HK.out|apply yl|apply ym|apply yx|apply yn)⟩
 rw [if_neg c3] at H;have c3b0 : decide ((s0_0.size : Int)<a1)=false:=decide_eq_false c3;clear c3
 by_cases c7 : 0≤a1
 ·
  rw [if_pos c7] at H
  have c7b0:=eq_true c7;have c7b1 : decide (0≤a1)=true:=decide_eq_true c7;clear c7
  by_cases c8 : a1≤(s0_0.size : Int)
  ·
   rw [if_pos c8] at H
   have c8b0:=eq_true c8;have c8b1 : decide (a1≤(s0_0.size : Int))=true:=decide_eq_true c8;clear c8;have c9b0:=eq_true (zy (by first|(with_reducible assumption)|assumption) : 0≤a1);have c10b0:=eq_true (zy (by first|(with_reducible assumption)|assumption) : a1≤(s0_0.size : Int));simp only [Option.some.injEq,Prod.mk.injEq] at H;obtain ⟨rfl,rfl,rfl⟩:=H;obtain ⟨HGz11,hgz11⟩:=HI0.out;have hcz11_0:=cellS56_0 HGz11;have hcz11_1:=cellS56_1 HGz11;have hfz11_0:=zA HGz11 0;have hfz11_1:=zA HGz11 1;clear HGz11 hgz11
   go_enter Tryd.func37,Tryd.ntmps37
   go_wp2
   go_ret
   exact ⟨by first|rfl|(simp [yt,yu] <;> rfl)|(simp [*,yt,yu] <;> rfl),by repeat (with_reducible first|exact HI0.out|apply IsS56.alloc|apply IsS56.drewN|apply IsS56.drew|apply IsS56.set_0|apply IsS56.set_1),by repeat (with_reducible first|exact HB.out|apply za|apply zb|apply zc|refine zd ?_ (IsS56.ge HI0.out)),by repeat (with_reducible first|exact HK.out|apply yl|apply ym|apply yx|apply yn)⟩
  rw [if_neg c8] at H;exact absurd H (by simp)
 rw [if_neg c7] at H;exact absurd H (by simp)


def Fj.l0 : Nat→Int→List Int→Int→Int→Option (Int)
 | 0,_,_,_,_ => none
 | k + 1,x3,x6,x7,x8 => if x8<x7 then (if 0≤x8 then (if x8<(x6.length : Int) then (Fj.l0 k (Go.bits .or .i64 (wrap64 (x3 * 256)) (wrap64 (rd x6 x8))) x6 x7 (wrap64 (x8 + 1))) else (none)) else (none)) else (some x3)
def Fj.f (k : Nat) (l0 : List Int) : Option (Int):=Fj.l0 k 0 l0 (l0.length : Int) 0
theorem Fj.mono_l : ∀ k,(∀ y0 y1 y2 y3,LeO (Fj.l0 k y0 y1 y2 y3) (Fj.l0 (k + 1) y0 y1 y2 y3))
 | 0 => fun _ _ _ _ r h => by simp [Fj.l0] at h
 | k + 1 => by
  have ih0:=Fj.mono_l k;intro y0 y1 y2 y3;unfold Fj.l0
  repeat' first|(with_reducible first|exact ih0 _ _ _ _|exact zQ _|exact zN _|refine zP ?_ ?_|refine zO ?_ (fun _ => ?_))|refine zP ?_ ?_|refine zO ?_ (fun _ => ?_)
theorem Fj.mono : ∀ a0 k,LeO (Fj.f k a0) (Fj.f (k + 1) a0):=by
 intro a0 k;have ih0:=Fj.mono_l k;unfold Fj.f
 repeat' first|(with_reducible first|exact ih0 _ _ _ _|exact zQ _|exact zN _|refine zP ?_ ?_|refine zO ?_ (fun _ => ?_))|refine zP ?_ ?_|refine zO ?_ (fun _ => ?_)
set_option maxHeartbeats 8000000 in
set_option maxRecDepth 100000 in
theorem Fj.calls (k : Nat) (A0 : Option Addr) (c0 : Nat) (l0 : List Int) (r : Int) (w : World) (hr0 : Kd.C (Kd.int .u8) w A0 l0.length l0) (hc0 : l0.length≤c0) (h : Fj.f k l0=some r) :
  Calls Tryd.prog 47 #[.slice A0 l0.length c0] w fun e w' => e = .returned (.int .i64 r)∧Drawn0 w w':=by
 have HR0:=zh hr0;have HC0:=zh hc0;clear hr0 hc0;have H : (Fj.l0 k 0 l0 (l0.length : Int) 0)=some r:=h;clear h;have H':=zh H;clear H
 go_enter Tryd.func47,Tryd.ntmps47
 go_wp2
 go_loopg [3,8] k (fun kq v3 v8 w' => ∃ (x3_1 : Int) (x8_1 : Int),v3 = .int .i64 x3_1∧v8 = .int .i64 x8_1∧Aside0 (Fj.l0 kq x3_1 l0 (l0.length : Int) x8_1=some r)∧Aside0 (kq≤k)∧Drawn0 w w')
 case atStart => exact ⟨(0),(0),(by first|rfl|(simp;done)|(simp [*];done)),(by first|rfl|(simp;done)|(simp [*];done)),H',⟨ye _⟩,by repeat (first|exact yp _|apply yq)⟩
 case round =>
  clear H';obtain ⟨x3_1,x8_1,rfl,rfl,HA,HK1,⟨m1,rfl⟩⟩:=hrel
  cases gk with
  | zero => exact absurd HA.out (by simp [Fj.l0])
  | succ k1 =>
   have H:=HA.out;clear HA;simp only [Fj.l0] at H
   by_cases c2 : x8_1<(l0.length : Int)
   ·
    rw [if_pos c2] at H
    have c2b0 : decide (x8_1<(l0.length : Int))=true:=decide_eq_true c2;clear c2
    by_cases c3 : 0≤x8_1
    ·
     rw [if_pos c3] at H
     have c3b0 : decide (0≤x8_1)=true:=decide_eq_true c3;clear c3
     by_cases c4 : x8_1<(l0.length : Int)
     ·
      rw [if_pos c4] at H
      have c4b0 : decide (x8_1<(l0.length : Int))=true:=decide_eq_true c4;clear c4;have H':=zh H;clear H;have p214 : 0≤(x8_1 : Int):=zy (by first|(with_reducible assumption)|assumption);have q214 : x8_1<(l0.length : Int):=zy (by first|(with_reducible assumption)|assumption);obtain ⟨ad214,e214,hx214_0⟩:=Kd.at_int HR0.out x8_1 p214 q214
      cases e214
      replace p214:=eq_true p214;replace q214:=eq_true q214
      go_wp2
      go_roundg k1
      case measure => have:=HK1.out;omega
      case rel => exact ⟨(Go.bits .or .i64 (wrap64 (x3_1 * 256)) (wrap64 (rd l0 x8_1))),(wrap64 (x8_1 + 1)),(by first|rfl|(simp;done)|(simp [*];done)),(by first|rfl|(simp;done)|(simp [*];done)),H',⟨by have:=HK1.out;omega⟩,by repeat (first|exact yp _|apply yq)⟩
     rw [if_neg c4] at H;exact absurd H (by simp)
    rw [if_neg c3] at H;exact absurd H (by simp)
   rw [if_neg c2] at H;have c2b0 : decide (x8_1<(l0.length : Int))=false:=decide_eq_false c2;clear c2;obtain rfl:=zU H
   go_wp2
   go_ret
   exact ⟨by first|rfl|(simp;done)|(simp [*];done),by repeat (first|exact yp _|apply yq)⟩


def Fg.f (k : Nat) (s0_0 : ByteArray) (s0_1 : Bool) (a1 : Int) : Option (Int×ByteArray×Bool):=(Fo.f s0_0 s0_1 a1).bind fun bt215 => (if bt215.1.size≤9223372036854775807 then ((Fj.f k (bytesOf bt215.1)).bind fun t221 => (some (t221,bt215.2.1,bt215.2.2))) else (none))
theorem Fg.mono : ∀ a0 a1 a2 k,LeO (Fg.f k a0 a1 a2) (Fg.f (k + 1) a0 a1 a2):=by
 intro a0 a1 a2 k;unfold Fg.f
 repeat' first|(with_reducible first|exact Fj.mono _ _|exact zQ _|exact zN _|refine zP ?_ ?_|refine zO ?_ (fun _ => ?_))|refine zP ?_ ?_|refine zO ?_ (fun _ => ?_)
set_option maxHeartbeats 8000000 in
set_option maxRecDepth 100000 in
theorem Fg.calls (k : Nat) (g : Nat) (s0_0 : ByteArray) (s0_1 : Bool) (a1 : Int) (r1 : Int) (r2 : ByteArray) (r3 : Bool) (w0 w : World) (hI : IsS56 w0 w g s0_0 s0_1) (hB : Below w0.heap.size w0 w) (h : Fg.f k s0_0 s0_1 a1=some (r1,r2,r3)) :
  Calls Tryd.prog 38 #[.pointer (some ⟨g,0,none⟩),.int .i64 a1] w fun e w' => e = .returned (.int .i64 r1)∧IsS56 w0 w' g r2 r3∧Below w0.heap.size w0 w' ∧ KeepBut w w' g none:=by
 have HI0:=zh hI;have HK:=zh (KeepBut.refl w g none);have HL:=zh hB.size;clear hI;have HW0:=zh hB.size;have HB:=zh hB;clear hB;have H : ((Fo.f s0_0 s0_1 a1).bind fun bt215 => (if bt215.1.size≤9223372036854775807 then ((Fj.f k (bytesOf bt215.1)).bind fun t221 => (some (t221,bt215.2.1,bt215.2.2))) else (none)))=some (r1,r2,r3):=h;clear h;replace H:=zT.mp H;obtain ⟨⟨t215,t216,t217⟩,A30,H⟩:=H;replace H : (if t215.size≤9223372036854775807 then ((Fj.f k (bytesOf t215)).bind fun t221 => (some (t221,t216,t217))) else (none))=some (r1,r2,r3):=H;have A3:=zh A30;clear A30
 by_cases c4 : t215.size≤9223372036854775807
 ·
  rw [if_pos c4] at H
  have c4b0:=eq_true c4;have c4b1 : decide (t215.size≤9223372036854775807)=true:=decide_eq_true c4
  try have c4b2 : (9223372036854775807<t215.size)=False:=eq_false (Nat.not_lt.2 c4)
  clear c4;obtain ⟨y218,hy218⟩ : ∃ y_ : List Int,y_=(bytesOf t215):=⟨_,rfl⟩;replace H : ((Fj.f k y218).bind fun t221 => (some (t221,t216,t217)))=some (r1,r2,r3):=by first|(rw [hy218];with_reducible exact H)|(have H2_:=(Option.bind_some _ _).symm.trans H;rw [hy218];with_reducible exact H2_)|(have H2_:=(Option.bind_some _ _).symm.trans H;with_reducible exact H2_)|with_reducible exact H|(rw [hy218];exact H)|exact H
  have Ny218:=zh hy218;clear hy218;replace H:=zT.mp H;obtain ⟨t221,A50,H⟩:=H;replace H : (some (t221,t216,t217))=some (r1,r2,r3):=H;have A5:=zh A50;clear A50;simp only [Option.some.injEq,Prod.mk.injEq] at H;obtain ⟨rfl,rfl,rfl⟩:=H
  go_enter Tryd.func38,Tryd.ntmps38
  go_wp2_with (first|((with_reducible refine zJ (f:=37) rfl ?_);refine yj (some 7) rfl rfl Tryd.func37 (by kernel_rfl) rfl #[.pointer (some ⟨g,0,none⟩),.int .i64 a1] rfl (by (try simp only [zt,zu,zv]);first|done|rfl|(simp only [zw,zx];rfl)|(simp only [yr,ys,zV,zW];rfl)) ?_;(with_reducible refine (Fo.calls  g s0_0 s0_1 a1 t215 t216 t217 w0 _ ?side1 ?side2 A3.out).mono ?_);(case side1 => repeat (with_reducible first|exact HI0.out|apply IsS56.alloc|apply IsS56.drewN|apply IsS56.drew|apply IsS56.set_0|apply IsS56.set_1));(case side2 => repeat (with_reducible first|exact HB.out|apply za|apply zb|apply zc|refine zd ?_ (IsS56.ge HI0.out)));rintro e w6 ⟨rfl,hi,hb,hk⟩;refine ⟨_,rfl,?_⟩;replace HK:=zh (KeepBut.trans (by repeat (with_reducible first|exact HK.out|apply yl|apply ym|apply yx|apply yn)) hk (.inl rfl));replace HB:=zh (hb);replace HI0:=zh (hi);(try clear hb);(try clear hb2);(try clear hk);(try clear hi))|((with_reducible refine zK (N:=8) rfl ?_);refine conv_event (base:=w6.heap.size) ?hg (N:=8) ?hd 9 49 5 t215 rfl ?hx Tryd.underlying9 Tryd.underlying49 Tryd.underlying5 (zy (by first|(with_reducible assumption)|assumption)) ?_;(case hd|hg => rfl);(case hx => first|(go_simp;done)|(go_simp;rfl)|rfl);intro v219 w7 ho8 hb;(first|rw [← Ny218.out] at ho8|(simp only [Int.reduceToNat] at ho8;rw [← Ny218.out] at ho8));have HO220:=zh (Kd.V_lower (Kd.V_mono (ok':=fun k_ => k_≠g) ho8 (fun k_ hk_ => (IsS56.fresh (by repeat (with_reducible first|exact HI0.out|apply IsS56.alloc|apply IsS56.drewN|apply IsS56.drew|apply IsS56.set_0|apply IsS56.set_1)) k_ hk_))) (keep_size (w:=w) (g:=g) (row:=none) (by repeat (with_reducible first|exact HK.out|apply yl|apply ym|apply yx|apply yn))));replace HK:=zh (KeepBut.trans (by repeat (with_reducible first|exact HK.out|apply yl|apply ym|apply yx|apply yn)) (KeepBut.of_below hb g none) (.inl rfl));replace HB:=zh (zC (by repeat (with_reducible first|exact HB.out|apply za|apply zb|apply zc|refine zd ?_ (IsS56.ge HI0.out))) hb);replace HI0:=zh (IsS56.below (by repeat (with_reducible first|exact HI0.out|apply IsS56.alloc|apply IsS56.drewN|apply IsS56.drew|apply IsS56.set_0|apply IsS56.set_1)) hb);clear hb ho8;obtain ⟨Ao9,co9,eo9⟩:=Kd.V_slice HO220.out;subst eo9)|((with_reducible refine zJ (f:=47) rfl ?_);refine yj (some 9) rfl rfl Tryd.func47 (by kernel_rfl) rfl #[.slice Ao9 y218.length co9] rfl (by (try simp only [zt,zu,zv]);first|done|rfl|(simp only [zw,zx];rfl)|(simp only [yr,ys,zV,zW];rfl)) ?_;(with_reducible refine (Fj.calls k  _ _ y218 t221 _ ?side1 ?side2 A5.out).mono ?_);(case side1 => repeat (first|exact (Kd.V_reads' HO220.out).2.2|(with_reducible refine Kd.C_alloc ?_ _)|(with_reducible refine Kd.C_drewN ?_ _)|(with_reducible refine Kd.C_drew ?_)));(case side2 => exact (Kd.V_reads' HO220.out).2.1);rintro e w' ⟨rfl,⟨nd,rfl⟩⟩;refine ⟨_,rfl,?_⟩))
  go_ret
  exact ⟨by first|rfl|(simp [yt,yu] <;> rfl)|(simp [*,yt,yu] <;> rfl),by repeat (with_reducible first|exact HI0.out|apply IsS56.alloc|apply IsS56.drewN|apply IsS56.drew|apply IsS56.set_0|apply IsS56.set_1),by repeat (with_reducible first|exact HB.out|apply za|apply zb|apply zc|refine zd ?_ (IsS56.ge HI0.out)),by repeat (with_reducible first|exact HK.out|apply yl|apply ym|apply yx|apply yn)⟩
 rw [if_neg c4] at H;exact absurd H (by simp)

end Go.Proofs.YtjaknpeeopkojaaDoor.Q
end

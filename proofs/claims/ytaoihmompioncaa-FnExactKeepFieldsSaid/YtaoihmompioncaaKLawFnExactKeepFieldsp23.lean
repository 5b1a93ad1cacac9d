/- Texts of this claim, merged by a program of this session. -/
import Derived.Test.YtaoihmompioncaaKLawFnExactKeepFieldsp22
section
namespace Go.Proofs.Ytaoihmompioncaa.Q
open Go.RowKit Go.Proofs.YtaoihmompioncaaW.PrintWords Go.Proofs.YtaoihmompioncaaW.PrintLast Go.Proofs.YtaoihmompioncaaW.PrintMore
attribute [local go_sem] max2_int min2_int max_two min_two max_three min_three max_four min_four max2_str min2_str str_geq str_gtr str_leq   -- for this text's walks alone
set_option linter.unusedVariables false
set_option linter.unusedSimpArgs false

mutual
def F0.j0 : Nat→Int→List (S27)→Bool→Option (Bool)
 | 0,_,_,_ => none
 | k + 1,x1,x5,x78 => if x78=true then (some false) else (F0.l0 k x1 x5 0)
def F0.l0 : Nat→Int→List (S27)→Int→Option (Bool)
 | 0,_,_,_ => none
 | k + 1,x1,x5,x7 => if x7<(x5.length : Int) then (if 0≤x7 then ((F0.f k ((rd_T27 x5 x7).f0) ((rd_T27 x5 x7).f1) ((rd_T27 x5 x7).f2) (wrap64 (x1 - 1))).bind fun t152 => (if t152=true then (F0.l0 k x1 x5 (wrap64 (x7 + 1))) else (some false))) else (none)) else (some true)
def F0.j2 : Nat→Int→List (S54)→Bool→Option (Bool)
 | 0,_,_,_ => none
 | k + 1,x1,x8,x117 => if x117=true then (some false) else (F0.l1 k x1 x8 0)
def F0.l1 : Nat→Int→List (S54)→Int→Option (Bool)
 | 0,_,_,_ => none
 | k + 1,x1,x8,x10 => if x10<(x8.length : Int) then (if 0≤x10 then ((Fy.f k ((rd_T54 x8 x10).f0)).bind fun t158 => (if t158=true then (if x10 > 0 then (if 0≤(wrap64 (x10 - 1)) then (if (wrap64 (x10 - 1))<(x8.length : Int) then (if ((Op.bytesLess (((rd_T54 x8 (wrap64 (x10 - 1))).f0).toList) (((rd_T54 x8 x10).f0).toList))=true) then ((F0.f k ((rd_T54 x8 x10).f1.f0) ((rd_T54 x8 x10).f1.f1) ((rd_T54 x8 x10).f1.f2) (wrap64 (x1 - 1))).bind fun t162 => (if t162=true then (F0.l1 k x1 x8 (wrap64 (x10 + 1))) else (some false))) else (some false)) else (none)) else (none)) else ((F0.f k ((rd_T54 x8 x10).f1.f0) ((rd_T54 x8 x10).f1.f1) ((rd_T54 x8 x10).f1.f2) (wrap64 (x1 - 1))).bind fun t164 => (if t164=true then (F0.l1 k x1 x8 (wrap64 (x10 + 1))) else (some false)))) else (some false))) else (none)) else (some true)
def F0.f : Nat→Int→Int→ByteArray→Int→Option (Bool)
 | 0,_,_,_,_ => none
 | k + 1,a0_0,a0_1,a0_2,a1 => if a0_0=0 then (if a0_1=0 then (some (a0_2.toList == ([] : List UInt8))) else (some false)) else (if a0_0=1 then ((F0d.f a0_1 0 1).bind fun t145 => (if t145=true then (some (a0_2.toList == ([] : List UInt8))) else (some false))) else (if a0_0=2 then ((F0d.f a0_1 (-1000000000000) 1000000000000).bind fun t146 => (if t146=true then (some (a0_2.toList == ([] : List UInt8))) else (some false))) else (if a0_0=3 then (if a0_1=0 then (some (decide ((a0_2.size : Int)≤300))) else (some false)) else (if a0_0=4 then ((Fk.f k a0_2).bind fun bt147 => (if a0_1=0 then (if bt147.2=true then (if (a0_2.size : Int) > 300 then (F0.j0 k a1 bt147.1 true) else (F0.j0 k a1 bt147.1 (a1 == 0))) else (F0.j0 k a1 bt147.1 true)) else (F0.j0 k a1 bt147.1 true))) else (if a0_0=5 then ((Ff.f k a0_2).bind fun bt153 => (if a0_1=0 then (if bt153.2=true then (if (a0_2.size : Int) > 300 then (F0.j2 k a1 bt153.1 true) else (F0.j2 k a1 bt153.1 (a1 == 0))) else (F0.j2 k a1 bt153.1 true)) else (F0.j2 k a1 bt153.1 true))) else (some false))))))
end
theorem F0.mono_l : ∀ k,(∀ y0 y1 y2 y3,LeO (F0.f k y0 y1 y2 y3) (F0.f (k + 1) y0 y1 y2 y3))∧(∀ y0 y1 y2,LeO (F0.j0 k y0 y1 y2) (F0.j0 (k + 1) y0 y1 y2))∧(∀ y0 y1 y2,LeO (F0.l0 k y0 y1 y2) (F0.l0 (k + 1) y0 y1 y2))∧(∀ y0 y1 y2,LeO (F0.j2 k y0 y1 y2) (F0.j2 (k + 1) y0 y1 y2))∧(∀ y0 y1 y2,LeO (F0.l1 k y0 y1 y2) (F0.l1 (k + 1) y0 y1 y2))
 | 0 => ⟨fun _ _ _ _ r h => by simp [F0.f] at h,fun _ _ _ r h => by simp [F0.j0] at h,fun _ _ _ r h => by simp [F0.l0] at h,fun _ _ _ r h => by simp [F0.j2] at h,fun _ _ _ r h => by simp [F0.l1] at h⟩
 | k + 1 => by
  obtain ⟨ih0,ih1,ih2,ih3,ih4⟩:=F0.mono_l k;refine ⟨?_,?_,?_,?_,?_⟩
  ·
   intro y0 y1 y2 y3
   unfold F0.f
   repeat' first|(with_reducible first|exact ih0 _ _ _ _|exact ih1 _ _ _|exact ih2 _ _ _|exact ih3 _ _ _|exact ih4 _ _ _|exact Fy.mono _ _|exact Ff.mono _ _|exact Fk.mono _ _|exact zQ _|exact zN _|refine zP ?_ ?_|refine zO ?_ (fun _ => ?_))|refine zP ?_ ?_|refine zO ?_ (fun _ => ?_)
  ·
   intro y0 y1 y2
   unfold F0.j0
   repeat' first|(with_reducible first|exact ih0 _ _ _ _|exact ih1 _ _ _|exact ih2 _ _ _|exact ih3 _ _ _|exact ih4 _ _ _|exact Fy.mono _ _|exact Ff.mono _ _|exact Fk.mono _ _|exact zQ _|exact zN _|refine zP ?_ ?_|refine zO ?_ (fun _ => ?_))|refine zP ?_ ?_|refine zO ?_ (fun _ => ?_)
  ·
   intro y0 y1 y2
   unfold F0.l0
   repeat' first|(with_reducible first|exact ih0 _ _ _ _|exact ih1 _ _ _|exact ih2 _ _ _|exact ih3 _ _ _|exact ih4 _ _ _|exact Fy.mono _ _|exact Ff.mono _ _|exact Fk.mono _ _|exact zQ _|exact zN _|refine zP ?_ ?_|refine zO ?_ (fun _ => ?_))|refine zP ?_ ?_|refine zO ?_ (fun _ => ?_)
  ·
   intro y0 y1 y2
   unfold F0.j2
   repeat' first|(with_reducible first|exact ih0 _ _ _ _|exact ih1 _ _ _|exact ih2 _ _ _|exact ih3 _ _ _|exact ih4 _ _ _|exact Fy.mono _ _|exact Ff.mono _ _|exact Fk.mono _ _|exact zQ _|exact zN _|refine zP ?_ ?_|refine zO ?_ (fun _ => ?_))|refine zP ?_ ?_|refine zO ?_ (fun _ => ?_)
  intro y0 y1 y2;unfold F0.l1
  repeat' first|(with_reducible first|exact ih0 _ _ _ _|exact ih1 _ _ _|exact ih2 _ _ _|exact ih3 _ _ _|exact ih4 _ _ _|exact Fy.mono _ _|exact Ff.mono _ _|exact Fk.mono _ _|exact zQ _|exact zN _|refine zP ?_ ?_|refine zO ?_ (fun _ => ?_))|refine zP ?_ ?_|refine zO ?_ (fun _ => ?_)
theorem F0.mono : ∀ a0 a1 a2 a3 k,LeO (F0.f k a0 a1 a2 a3) (F0.f (k + 1) a0 a1 a2 a3):=by
 intro a0 a1 a2 a3 k;obtain ⟨ih0,ih1,ih2,ih3,ih4⟩:=F0.mono_l k;exact ih0 a0 a1 a2 a3
def F0.T27 : Bool×List (List Nat×List Nat):=(true,[([],[]),([],[]),([0,1],[0,1]),([2],[2]),([3],[3]),([4],[4]),([5],[5]),([6,5],[6]),([7],[7]),([8,7],[7,8]),([9,7,7],[7,9]),([10],[10]),([10],[10]),([12,10],[10,12]),([11,13,10],[10,11,13]),([14,10],[10,14]),([15,10],[10,15]),([10],[10]),([10],[10]),([17,18,10],[10,17,18]),([19,10],[10,19]),([20,10],[10,20]),([16,21,10],[10,16,21]),([10,22,7],[7,10,22]),([7,23],[7,23]),([24,10],[24]),([25],[25]),([25],[25]),([26,27,25],[25,26,27]),([28,25],[25,28]),([29,25],[25,29]),([25],[25]),([31,25],[25,31]),([30,32,25,25],[25,30,32]),([33,25],[25,33]),([25,34],[25,34])])
def F0.B27 : List Nat:=[0,0,3,7,15,31,63,127,255,511,1023,2047,2047,6143,16383,32767,65535,2047,2047,395263,919551,1968127,4194303,8388607,16777215,33554431,67108863,67108863,268435455,536870911,1073741823,67108863,2214592511,8589934591,17179869183,34359738367]
theorem F0.tab27 : rtab .any (opsOf Try.f41 27)=F0.T27:=by kernel_rfl
theorem F0.bits27 : waitsOk F0.T27.2 F0.B27=true:=by kernel_rfl
set_option maxHeartbeats 8000000 in
set_option maxRecDepth 100000 in
theorem F0.calls (k : Nat) : ∀ (a0_0 : Int) (a0_1 : Int) (a0_2 : ByteArray) (a1 : Int) (r : Bool) (w : World) (h : F0.f k a0_0 a0_1 a0_2 a1=some r),
  Calls Try.prog 41 #[.agg #[.int .i64 a0_0,.int .i64 a0_1,.string a0_2],.int .i64 a1] w fun e w' => e = .returned (.bool r)∧Below w.heap.size w w':=by
 induction k using Nat.strongRecOn with
 | _ k ih =>
 intro a0_0 a0_1 a0_2 a1 r w h
 cases k with
 | zero => exact absurd h (by simp [F0.f])
 | succ k =>
 simp only [F0.f] at h;have hu27:=Try.underlying27;have HB:=zh (Below.refl w.heap.size w);have H : (if a0_0=0 then (if a0_1=0 then (some (a0_2.toList == ([] : List UInt8))) else (some false)) else (if a0_0=1 then ((F0d.f a0_1 0 1).bind fun t145 => (if t145=true then (some (a0_2.toList == ([] : List UInt8))) else (some false))) else (if a0_0=2 then ((F0d.f a0_1 (-1000000000000) 1000000000000).bind fun t146 => (if t146=true then (some (a0_2.toList == ([] : List UInt8))) else (some false))) else (if a0_0=3 then (if a0_1=0 then (some (decide ((a0_2.size : Int)≤300))) else (some false)) else (if a0_0=4 then ((Fk.f k a0_2).bind fun bt147 => (if a0_1=0 then (if bt147.2=true then (if (a0_2.size : Int) > 300 then (F0.j0 k a1 bt147.1 true) else (F0.j0 k a1 bt147.1 (a1 == 0))) else (F0.j0 k a1 bt147.1 true)) else (F0.j0 k a1 bt147.1 true))) else (if a0_0=5 then ((Ff.f k a0_2).bind fun bt153 => (if a0_1=0 then (if bt153.2=true then (if (a0_2.size : Int) > 300 then (F0.j2 k a1 bt153.1 true) else (F0.j2 k a1 bt153.1 (a1 == 0))) else (F0.j2 k a1 bt153.1 true)) else (F0.j2 k a1 bt153.1 true))) else (some false)))))))=some r:=h;clear h
 by_cases c3 : a0_0=0
 ·
  rw [if_pos c3] at H
  have c3b0 : (a0_0 == 0)=true:=ya.mpr c3;have c3b1 : (a0_0 != 0)=false:=zX.mpr c3;clear c3
  by_cases c4 : a0_1=0
  ·
   rw [if_pos c4] at H
   have c4b0 : (a0_1 == 0)=true:=ya.mpr c4;have c4b1 : (a0_1 != 0)=false:=zX.mpr c4;clear c4;obtain rfl:=zU H
   go_enter Try.func41,Try.ntmps41
   go_wp2_with (first|((with_reducible refine zK (N:=2) rfl ?_);(try (refine yz (by rfl) ?_;dsimp only));refine zI ?hg (N:=2) ?hd (cs:=#[.int .i64 a0_0,.int .i64 a0_1,.string a0_2]) (t:=27) ?hr ?_;(case hd|hg => rfl);(case hr => go_simp <;> rfl);intro gb144 hg w5 hbox hb;have BK144:=zh (hbox);have hH_:=cH (by repeat (with_reducible first|exact HB.out|apply za|apply zb|apply zc)) hb hg;have GW144:=zh hH_.1;have GE144:=GW144;replace HB:=zh hH_.2;clear hb hbox hg hH_;obtain ⟨hcz6_0,hcz6_1,hcz6_2,hfz6_0,hfz6_1,hfz6_2⟩:=cB3 BK144.out))
   go_ret
   exact ⟨by first|rfl|(simp [yt,yu] <;> rfl)|(simp [*,yt,yu] <;> rfl),by repeat (with_reducible first|exact HB.out|apply za|apply zb|apply zc|refine zd ?_ GE144.out)⟩
  rw [if_neg c4] at H;have c4b0 : (a0_1 == 0)=false:=zY.mpr c4;have c4b1 : (a0_1 != 0)=true:=zZ.mpr c4;obtain rfl:=zU H
  go_enter Try.func41,Try.ntmps41
  go_wp2_with (first|((with_reducible refine zK (N:=2) rfl ?_);(try (refine yz (by rfl) ?_;dsimp only));refine zI ?hg (N:=2) ?hd (cs:=#[.int .i64 a0_0,.int .i64 a0_1,.string a0_2]) (t:=27) ?hr ?_;(case hd|hg => rfl);(case hr => go_simp <;> rfl);intro gb144 hg w7 hbox hb;have BK144:=zh (hbox);have hH_:=cH (by repeat (with_reducible first|exact HB.out|apply za|apply zb|apply zc)) hb hg;have GW144:=zh hH_.1;have GE144:=GW144;replace HB:=zh hH_.2;clear hb hbox hg hH_;obtain ⟨hcz8_0,hcz8_1,hcz8_2,hfz8_0,hfz8_1,hfz8_2⟩:=cB3 BK144.out))
  go_ret
  exact ⟨by first|rfl|(simp [yt,yu] <;> rfl)|(simp [*,yt,yu] <;> rfl),by repeat (with_reducible first|exact HB.out|apply za|apply zb|apply zc|refine zd ?_ GE144.out)⟩
 rw [if_neg c3] at H;have c3b0 : (a0_0 == 0)=false:=zY.mpr c3;have c3b1 : (a0_0 != 0)=true:=zZ.mpr c3
 by_cases c9 : a0_0=1
 ·
  rw [if_pos c9] at H
  have c9b0 : (a0_0 == 1)=true:=ya.mpr c9;have c9b1 : (a0_0 != 1)=false:=zX.mpr c9;clear c9;replace H:=zT.mp H;obtain ⟨t145,A100,H⟩:=H;replace H : (if t145=true then (some (a0_2.toList == ([] : List UInt8))) else (some false))=some r:=H;have A10:=zh A100;clear A100
  by_cases c11 : t145=true
  ·
   subst c11
   have H1 : (some (a0_2.toList == ([] : List UInt8)))=some r:=by rw [if_pos rfl] at H;exact H
   clear H;have H:=H1;clear H1;obtain rfl:=zU H
   go_enter Try.func41,Try.ntmps41
   go_wp2_with (first|((with_reducible refine zK (N:=2) rfl ?_);(try (refine yz (by rfl) ?_;dsimp only));refine zI ?hg (N:=2) ?hd (cs:=#[.int .i64 a0_0,.int .i64 a0_1,.string a0_2]) (t:=27) ?hr ?_;(case hd|hg => rfl);(case hr => go_simp <;> rfl);intro gb144 hg w12 hbox hb;have BK144:=zh (hbox);have hH_:=cH (by repeat (with_reducible first|exact HB.out|apply za|apply zb|apply zc)) hb hg;have GW144:=zh hH_.1;have GE144:=GW144;replace HB:=zh hH_.2;clear hb hbox hg hH_;obtain ⟨hcz13_0,hcz13_1,hcz13_2,hfz13_0,hfz13_1,hfz13_2⟩:=cB3 BK144.out)|((with_reducible refine zJ (f:=64) rfl ?_);refine yj (some 27) rfl rfl Try.func64 (by kernel_rfl) rfl #[.int .i64 a0_1,.int .i64 0,.int .i64 1] rfl (by (try simp only [zt,zu,zv]);first|done|rfl|(simp only [zw,zx];rfl)|(simp only [yr,ys,zV,zW];rfl)) ?_;(with_reducible refine (F0d.calls  a0_1 0 1 true _ A10.out).mono ?_);rintro e w' ⟨rfl,⟨nd,rfl⟩⟩;refine ⟨_,rfl,?_⟩))
   go_ret
   exact ⟨by first|rfl|(simp [yt,yu] <;> rfl)|(simp [*,yt,yu] <;> rfl),by repeat (with_reducible first|exact HB.out|apply za|apply zb|apply zc|refine zd ?_ GE144.out)⟩
  replace c11:=yb.mpr c11;subst c11;have H1 : (some false)=some r:=by rw [if_neg (show ¬ (false=true) by decide)] at H;exact H
  clear H;have H:=H1;clear H1;obtain rfl:=zU H
  go_enter Try.func41,Try.ntmps41
  go_wp2_with (first|((with_reducible refine zK (N:=2) rfl ?_);(try (refine yz (by rfl) ?_;dsimp only));refine zI ?hg (N:=2) ?hd (cs:=#[.int .i64 a0_0,.int .i64 a0_1,.string a0_2]) (t:=27) ?hr ?_;(case hd|hg => rfl);(case hr => go_simp <;> rfl);intro gb144 hg w14 hbox hb;have BK144:=zh (hbox);have hH_:=cH (by repeat (with_reducible first|exact HB.out|apply za|apply zb|apply zc)) hb hg;have GW144:=zh hH_.1;have GE144:=GW144;replace HB:=zh hH_.2;clear hb hbox hg hH_;obtain ⟨hcz15_0,hcz15_1,hcz15_2,hfz15_0,hfz15_1,hfz15_2⟩:=cB3 BK144.out)|((with_reducible refine zJ (f:=64) rfl ?_);refine yj (some 27) rfl rfl Try.func64 (by kernel_rfl) rfl #[.int .i64 a0_1,.int .i64 0,.int .i64 1] rfl (by (try simp only [zt,zu,zv]);first|done|rfl|(simp only [zw,zx];rfl)|(simp only [yr,ys,zV,zW];rfl)) ?_;(with_reducible refine (F0d.calls  a0_1 0 1 false _ A10.out).mono ?_);rintro e w' ⟨rfl,⟨nd,rfl⟩⟩;refine ⟨_,rfl,?_⟩))
  go_ret
  exact ⟨by first|rfl|(simp [yt,yu] <;> rfl)|(simp [*,yt,yu] <;> rfl),by repeat (with_reducible first|exact HB.out|apply za|apply zb|apply zc|refine zd ?_ GE144.out)⟩
 rw [if_neg c9] at H;have c9b0 : (a0_0 == 1)=false:=zY.mpr c9;have c9b1 : (a0_0 != 1)=true:=zZ.mpr c9
 by_cases c16 : a0_0=2
 ·
  rw [if_pos c16] at H
  have c16b0 : (a0_0 == 2)=true:=ya.mpr c16;have c16b1 : (a0_0 != 2)=false:=zX.mpr c16;clear c16;replace H:=zT.mp H;obtain ⟨t146,A170,H⟩:=H;replace H : (if t146=true then (some (a0_2.toList == ([] : List UInt8))) else (some false))=some r:=H;have A17:=zh A170;clear A170
  by_cases c18 : t146=true
  ·
   subst c18
   have H1 : (some (a0_2.toList == ([] : List UInt8)))=some r:=by rw [if_pos rfl] at H;exact H
   clear H;have H:=H1;clear H1;obtain rfl:=zU H
   go_enter Try.func41,Try.ntmps41
   go_wp2_with (first|((with_reducible refine zK (N:=2) rfl ?_);(try (refine yz (by rfl) ?_;dsimp only));refine zI ?hg (N:=2) ?hd (cs:=#[.int .i64 a0_0,.int .i64 a0_1,.string a0_2]) (t:=27) ?hr ?_;(case hd|hg => rfl);(case hr => go_simp <;> rfl);intro gb144 hg w19 hbox hb;have BK144:=zh (hbox);have hH_:=cH (by repeat (with_reducible first|exact HB.out|apply za|apply zb|apply zc)) hb hg;have GW144:=zh hH_.1;have GE144:=GW144;replace HB:=zh hH_.2;clear hb hbox hg hH_;obtain ⟨hcz20_0,hcz20_1,hcz20_2,hfz20_0,hfz20_1,hfz20_2⟩:=cB3 BK144.out)|((with_reducible refine zJ (f:=64) rfl ?_);refine yj (some 37) rfl rfl Try.func64 (by kernel_rfl) rfl #[.int .i64 a0_1,.int .i64 (-1000000000000),.int .i64 1000000000000] rfl (by (try simp only [zt,zu,zv]);first|done|rfl|(simp only [zw,zx];rfl)|(simp only [yr,ys,zV,zW];rfl)) ?_;(with_reducible refine (F0d.calls  a0_1 (-1000000000000) 1000000000000 true _ A17.out).mono ?_);rintro e w' ⟨rfl,⟨nd,rfl⟩⟩;refine ⟨_,rfl,?_⟩))
   go_ret
   exact ⟨by first|rfl|(simp [yt,yu] <;> rfl)|(simp [*,yt,yu] <;> rfl),by repeat (with_reducible first|exact HB.out|apply za|apply zb|apply zc|refine zd ?_ GE144.out)⟩
  replace c18:=yb.mpr c18;subst c18;have H1 : (some false)=some r:=by rw [if_neg (show ¬ (false=true) by decide)] at H;exact H
  clear H;have H:=H1;clear H1;obtain rfl:=zU H
  go_enter Try.func41,Try.ntmps41
  go_wp2_with (first|((with_reducible refine zK (N:=2) rfl ?_);(try (refine yz (by rfl) ?_;dsimp only));refine zI ?hg (N:=2) ?hd (cs:=#[.int .i64 a0_0,.int .i64 a0_1,.string a0_2]) (t:=27) ?hr ?_;(case hd|hg => rfl);(case hr => go_simp <;> rfl);intro gb144 hg w21 hbox hb;have BK144:=zh (hbox);have hH_:=cH (by repeat (with_reducible first|exact HB.out|apply za|apply zb|apply zc)) hb hg;have GW144:=zh hH_.1;have GE144:=GW144;replace HB:=zh hH_.2;clear hb hbox hg hH_;obtain ⟨hcz22_0,hcz22_1,hcz22_2,hfz22_0,hfz22_1,hfz22_2⟩:=cB3 BK144.out)|((with_reducible refine zJ (f:=64) rfl ?_);refine yj (some 37) rfl rfl Try.func64 (by kernel_rfl) rfl #[.int .i64 a0_1,.int .i64 (-1000000000000),.int .i64 1000000000000] rfl (by (try simp only [zt,zu,zv]);first|done|rfl|(simp only [zw,zx];rfl)|(simp only [yr,ys,zV,zW];rfl)) ?_;(with_reducible refine (F0d.calls  a0_1 (-1000000000000) 1000000000000 false _ A17.out).mono ?_);rintro e w' ⟨rfl,⟨nd,rfl⟩⟩;refine ⟨_,rfl,?_⟩))
  go_ret
  exact ⟨by first|rfl|(simp [yt,yu] <;> rfl)|(simp [*,yt,yu] <;> rfl),by repeat (with_reducible first|exact HB.out|apply za|apply zb|apply zc|refine zd ?_ GE144.out)⟩
 rw [if_neg c16] at H;have c16b0 : (a0_0 == 2)=false:=zY.mpr c16;have c16b1 : (a0_0 != 2)=true:=zZ.mpr c16
 by_cases c23 : a0_0=3
 ·
  rw [if_pos c23] at H
  have c23b0 : (a0_0 == 3)=true:=ya.mpr c23;have c23b1 : (a0_0 != 3)=false:=zX.mpr c23;clear c23
  by_cases c24 : a0_1=0
  ·
   rw [if_pos c24] at H
   have c24b0 : (a0_1 == 0)=true:=ya.mpr c24;have c24b1 : (a0_1 != 0)=false:=zX.mpr c24;clear c24;obtain rfl:=zU H
   go_enter Try.func41,Try.ntmps41
   go_wp2_with (first|((with_reducible refine zK (N:=2) rfl ?_);(try (refine yz (by rfl) ?_;dsimp only));refine zI ?hg (N:=2) ?hd (cs:=#[.int .i64 a0_0,.int .i64 a0_1,.string a0_2]) (t:=27) ?hr ?_;(case hd|hg => rfl);(case hr => go_simp <;> rfl);intro gb144 hg w25 hbox hb;have BK144:=zh (hbox);have hH_:=cH (by repeat (with_reducible first|exact HB.out|apply za|apply zb|apply zc)) hb hg;have GW144:=zh hH_.1;have GE144:=GW144;replace HB:=zh hH_.2;clear hb hbox hg hH_;obtain ⟨hcz26_0,hcz26_1,hcz26_2,hfz26_0,hfz26_1,hfz26_2⟩:=cB3 BK144.out))
   go_ret
   exact ⟨by first|rfl|(simp [yt,yu] <;> rfl)|(simp [*,yt,yu] <;> rfl),by repeat (with_reducible first|exact HB.out|apply za|apply zb|apply zc|refine zd ?_ GE144.out)⟩
  rw [if_neg c24] at H;have c24b0 : (a0_1 == 0)=false:=zY.mpr c24;have c24b1 : (a0_1 != 0)=true:=zZ.mpr c24;obtain rfl:=zU H
  go_enter Try.func41,Try.ntmps41
  go_wp2_with (first|((with_reducible refine zK (N:=2) rfl ?_);(try (refine yz (by rfl) ?_;dsimp only));refine zI ?hg (N:=2) ?hd (cs:=#[.int .i64 a0_0,.int .i64 a0_1,.string a0_2]) (t:=27) ?hr ?_;(case hd|hg => rfl);(case hr => go_simp <;> rfl);intro gb144 hg w27 hbox hb;have BK144:=zh (hbox);have hH_:=cH (by repeat (with_reducible first|exact HB.out|apply za|apply zb|apply zc)) hb hg;have GW144:=zh hH_.1;have GE144:=GW144;replace HB:=zh hH_.2;clear hb hbox hg hH_;obtain ⟨hcz28_0,hcz28_1,hcz28_2,hfz28_0,hfz28_1,hfz28_2⟩:=cB3 BK144.out))
  go_ret
  exact ⟨by first|rfl|(simp [yt,yu] <;> rfl)|(simp [*,yt,yu] <;> rfl),by repeat (with_reducible first|exact HB.out|apply za|apply zb|apply zc|refine zd ?_ GE144.out)⟩
 rw [if_neg c23] at H;have c23b0 : (a0_0 == 3)=false:=zY.mpr c23;have c23b1 : (a0_0 != 3)=true:=zZ.mpr c23
 by_cases c29 : a0_0=4
 ·
  rw [if_pos c29] at H
  have c29b0 : (a0_0 == 4)=true:=ya.mpr c29;have c29b1 : (a0_0 != 4)=false:=zX.mpr c29;clear c29;replace H:=zT.mp H;obtain ⟨⟨t147,t148⟩,A300,H⟩:=H;replace H : (if a0_1=0 then (if t148=true then (if (a0_2.size : Int) > 300 then (F0.j0 k a1 t147 true) else (F0.j0 k a1 t147 (a1 == 0))) else (F0.j0 k a1 t147 true)) else (F0.j0 k a1 t147 true))=some r:=H;have A30:=zh A300;clear A300;have HC31:=zh H;clear H
  go_enter Try.func41,Try.ntmps41
  go_upto_region 12 with (first|((with_reducible refine zK (N:=2) rfl ?_);(try (refine yz (by rfl) ?_;dsimp only));refine zI ?hg (N:=2) ?hd (cs:=#[.int .i64 a0_0,.int .i64 a0_1,.string a0_2]) (t:=27) ?hr ?_;(case hd|hg => rfl);(case hr => go_simp <;> rfl);intro gb144 hg w32 hbox hb;have BK144:=zh (hbox);have hH_:=cH (by repeat (with_reducible first|exact HB.out|apply za|apply zb|apply zc)) hb hg;have GW144:=zh hH_.1;have GE144:=GW144;replace HB:=zh hH_.2;clear hb hbox hg hH_;obtain ⟨hcz33_0,hcz33_1,hcz33_2,hfz33_0,hfz33_1,hfz33_2⟩:=cB3 BK144.out)|((with_reducible refine zJ (f:=65) rfl ?_);refine yj (some 59) rfl rfl Try.func65 (by kernel_rfl) rfl #[.string a0_2] rfl (by (try simp only [zt,zu,zv]);first|done|rfl|(simp only [zw,zx];rfl)|(simp only [yr,ys,zV,zW];rfl)) ?_;(with_reducible refine (Fk.calls k  a0_2 t147 t148 _ A30.out).mono ?_);rintro e w34 ⟨v149,rfl,ho0,hb⟩;refine ⟨_,rfl,?_⟩;have HO150:=zh (yy (Kd.R_newB ho0 (g:=gb144) (o:=.cells #[.int .i64 a0_0,.int .i64 a0_1,.string a0_2] 27 (0,0)) (by (with_reducible repeat first|apply ze|apply zf|apply zg);exact BK144.out)) (zB (by repeat (with_reducible first|exact HB.out|apply za|apply zb|apply zc|refine zd ?_ GE144.out))));replace BK144:=zh (cD BK144.out (by (with_reducible repeat first|apply ze|apply zf|apply zg);exact BK144.out) hb);replace HB:=zh (zC (by repeat (with_reducible first|exact HB.out|apply za|apply zb|apply zc|refine zd ?_ GE144.out)) hb);(try clear hb);(try clear hb2);(try clear hk);(try clear hi);(try clear ho0)))
  (try simp only [Act.put,zi,zj,zk])
  go_cut [78] (fun v78 wc => ∃ (kq : Nat) (x78_30 : Bool),v78 = .bool x78_30∧Aside0 (F0.j0 kq a1 t147 x78_30=some r)∧Aside0 (kq≤k)∧Aside0 (Kd.R k27 27 wc w.heap.size (fun k_ => k_≠gb144) v149 t147)∧Aside0 (wc.heap[gb144]? = some (.cells #[.int .i64 a0_0,.int .i64 a0_1,.string a0_2] 27 (0,0)))∧Aside0 (Below w.heap.size w wc))
  case first =>
   have H:=HC31.out;clear HC31
   by_cases c35 : a0_1=0
   ·
    rw [if_pos c35] at H
    have c35b0 : (a0_1 == 0)=true:=ya.mpr c35;have c35b1 : (a0_1 != 0)=false:=zX.mpr c35;clear c35;(first|rw [c35b0]|(simp only [zG,zH];rw [c35b0])|skip)
    by_cases c36 : t148=true
    ·
     subst c36
     have H1 : (if (a0_2.size : Int) > 300 then (F0.j0 k a1 t147 true) else (F0.j0 k a1 t147 (a1 == 0)))=some r:=by rw [if_pos rfl] at H;exact H
     clear H;have H:=H1;clear H1
     by_cases c37 : (a0_2.size : Int) > 300
     ·
      rw [if_pos c37] at H
      have c37b0 : decide (300<(a0_2.size : Int))=true:=decide_eq_true c37;have c37b1 : decide (300<a0_2.size)=true:=decide_eq_true (by omega);clear c37;have H':=zh H;clear H;obtain ⟨hcz38_0,hcz38_1,hcz38_2,hfz38_0,hfz38_1,hfz38_2⟩:=cB3 BK144.out
      go_wp2
      go_meet
      case rel => exact ⟨_,(true),(by first|rfl|(simp;done)|(simp [*];done)),H',⟨by first|omega|exact ye _⟩,⟨by (with_reducible repeat (first|apply zm|apply zn|apply zo));exact zM HO150.out (fun _ hk => hk.2)⟩,⟨by (with_reducible repeat first|apply ze|apply zf|apply zg);exact BK144.out⟩,⟨by repeat (with_reducible first|exact HB.out|apply za|apply zb|apply zc|refine zd ?_ GE144.out)⟩⟩
     rw [if_neg c37] at H;have c37b0 : decide (300<(a0_2.size : Int))=false:=decide_eq_false c37;have c37b1 : decide (300<a0_2.size)=false:=decide_eq_false (by omega);clear c37;have H':=zh H;clear H;obtain ⟨hcz39_0,hcz39_1,hcz39_2,hfz39_0,hfz39_1,hfz39_2⟩:=cB3 BK144.out
     go_wp2
     go_meet
     case rel => exact ⟨_,((a1 == 0)),(by first|rfl|(simp;done)|(simp [*];done)),H',⟨by first|omega|exact ye _⟩,⟨by (with_reducible repeat (first|apply zm|apply zn|apply zo));exact zM HO150.out (fun _ hk => hk.2)⟩,⟨by (with_reducible repeat first|apply ze|apply zf|apply zg);exact BK144.out⟩,⟨by repeat (with_reducible first|exact HB.out|apply za|apply zb|apply zc|refine zd ?_ GE144.out)⟩⟩
    replace c36:=yb.mpr c36;subst c36;have H1 : (F0.j0 k a1 t147 true)=some r:=by rw [if_neg (show ¬ (false=true) by decide)] at H;exact H
    clear H;have H:=H1;clear H1;have H':=zh H;clear H;obtain ⟨hcz40_0,hcz40_1,hcz40_2,hfz40_0,hfz40_1,hfz40_2⟩:=cB3 BK144.out
    go_wp2
    go_meet
    case rel => exact ⟨_,(true),(by first|rfl|(simp;done)|(simp [*];done)),H',⟨by first|omega|exact ye _⟩,⟨by (with_reducible repeat (first|apply zm|apply zn|apply zo));exact zM HO150.out (fun _ hk => hk.2)⟩,⟨by (with_reducible repeat first|apply ze|apply zf|apply zg);exact BK144.out⟩,⟨by repeat (with_reducible first|exact HB.out|apply za|apply zb|apply zc|refine zd ?_ GE144.out)⟩⟩
   rw [if_neg c35] at H;have c35b0 : (a0_1 == 0)=false:=zY.mpr c35;have c35b1 : (a0_1 != 0)=true:=zZ.mpr c35;(first|rw [c35b0]|(simp only [zG,zH];rw [c35b0])|skip);have H':=zh H;clear H;obtain ⟨hcz41_0,hcz41_1,hcz41_2,hfz41_0,hfz41_1,hfz41_2⟩:=cB3 BK144.out
   go_wp2
   go_meet
   case rel => exact ⟨_,(true),(by first|rfl|(simp;done)|(simp [*];done)),H',⟨by first|omega|exact ye _⟩,⟨by (with_reducible repeat (first|apply zm|apply zn|apply zo));exact zM HO150.out (fun _ hk => hk.2)⟩,⟨by (with_reducible repeat first|apply ze|apply zf|apply zg);exact BK144.out⟩,⟨by repeat (with_reducible first|exact HB.out|apply za|apply zb|apply zc|refine zd ?_ GE144.out)⟩⟩
  case rest =>
   clear HC31
   try clear c1 c2
   try clear p2
   try clear c3 c3b0 c3b1 c4 c4b0 c4b1 c6 c9 c9b0 c9b1 c11 c16 c16b0 c16b1 c18 c23 c23b0 c23b1 c24 c24b0 c24b1 c29 c29b0 c29b1 c35 c35b0 c35b1 c36 c37 c37b0 c37b1 c41
   try clear hcz13_0 hcz13_1 hcz13_2
   try clear hcz15_0 hcz15_1 hcz15_2
   try clear hcz20_0 hcz20_1 hcz20_2
   try clear hcz22_0 hcz22_1 hcz22_2
   try clear hcz26_0 hcz26_1 hcz26_2
   try clear hcz28_0 hcz28_1 hcz28_2
   try clear hcz33_0 hcz33_1 hcz33_2
   try clear hcz38_0 hcz38_1 hcz38_2
   try clear hcz39_0 hcz39_1 hcz39_2
   try clear hcz40_0 hcz40_1 hcz40_2
   try clear hcz41_0 hcz41_1 hcz41_2
   try clear hcz6_0 hcz6_1 hcz6_2
   try clear hcz8_0 hcz8_1 hcz8_2
   try clear hfz13_0 hfz13_1 hfz13_2
   try clear hfz15_0 hfz15_1 hfz15_2
   try clear hfz20_0 hfz20_1 hfz20_2
   try clear hfz22_0 hfz22_1 hfz22_2
   try clear hfz26_0 hfz26_1 hfz26_2
   try clear hfz28_0 hfz28_1 hfz28_2
   try clear hfz33_0 hfz33_1 hfz33_2
   try clear hfz38_0 hfz38_1 hfz38_2
   try clear hfz39_0 hfz39_1 hfz39_2
   try clear hfz40_0 hfz40_1 hfz40_2
   try clear hfz41_0 hfz41_1 hfz41_2
   try clear hfz6_0 hfz6_1 hfz6_2
   try clear hfz8_0 hfz8_1 hfz8_2
   obtain ⟨kq,x78_30,rfl,HA,HJ30,HO_5,BK144,HB⟩:=hcut
   cases kq with
   | zero => exact absurd HA.out (by simp [F0.j0])
   | succ kj30 =>
    have H:=HA.out;clear HA;simp only [F0.j0] at H
    by_cases c42 : x78_30=true
    ·
     subst c42
     have H1 : (some false)=some r:=by rw [if_pos rfl] at H;exact H
     clear H;have H:=H1;clear H1;obtain rfl:=zU H
     go_wp2
     go_ret
     exact ⟨by first|rfl|(simp [yt,yu] <;> rfl)|(simp [*,yt,yu] <;> rfl),by repeat (with_reducible first|exact HB.out|apply za|apply zb|apply zc|refine zd ?_ GE144.out)⟩
    replace c42:=yb.mpr c42;subst c42;have H1 : (F0.l0 kj30 a1 t147 0)=some r:=by rw [if_neg (show ¬ (false=true) by decide)] at H;exact H
    clear H;have H:=H1;clear H1;have H':=zh H;clear H
    go_wp2
    go_loopg [7] kj30 (fun kq v7 w' => ∃ (x7_2 : Int),v7 = .int .i64 x7_2∧Aside0 (F0.l0 kq a1 t147 x7_2=some r)∧Aside0 (kq≤kj30)∧Aside0 (Kd.R k27 27 w' w.heap.size (fun k_ => k_≠gb144) v149 t147)∧Aside0 (w'.heap[gb144]? = some (.cells #[.int .i64 a0_0,.int .i64 a0_1,.string a0_2] 27 (0,0)))∧Aside0 (Below w.heap.size w w'))
    case atStart => exact ⟨(0),(by first|rfl|(simp;done)|(simp [*];done)),H',⟨ye _⟩,⟨by (with_reducible repeat (first|apply zm|apply zn|apply zo));exact HO_5.out⟩,⟨by (with_reducible repeat first|apply ze|apply zf|apply zg);exact BK144.out⟩,⟨by repeat (with_reducible first|exact HB.out|apply za|apply zb|apply zc|refine zd ?_ GE144.out)⟩⟩
    case round =>
     clear H'
     try clear c1 c2
     try clear p2
     try clear c3 c3b0 c3b1 c4 c4b0 c4b1 c6 c9 c9b0 c9b1 c11 c16 c16b0 c16b1 c18 c23 c23b0 c23b1 c24 c24b0 c24b1 c29 c29b0 c29b1 c35 c35b0 c35b1 c36 c37 c37b0 c37b1 c41 c42
     try clear hcz13_0 hcz13_1 hcz13_2
     try clear hcz15_0 hcz15_1 hcz15_2
     try clear hcz20_0 hcz20_1 hcz20_2
     try clear hcz22_0 hcz22_1 hcz22_2
     try clear hcz26_0 hcz26_1 hcz26_2
     try clear hcz28_0 hcz28_1 hcz28_2
     try clear hcz33_0 hcz33_1 hcz33_2
     try clear hcz38_0 hcz38_1 hcz38_2
     try clear hcz39_0 hcz39_1 hcz39_2
     try clear hcz40_0 hcz40_1 hcz40_2
     try clear hcz41_0 hcz41_1 hcz41_2
     try clear hcz6_0 hcz6_1 hcz6_2
     try clear hcz8_0 hcz8_1 hcz8_2
     try clear hfz13_0 hfz13_1 hfz13_2
     try clear hfz15_0 hfz15_1 hfz15_2
     try clear hfz20_0 hfz20_1 hfz20_2
     try clear hfz22_0 hfz22_1 hfz22_2
     try clear hfz26_0 hfz26_1 hfz26_2
     try clear hfz28_0 hfz28_1 hfz28_2
     try clear hfz33_0 hfz33_1 hfz33_2
     try clear hfz38_0 hfz38_1 hfz38_2
     try clear hfz39_0 hfz39_1 hfz39_2
     try clear hfz40_0 hfz40_1 hfz40_2
     try clear hfz41_0 hfz41_1 hfz41_2
     try clear hfz6_0 hfz6_1 hfz6_2
     try clear hfz8_0 hfz8_1 hfz8_2
     try clear p2
     obtain ⟨x7_2,rfl,HA,HK2,HO_5,BK144,HB⟩:=hrel
     cases gk with
     | zero => exact absurd HA.out (by simp [F0.l0])
     | succ k2 =>
      have H:=HA.out;clear HA;simp only [F0.l0] at H
      by_cases c43 : x7_2<(t147.length : Int)
      ·
       rw [if_pos c43] at H
       have c43b0 : decide (x7_2<(t147.length : Int))=true:=decide_eq_true c43;clear c43
       by_cases c44 : 0≤x7_2
       ·
        rw [if_pos c44] at H
        have c44b0 : decide (0≤x7_2)=true:=decide_eq_true c44;clear c44;replace H:=zT.mp H;obtain ⟨t152,A450,H⟩:=H;replace H : (if t152=true then (F0.l0 k2 a1 t147 (wrap64 (x7_2 + 1))) else (some false))=some r:=H;have A45:=zh A450;clear A450
        by_cases c46 : t152=true
        ·
         subst c46
         have H1 : (F0.l0 k2 a1 t147 (wrap64 (x7_2 + 1)))=some r:=by rw [if_pos rfl] at H;exact H
         clear H;have H:=H1;clear H1;have H':=zh H;clear H;obtain ⟨Ao47,co47,eo47⟩:=yk HO_5.out;subst eo47;have p151 : 0≤(x7_2 : Int):=zy (by first|(with_reducible assumption)|assumption);have q151 : x7_2<(t147.length : Int):=zy (by first|(with_reducible assumption)|assumption);obtain ⟨ad151,e151,hx151_0,hx151_1,hx151_2⟩:=at_T27 (yh HO_5.out).2.2 x7_2 p151 q151
         cases e151
         replace p151:=eq_true p151;replace q151:=eq_true q151
         go_wp2_with (first|((with_reducible refine zJ (f:=41) rfl ?_);refine yj (some 91) rfl rfl Try.func41 (by kernel_rfl) rfl #[.agg #[.int .i64 ((rd_T27 t147 x7_2).f0),.int .i64 ((rd_T27 t147 x7_2).f1),.string ((rd_T27 t147 x7_2).f2)],.int .i64 (wrap64 (a1 - 1))] rfl (by (try simp only [zt,zu,zv]);first|done|rfl|(simp only [zw,zx];rfl)|(simp only [yr,ys,zV,zW];rfl)) ?_;(with_reducible refine (ih k2 (by have:=HJ30.out;have:=HK2.out;omega)  ((rd_T27 t147 x7_2).f0) ((rd_T27 t147 x7_2).f1) ((rd_T27 t147 x7_2).f2) (wrap64 (a1 - 1)) true _ A45.out).mono ?_);rintro e w48 ⟨rfl,hb⟩;refine ⟨_,rfl,?_⟩;replace HO_5:=zh (yg (by (with_reducible repeat (first|apply zm|apply zn|apply zo));exact HO_5.out) hb);replace BK144:=zh (cD BK144.out (by (with_reducible repeat first|apply ze|apply zf|apply zg);exact BK144.out) hb);replace HB:=zh (zC (by repeat (with_reducible first|exact HB.out|apply za|apply zb|apply zc|refine zd ?_ GE144.out)) hb);(try clear hb);(try clear hb2);(try clear hk);(try clear hi)))
         go_roundg k2
         case measure => have:=HJ30.out;have:=HK2.out;omega
         case rel => exact ⟨(wrap64 (x7_2 + 1)),(by first|rfl|(simp;done)|(simp [*];done)),H',⟨by have:=HJ30.out;have:=HK2.out;omega⟩,⟨by (with_reducible repeat (first|apply zm|apply zn|apply zo));exact HO_5.out⟩,⟨by (with_reducible repeat first|apply ze|apply zf|apply zg);exact BK144.out⟩,⟨by repeat (with_reducible first|exact HB.out|apply za|apply zb|apply zc|refine zd ?_ GE144.out)⟩⟩
        replace c46:=yb.mpr c46;subst c46;have H1 : (some false)=some r:=by rw [if_neg (show ¬ (false=true) by decide)] at H;exact H
        clear H;have H:=H1;clear H1;obtain rfl:=zU H;obtain ⟨Ao49,co49,eo49⟩:=yk HO_5.out;subst eo49;have p151 : 0≤(x7_2 : Int):=zy (by first|(with_reducible assumption)|assumption);have q151 : x7_2<(t147.length : Int):=zy (by first|(with_reducible assumption)|assumption);obtain ⟨ad151,e151,hx151_0,hx151_1,hx151_2⟩:=at_T27 (yh HO_5.out).2.2 x7_2 p151 q151
        cases e151
        replace p151:=eq_true p151;replace q151:=eq_true q151
        go_wp2_with (first|((with_reducible refine zJ (f:=41) rfl ?_);refine yj (some 91) rfl rfl Try.func41 (by kernel_rfl) rfl #[.agg #[.int .i64 ((rd_T27 t147 x7_2).f0),.int .i64 ((rd_T27 t147 x7_2).f1),.string ((rd_T27 t147 x7_2).f2)],.int .i64 (wrap64 (a1 - 1))] rfl (by (try simp only [zt,zu,zv]);first|done|rfl|(simp only [zw,zx];rfl)|(simp only [yr,ys,zV,zW];rfl)) ?_;(with_reducible refine (ih k2 (by have:=HJ30.out;have:=HK2.out;omega)  ((rd_T27 t147 x7_2).f0) ((rd_T27 t147 x7_2).f1) ((rd_T27 t147 x7_2).f2) (wrap64 (a1 - 1)) false _ A45.out).mono ?_);rintro e w50 ⟨rfl,hb⟩;refine ⟨_,rfl,?_⟩;replace HO_5:=zh (yg (by (with_reducible repeat (first|apply zm|apply zn|apply zo));exact HO_5.out) hb);replace BK144:=zh (cD BK144.out (by (with_reducible repeat first|apply ze|apply zf|apply zg);exact BK144.out) hb);replace HB:=zh (zC (by repeat (with_reducible first|exact HB.out|apply za|apply zb|apply zc|refine zd ?_ GE144.out)) hb);(try clear hb);(try clear hb2);(try clear hk);(try clear hi)))
        go_ret
        exact ⟨by first|rfl|(simp [yt,yu] <;> rfl)|(simp [*,yt,yu] <;> rfl),by repeat (with_reducible first|exact HB.out|apply za|apply zb|apply zc|refine zd ?_ GE144.out)⟩
       rw [if_neg c44] at H;exact absurd H (by simp)
      rw [if_neg c43] at H;have c43b0 : decide (x7_2<(t147.length : Int))=false:=decide_eq_false c43;clear c43;obtain rfl:=zU H;obtain ⟨Ao51,co51,eo51⟩:=yk HO_5.out;subst eo51
      go_wp2
      go_ret
      exact ⟨by first|rfl|(simp [yt,yu] <;> rfl)|(simp [*,yt,yu] <;> rfl),by repeat (with_reducible first|exact HB.out|apply za|apply zb|apply zc|refine zd ?_ GE144.out)⟩
 rw [if_neg c29] at H;have c29b0 : (a0_0 == 4)=false:=zY.mpr c29;have c29b1 : (a0_0 != 4)=true:=zZ.mpr c29
 by_cases c52 : a0_0=5
 ·
  rw [if_pos c52] at H
  have c52b0 : (a0_0 == 5)=true:=ya.mpr c52;have c52b1 : (a0_0 != 5)=false:=zX.mpr c52;clear c52;replace H:=zT.mp H;obtain ⟨⟨t153,t154⟩,A530,H⟩:=H;replace H : (if a0_1=0 then (if t154=true then (if (a0_2.size : Int) > 300 then (F0.j2 k a1 t153 true) else (F0.j2 k a1 t153 (a1 == 0))) else (F0.j2 k a1 t153 true)) else (F0.j2 k a1 t153 true))=some r:=H;have A53:=zh A530;clear A530;have HC54:=zh H;clear H
  go_enter Try.func41,Try.ntmps41
  go_upto_region 22 with (first|((with_reducible refine zK (N:=2) rfl ?_);(try (refine yz (by rfl) ?_;dsimp only));refine zI ?hg (N:=2) ?hd (cs:=#[.int .i64 a0_0,.int .i64 a0_1,.string a0_2]) (t:=27) ?hr ?_;(case hd|hg => rfl);(case hr => go_simp <;> rfl);intro gb144 hg w55 hbox hb;have BK144:=zh (hbox);have hH_:=cH (by repeat (with_reducible first|exact HB.out|apply za|apply zb|apply zc)) hb hg;have GW144:=zh hH_.1;have GE144:=GW144;replace HB:=zh hH_.2;clear hb hbox hg hH_;obtain ⟨hcz56_0,hcz56_1,hcz56_2,hfz56_0,hfz56_1,hfz56_2⟩:=cB3 BK144.out)|((with_reducible refine zJ (f:=48) rfl ?_);refine yj (some 98) rfl rfl Try.func48 (by kernel_rfl) rfl #[.string a0_2] rfl (by (try simp only [zt,zu,zv]);first|done|rfl|(simp only [zw,zx];rfl)|(simp only [yr,ys,zV,zW];rfl)) ?_;(with_reducible refine (Ff.calls k  a0_2 t153 t154 _ A53.out).mono ?_);rintro e w57 ⟨v155,rfl,ho0,hb⟩;refine ⟨_,rfl,?_⟩;have HO156:=zh (yy ho0 (zB (by repeat (with_reducible first|exact HB.out|apply za|apply zb|apply zc|refine zd ?_ GE144.out))));replace BK144:=zh (cD BK144.out (by (with_reducible repeat first|apply ze|apply zf|apply zg);exact BK144.out) hb);replace HB:=zh (zC (by repeat (with_reducible first|exact HB.out|apply za|apply zb|apply zc|refine zd ?_ GE144.out)) hb);(try clear hb);(try clear hb2);(try clear hk);(try clear hi);(try clear ho0)))
  (try simp only [Act.put,zi,zj,zk])
  go_cut [117] (fun v117 wc => ∃ (kq : Nat) (x117_53 : Bool),v117 = .bool x117_53∧Aside0 (F0.j2 kq a1 t153 x117_53=some r)∧Aside0 (kq≤k)∧Aside0 (Kd.R k54 54 wc w.heap.size (fun _ => True) v155 t153)∧Aside0 (wc.heap[gb144]? = some (.cells #[.int .i64 a0_0,.int .i64 a0_1,.string a0_2] 27 (0,0)))∧Aside0 (Below w.heap.size w wc))
  case first =>
   have H:=HC54.out;clear HC54
   by_cases c58 : a0_1=0
   ·
    rw [if_pos c58] at H
    have c58b0 : (a0_1 == 0)=true:=ya.mpr c58;have c58b1 : (a0_1 != 0)=false:=zX.mpr c58;clear c58;(first|rw [c58b0]|(simp only [zG,zH];rw [c58b0])|skip)
    by_cases c59 : t154=true
    ·
     subst c59
     have H1 : (if (a0_2.size : Int) > 300 then (F0.j2 k a1 t153 true) else (F0.j2 k a1 t153 (a1 == 0)))=some r:=by rw [if_pos rfl] at H;exact H
     clear H;have H:=H1;clear H1
     by_cases c60 : (a0_2.size : Int) > 300
     ·
      rw [if_pos c60] at H
      have c60b0 : decide (300<(a0_2.size : Int))=true:=decide_eq_true c60;have c60b1 : decide (300<a0_2.size)=true:=decide_eq_true (by omega);clear c60;have H':=zh H;clear H;obtain ⟨hcz61_0,hcz61_1,hcz61_2,hfz61_0,hfz61_1,hfz61_2⟩:=cB3 BK144.out
      go_wp2
      go_meet
      case rel => exact ⟨_,(true),(by first|rfl|(simp;done)|(simp [*];done)),H',⟨by first|omega|exact ye _⟩,⟨by (with_reducible repeat (first|apply zm|apply zn|apply zo));exact HO156.out⟩,⟨by (with_reducible repeat first|apply ze|apply zf|apply zg);exact BK144.out⟩,⟨by repeat (with_reducible first|exact HB.out|apply za|apply zb|apply zc|refine zd ?_ GE144.out)⟩⟩
     rw [if_neg c60] at H;have c60b0 : decide (300<(a0_2.size : Int))=false:=decide_eq_false c60;have c60b1 : decide (300<a0_2.size)=false:=decide_eq_false (by omega);clear c60;have H':=zh H;clear H;obtain ⟨hcz62_0,hcz62_1,hcz62_2,hfz62_0,hfz62_1,hfz62_2⟩:=cB3 BK144.out
     go_wp2
     go_meet
     case rel => exact ⟨_,((a1 == 0)),(by first|rfl|(simp;done)|(simp [*];done)),H',⟨by first|omega|exact ye _⟩,⟨by (with_reducible repeat (first|apply zm|apply zn|apply zo));exact HO156.out⟩,⟨by (with_reducible repeat first|apply ze|apply zf|apply zg);exact BK144.out⟩,⟨by repeat (with_reducible first|exact HB.out|apply za|apply zb|apply zc|refine zd ?_ GE144.out)⟩⟩
    replace c59:=yb.mpr c59;subst c59;have H1 : (F0.j2 k a1 t153 true)=some r:=by rw [if_neg (show ¬ (false=true) by decide)] at H;exact H
    clear H;have H:=H1;clear H1;have H':=zh H;clear H;obtain ⟨hcz63_0,hcz63_1,hcz63_2,hfz63_0,hfz63_1,hfz63_2⟩:=cB3 BK144.out
    go_wp2
    go_meet
    case rel => exact ⟨_,(true),(by first|rfl|(simp;done)|(simp [*];done)),H',⟨by first|omega|exact ye _⟩,⟨by (with_reducible repeat (first|apply zm|apply zn|apply zo));exact HO156.out⟩,⟨by (with_reducible repeat first|apply ze|apply zf|apply zg);exact BK144.out⟩,⟨by repeat (with_reducible first|exact HB.out|apply za|apply zb|apply zc|refine zd ?_ GE144.out)⟩⟩
   rw [if_neg c58] at H;have c58b0 : (a0_1 == 0)=false:=zY.mpr c58;have c58b1 : (a0_1 != 0)=true:=zZ.mpr c58;(first|rw [c58b0]|(simp only [zG,zH];rw [c58b0])|skip);have H':=zh H;clear H;obtain ⟨hcz64_0,hcz64_1,hcz64_2,hfz64_0,hfz64_1,hfz64_2⟩:=cB3 BK144.out
   go_wp2
   go_meet
   case rel => exact ⟨_,(true),(by first|rfl|(simp;done)|(simp [*];done)),H',⟨by first|omega|exact ye _⟩,⟨by (with_reducible repeat (first|apply zm|apply zn|apply zo));exact HO156.out⟩,⟨by (with_reducible repeat first|apply ze|apply zf|apply zg);exact BK144.out⟩,⟨by repeat (with_reducible first|exact HB.out|apply za|apply zb|apply zc|refine zd ?_ GE144.out)⟩⟩
  case rest =>
   clear HC54
   try clear c1
   try clear p1
   try clear q1
   try clear hx1
   try clear c2
   try clear p2
   try clear c3 c3b0 c3b1 c4 c4b0 c4b1 c5 c6
   try clear p6
   try clear c9 c9b0 c9b1 c11
   try clear p15
   try clear q15
   try clear hx15
   try clear c16 c16b0 c16b1 c18 c23 c23b0 c23b1 c24 c24b0 c24b1 c29 c29b0 c29b1 c35 c35b0 c35b1 c36 c37 c37b0 c37b1 c41 c42 c43 c43b0 c44 c44b0 c46 c48 c52 c52b0 c52b1 c58 c58b0 c58b1 c59 c60 c60b0 c60b1 c64
   try clear p64
   try clear hcz13_0 hcz13_1 hcz13_2
   try clear hcz15_0 hcz15_1 hcz15_2
   try clear hcz20_0 hcz20_1 hcz20_2
   try clear hcz22_0 hcz22_1 hcz22_2
   try clear hcz26_0 hcz26_1 hcz26_2
   try clear hcz28_0 hcz28_1 hcz28_2
   try clear hcz33_0 hcz33_1 hcz33_2
   try clear hcz38_0 hcz38_1 hcz38_2
   try clear hcz39_0 hcz39_1 hcz39_2
   try clear hcz40_0 hcz40_1 hcz40_2
   try clear hcz41_0 hcz41_1 hcz41_2
   try clear hcz56_0 hcz56_1 hcz56_2
   try clear hcz61_0 hcz61_1 hcz61_2
   try clear hcz62_0 hcz62_1 hcz62_2
   try clear hcz63_0 hcz63_1 hcz63_2
   try clear hcz64_0 hcz64_1 hcz64_2
   try clear hcz6_0 hcz6_1 hcz6_2
   try clear hcz8_0 hcz8_1 hcz8_2
   try clear hfz13_0 hfz13_1 hfz13_2
   try clear hfz15_0 hfz15_1 hfz15_2
   try clear hfz20_0 hfz20_1 hfz20_2
   try clear hfz22_0 hfz22_1 hfz22_2
   try clear hfz26_0 hfz26_1 hfz26_2
   try clear hfz28_0 hfz28_1 hfz28_2
   try clear hfz33_0 hfz33_1 hfz33_2
   try clear hfz38_0 hfz38_1 hfz38_2
   try clear hfz39_0 hfz39_1 hfz39_2
   try clear hfz40_0 hfz40_1 hfz40_2
   try clear hfz41_0 hfz41_1 hfz41_2
   try clear hfz56_0 hfz56_1 hfz56_2
   try clear hfz61_0 hfz61_1 hfz61_2
   try clear hfz62_0 hfz62_1 hfz62_2
   try clear hfz63_0 hfz63_1 hfz63_2
   try clear hfz64_0 hfz64_1 hfz64_2
   try clear hfz6_0 hfz6_1 hfz6_2
   try clear hfz8_0 hfz8_1 hfz8_2
   try clear hx151_0
   try clear hx151_1
   try clear hx151_2
   try clear p151
   try clear p2
   try clear q151
   obtain ⟨kq,x117_53,rfl,HA,HJ53,HO_8,BK144,HB⟩:=hcut
   cases kq with
   | zero => exact absurd HA.out (by simp [F0.j2])
   | succ kj53 =>
    have H:=HA.out;clear HA;simp only [F0.j2] at H
    by_cases c65 : x117_53=true
    ·
     subst c65
     have H1 : (some false)=some r:=by rw [if_pos rfl] at H;exact H
     clear H;have H:=H1;clear H1;obtain rfl:=zU H
     go_wp2
     go_ret
     exact ⟨by first|rfl|(simp [yt,yu] <;> rfl)|(simp [*,yt,yu] <;> rfl),by repeat (with_reducible first|exact HB.out|apply za|apply zb|apply zc|refine zd ?_ GE144.out)⟩
    replace c65:=yb.mpr c65;subst c65;have H1 : (F0.l1 kj53 a1 t153 0)=some r:=by rw [if_neg (show ¬ (false=true) by decide)] at H;exact H
    clear H;have H:=H1;clear H1;have H':=zh H;clear H
    go_wp2
    go_loopg [10] kj53 (fun kq v10 w' => ∃ (x10_2 : Int),v10 = .int .i64 x10_2∧Aside0 (F0.l1 kq a1 t153 x10_2=some r)∧Aside0 (kq≤kj53)∧Aside0 (Kd.R k54 54 w' w.heap.size (fun _ => True) v155 t153)∧Aside0 (w'.heap[gb144]? = some (.cells #[.int .i64 a0_0,.int .i64 a0_1,.string a0_2] 27 (0,0)))∧Aside0 (Below w.heap.size w w'))
    case atStart => exact ⟨(0),(by first|rfl|(simp;done)|(simp [*];done)),H',⟨ye _⟩,⟨by (with_reducible repeat (first|apply zm|apply zn|apply zo));exact HO_8.out⟩,⟨by (with_reducible repeat first|apply ze|apply zf|apply zg);exact BK144.out⟩,⟨by repeat (with_reducible first|exact HB.out|apply za|apply zb|apply zc|refine zd ?_ GE144.out)⟩⟩
    case round =>
     clear H'
     try clear c1
     try clear p1
     try clear q1
     try clear hx1
     try clear c2
     try clear p2
     try clear c3 c3b0 c3b1 c4 c4b0 c4b1 c5 c6
     try clear p6
     try clear c9 c9b0 c9b1 c11
     try clear p15
     try clear q15
     try clear hx15
     try clear c16 c16b0 c16b1 c18 c23 c23b0 c23b1 c24 c24b0 c24b1 c29 c29b0 c29b1 c35 c35b0 c35b1 c36 c37 c37b0 c37b1 c41 c42 c43 c43b0 c44 c44b0 c46 c48 c52 c52b0 c52b1 c58 c58b0 c58b1 c59 c60 c60b0 c60b1 c64
     try clear p64
     try clear c65
     try clear hcz13_0 hcz13_1 hcz13_2
     try clear hcz15_0 hcz15_1 hcz15_2
     try clear hcz20_0 hcz20_1 hcz20_2
     try clear hcz22_0 hcz22_1 hcz22_2
     try clear hcz26_0 hcz26_1 hcz26_2
     try clear hcz28_0 hcz28_1 hcz28_2
     try clear hcz33_0 hcz33_1 hcz33_2
     try clear hcz38_0 hcz38_1 hcz38_2
     try clear hcz39_0 hcz39_1 hcz39_2
     try clear hcz40_0 hcz40_1 hcz40_2
     try clear hcz41_0 hcz41_1 hcz41_2
     try clear hcz56_0 hcz56_1 hcz56_2
     try clear hcz61_0 hcz61_1 hcz61_2
     try clear hcz62_0 hcz62_1 hcz62_2
     try clear hcz63_0 hcz63_1 hcz63_2
     try clear hcz64_0 hcz64_1 hcz64_2
     try clear hcz6_0 hcz6_1 hcz6_2
     try clear hcz8_0 hcz8_1 hcz8_2
     try clear hfz13_0 hfz13_1 hfz13_2
     try clear hfz15_0 hfz15_1 hfz15_2
     try clear hfz20_0 hfz20_1 hfz20_2
     try clear hfz22_0 hfz22_1 hfz22_2
     try clear hfz26_0 hfz26_1 hfz26_2
     try clear hfz28_0 hfz28_1 hfz28_2
     try clear hfz33_0 hfz33_1 hfz33_2
     try clear hfz38_0 hfz38_1 hfz38_2
     try clear hfz39_0 hfz39_1 hfz39_2
     try clear hfz40_0 hfz40_1 hfz40_2
     try clear hfz41_0 hfz41_1 hfz41_2
     try clear hfz56_0 hfz56_1 hfz56_2
     try clear hfz61_0 hfz61_1 hfz61_2
     try clear hfz62_0 hfz62_1 hfz62_2
     try clear hfz63_0 hfz63_1 hfz63_2
     try clear hfz64_0 hfz64_1 hfz64_2
     try clear hfz6_0 hfz6_1 hfz6_2
     try clear hfz8_0 hfz8_1 hfz8_2
     try clear hx151_0
     try clear hx151_1
     try clear hx151_2
     try clear p1
     try clear p15
     try clear p151
     try clear p2
     try clear p6
     try clear p64
     try clear q1
     try clear q15
     try clear q151
     obtain ⟨x10_2,rfl,HA,HK2,HO_8,BK144,HB⟩:=hrel
     cases gk with
     | zero => exact absurd HA.out (by simp [F0.l1])
     | succ k2 =>
      have H:=HA.out;clear HA;simp only [F0.l1] at H
      by_cases c66 : x10_2<(t153.length : Int)
      ·
       rw [if_pos c66] at H
       have c66b0 : decide (x10_2<(t153.length : Int))=true:=decide_eq_true c66;clear c66
       by_cases c67 : 0≤x10_2
       ·
        rw [if_pos c67] at H
        have c67b0 : decide (0≤x10_2)=true:=decide_eq_true c67;clear c67;replace H:=zT.mp H;obtain ⟨t158,A680,H⟩:=H;replace H : (if t158=true then (if x10_2 > 0 then (if 0≤(wrap64 (x10_2 - 1)) then (if (wrap64 (x10_2 - 1))<(t153.length : Int) then (if ((Op.bytesLess (((rd_T54 t153 (wrap64 (x10_2 - 1))).f0).toList) (((rd_T54 t153 x10_2).f0).toList))=true) then ((F0.f k2 ((rd_T54 t153 x10_2).f1.f0) ((rd_T54 t153 x10_2).f1.f1) ((rd_T54 t153 x10_2).f1.f2) (wrap64 (a1 - 1))).bind fun t162 => (if t162=true then (F0.l1 k2 a1 t153 (wrap64 (x10_2 + 1))) else (some false))) else (some false)) else (none)) else (none)) else ((F0.f k2 ((rd_T54 t153 x10_2).f1.f0) ((rd_T54 t153 x10_2).f1.f1) ((rd_T54 t153 x10_2).f1.f2) (wrap64 (a1 - 1))).bind fun t164 => (if t164=true then (F0.l1 k2 a1 t153 (wrap64 (x10_2 + 1))) else (some false)))) else (some false))=some r:=H;have A68:=zh A680;clear A680
        by_cases c69 : t158=true
        ·
         subst c69
         have H1 : (if x10_2 > 0 then (if 0≤(wrap64 (x10_2 - 1)) then (if (wrap64 (x10_2 - 1))<(t153.length : Int) then (if ((Op.bytesLess (((rd_T54 t153 (wrap64 (x10_2 - 1))).f0).toList) (((rd_T54 t153 x10_2).f0).toList))=true) then ((F0.f k2 ((rd_T54 t153 x10_2).f1.f0) ((rd_T54 t153 x10_2).f1.f1) ((rd_T54 t153 x10_2).f1.f2) (wrap64 (a1 - 1))).bind fun t162 => (if t162=true then (F0.l1 k2 a1 t153 (wrap64 (x10_2 + 1))) else (some false))) else (some false)) else (none)) else (none)) else ((F0.f k2 ((rd_T54 t153 x10_2).f1.f0) ((rd_T54 t153 x10_2).f1.f1) ((rd_T54 t153 x10_2).f1.f2) (wrap64 (a1 - 1))).bind fun t164 => (if t164=true then (F0.l1 k2 a1 t153 (wrap64 (x10_2 + 1))) else (some false))))=some r:=by rw [if_pos rfl] at H;exact H
         clear H;have H:=H1;clear H1
         by_cases c70 : x10_2 > 0
         ·
          rw [if_pos c70] at H
          have c70b0 : decide (0<x10_2)=true:=decide_eq_true c70;clear c70;obtain ⟨ji71,hji71⟩ : ∃ j_ : Int,(wrap64 (x10_2 - 1))=j_:=⟨_,rfl⟩;replace H : (if 0≤(ji71) then (if (ji71)<(t153.length : Int) then (if ((Op.bytesLess (((rd_T54 t153 (ji71)).f0).toList) (((rd_T54 t153 x10_2).f0).toList))=true) then ((F0.f k2 ((rd_T54 t153 x10_2).f1.f0) ((rd_T54 t153 x10_2).f1.f1) ((rd_T54 t153 x10_2).f1.f2) (wrap64 (a1 - 1))).bind fun t162 => (if t162=true then (F0.l1 k2 a1 t153 (wrap64 (x10_2 + 1))) else (some false))) else (some false)) else (none)) else (none))=some r:=by first|(rw [hji71] at H;exact H)|(simp only [hji71] at H ⊢;exact H)
          (try rw [hji71] at A68);have hji71w : (IntKind.i64.wrap (x10_2 - 1))=ji71:=(zG _).trans hji71
          by_cases c72 : 0≤(ji71)
          ·
           rw [if_pos c72] at H
           have c72b0 : decide (0≤(ji71))=true:=decide_eq_true c72;clear c72
           by_cases c73 : (ji71)<(t153.length : Int)
           ·
            rw [if_pos c73] at H
            have c73b0 : decide ((ji71)<(t153.length : Int))=true:=decide_eq_true c73;clear c73
            by_cases c74 : ((Op.bytesLess (((rd_T54 t153 (ji71)).f0).toList) (((rd_T54 t153 x10_2).f0).toList))=true)
            ·
             rw [if_pos c74] at H
             have c74b0 : (Op.bytesLess (((rd_T54 t153 (ji71)).f0).toList) (((rd_T54 t153 x10_2).f0).toList))=true:=c74;clear c74;replace H:=zT.mp H;obtain ⟨t162,A750,H⟩:=H;replace H : (if t162=true then (F0.l1 k2 a1 t153 (wrap64 (x10_2 + 1))) else (some false))=some r:=H;have A75:=zh A750;clear A750
             by_cases c76 : t162=true
             ·
              subst c76
              have H1 : (F0.l1 k2 a1 t153 (wrap64 (x10_2 + 1)))=some r:=by rw [if_pos rfl] at H;exact H
              clear H;have H:=H1;clear H1;have H':=zh H;clear H;obtain ⟨Ao77,co77,eo77⟩:=yk HO_8.out;subst eo77
              try go_wp2
              replace HO_8:=zh (zo HO_8.out);replace BK144:=zh (zf BK144.out);replace HB:=zh (zc HB.out);have p157 : 0≤(x10_2 : Int):=zy (by first|(with_reducible assumption)|assumption);have q157 : x10_2<(t153.length : Int):=zy (by first|(with_reducible assumption)|assumption);obtain ⟨ad157,e157,hx157_0,hx157_1,hx157_2,hx157_3⟩:=at_T54 (yh HO_8.out).2.2 x10_2 p157 q157
              cases e157
              replace p157:=eq_true p157;replace q157:=eq_true q157;have p159 : 0≤((ji71) : Int):=zy (by first|(with_reducible assumption)|assumption);have q159 : (ji71)<(t153.length : Int):=zy (by first|(with_reducible assumption)|assumption);obtain ⟨ad159,e159,hx159_0,hx159_1,hx159_2,hx159_3⟩:=at_T54 (yh HO_8.out).2.2 (ji71) p159 q159;obtain rfl : ad157=ad159:=(by injection e159);replace p159:=eq_true p159;replace q159:=eq_true q159;have p160 : 0≤(x10_2 : Int):=zy (by first|(with_reducible assumption)|assumption);have q160 : x10_2<(t153.length : Int):=zy (by first|(with_reducible assumption)|assumption);obtain ⟨ad160,e160,hx160_0,hx160_1,hx160_2,hx160_3⟩:=at_T54 (yh HO_8.out).2.2 x10_2 p160 q160;obtain rfl : ad157=ad160:=(by injection e160);replace p160:=eq_true p160;replace q160:=eq_true q160;have p161 : 0≤(x10_2 : Int):=zy (by first|(with_reducible assumption)|assumption);have q161 : x10_2<(t153.length : Int):=zy (by first|(with_reducible assumption)|assumption);obtain ⟨ad161,e161,hx161_0,hx161_1,hx161_2,hx161_3⟩:=at_T54 (yh HO_8.out).2.2 x10_2 p161 q161;obtain rfl : ad157=ad161:=(by injection e161);replace p161:=eq_true p161;replace q161:=eq_true q161;refine start_ (n:=36) (S:=fun w' => w'.cell? (ad157.add ((x10_2).toNat * 4))=some (.string ((rd_T54 t153 x10_2).f0))∧w'.cell? ⟨(ad157.add ((x10_2).toNat * 4)).block,(ad157.add ((x10_2).toNat * 4)).off + 1,none⟩=some (.int .i64 ((rd_T54 t153 x10_2).f1.f0))∧w'.cell? ⟨(ad157.add ((x10_2).toNat * 4)).block,(ad157.add ((x10_2).toNat * 4)).off + 2,none⟩=some (.int .i64 ((rd_T54 t153 x10_2).f1.f1))∧w'.cell? ⟨(ad157.add ((x10_2).toNat * 4)).block,(ad157.add ((x10_2).toNat * 4)).off + 3,none⟩=some (.string ((rd_T54 t153 x10_2).f1.f2))∧w'.cell? (ad157.add (((ji71)).toNat * 4))=some (.string ((rd_T54 t153 (ji71)).f0))∧w'.cell? ⟨(ad157.add (((ji71)).toNat * 4)).block,(ad157.add (((ji71)).toNat * 4)).off + 1,none⟩=some (.int .i64 ((rd_T54 t153 (ji71)).f1.f0))∧w'.cell? ⟨(ad157.add (((ji71)).toNat * 4)).block,(ad157.add (((ji71)).toNat * 4)).off + 2,none⟩=some (.int .i64 ((rd_T54 t153 (ji71)).f1.f1))∧w'.cell? ⟨(ad157.add (((ji71)).toNat * 4)).block,(ad157.add (((ji71)).toNat * 4)).off + 3,none⟩=some (.string ((rd_T54 t153 (ji71)).f1.f2))∧w'.cell? (ad157.add ((x10_2).toNat * 4))=some (.string ((rd_T54 t153 x10_2).f0))∧w'.cell? ⟨(ad157.add ((x10_2).toNat * 4)).block,(ad157.add ((x10_2).toNat * 4)).off + 1,none⟩=some (.int .i64 ((rd_T54 t153 x10_2).f1.f0))∧w'.cell? ⟨(ad157.add ((x10_2).toNat * 4)).block,(ad157.add ((x10_2).toNat * 4)).off + 2,none⟩=some (.int .i64 ((rd_T54 t153 x10_2).f1.f1))∧w'.cell? ⟨(ad157.add ((x10_2).toNat * 4)).block,(ad157.add ((x10_2).toNat * 4)).off + 3,none⟩=some (.string ((rd_T54 t153 x10_2).f1.f2))∧w'.cell? (ad157.add ((x10_2).toNat * 4))=some (.string ((rd_T54 t153 x10_2).f0))∧w'.cell? ⟨(ad157.add ((x10_2).toNat * 4)).block,(ad157.add ((x10_2).toNat * 4)).off + 1,none⟩=some (.int .i64 ((rd_T54 t153 x10_2).f1.f0))∧w'.cell? ⟨(ad157.add ((x10_2).toNat * 4)).block,(ad157.add ((x10_2).toNat * 4)).off + 2,none⟩=some (.int .i64 ((rd_T54 t153 x10_2).f1.f1))∧w'.cell? ⟨(ad157.add ((x10_2).toNat * 4)).block,(ad157.add ((x10_2).toNat * 4)).off + 3,none⟩=some (.string ((rd_T54 t153 x10_2).f1.f2))) (ds:=[]) (bm_ 0 36) (by kernel_rfl) rfl rfl ⟨hx157_0,hx157_1,hx157_2,hx157_3,hx159_0,hx159_1,hx159_2,hx159_3,hx160_0,hx160_1,hx160_2,hx160_3,hx161_0,hx161_1,hx161_2,hx161_3⟩ (fun hHeld => ?_);refine with_tabW F0.tab27 F0.bits27 (fun HT_ HW_ => ?_);generalize wr.drew=w78 at HO_8 BK144 HB hx157_0 hx157_1 hx157_2 hx157_3 hx159_0 hx159_1 hx159_2 hx159_3 hx160_0 hx160_1 hx160_2 hx160_3 hx161_0 hx161_1 hx161_2 hx161_3 hHeld ⊢;refine pure_ (i:=0) (N:=some 124) (v:=?_) (a':=?_) (bm_ 1 36) rfl rfl (any_of HT_.out (by kernel_rfl)) (fun _ _ _ h => h) (Or.inl ⟨by rfl,?_⟩) ?_ ?_;rotate_left
              ·
               intro w'
               go_simp
               with_reducible rfl
              rotate_left
              ·
               simp only [Act.put,zi,zj,zk,zG,zH]
               rfl
              refine pure_ (i:=1) (N:=some 125) (v:=?_) (a':=?_) (bm_ 2 36) rfl rfl (any_of HT_.out (by kernel_rfl)) (fun _ _ _ h => h) (Or.inl ⟨by rfl,?_⟩) ?_ ?_;rotate_left
              ·
               intro w'
               go_simp
               with_reducible rfl
              rotate_left
              ·
               simp only [Act.put,zi,zj,zk,zG,zH]
               rfl
              refine pure_ (i:=2) (N:=some 126) (v:=?_) (a':=?_) (bm_ 3 36) rfl rfl (any_of HT_.out (by kernel_rfl)) (fun _ _ _ h => h) (Or.inl ⟨by rfl,?_⟩) ?_ ?_;rotate_left
              ·
               intro w'
               go_simp
               with_reducible rfl
              rotate_left
              ·
               simp only [Act.put,zi,zj,zk,zG,zH]
               rfl
              refine pure_ (i:=3) (N:=some 127) (v:=?_) (a':=?_) (bm_ 4 36) rfl rfl (any_of HT_.out (by kernel_rfl)) (fun _ _ _ h => h) (Or.inl ⟨by rfl,?_⟩) ?_ ?_;rotate_left
              ·
               intro w'
               go_simp
               with_reducible rfl
              rotate_left
              ·
               simp only [Act.put,zi,zj,zk,zG,zH]
               rfl
              refine take_ (i:=4) (N:=some 128) (v:=?_) (a':=?_) (bm_ 5 36) rfl rfl (yo HT_.out HW_.out (by kernel_rfl)) (fun _ _ _ h => h) (Or.inl ⟨by rfl,?_⟩) hHeld ?_ ?_;rotate_left
              ·
               rintro w' ⟨s0,s1,s2,s3,s4,s5,s6,s7,s8,s9,s10,s11,s12,s13,s14,s15⟩
               go_simp
               with_reducible rfl
              rotate_left
              ·
               simp only [Act.put,zi,zj,zk,zG,zH]
               rfl
              refine one_ (i:=5) (N:=some 129) (bm_ 6 36) rfl rfl (one_of HT_.out (by kernel_rfl)) (by decide) (fun K hK => ?_);refine goes_ Try.func26 (by kernel_rfl) rfl #[.string ((rd_T54 t153 x10_2).f0)] (by rfl) rfl rfl (by (try simp only [zt,zu,zv]);first|done|rfl|(simp only [zw,zx];rfl)|(simp only [yr,ys,zV,zW];rfl)) ?_
              with_reducible refine (Fy.calls k2  ((rd_T54 t153 x10_2).f0) true _ A68.out).mono ?_
              rintro e w' ⟨rfl,⟨nd,rfl⟩⟩;refine ⟨_,rfl,?_⟩;refine hK.out _ _ ⟨hHeld.1,hHeld.2.1,hHeld.2.2.1,hHeld.2.2.2.1,hHeld.2.2.2.2.1,hHeld.2.2.2.2.2.1,hHeld.2.2.2.2.2.2.1,hHeld.2.2.2.2.2.2.2.1,hHeld.2.2.2.2.2.2.2.2.1,hHeld.2.2.2.2.2.2.2.2.2.1,hHeld.2.2.2.2.2.2.2.2.2.2.1,hHeld.2.2.2.2.2.2.2.2.2.2.2.1,hHeld.2.2.2.2.2.2.2.2.2.2.2.2.1,hHeld.2.2.2.2.2.2.2.2.2.2.2.2.2.1,hHeld.2.2.2.2.2.2.2.2.2.2.2.2.2.2.1,hHeld.2.2.2.2.2.2.2.2.2.2.2.2.2.2.2⟩ (fun hHeld => ?_);clear hK K;refine norm_ (a':=?_) ?_ ?_;rotate_left
              ·
               show Act.put _ (some 129) _=_
               simp only [Act.put,zi,zj,zk,zG,zH]
               rfl
              refine pure_ (i:=6) (N:=some 130) (v:=?_) (a':=?_) (bm_ 7 36) rfl rfl (any_of HT_.out (by kernel_rfl)) (fun _ _ _ h => h) (Or.inl ⟨by rfl,?_⟩) ?_ ?_;rotate_left
              ·
               intro w'
               go_simp
               with_reducible rfl
              rotate_left
              ·
               simp only [Act.put,zi,zj,zk,zG,zH]
               rfl
              refine pure_ (i:=7) (N:=some 131) (v:=?_) (a':=?_) (bm_ 8 36) rfl rfl (any_of HT_.out (by kernel_rfl)) (fun _ _ _ h => h) (Or.inl ⟨by rfl,?_⟩) ?_ ?_;rotate_left
              ·
               intro w'
               go_simp
               with_reducible rfl
              rotate_left
              ·
               simp only [Act.put,zi,zj,zk,zG,zH]
               rfl
              refine pure_ (i:=8) (N:=some 132) (v:=?_) (a':=?_) (bm_ 9 36) rfl rfl (any_of HT_.out (by kernel_rfl)) (fun _ _ _ h => h) (Or.inl ⟨by rfl,?_⟩) ?_ ?_;rotate_left
              ·
               intro w'
               go_simp
               with_reducible rfl
              rotate_left
              ·
               simp only [Act.put,zi,zj,zk,zG,zH]
               rfl
              refine pure_ (i:=9) (N:=some 133) (v:=?_) (a':=?_) (bm_ 10 36) rfl rfl (any_of HT_.out (by kernel_rfl)) (fun _ _ _ h => h) (Or.inl ⟨by rfl,?_⟩) ?_ ?_;rotate_left
              ·
               intro w'
               go_simp
               with_reducible rfl
              rotate_left
              ·
               simp only [Act.put,zi,zj,zk,zG,zH]
               rfl
              refine pure_ (i:=10) (N:=some 134) (v:=?_) (a':=?_) (bm_ 11 36) rfl rfl (any_of HT_.out (by kernel_rfl)) (fun _ _ _ h => h) (Or.inl ⟨by rfl,?_⟩) ?_ ?_;rotate_left
              ·
               intro w'
               go_simp
               with_reducible rfl
              rotate_left
              ·
               simp only [Act.put,zi,zj,zk,zG,zH]
               rfl
              refine pure_ (i:=11) (N:=some 135) (v:=?_) (a':=?_) (bm_ 12 36) rfl rfl (any_of HT_.out (by kernel_rfl)) (fun _ _ _ h => h) (Or.inl ⟨by rfl,?_⟩) ?_ ?_;rotate_left
              ·
               intro w'
               go_simp
               with_reducible rfl
              rotate_left
              ·
               simp only [Act.put,zi,zj,zk,zG,zH]
               rfl
              refine pure_ (i:=12) (N:=some 136) (v:=?_) (a':=?_) (bm_ 13 36) rfl rfl (any_of HT_.out (by kernel_rfl)) (fun _ _ _ h => h) (Or.inl ⟨by rfl,?_⟩) ?_ ?_;rotate_left
              ·
               intro w'
               go_simp
               with_reducible rfl
              rotate_left
              ·
               simp only [Act.put,zi,zj,zk,zG,zH]
               rfl
              refine pure_ (i:=13) (N:=some 137) (v:=?_) (a':=?_) (bm_ 14 36) rfl rfl (any_of HT_.out (by kernel_rfl)) (fun _ _ _ h => h) (Or.inl ⟨by rfl,?_⟩) ?_ ?_;rotate_left
              ·
               intro w'
               go_simp
               with_reducible rfl
              rotate_left
              ·
               simp only [Act.put,zi,zj,zk,zG,zH]
               rfl
              refine pure_ (i:=14) (N:=some 138) (v:=?_) (a':=?_) (bm_ 15 36) rfl rfl (any_of HT_.out (by kernel_rfl)) (fun _ _ _ h => h) (Or.inl ⟨by rfl,?_⟩) ?_ ?_;rotate_left
              ·
               intro w'
               go_simp
               with_reducible rfl
              rotate_left
              ·
               simp only [Act.put,zi,zj,zk,zG,zH]
               rfl
              refine pure_ (i:=15) (N:=some 139) (v:=?_) (a':=?_) (bm_ 16 36) rfl rfl (any_of HT_.out (by kernel_rfl)) (fun _ _ _ h => h) (Or.inl ⟨by rfl,?_⟩) ?_ ?_;rotate_left
              ·
               intro w'
               go_simp
               with_reducible rfl
              rotate_left
              ·
               simp only [Act.put,zi,zj,zk,zG,zH]
               rfl
              refine pure_ (i:=17) (N:=some 141) (v:=?_) (a':=?_) #[true,true,true,true,true,true,true,true,true,true,true,true,true,true,true,true,false,true,false,false,false,false,false,false,false,false,false,false,false,false,false,false,false,false,false,false] rfl rfl (any_of HT_.out (by kernel_rfl)) (fun _ _ _ h => h) (Or.inl ⟨by rfl,?_⟩) ?_ ?_;rotate_left
              ·
               intro w'
               go_simp
               with_reducible rfl
              rotate_left
              ·
               simp only [Act.put,zi,zj,zk,zG,zH]
               rfl
              refine pure_ (i:=18) (N:=some 142) (v:=?_) (a':=?_) #[true,true,true,true,true,true,true,true,true,true,true,true,true,true,true,true,false,true,true,false,false,false,false,false,false,false,false,false,false,false,false,false,false,false,false,false] rfl rfl (any_of HT_.out (by kernel_rfl)) (fun _ _ _ h => h) (Or.inl ⟨by rfl,?_⟩) ?_ ?_;rotate_left
              ·
               intro w'
               go_simp
               with_reducible rfl
              rotate_left
              ·
               simp only [Act.put,zi,zj,zk,zG,zH]
               rfl
              refine pure_ (i:=19) (N:=some 143) (v:=?_) (a':=?_) #[true,true,true,true,true,true,true,true,true,true,true,true,true,true,true,true,false,true,true,true,false,false,false,false,false,false,false,false,false,false,false,false,false,false,false,false] rfl rfl (any_of HT_.out (by kernel_rfl)) (fun _ _ _ h => h) (Or.inl ⟨by rfl,?_⟩) ?_ ?_;rotate_left
              ·
               intro w'
               go_simp
               with_reducible rfl
              rotate_left
              ·
               simp only [Act.put,zi,zj,zk,zG,zH]
               rfl
              refine pure_ (i:=20) (N:=some 144) (v:=?_) (a':=?_) #[true,true,true,true,true,true,true,true,true,true,true,true,true,true,true,true,false,true,true,true,true,false,false,false,false,false,false,false,false,false,false,false,false,false,false,false] rfl rfl (any_of HT_.out (by kernel_rfl)) (fun _ _ _ h => h) (Or.inl ⟨by rfl,?_⟩) ?_ ?_;rotate_left
              ·
               intro w'
               go_simp
               with_reducible rfl
              rotate_left
              ·
               simp only [Act.put,zi,zj,zk,zG,zH]
               rfl
              refine take_ (i:=16) (N:=some 140) (v:=?_) (a':=?_) (bm_ 21 36) rfl rfl (yo HT_.out HW_.out (by kernel_rfl)) (fun _ _ _ h => h) (Or.inl ⟨by rfl,?_⟩) hHeld ?_ ?_;rotate_left
              ·
               rintro w' ⟨s0,s1,s2,s3,s4,s5,s6,s7,s8,s9,s10,s11,s12,s13,s14,s15⟩
               go_simp
               with_reducible rfl
              rotate_left
              ·
               simp only [Act.put,zi,zj,zk,zG,zH]
               rfl
              refine take_ (i:=21) (N:=some 145) (v:=?_) (a':=?_) (bm_ 22 36) rfl rfl (yo HT_.out HW_.out (by kernel_rfl)) (fun _ _ _ h => h) (Or.inl ⟨by rfl,?_⟩) hHeld ?_ ?_;rotate_left
              ·
               rintro w' ⟨s0,s1,s2,s3,s4,s5,s6,s7,s8,s9,s10,s11,s12,s13,s14,s15⟩
               go_simp
               with_reducible rfl
              rotate_left
              ·
               simp only [Act.put,zi,zj,zk,zG,zH]
               rfl
              refine pure_ (i:=22) (N:=some 146) (v:=?_) (a':=?_) (bm_ 23 36) rfl rfl (any_of HT_.out (by kernel_rfl)) (fun _ _ _ h => h) (Or.inl ⟨by rfl,?_⟩) ?_ ?_;rotate_left
              ·
               intro w'
               go_simp
               with_reducible rfl
              rotate_left
              ·
               simp only [Act.put,zi,zj,zk,zG,zH]
               rfl
              refine pure_ (i:=23) (N:=some 147) (v:=?_) (a':=?_) (bm_ 24 36) rfl rfl (any_of HT_.out (by kernel_rfl)) (fun _ _ _ h => h) (Or.inl ⟨by rfl,?_⟩) ?_ ?_;rotate_left
              ·
               intro w'
               go_simp
               with_reducible rfl
              rotate_left
              ·
               simp only [Act.put,zi,zj,zk,zG,zH]
               rfl
              refine pure_ (i:=24) (N:=some 148) (v:=?_) (a':=?_) (bm_ 25 36) rfl rfl (any_of HT_.out (by kernel_rfl)) (fun _ _ _ h => h) (Or.inl ⟨by rfl,?_⟩) ?_ ?_;rotate_left
              ·
               intro w'
               go_simp
               with_reducible rfl
              rotate_left
              ·
               simp only [Act.put,zi,zj,zk,zG,zH]
               rfl
              refine pure_ (i:=25) (N:=some 149) (v:=?_) (a':=?_) (bm_ 26 36) rfl rfl (any_of HT_.out (by kernel_rfl)) (fun _ _ _ h => h) (Or.inl ⟨by rfl,?_⟩) ?_ ?_;rotate_left
              ·
               intro w'
               go_simp
               with_reducible rfl
              rotate_left
              ·
               simp only [Act.put,zi,zj,zk,zG,zH]
               rfl
              refine pure_ (i:=26) (N:=some 150) (v:=?_) (a':=?_) (bm_ 27 36) rfl rfl (any_of HT_.out (by kernel_rfl)) (fun _ _ _ h => h) (Or.inl ⟨by rfl,?_⟩) ?_ ?_;rotate_left
              ·
               intro w'
               go_simp
               with_reducible rfl
              rotate_left
              ·
               simp only [Act.put,zi,zj,zk,zG,zH]
               rfl
              refine pure_ (i:=27) (N:=some 151) (v:=?_) (a':=?_) (bm_ 28 36) rfl rfl (any_of HT_.out (by kernel_rfl)) (fun _ _ _ h => h) (Or.inl ⟨by rfl,?_⟩) ?_ ?_;rotate_left
              ·
               intro w'
               go_simp
               with_reducible rfl
              rotate_left
              ·
               simp only [Act.put,zi,zj,zk,zG,zH]
               rfl
              refine pure_ (i:=28) (N:=some 152) (v:=?_) (a':=?_) (bm_ 29 36) rfl rfl (any_of HT_.out (by kernel_rfl)) (fun _ _ _ h => h) (Or.inl ⟨by rfl,?_⟩) ?_ ?_;rotate_left
              ·
               intro w'
               go_simp
               with_reducible rfl
              rotate_left
              ·
               simp only [Act.put,zi,zj,zk,zG,zH]
               rfl
              refine pure_ (i:=29) (N:=some 153) (v:=?_) (a':=?_) (bm_ 30 36) rfl rfl (any_of HT_.out (by kernel_rfl)) (fun _ _ _ h => h) (Or.inl ⟨by rfl,?_⟩) ?_ ?_;rotate_left
              ·
               intro w'
               go_simp
               with_reducible rfl
              rotate_left
              ·
               simp only [Act.put,zi,zj,zk,zG,zH]
               rfl
              refine pure_ (i:=31) (N:=some 155) (v:=?_) (a':=?_) #[true,true,true,true,true,true,true,true,true,true,true,true,true,true,true,true,true,true,true,true,true,true,true,true,true,true,true,true,true,true,false,true,false,false,false,false] rfl rfl (any_of HT_.out (by kernel_rfl)) (fun _ _ _ h => h) (Or.inl ⟨by rfl,?_⟩) ?_ ?_;rotate_left
              ·
               intro w'
               go_simp
               with_reducible rfl
              rotate_left
              ·
               simp only [Act.put,zi,zj,zk,zG,zH]
               rfl
              refine pure_ (i:=32) (N:=some 156) (v:=?_) (a':=?_) #[true,true,true,true,true,true,true,true,true,true,true,true,true,true,true,true,true,true,true,true,true,true,true,true,true,true,true,true,true,true,false,true,true,false,false,false] rfl rfl (any_of HT_.out (by kernel_rfl)) (fun _ _ _ h => h) (Or.inl ⟨by rfl,?_⟩) ?_ ?_;rotate_left
              ·
               intro w'
               go_simp
               with_reducible rfl
              rotate_left
              ·
               simp only [Act.put,zi,zj,zk,zG,zH]
               rfl
              refine take_ (i:=30) (N:=some 154) (v:=?_) (a':=?_) (bm_ 33 36) rfl rfl (yo HT_.out HW_.out (by kernel_rfl)) (fun _ _ _ h => h) (Or.inl ⟨by rfl,?_⟩) hHeld ?_ ?_;rotate_left
              ·
               rintro w' ⟨s0,s1,s2,s3,s4,s5,s6,s7,s8,s9,s10,s11,s12,s13,s14,s15⟩
               go_simp
               with_reducible rfl
              rotate_left
              ·
               simp only [Act.put,zi,zj,zk,zG,zH]
               rfl
              refine one_ (i:=33) (N:=some 157) (bm_ 34 36) rfl rfl (one_of HT_.out (by kernel_rfl)) (by decide) (fun K hK => ?_);refine goes_ Try.func41 (by kernel_rfl) rfl #[.agg #[.int .i64 ((rd_T54 t153 x10_2).f1.f0),.int .i64 ((rd_T54 t153 x10_2).f1.f1),.string ((rd_T54 t153 x10_2).f1.f2)],.int .i64 (wrap64 (a1 - 1))] (by rfl) rfl rfl (by (try simp only [zt,zu,zv]);first|done|rfl|(simp only [zw,zx];rfl)|(simp only [yr,ys,zV,zW];rfl)) ?_
              with_reducible refine (ih k2 (by have:=HJ53.out;have:=HK2.out;omega)  ((rd_T54 t153 x10_2).f1.f0) ((rd_T54 t153 x10_2).f1.f1) ((rd_T54 t153 x10_2).f1.f2) (wrap64 (a1 - 1)) true _ A75.out).mono ?_
              rintro e w79 ⟨rfl,hb⟩;have HS0_:=(hb.cell (zl _ _ (hHeld.1))).trans (hHeld.1);have HS1_:=(hb.cell (zl _ _ (hHeld.2.1))).trans (hHeld.2.1);have HS2_:=(hb.cell (zl _ _ (hHeld.2.2.1))).trans (hHeld.2.2.1);have HS3_:=(hb.cell (zl _ _ (hHeld.2.2.2.1))).trans (hHeld.2.2.2.1);have HS4_:=(hb.cell (zl _ _ (hHeld.2.2.2.2.1))).trans (hHeld.2.2.2.2.1);have HS5_:=(hb.cell (zl _ _ (hHeld.2.2.2.2.2.1))).trans (hHeld.2.2.2.2.2.1);have HS6_:=(hb.cell (zl _ _ (hHeld.2.2.2.2.2.2.1))).trans (hHeld.2.2.2.2.2.2.1);have HS7_:=(hb.cell (zl _ _ (hHeld.2.2.2.2.2.2.2.1))).trans (hHeld.2.2.2.2.2.2.2.1);have HS8_:=(hb.cell (zl _ _ (hHeld.2.2.2.2.2.2.2.2.1))).trans (hHeld.2.2.2.2.2.2.2.2.1);have HS9_:=(hb.cell (zl _ _ (hHeld.2.2.2.2.2.2.2.2.2.1))).trans (hHeld.2.2.2.2.2.2.2.2.2.1);have HS10_:=(hb.cell (zl _ _ (hHeld.2.2.2.2.2.2.2.2.2.2.1))).trans (hHeld.2.2.2.2.2.2.2.2.2.2.1);have HS11_:=(hb.cell (zl _ _ (hHeld.2.2.2.2.2.2.2.2.2.2.2.1))).trans (hHeld.2.2.2.2.2.2.2.2.2.2.2.1);have HS12_:=(hb.cell (zl _ _ (hHeld.2.2.2.2.2.2.2.2.2.2.2.2.1))).trans (hHeld.2.2.2.2.2.2.2.2.2.2.2.2.1);have HS13_:=(hb.cell (zl _ _ (hHeld.2.2.2.2.2.2.2.2.2.2.2.2.2.1))).trans (hHeld.2.2.2.2.2.2.2.2.2.2.2.2.2.1);have HS14_:=(hb.cell (zl _ _ (hHeld.2.2.2.2.2.2.2.2.2.2.2.2.2.2.1))).trans (hHeld.2.2.2.2.2.2.2.2.2.2.2.2.2.2.1);have HS15_:=(hb.cell (zl _ _ (hHeld.2.2.2.2.2.2.2.2.2.2.2.2.2.2.2))).trans (hHeld.2.2.2.2.2.2.2.2.2.2.2.2.2.2.2);refine ⟨_,rfl,?_⟩;replace HO_8:=zh (yg (by (with_reducible repeat (first|apply zm|apply zn|apply zo));exact HO_8.out) hb);replace BK144:=zh (cD BK144.out (by (with_reducible repeat first|apply ze|apply zf|apply zg);exact BK144.out) hb);replace HB:=zh (zC (by repeat (with_reducible first|exact HB.out|apply za|apply zb|apply zc|refine zd ?_ GE144.out)) hb);(try clear hb);(try clear hb2);(try clear hk);(try clear hi);refine hK.out _ _ ⟨HS0_,HS1_,HS2_,HS3_,HS4_,HS5_,HS6_,HS7_,HS8_,HS9_,HS10_,HS11_,HS12_,HS13_,HS14_,HS15_⟩ (fun hHeld => ?_);clear hK K;refine norm_ (a':=?_) ?_ ?_;rotate_left
              ·
               show Act.put _ (some 157) _=_
               simp only [Act.put,zi,zj,zk,zG,zH]
               rfl
              refine pure_ (i:=34) (N:=some 158) (v:=?_) (a':=?_) (bm_ 35 36) rfl rfl (any_of HT_.out (by kernel_rfl)) (fun _ _ _ h => h) (Or.inl ⟨by rfl,?_⟩) ?_ ?_;rotate_left
              ·
               intro w'
               go_simp
               with_reducible rfl
              rotate_left
              ·
               simp only [Act.put,zi,zj,zk,zG,zH]
               rfl
              refine pure_ (i:=35) (N:=some 159) (v:=?_) (a':=?_) (bm_ 36 36) rfl rfl (any_of HT_.out (by kernel_rfl)) (fun _ _ _ h => h) (Or.inl ⟨by rfl,?_⟩) ?_ ?_;rotate_left
              ·
               intro w'
               go_simp
               with_reducible rfl
              rotate_left
              ·
               simp only [Act.put,zi,zj,zk,zG,zH]
               rfl
              refine done_ (done_of HT_.out (by kernel_rfl)) ?_
              try go_wp2
              go_roundg k2
              case measure => have:=HJ53.out;have:=HK2.out;omega
              case rel => exact ⟨(wrap64 (x10_2 + 1)),(by first|rfl|(simp;done)|(simp [*];done)),H',⟨by have:=HJ53.out;have:=HK2.out;omega⟩,⟨by (with_reducible repeat (first|apply zm|apply zn|apply zo));exact HO_8.out⟩,⟨by (with_reducible repeat first|apply ze|apply zf|apply zg);exact BK144.out⟩,⟨by repeat (with_reducible first|exact HB.out|apply za|apply zb|apply zc|refine zd ?_ GE144.out)⟩⟩
             replace c76:=yb.mpr c76;subst c76;have H1 : (some false)=some r:=by rw [if_neg (show ¬ (false=true) by decide)] at H;exact H
             clear H;have H:=H1;clear H1;obtain rfl:=zU H;obtain ⟨Ao80,co80,eo80⟩:=yk HO_8.out;subst eo80
             try go_wp2
             replace HO_8:=zh (zo HO_8.out);replace BK144:=zh (zf BK144.out);replace HB:=zh (zc HB.out);have p157 : 0≤(x10_2 : Int):=zy (by first|(with_reducible assumption)|assumption);have q157 : x10_2<(t153.length : Int):=zy (by first|(with_reducible assumption)|assumption);obtain ⟨ad157,e157,hx157_0,hx157_1,hx157_2,hx157_3⟩:=at_T54 (yh HO_8.out).2.2 x10_2 p157 q157
             cases e157
             replace p157:=eq_true p157;replace q157:=eq_true q157;have p159 : 0≤((ji71) : Int):=zy (by first|(with_reducible assumption)|assumption);have q159 : (ji71)<(t153.length : Int):=zy (by first|(with_reducible assumption)|assumption);obtain ⟨ad159,e159,hx159_0,hx159_1,hx159_2,hx159_3⟩:=at_T54 (yh HO_8.out).2.2 (ji71) p159 q159;obtain rfl : ad157=ad159:=(by injection e159);replace p159:=eq_true p159;replace q159:=eq_true q159;have p160 : 0≤(x10_2 : Int):=zy (by first|(with_reducible assumption)|assumption);have q160 : x10_2<(t153.length : Int):=zy (by first|(with_reducible assumption)|assumption);obtain ⟨ad160,e160,hx160_0,hx160_1,hx160_2,hx160_3⟩:=at_T54 (yh HO_8.out).2.2 x10_2 p160 q160;obtain rfl : ad157=ad160:=(by injection e160);replace p160:=eq_true p160;replace q160:=eq_true q160;have p161 : 0≤(x10_2 : Int):=zy (by first|(with_reducible assumption)|assumption);have q161 : x10_2<(t153.length : Int):=zy (by first|(with_reducible assumption)|assumption);obtain ⟨ad161,e161,hx161_0,hx161_1,hx161_2,hx161_3⟩:=at_T54 (yh HO_8.out).2.2 x10_2 p161 q161;obtain rfl : ad157=ad161:=(by injection e161);replace p161:=eq_true p161;replace q161:=eq_true q161;refine start_ (n:=36) (S:=fun w' => w'.cell? (ad157.add ((x10_2).toNat * 4))=some (.string ((rd_T54 t153 x10_2).f0))∧w'.cell? ⟨(ad157.add ((x10_2).toNat * 4)).block,(ad157.add ((x10_2).toNat * 4)).off + 1,none⟩=some (.int .i64 ((rd_T54 t153 x10_2).f1.f0))∧w'.cell? ⟨(ad157.add ((x10_2).toNat * 4)).block,(ad157.add ((x10_2).toNat * 4)).off + 2,none⟩=some (.int .i64 ((rd_T54 t153 x10_2).f1.f1))∧w'.cell? ⟨(ad157.add ((x10_2).toNat * 4)).block,(ad157.add ((x10_2).toNat * 4)).off + 3,none⟩=some (.string ((rd_T54 t153 x10_2).f1.f2))∧w'.cell? (ad157.add (((ji71)).toNat * 4))=some (.string ((rd_T54 t153 (ji71)).f0))∧w'.cell? ⟨(ad157.add (((ji71)).toNat * 4)).block,(ad157.add (((ji71)).toNat * 4)).off + 1,none⟩=some (.int .i64 ((rd_T54 t153 (ji71)).f1.f0))∧w'.cell? ⟨(ad157.add (((ji71)).toNat * 4)).block,(ad157.add (((ji71)).toNat * 4)).off + 2,none⟩=some (.int .i64 ((rd_T54 t153 (ji71)).f1.f1))∧w'.cell? ⟨(ad157.add (((ji71)).toNat * 4)).block,(ad157.add (((ji71)).toNat * 4)).off + 3,none⟩=some (.string ((rd_T54 t153 (ji71)).f1.f2))∧w'.cell? (ad157.add ((x10_2).toNat * 4))=some (.string ((rd_T54 t153 x10_2).f0))∧w'.cell? ⟨(ad157.add ((x10_2).toNat * 4)).block,(ad157.add ((x10_2).toNat * 4)).off + 1,none⟩=some (.int .i64 ((rd_T54 t153 x10_2).f1.f0))∧w'.cell? ⟨(ad157.add ((x10_2).toNat * 4)).block,(ad157.add ((x10_2).toNat * 4)).off + 2,none⟩=some (.int .i64 ((rd_T54 t153 x10_2).f1.f1))∧w'.cell? ⟨(ad157.add ((x10_2).toNat * 4)).block,(ad157.add ((x10_2).toNat * 4)).off + 3,none⟩=some (.string ((rd_T54 t153 x10_2).f1.f2))∧w'.cell? (ad157.add ((x10_2).toNat * 4))=some (.string ((rd_T54 t153 x10_2).f0))∧w'.cell? ⟨(ad157.add ((x10_2).toNat * 4)).block,(ad157.add ((x10_2).toNat * 4)).off + 1,none⟩=some (.int .i64 ((rd_T54 t153 x10_2).f1.f0))∧w'.cell? ⟨(ad157.add ((x10_2).toNat * 4)).block,(ad157.add ((x10_2).toNat * 4)).off + 2,none⟩=some (.int .i64 ((rd_T54 t153 x10_2).f1.f1))∧w'.cell? ⟨(ad157.add ((x10_2).toNat * 4)).block,(ad157.add ((x10_2).toNat * 4)).off + 3,none⟩=some (.string ((rd_T54 t153 x10_2).f1.f2))) (ds:=[]) (bm_ 0 36) (by kernel_rfl) rfl rfl ⟨hx157_0,hx157_1,hx157_2,hx157_3,hx159_0,hx159_1,hx159_2,hx159_3,hx160_0,hx160_1,hx160_2,hx160_3,hx161_0,hx161_1,hx161_2,hx161_3⟩ (fun hHeld => ?_);refine with_tabW F0.tab27 F0.bits27 (fun HT_ HW_ => ?_);generalize wr.drew=w81 at HO_8 BK144 HB hx157_0 hx157_1 hx157_2 hx157_3 hx159_0 hx159_1 hx159_2 hx159_3 hx160_0 hx160_1 hx160_2 hx160_3 hx161_0 hx161_1 hx161_2 hx161_3 hHeld ⊢;refine pure_ (i:=0) (N:=some 124) (v:=?_) (a':=?_) (bm_ 1 36) rfl rfl (any_of HT_.out (by kernel_rfl)) (fun _ _ _ h => h) (Or.inl ⟨by rfl,?_⟩) ?_ ?_;rotate_left
             ·
              intro w'
              go_simp
              with_reducible rfl
             rotate_left
             ·
              simp only [Act.put,zi,zj,zk,zG,zH]
              rfl
             refine pure_ (i:=1) (N:=some 125) (v:=?_) (a':=?_) (bm_ 2 36) rfl rfl (any_of HT_.out (by kernel_rfl)) (fun _ _ _ h => h) (Or.inl ⟨by rfl,?_⟩) ?_ ?_;rotate_left
             ·
              intro w'
              go_simp
              with_reducible rfl
             rotate_left
             ·
              simp only [Act.put,zi,zj,zk,zG,zH]
              rfl
             refine pure_ (i:=2) (N:=some 126) (v:=?_) (a':=?_) (bm_ 3 36) rfl rfl (any_of HT_.out (by kernel_rfl)) (fun _ _ _ h => h) (Or.inl ⟨by rfl,?_⟩) ?_ ?_;rotate_left
             ·
              intro w'
              go_simp
              with_reducible rfl
             rotate_left
             ·
              simp only [Act.put,zi,zj,zk,zG,zH]
              rfl
             refine pure_ (i:=3) (N:=some 127) (v:=?_) (a':=?_) (bm_ 4 36) rfl rfl (any_of HT_.out (by kernel_rfl)) (fun _ _ _ h => h) (Or.inl ⟨by rfl,?_⟩) ?_ ?_;rotate_left
             ·
              intro w'
              go_simp
              with_reducible rfl
             rotate_left
             ·
              simp only [Act.put,zi,zj,zk,zG,zH]
              rfl
             refine take_ (i:=4) (N:=some 128) (v:=?_) (a':=?_) (bm_ 5 36) rfl rfl (yo HT_.out HW_.out (by kernel_rfl)) (fun _ _ _ h => h) (Or.inl ⟨by rfl,?_⟩) hHeld ?_ ?_;rotate_left
             ·
              rintro w' ⟨s0,s1,s2,s3,s4,s5,s6,s7,s8,s9,s10,s11,s12,s13,s14,s15⟩
              go_simp
              with_reducible rfl
             rotate_left
             ·
              simp only [Act.put,zi,zj,zk,zG,zH]
              rfl
             refine one_ (i:=5) (N:=some 129) (bm_ 6 36) rfl rfl (one_of HT_.out (by kernel_rfl)) (by decide) (fun K hK => ?_);refine goes_ Try.func26 (by kernel_rfl) rfl #[.string ((rd_T54 t153 x10_2).f0)] (by rfl) rfl rfl (by (try simp only [zt,zu,zv]);first|done|rfl|(simp only [zw,zx];rfl)|(simp only [yr,ys,zV,zW];rfl)) ?_
             with_reducible refine (Fy.calls k2  ((rd_T54 t153 x10_2).f0) true _ A68.out).mono ?_
             rintro e w' ⟨rfl,⟨nd,rfl⟩⟩;refine ⟨_,rfl,?_⟩;refine hK.out _ _ ⟨hHeld.1,hHeld.2.1,hHeld.2.2.1,hHeld.2.2.2.1,hHeld.2.2.2.2.1,hHeld.2.2.2.2.2.1,hHeld.2.2.2.2.2.2.1,hHeld.2.2.2.2.2.2.2.1,hHeld.2.2.2.2.2.2.2.2.1,hHeld.2.2.2.2.2.2.2.2.2.1,hHeld.2.2.2.2.2.2.2.2.2.2.1,hHeld.2.2.2.2.2.2.2.2.2.2.2.1,hHeld.2.2.2.2.2.2.2.2.2.2.2.2.1,hHeld.2.2.2.2.2.2.2.2.2.2.2.2.2.1,hHeld.2.2.2.2.2.2.2.2.2.2.2.2.2.2.1,hHeld.2.2.2.2.2.2.2.2.2.2.2.2.2.2.2⟩ (fun hHeld => ?_);clear hK K;refine norm_ (a':=?_) ?_ ?_;rotate_left
             ·
              show Act.put _ (some 129) _=_
              simp only [Act.put,zi,zj,zk,zG,zH]
              rfl
             refine pure_ (i:=6) (N:=some 130) (v:=?_) (a':=?_) (bm_ 7 36) rfl rfl (any_of HT_.out (by kernel_rfl)) (fun _ _ _ h => h) (Or.inl ⟨by rfl,?_⟩) ?_ ?_;rotate_left
             ·
              intro w'
              go_simp
              with_reducible rfl
             rotate_left
             ·
              simp only [Act.put,zi,zj,zk,zG,zH]
              rfl
             refine pure_ (i:=7) (N:=some 131) (v:=?_) (a':=?_) (bm_ 8 36) rfl rfl (any_of HT_.out (by kernel_rfl)) (fun _ _ _ h => h) (Or.inl ⟨by rfl,?_⟩) ?_ ?_;rotate_left
             ·
              intro w'
              go_simp
              with_reducible rfl
             rotate_left
             ·
              simp only [Act.put,zi,zj,zk,zG,zH]
              rfl
             refine pure_ (i:=8) (N:=some 132) (v:=?_) (a':=?_) (bm_ 9 36) rfl rfl (any_of HT_.out (by kernel_rfl)) (fun _ _ _ h => h) (Or.inl ⟨by rfl,?_⟩) ?_ ?_;rotate_left
             ·
              intro w'
              go_simp
              with_reducible rfl
             rotate_left
             ·
              simp only [Act.put,zi,zj,zk,zG,zH]
              rfl
             refine pure_ (i:=9) (N:=some 133) (v:=?_) (a':=?_) (bm_ 10 36) rfl rfl (any_of HT_.out (by kernel_rfl)) (fun _ _ _ h => h) (Or.inl ⟨by rfl,?_⟩) ?_ ?_;rotate_left
             ·
              intro w'
              go_simp
              with_reducible rfl
             rotate_left
             ·
              simp only [Act.put,zi,zj,zk,zG,zH]
              rfl
             refine pure_ (i:=10) (N:=some 134) (v:=?_) (a':=?_) (bm_ 11 36) rfl rfl (any_of HT_.out (by kernel_rfl)) (fun _ _ _ h => h) (Or.inl ⟨by rfl,?_⟩) ?_ ?_;rotate_left
             ·
              intro w'
              go_simp
              with_reducible rfl
             rotate_left
             ·
              simp only [Act.put,zi,zj,zk,zG,zH]
              rfl
             refine pure_ (i:=11) (N:=some 135) (v:=?_) (a':=?_) (bm_ 12 36) rfl rfl (any_of HT_.out (by kernel_rfl)) (fun _ _ _ h => h) (Or.inl ⟨by rfl,?_⟩) ?_ ?_;rotate_left
             ·
              intro w'
              go_simp
              with_reducible rfl
             rotate_left
             ·
              simp only [Act.put,zi,zj,zk,zG,zH]
              rfl
             refine pure_ (i:=12) (N:=some 136) (v:=?_) (a':=?_) (bm_ 13 36) rfl rfl (any_of HT_.out (by kernel_rfl)) (fun _ _ _ h => h) (Or.inl ⟨by rfl,?_⟩) ?_ ?_;rotate_left
             ·
              intro w'
              go_simp
              with_reducible rfl
             rotate_left
             ·
              simp only [Act.put,zi,zj,zk,zG,zH]
              rfl
             refine pure_ (i:=13) (N:=some 137) (v:=?_) (a':=?_) (bm_ 14 36) rfl rfl (any_of HT_.out (by kernel_rfl)) (fun _ _ _ h => h) (Or.inl ⟨by rfl,?_⟩) ?_ ?_;rotate_left
             ·
              intro w'
              go_simp
              with_reducible rfl
             rotate_left
             ·
              simp only [Act.put,zi,zj,zk,zG,zH]
              rfl
             refine pure_ (i:=14) (N:=some 138) (v:=?_) (a':=?_) (bm_ 15 36) rfl rfl (any_of HT_.out (by kernel_rfl)) (fun _ _ _ h => h) (Or.inl ⟨by rfl,?_⟩) ?_ ?_;rotate_left
             ·
              intro w'
              go_simp
              with_reducible rfl
             rotate_left
             ·
              simp only [Act.put,zi,zj,zk,zG,zH]
              rfl
             refine pure_ (i:=15) (N:=some 139) (v:=?_) (a':=?_) (bm_ 16 36) rfl rfl (any_of HT_.out (by kernel_rfl)) (fun _ _ _ h => h) (Or.inl ⟨by rfl,?_⟩) ?_ ?_;rotate_left
             ·
              intro w'
              go_simp
              with_reducible rfl
             rotate_left
             ·
              simp only [Act.put,zi,zj,zk,zG,zH]
              rfl
             refine pure_ (i:=17) (N:=some 141) (v:=?_) (a':=?_) #[true,true,true,true,true,true,true,true,true,true,true,true,true,true,true,true,false,true,false,false,false,false,false,false,false,false,false,false,false,false,false,false,false,false,false,false] rfl rfl (any_of HT_.out (by kernel_rfl)) (fun _ _ _ h => h) (Or.inl ⟨by rfl,?_⟩) ?_ ?_;rotate_left
             ·
              intro w'
              go_simp
              with_reducible rfl
             rotate_left
             ·
              simp only [Act.put,zi,zj,zk,zG,zH]
              rfl
             refine pure_ (i:=18) (N:=some 142) (v:=?_) (a':=?_) #[true,true,true,true,true,true,true,true,true,true,true,true,true,true,true,true,false,true,true,false,false,false,false,false,false,false,false,false,false,false,false,false,false,false,false,false] rfl rfl (any_of HT_.out (by kernel_rfl)) (fun _ _ _ h => h) (Or.inl ⟨by rfl,?_⟩) ?_ ?_;rotate_left
             ·
              intro w'
              go_simp
              with_reducible rfl
             rotate_left
             ·
              simp only [Act.put,zi,zj,zk,zG,zH]
              rfl
             refine pure_ (i:=19) (N:=some 143) (v:=?_) (a':=?_) #[true,true,true,true,true,true,true,true,true,true,true,true,true,true,true,true,false,true,true,true,false,false,false,false,false,false,false,false,false,false,false,false,false,false,false,false] rfl rfl (any_of HT_.out (by kernel_rfl)) (fun _ _ _ h => h) (Or.inl ⟨by rfl,?_⟩) ?_ ?_;rotate_left
             ·
              intro w'
              go_simp
              with_reducible rfl
             rotate_left
             ·
              simp only [Act.put,zi,zj,zk,zG,zH]
              rfl
             refine pure_ (i:=20) (N:=some 144) (v:=?_) (a':=?_) #[true,true,true,true,true,true,true,true,true,true,true,true,true,true,true,true,false,true,true,true,true,false,false,false,false,false,false,false,false,false,false,false,false,false,false,false] rfl rfl (any_of HT_.out (by kernel_rfl)) (fun _ _ _ h => h) (Or.inl ⟨by rfl,?_⟩) ?_ ?_;rotate_left
             ·
              intro w'
              go_simp
              with_reducible rfl
             rotate_left
             ·
              simp only [Act.put,zi,zj,zk,zG,zH]
              rfl
             refine take_ (i:=16) (N:=some 140) (v:=?_) (a':=?_) (bm_ 21 36) rfl rfl (yo HT_.out HW_.out (by kernel_rfl)) (fun _ _ _ h => h) (Or.inl ⟨by rfl,?_⟩) hHeld ?_ ?_;rotate_left
             ·
              rintro w' ⟨s0,s1,s2,s3,s4,s5,s6,s7,s8,s9,s10,s11,s12,s13,s14,s15⟩
              go_simp
              with_reducible rfl
             rotate_left
             ·
              simp only [Act.put,zi,zj,zk,zG,zH]
              rfl
             refine take_ (i:=21) (N:=some 145) (v:=?_) (a':=?_) (bm_ 22 36) rfl rfl (yo HT_.out HW_.out (by kernel_rfl)) (fun _ _ _ h => h) (Or.inl ⟨by rfl,?_⟩) hHeld ?_ ?_;rotate_left
             ·
              rintro w' ⟨s0,s1,s2,s3,s4,s5,s6,s7,s8,s9,s10,s11,s12,s13,s14,s15⟩
              go_simp
              with_reducible rfl
             rotate_left
             ·
              simp only [Act.put,zi,zj,zk,zG,zH]
              rfl
             refine pure_ (i:=22) (N:=some 146) (v:=?_) (a':=?_) (bm_ 23 36) rfl rfl (any_of HT_.out (by kernel_rfl)) (fun _ _ _ h => h) (Or.inl ⟨by rfl,?_⟩) ?_ ?_;rotate_left
             ·
              intro w'
              go_simp
              with_reducible rfl
             rotate_left
             ·
              simp only [Act.put,zi,zj,zk,zG,zH]
              rfl
             refine pure_ (i:=23) (N:=some 147) (v:=?_) (a':=?_) (bm_ 24 36) rfl rfl (any_of HT_.out (by kernel_rfl)) (fun _ _ _ h => h) (Or.inl ⟨by rfl,?_⟩) ?_ ?_;rotate_left
             ·
              intro w'
              go_simp
              with_reducible rfl
             rotate_left
             ·
              simp only [Act.put,zi,zj,zk,zG,zH]
              rfl
             refine pure_ (i:=24) (N:=some 148) (v:=?_) (a':=?_) (bm_ 25 36) rfl rfl (any_of HT_.out (by kernel_rfl)) (fun _ _ _ h => h) (Or.inl ⟨by rfl,?_⟩) ?_ ?_;rotate_left
             ·
              intro w'
              go_simp
              with_reducible rfl
             rotate_left
             ·
              simp only [Act.put,zi,zj,zk,zG,zH]
              rfl
             refine pure_ (i:=25) (N:=some 149) (v:=?_) (a':=?_) (bm_ 26 36) rfl rfl (any_of HT_.out (by kernel_rfl)) (fun _ _ _ h => h) (Or.inl ⟨by rfl,?_⟩) ?_ ?_;rotate_left
             ·
              intro w'
              go_simp
              with_reducible rfl
             rotate_left
             ·
              simp only [Act.put,zi,zj,zk,zG,zH]
              rfl
             refine pure_ (i:=26) (N:=some 150) (v:=?_) (a':=?_) (bm_ 27 36) rfl rfl (any_of HT_.out (by kernel_rfl)) (fun _ _ _ h => h) (Or.inl ⟨by rfl,?_⟩) ?_ ?_;rotate_left
             ·
              intro w'
              go_simp
              with_reducible rfl
             rotate_left
             ·
              simp only [Act.put,zi,zj,zk,zG,zH]
              rfl
             refine pure_ (i:=27) (N:=some 151) (v:=?_) (a':=?_) (bm_ 28 36) rfl rfl (any_of HT_.out (by kernel_rfl)) (fun _ _ _ h => h) (Or.inl ⟨by rfl,?_⟩) ?_ ?_;rotate_left
             ·
              intro w'
              go_simp
              with_reducible rfl
             rotate_left
             ·
              simp only [Act.put,zi,zj,zk,zG,zH]
              rfl
             refine pure_ (i:=28) (N:=some 152) (v:=?_) (a':=?_) (bm_ 29 36) rfl rfl (any_of HT_.out (by kernel_rfl)) (fun _ _ _ h => h) (Or.inl ⟨by rfl,?_⟩) ?_ ?_;rotate_left
             ·
              intro w'
              go_simp
              with_reducible rfl
             rotate_left
             ·
              simp only [Act.put,zi,zj,zk,zG,zH]
              rfl
             refine pure_ (i:=29) (N:=some 153) (v:=?_) (a':=?_) (bm_ 30 36) rfl rfl (any_of HT_.out (by kernel_rfl)) (fun _ _ _ h => h) (Or.inl ⟨by rfl,?_⟩) ?_ ?_;rotate_left
             ·
              intro w'
              go_simp
              with_reducible rfl
             rotate_left
             ·
              simp only [Act.put,zi,zj,zk,zG,zH]
              rfl
             refine pure_ (i:=31) (N:=some 155) (v:=?_) (a':=?_) #[true,true,true,true,true,true,true,true,true,true,true,true,true,true,true,true,true,true,true,true,true,true,true,true,true,true,true,true,true,true,false,true,false,false,false,false] rfl rfl (any_of HT_.out (by kernel_rfl)) (fun _ _ _ h => h) (Or.inl ⟨by rfl,?_⟩) ?_ ?_;rotate_left
             ·
              intro w'
              go_simp
              with_reducible rfl
             rotate_left
             ·
              simp only [Act.put,zi,zj,zk,zG,zH]
              rfl
             refine pure_ (i:=32) (N:=some 156) (v:=?_) (a':=?_) #[true,true,true,true,true,true,true,true,true,true,true,true,true,true,true,true,true,true,true,true,true,true,true,true,true,true,true,true,true,true,false,true,true,false,false,false] rfl rfl (any_of HT_.out (by kernel_rfl)) (fun _ _ _ h => h) (Or.inl ⟨by rfl,?_⟩) ?_ ?_;rotate_left
             ·
              intro w'
              go_simp
              with_reducible rfl
             rotate_left
             ·
              simp only [Act.put,zi,zj,zk,zG,zH]
              rfl
             refine take_ (i:=30) (N:=some 154) (v:=?_) (a':=?_) (bm_ 33 36) rfl rfl (yo HT_.out HW_.out (by kernel_rfl)) (fun _ _ _ h => h) (Or.inl ⟨by rfl,?_⟩) hHeld ?_ ?_;rotate_left
             ·
              rintro w' ⟨s0,s1,s2,s3,s4,s5,s6,s7,s8,s9,s10,s11,s12,s13,s14,s15⟩
              go_simp
              with_reducible rfl
             rotate_left
             ·
              simp only [Act.put,zi,zj,zk,zG,zH]
              rfl
             refine one_ (i:=33) (N:=some 157) (bm_ 34 36) rfl rfl (one_of HT_.out (by kernel_rfl)) (by decide) (fun K hK => ?_);refine goes_ Try.func41 (by kernel_rfl) rfl #[.agg #[.int .i64 ((rd_T54 t153 x10_2).f1.f0),.int .i64 ((rd_T54 t153 x10_2).f1.f1),.string ((rd_T54 t153 x10_2).f1.f2)],.int .i64 (wrap64 (a1 - 1))] (by rfl) rfl rfl (by (try simp only [zt,zu,zv]);first|done|rfl|(simp only [zw,zx];rfl)|(simp only [yr,ys,zV,zW];rfl)) ?_
             with_reducible refine (ih k2 (by have:=HJ53.out;have:=HK2.out;omega)  ((rd_T54 t153 x10_2).f1.f0) ((rd_T54 t153 x10_2).f1.f1) ((rd_T54 t153 x10_2).f1.f2) (wrap64 (a1 - 1)) false _ A75.out).mono ?_
             rintro e w82 ⟨rfl,hb⟩;have HS0_:=(hb.cell (zl _ _ (hHeld.1))).trans (hHeld.1);have HS1_:=(hb.cell (zl _ _ (hHeld.2.1))).trans (hHeld.2.1);have HS2_:=(hb.cell (zl _ _ (hHeld.2.2.1))).trans (hHeld.2.2.1);have HS3_:=(hb.cell (zl _ _ (hHeld.2.2.2.1))).trans (hHeld.2.2.2.1);have HS4_:=(hb.cell (zl _ _ (hHeld.2.2.2.2.1))).trans (hHeld.2.2.2.2.1);have HS5_:=(hb.cell (zl _ _ (hHeld.2.2.2.2.2.1))).trans (hHeld.2.2.2.2.2.1);have HS6_:=(hb.cell (zl _ _ (hHeld.2.2.2.2.2.2.1))).trans (hHeld.2.2.2.2.2.2.1);have HS7_:=(hb.cell (zl _ _ (hHeld.2.2.2.2.2.2.2.1))).trans (hHeld.2.2.2.2.2.2.2.1);have HS8_:=(hb.cell (zl _ _ (hHeld.2.2.2.2.2.2.2.2.1))).trans (hHeld.2.2.2.2.2.2.2.2.1);have HS9_:=(hb.cell (zl _ _ (hHeld.2.2.2.2.2.2.2.2.2.1))).trans (hHeld.2.2.2.2.2.2.2.2.2.1);have HS10_:=(hb.cell (zl _ _ (hHeld.2.2.2.2.2.2.2.2.2.2.1))).trans (hHeld.2.2.2.2.2.2.2.2.2.2.1);have HS11_:=(hb.cell (zl _ _ (hHeld.2.2.2.2.2.2.2.2.2.2.2.1))).trans (hHeld.2.2.2.2.2.2.2.2.2.2.2.1);have HS12_:=(hb.cell (zl _ _ (hHeld.2.2.2.2.2.2.2.2.2.2.2.2.1))).trans (hHeld.2.2.2.2.2.2.2.2.2.2.2.2.1);have HS13_:=(hb.cell (zl _ _ (hHeld.2.2.2.2.2.2.2.2.2.2.2.2.2.1))).trans (hHeld.2.2.2.2.2.2.2.2.2.2.2.2.2.1);have HS14_:=(hb.cell (zl _ _ (hHeld.2.2.2.2.2.2.2.2.2.2.2.2.2.2.1))).trans (hHeld.2.2.2.2.2.2.2.2.2.2.2.2.2.2.1);have HS15_:=(hb.cell (zl _ _ (hHeld.2.2.2.2.2.2.2.2.2.2.2.2.2.2.2))).trans (hHeld.2.2.2.2.2.2.2.2.2.2.2.2.2.2.2);refine ⟨_,rfl,?_⟩;replace HO_8:=zh (yg (by (with_reducible repeat (first|apply zm|apply zn|apply zo));exact HO_8.out) hb);replace BK144:=zh (cD BK144.out (by (with_reducible repeat first|apply ze|apply zf|apply zg);exact BK144.out) hb);replace HB:=zh (zC (by repeat (with_reducible first|exact HB.out|apply za|apply zb|apply zc|refine zd ?_ GE144.out)) hb);(try clear hb);(try clear hb2);(try clear hk);(try clear hi);refine hK.out _ _ ⟨HS0_,HS1_,HS2_,HS3_,HS4_,HS5_,HS6_,HS7_,HS8_,HS9_,HS10_,HS11_,HS12_,HS13_,HS14_,HS15_⟩ (fun hHeld => ?_);clear hK K;refine norm_ (a':=?_) ?_ ?_;rotate_left
             ·
              show Act.put _ (some 157) _=_
              simp only [Act.put,zi,zj,zk,zG,zH]
              rfl
             refine pure_ (i:=34) (N:=some 158) (v:=?_) (a':=?_) (bm_ 35 36) rfl rfl (any_of HT_.out (by kernel_rfl)) (fun _ _ _ h => h) (Or.inl ⟨by rfl,?_⟩) ?_ ?_;rotate_left
             ·
              intro w'
              go_simp
              with_reducible rfl
             rotate_left
             ·
              simp only [Act.put,zi,zj,zk,zG,zH]
              rfl
             refine pure_ (i:=35) (N:=some 159) (v:=?_) (a':=?_) (bm_ 36 36) rfl rfl (any_of HT_.out (by kernel_rfl)) (fun _ _ _ h => h) (Or.inl ⟨by rfl,?_⟩) ?_ ?_;rotate_left
             ·
              intro w'
              go_simp
              with_reducible rfl
             rotate_left
             ·
              simp only [Act.put,zi,zj,zk,zG,zH]
              rfl
             refine done_ (done_of HT_.out (by kernel_rfl)) ?_
             try go_wp2
             go_ret
             exact ⟨by first|rfl|(simp [yt,yu] <;> rfl)|(simp only [← hji71];first|rfl|(simp [yt,yu] <;> rfl))|(simp [*,yt,yu] <;> rfl),by repeat (with_reducible first|exact HB.out|apply za|apply zb|apply zc|refine zd ?_ GE144.out)⟩
            rw [if_neg c74] at H;have c74b0 : (Op.bytesLess (((rd_T54 t153 (ji71)).f0).toList) (((rd_T54 t153 x10_2).f0).toList))=false:=by simpa using c74
            clear c74;obtain rfl:=zU H;obtain ⟨Ao83,co83,eo83⟩:=yk HO_8.out;subst eo83
            try go_wp2
            replace HO_8:=zh (zo HO_8.out);replace BK144:=zh (zf BK144.out);replace HB:=zh (zc HB.out);have p157 : 0≤(x10_2 : Int):=zy (by first|(with_reducible assumption)|assumption);have q157 : x10_2<(t153.length : Int):=zy (by first|(with_reducible assumption)|assumption);obtain ⟨ad157,e157,hx157_0,hx157_1,hx157_2,hx157_3⟩:=at_T54 (yh HO_8.out).2.2 x10_2 p157 q157
            cases e157
            replace p157:=eq_true p157;replace q157:=eq_true q157;have p159 : 0≤((ji71) : Int):=zy (by first|(with_reducible assumption)|assumption);have q159 : (ji71)<(t153.length : Int):=zy (by first|(with_reducible assumption)|assumption);obtain ⟨ad159,e159,hx159_0,hx159_1,hx159_2,hx159_3⟩:=at_T54 (yh HO_8.out).2.2 (ji71) p159 q159;obtain rfl : ad157=ad159:=(by injection e159);replace p159:=eq_true p159;replace q159:=eq_true q159;have p160 : 0≤(x10_2 : Int):=zy (by first|(with_reducible assumption)|assumption);have q160 : x10_2<(t153.length : Int):=zy (by first|(with_reducible assumption)|assumption);obtain ⟨ad160,e160,hx160_0,hx160_1,hx160_2,hx160_3⟩:=at_T54 (yh HO_8.out).2.2 x10_2 p160 q160;obtain rfl : ad157=ad160:=(by injection e160);replace p160:=eq_true p160;replace q160:=eq_true q160;refine start_ (n:=36) (S:=fun w' => w'.cell? (ad157.add ((x10_2).toNat * 4))=some (.string ((rd_T54 t153 x10_2).f0))∧w'.cell? ⟨(ad157.add ((x10_2).toNat * 4)).block,(ad157.add ((x10_2).toNat * 4)).off + 1,none⟩=some (.int .i64 ((rd_T54 t153 x10_2).f1.f0))∧w'.cell? ⟨(ad157.add ((x10_2).toNat * 4)).block,(ad157.add ((x10_2).toNat * 4)).off + 2,none⟩=some (.int .i64 ((rd_T54 t153 x10_2).f1.f1))∧w'.cell? ⟨(ad157.add ((x10_2).toNat * 4)).block,(ad157.add ((x10_2).toNat * 4)).off + 3,none⟩=some (.string ((rd_T54 t153 x10_2).f1.f2))∧w'.cell? (ad157.add (((ji71)).toNat * 4))=some (.string ((rd_T54 t153 (ji71)).f0))∧w'.cell? ⟨(ad157.add (((ji71)).toNat * 4)).block,(ad157.add (((ji71)).toNat * 4)).off + 1,none⟩=some (.int .i64 ((rd_T54 t153 (ji71)).f1.f0))∧w'.cell? ⟨(ad157.add (((ji71)).toNat * 4)).block,(ad157.add (((ji71)).toNat * 4)).off + 2,none⟩=some (.int .i64 ((rd_T54 t153 (ji71)).f1.f1))∧w'.cell? ⟨(ad157.add (((ji71)).toNat * 4)).block,(ad157.add (((ji71)).toNat * 4)).off + 3,none⟩=some (.string ((rd_T54 t153 (ji71)).f1.f2))∧w'.cell? (ad157.add ((x10_2).toNat * 4))=some (.string ((rd_T54 t153 x10_2).f0))∧w'.cell? ⟨(ad157.add ((x10_2).toNat * 4)).block,(ad157.add ((x10_2).toNat * 4)).off + 1,none⟩=some (.int .i64 ((rd_T54 t153 x10_2).f1.f0))∧w'.cell? ⟨(ad157.add ((x10_2).toNat * 4)).block,(ad157.add ((x10_2).toNat * 4)).off + 2,none⟩=some (.int .i64 ((rd_T54 t153 x10_2).f1.f1))∧w'.cell? ⟨(ad157.add ((x10_2).toNat * 4)).block,(ad157.add ((x10_2).toNat * 4)).off + 3,none⟩=some (.string ((rd_T54 t153 x10_2).f1.f2))) (ds:=[]) (bm_ 0 36) (by kernel_rfl) rfl rfl ⟨hx157_0,hx157_1,hx157_2,hx157_3,hx159_0,hx159_1,hx159_2,hx159_3,hx160_0,hx160_1,hx160_2,hx160_3⟩ (fun hHeld => ?_);refine with_tabW F0.tab27 F0.bits27 (fun HT_ HW_ => ?_);generalize wr.drew=w84 at HO_8 BK144 HB hx157_0 hx157_1 hx157_2 hx157_3 hx159_0 hx159_1 hx159_2 hx159_3 hx160_0 hx160_1 hx160_2 hx160_3 hHeld ⊢;refine pure_ (i:=0) (N:=some 124) (v:=?_) (a':=?_) (bm_ 1 36) rfl rfl (any_of HT_.out (by kernel_rfl)) (fun _ _ _ h => h) (Or.inl ⟨by rfl,?_⟩) ?_ ?_;rotate_left
            ·
             intro w'
             go_simp
             with_reducible rfl
            rotate_left
            ·
             simp only [Act.put,zi,zj,zk,zG,zH]
             rfl
            refine pure_ (i:=1) (N:=some 125) (v:=?_) (a':=?_) (bm_ 2 36) rfl rfl (any_of HT_.out (by kernel_rfl)) (fun _ _ _ h => h) (Or.inl ⟨by rfl,?_⟩) ?_ ?_;rotate_left
            ·
             intro w'
             go_simp
             with_reducible rfl
            rotate_left
            ·
             simp only [Act.put,zi,zj,zk,zG,zH]
             rfl
            refine pure_ (i:=2) (N:=some 126) (v:=?_) (a':=?_) (bm_ 3 36) rfl rfl (any_of HT_.out (by kernel_rfl)) (fun _ _ _ h => h) (Or.inl ⟨by rfl,?_⟩) ?_ ?_;rotate_left
            ·
             intro w'
             go_simp
             with_reducible rfl
            rotate_left
            ·
             simp only [Act.put,zi,zj,zk,zG,zH]
             rfl
            refine pure_ (i:=3) (N:=some 127) (v:=?_) (a':=?_) (bm_ 4 36) rfl rfl (any_of HT_.out (by kernel_rfl)) (fun _ _ _ h => h) (Or.inl ⟨by rfl,?_⟩) ?_ ?_;rotate_left
            ·
             intro w'
             go_simp
             with_reducible rfl
            rotate_left
            ·
             simp only [Act.put,zi,zj,zk,zG,zH]
             rfl
            refine take_ (i:=4) (N:=some 128) (v:=?_) (a':=?_) (bm_ 5 36) rfl rfl (yo HT_.out HW_.out (by kernel_rfl)) (fun _ _ _ h => h) (Or.inl ⟨by rfl,?_⟩) hHeld ?_ ?_;rotate_left
            ·
             rintro w' ⟨s0,s1,s2,s3,s4,s5,s6,s7,s8,s9,s10,s11⟩
             go_simp
             with_reducible rfl
            rotate_left
            ·
             simp only [Act.put,zi,zj,zk,zG,zH]
             rfl
            refine one_ (i:=5) (N:=some 129) (bm_ 6 36) rfl rfl (one_of HT_.out (by kernel_rfl)) (by decide) (fun K hK => ?_);refine goes_ Try.func26 (by kernel_rfl) rfl #[.string ((rd_T54 t153 x10_2).f0)] (by rfl) rfl rfl (by (try simp only [zt,zu,zv]);first|done|rfl|(simp only [zw,zx];rfl)|(simp only [yr,ys,zV,zW];rfl)) ?_
            with_reducible refine (Fy.calls k2  ((rd_T54 t153 x10_2).f0) true _ A68.out).mono ?_
            rintro e w' ⟨rfl,⟨nd,rfl⟩⟩;refine ⟨_,rfl,?_⟩;refine hK.out _ _ ⟨hHeld.1,hHeld.2.1,hHeld.2.2.1,hHeld.2.2.2.1,hHeld.2.2.2.2.1,hHeld.2.2.2.2.2.1,hHeld.2.2.2.2.2.2.1,hHeld.2.2.2.2.2.2.2.1,hHeld.2.2.2.2.2.2.2.2.1,hHeld.2.2.2.2.2.2.2.2.2.1,hHeld.2.2.2.2.2.2.2.2.2.2.1,hHeld.2.2.2.2.2.2.2.2.2.2.2⟩ (fun hHeld => ?_);clear hK K;refine norm_ (a':=?_) ?_ ?_;rotate_left
            ·
             show Act.put _ (some 129) _=_
             simp only [Act.put,zi,zj,zk,zG,zH]
             rfl
            refine pure_ (i:=6) (N:=some 130) (v:=?_) (a':=?_) (bm_ 7 36) rfl rfl (any_of HT_.out (by kernel_rfl)) (fun _ _ _ h => h) (Or.inl ⟨by rfl,?_⟩) ?_ ?_;rotate_left
            ·
             intro w'
             go_simp
             with_reducible rfl
            rotate_left
            ·
             simp only [Act.put,zi,zj,zk,zG,zH]
             rfl
            refine pure_ (i:=7) (N:=some 131) (v:=?_) (a':=?_) (bm_ 8 36) rfl rfl (any_of HT_.out (by kernel_rfl)) (fun _ _ _ h => h) (Or.inl ⟨by rfl,?_⟩) ?_ ?_;rotate_left
            ·
             intro w'
             go_simp
             with_reducible rfl
            rotate_left
            ·
             simp only [Act.put,zi,zj,zk,zG,zH]
             rfl
            refine pure_ (i:=8) (N:=some 132) (v:=?_) (a':=?_) (bm_ 9 36) rfl rfl (any_of HT_.out (by kernel_rfl)) (fun _ _ _ h => h) (Or.inl ⟨by rfl,?_⟩) ?_ ?_;rotate_left
            ·
             intro w'
             go_simp
             with_reducible rfl
            rotate_left
            ·
             simp only [Act.put,zi,zj,zk,zG,zH]
             rfl
            refine pure_ (i:=9) (N:=some 133) (v:=?_) (a':=?_) (bm_ 10 36) rfl rfl (any_of HT_.out (by kernel_rfl)) (fun _ _ _ h => h) (Or.inl ⟨by rfl,?_⟩) ?_ ?_;rotate_left
            ·
             intro w'
             go_simp
             with_reducible rfl
            rotate_left
            ·
             simp only [Act.put,zi,zj,zk,zG,zH]
             rfl
            refine pure_ (i:=10) (N:=some 134) (v:=?_) (a':=?_) (bm_ 11 36) rfl rfl (any_of HT_.out (by kernel_rfl)) (fun _ _ _ h => h) (Or.inl ⟨by rfl,?_⟩) ?_ ?_;rotate_left
            ·
             intro w'
             go_simp
             with_reducible rfl
            rotate_left
            ·
             simp only [Act.put,zi,zj,zk,zG,zH]
             rfl
            refine pure_ (i:=11) (N:=some 135) (v:=?_) (a':=?_) (bm_ 12 36) rfl rfl (any_of HT_.out (by kernel_rfl)) (fun _ _ _ h => h) (Or.inl ⟨by rfl,?_⟩) ?_ ?_;rotate_left
            ·
             intro w'
             go_simp
             with_reducible rfl
            rotate_left
            ·
             simp only [Act.put,zi,zj,zk,zG,zH]
             rfl
            refine pure_ (i:=12) (N:=some 136) (v:=?_) (a':=?_) (bm_ 13 36) rfl rfl (any_of HT_.out (by kernel_rfl)) (fun _ _ _ h => h) (Or.inl ⟨by rfl,?_⟩) ?_ ?_;rotate_left
            ·
             intro w'
             go_simp
             with_reducible rfl
            rotate_left
            ·
             simp only [Act.put,zi,zj,zk,zG,zH]
             rfl
            refine pure_ (i:=13) (N:=some 137) (v:=?_) (a':=?_) (bm_ 14 36) rfl rfl (any_of HT_.out (by kernel_rfl)) (fun _ _ _ h => h) (Or.inl ⟨by rfl,?_⟩) ?_ ?_;rotate_left
            ·
             intro w'
             go_simp
             with_reducible rfl
            rotate_left
            ·
             simp only [Act.put,zi,zj,zk,zG,zH]
             rfl
            refine pure_ (i:=14) (N:=some 138) (v:=?_) (a':=?_) (bm_ 15 36) rfl rfl (any_of HT_.out (by kernel_rfl)) (fun _ _ _ h => h) (Or.inl ⟨by rfl,?_⟩) ?_ ?_;rotate_left
            ·
             intro w'
             go_simp
             with_reducible rfl
            rotate_left
            ·
             simp only [Act.put,zi,zj,zk,zG,zH]
             rfl
            refine pure_ (i:=15) (N:=some 139) (v:=?_) (a':=?_) (bm_ 16 36) rfl rfl (any_of HT_.out (by kernel_rfl)) (fun _ _ _ h => h) (Or.inl ⟨by rfl,?_⟩) ?_ ?_;rotate_left
            ·
             intro w'
             go_simp
             with_reducible rfl
            rotate_left
            ·
             simp only [Act.put,zi,zj,zk,zG,zH]
             rfl
            refine pure_ (i:=17) (N:=some 141) (v:=?_) (a':=?_) #[true,true,true,true,true,true,true,true,true,true,true,true,true,true,true,true,false,true,false,false,false,false,false,false,false,false,false,false,false,false,false,false,false,false,false,false] rfl rfl (any_of HT_.out (by kernel_rfl)) (fun _ _ _ h => h) (Or.inl ⟨by rfl,?_⟩) ?_ ?_;rotate_left
            ·
             intro w'
             go_simp
             with_reducible rfl
            rotate_left
            ·
             simp only [Act.put,zi,zj,zk,zG,zH]
             rfl
            refine pure_ (i:=18) (N:=some 142) (v:=?_) (a':=?_) #[true,true,true,true,true,true,true,true,true,true,true,true,true,true,true,true,false,true,true,false,false,false,false,false,false,false,false,false,false,false,false,false,false,false,false,false] rfl rfl (any_of HT_.out (by kernel_rfl)) (fun _ _ _ h => h) (Or.inl ⟨by rfl,?_⟩) ?_ ?_;rotate_left
            ·
             intro w'
             go_simp
             with_reducible rfl
            rotate_left
            ·
             simp only [Act.put,zi,zj,zk,zG,zH]
             rfl
            refine pure_ (i:=19) (N:=some 143) (v:=?_) (a':=?_) #[true,true,true,true,true,true,true,true,true,true,true,true,true,true,true,true,false,true,true,true,false,false,false,false,false,false,false,false,false,false,false,false,false,false,false,false] rfl rfl (any_of HT_.out (by kernel_rfl)) (fun _ _ _ h => h) (Or.inl ⟨by rfl,?_⟩) ?_ ?_;rotate_left
            ·
             intro w'
             go_simp
             with_reducible rfl
            rotate_left
            ·
             simp only [Act.put,zi,zj,zk,zG,zH]
             rfl
            refine pure_ (i:=20) (N:=some 144) (v:=?_) (a':=?_) #[true,true,true,true,true,true,true,true,true,true,true,true,true,true,true,true,false,true,true,true,true,false,false,false,false,false,false,false,false,false,false,false,false,false,false,false] rfl rfl (any_of HT_.out (by kernel_rfl)) (fun _ _ _ h => h) (Or.inl ⟨by rfl,?_⟩) ?_ ?_;rotate_left
            ·
             intro w'
             go_simp
             with_reducible rfl
            rotate_left
            ·
             simp only [Act.put,zi,zj,zk,zG,zH]
             rfl
            refine take_ (i:=16) (N:=some 140) (v:=?_) (a':=?_) (bm_ 21 36) rfl rfl (yo HT_.out HW_.out (by kernel_rfl)) (fun _ _ _ h => h) (Or.inl ⟨by rfl,?_⟩) hHeld ?_ ?_;rotate_left
            ·
             rintro w' ⟨s0,s1,s2,s3,s4,s5,s6,s7,s8,s9,s10,s11⟩
             go_simp
             with_reducible rfl
            rotate_left
            ·
             simp only [Act.put,zi,zj,zk,zG,zH]
             rfl
            refine take_ (i:=21) (N:=some 145) (v:=?_) (a':=?_) (bm_ 22 36) rfl rfl (yo HT_.out HW_.out (by kernel_rfl)) (fun _ _ _ h => h) (Or.inl ⟨by rfl,?_⟩) hHeld ?_ ?_;rotate_left
            ·
             rintro w' ⟨s0,s1,s2,s3,s4,s5,s6,s7,s8,s9,s10,s11⟩
             go_simp
             with_reducible rfl
            rotate_left
            ·
             simp only [Act.put,zi,zj,zk,zG,zH]
             rfl
            refine pure_ (i:=22) (N:=some 146) (v:=?_) (a':=?_) (bm_ 23 36) rfl rfl (any_of HT_.out (by kernel_rfl)) (fun _ _ _ h => h) (Or.inl ⟨by rfl,?_⟩) ?_ ?_;rotate_left
            ·
             intro w'
             go_simp
             with_reducible rfl
            rotate_left
            ·
             simp only [Act.put,zi,zj,zk,zG,zH]
             rfl
            refine pure_ (i:=23) (N:=some 147) (v:=?_) (a':=?_) (bm_ 24 36) rfl rfl (any_of HT_.out (by kernel_rfl)) (fun _ _ _ h => h) (Or.inl ⟨by rfl,?_⟩) ?_ ?_;rotate_left
            ·
             intro w'
             go_simp
             with_reducible rfl
            rotate_left
            ·
             simp only [Act.put,zi,zj,zk,zG,zH]
             rfl
            refine pure_ (i:=24) (N:=some 148) (v:=?_) (a':=?_) (bm_ 25 36) rfl rfl (any_of HT_.out (by kernel_rfl)) (fun _ _ _ h => h) (Or.inl ⟨by rfl,?_⟩) ?_ ?_;rotate_left
            ·
             intro w'
             go_simp
             with_reducible rfl
            rotate_left
            ·
             simp only [Act.put,zi,zj,zk,zG,zH]
             rfl
            refine pure_ (i:=25) (N:=some 149) (v:=?_) (a':=?_) (bm_ 26 36) rfl rfl (any_of HT_.out (by kernel_rfl)) (fun _ _ _ h => h) (Or.inl ⟨by rfl,?_⟩) ?_ ?_;rotate_left
            ·
             intro w'
             go_simp
             with_reducible rfl
            rotate_left
            ·
             simp only [Act.put,zi,zj,zk,zG,zH]
             rfl
            refine pure_ (i:=26) (N:=some 150) (v:=undef) (a':=?_) (bm_ 27 36) rfl rfl (any_of HT_.out (by kernel_rfl)) (fun _ _ _ h => h) (Or.inr ⟨by rfl,rfl⟩) ?_ ?_;rotate_left
            ·
             simp only [Act.put,zi,zj,zk,zG,zH]
             rfl
            refine pure_ (i:=27) (N:=some 151) (v:=undef) (a':=?_) (bm_ 28 36) rfl rfl (any_of HT_.out (by kernel_rfl)) (fun _ _ _ h => h) (Or.inr ⟨by rfl,rfl⟩) ?_ ?_;rotate_left
            ·
             simp only [Act.put,zi,zj,zk,zG,zH]
             rfl
            refine pure_ (i:=28) (N:=some 152) (v:=undef) (a':=?_) (bm_ 29 36) rfl rfl (any_of HT_.out (by kernel_rfl)) (fun _ _ _ h => h) (Or.inr ⟨by rfl,rfl⟩) ?_ ?_;rotate_left
            ·
             simp only [Act.put,zi,zj,zk,zG,zH]
             rfl
            refine pure_ (i:=29) (N:=some 153) (v:=undef) (a':=?_) (bm_ 30 36) rfl rfl (any_of HT_.out (by kernel_rfl)) (fun _ _ _ h => h) (Or.inr ⟨by rfl,rfl⟩) ?_ ?_;rotate_left
            ·
             simp only [Act.put,zi,zj,zk,zG,zH]
             rfl
            refine pure_ (i:=30) (N:=some 154) (v:=undef) (a':=?_) (bm_ 31 36) rfl rfl (any_of HT_.out (by kernel_rfl)) (fun _ _ _ h => h) (Or.inr ⟨by rfl,rfl⟩) ?_ ?_;rotate_left
            ·
             simp only [Act.put,zi,zj,zk,zG,zH]
             rfl
            refine pure_ (i:=31) (N:=some 155) (v:=undef) (a':=?_) (bm_ 32 36) rfl rfl (any_of HT_.out (by kernel_rfl)) (fun _ _ _ h => h) (Or.inr ⟨by rfl,rfl⟩) ?_ ?_;rotate_left
            ·
             simp only [Act.put,zi,zj,zk,zG,zH]
             rfl
            refine pure_ (i:=32) (N:=some 156) (v:=undef) (a':=?_) (bm_ 33 36) rfl rfl (any_of HT_.out (by kernel_rfl)) (fun _ _ _ h => h) (Or.inr ⟨by rfl,rfl⟩) ?_ ?_;rotate_left
            ·
             simp only [Act.put,zi,zj,zk,zG,zH]
             rfl
            refine pure_ (i:=33) (N:=some 157) (v:=undef) (a':=?_) (bm_ 34 36) rfl rfl (any_of HT_.out (by kernel_rfl)) (fun _ _ _ h => h) (Or.inr ⟨by rfl,rfl⟩) ?_ ?_;rotate_left
            ·
             simp only [Act.put,zi,zj,zk,zG,zH]
             rfl
            refine pure_ (i:=34) (N:=some 158) (v:=undef) (a':=?_) (bm_ 35 36) rfl rfl (any_of HT_.out (by kernel_rfl)) (fun _ _ _ h => h) (Or.inr ⟨by rfl,rfl⟩) ?_ ?_;rotate_left
            ·
             simp only [Act.put,zi,zj,zk,zG,zH]
             rfl
            refine pure_ (i:=35) (N:=some 159) (v:=?_) (a':=?_) (bm_ 36 36) rfl rfl (any_of HT_.out (by kernel_rfl)) (fun _ _ _ h => h) (Or.inl ⟨by rfl,?_⟩) ?_ ?_;rotate_left
            ·
             intro w'
             go_simp
             with_reducible rfl
            rotate_left
            ·
             simp only [Act.put,zi,zj,zk,zG,zH]
             rfl
            refine done_ (done_of HT_.out (by kernel_rfl)) ?_
            try go_wp2
            go_ret
            exact ⟨by first|rfl|(simp [yt,yu] <;> rfl)|(simp only [← hji71];first|rfl|(simp [yt,yu] <;> rfl))|(simp [*,yt,yu] <;> rfl),by repeat (with_reducible first|exact HB.out|apply za|apply zb|apply zc|refine zd ?_ GE144.out)⟩
           rw [if_neg c73] at H;exact absurd H (by simp)
          rw [if_neg c72] at H;exact absurd H (by simp)
         rw [if_neg c70] at H;have c70b0 : decide (0<x10_2)=false:=decide_eq_false c70;clear c70;replace H:=zT.mp H;obtain ⟨t164,A850,H⟩:=H;replace H : (if t164=true then (F0.l1 k2 a1 t153 (wrap64 (x10_2 + 1))) else (some false))=some r:=H;have A85:=zh A850;clear A850
         by_cases c86 : t164=true
         ·
          subst c86
          have H1 : (F0.l1 k2 a1 t153 (wrap64 (x10_2 + 1)))=some r:=by rw [if_pos rfl] at H;exact H
          clear H;have H:=H1;clear H1;have H':=zh H;clear H;obtain ⟨Ao87,co87,eo87⟩:=yk HO_8.out;subst eo87
          try go_wp2
          replace HO_8:=zh (zo HO_8.out);replace BK144:=zh (zf BK144.out);replace HB:=zh (zc HB.out);have p157 : 0≤(x10_2 : Int):=zy (by first|(with_reducible assumption)|assumption);have q157 : x10_2<(t153.length : Int):=zy (by first|(with_reducible assumption)|assumption);obtain ⟨ad157,e157,hx157_0,hx157_1,hx157_2,hx157_3⟩:=at_T54 (yh HO_8.out).2.2 x10_2 p157 q157
          cases e157
          replace p157:=eq_true p157;replace q157:=eq_true q157;have p163 : 0≤(x10_2 : Int):=zy (by first|(with_reducible assumption)|assumption);have q163 : x10_2<(t153.length : Int):=zy (by first|(with_reducible assumption)|assumption);obtain ⟨ad163,e163,hx163_0,hx163_1,hx163_2,hx163_3⟩:=at_T54 (yh HO_8.out).2.2 x10_2 p163 q163;obtain rfl : ad157=ad163:=(by injection e163);replace p163:=eq_true p163;replace q163:=eq_true q163;refine start_ (n:=36) (S:=fun w' => w'.cell? (ad157.add ((x10_2).toNat * 4))=some (.string ((rd_T54 t153 x10_2).f0))∧w'.cell? ⟨(ad157.add ((x10_2).toNat * 4)).block,(ad157.add ((x10_2).toNat * 4)).off + 1,none⟩=some (.int .i64 ((rd_T54 t153 x10_2).f1.f0))∧w'.cell? ⟨(ad157.add ((x10_2).toNat * 4)).block,(ad157.add ((x10_2).toNat * 4)).off + 2,none⟩=some (.int .i64 ((rd_T54 t153 x10_2).f1.f1))∧w'.cell? ⟨(ad157.add ((x10_2).toNat * 4)).block,(ad157.add ((x10_2).toNat * 4)).off + 3,none⟩=some (.string ((rd_T54 t153 x10_2).f1.f2))∧w'.cell? (ad157.add ((x10_2).toNat * 4))=some (.string ((rd_T54 t153 x10_2).f0))∧w'.cell? ⟨(ad157.add ((x10_2).toNat * 4)).block,(ad157.add ((x10_2).toNat * 4)).off + 1,none⟩=some (.int .i64 ((rd_T54 t153 x10_2).f1.f0))∧w'.cell? ⟨(ad157.add ((x10_2).toNat * 4)).block,(ad157.add ((x10_2).toNat * 4)).off + 2,none⟩=some (.int .i64 ((rd_T54 t153 x10_2).f1.f1))∧w'.cell? ⟨(ad157.add ((x10_2).toNat * 4)).block,(ad157.add ((x10_2).toNat * 4)).off + 3,none⟩=some (.string ((rd_T54 t153 x10_2).f1.f2))) (ds:=[]) (bm_ 0 36) (by kernel_rfl) rfl rfl ⟨hx157_0,hx157_1,hx157_2,hx157_3,hx163_0,hx163_1,hx163_2,hx163_3⟩ (fun hHeld => ?_);refine with_tabW F0.tab27 F0.bits27 (fun HT_ HW_ => ?_);generalize wr.drew=w88 at HO_8 BK144 HB hx157_0 hx157_1 hx157_2 hx157_3 hx163_0 hx163_1 hx163_2 hx163_3 hHeld ⊢;refine pure_ (i:=0) (N:=some 124) (v:=?_) (a':=?_) (bm_ 1 36) rfl rfl (any_of HT_.out (by kernel_rfl)) (fun _ _ _ h => h) (Or.inl ⟨by rfl,?_⟩) ?_ ?_;rotate_left
          ·
           intro w'
           go_simp
           with_reducible rfl
          rotate_left
          ·
           simp only [Act.put,zi,zj,zk,zG,zH]
           rfl
          refine pure_ (i:=1) (N:=some 125) (v:=?_) (a':=?_) (bm_ 2 36) rfl rfl (any_of HT_.out (by kernel_rfl)) (fun _ _ _ h => h) (Or.inl ⟨by rfl,?_⟩) ?_ ?_;rotate_left
          ·
           intro w'
           go_simp
           with_reducible rfl
          rotate_left
          ·
           simp only [Act.put,zi,zj,zk,zG,zH]
           rfl
          refine pure_ (i:=2) (N:=some 126) (v:=?_) (a':=?_) (bm_ 3 36) rfl rfl (any_of HT_.out (by kernel_rfl)) (fun _ _ _ h => h) (Or.inl ⟨by rfl,?_⟩) ?_ ?_;rotate_left
          ·
           intro w'
           go_simp
           with_reducible rfl
          rotate_left
          ·
           simp only [Act.put,zi,zj,zk,zG,zH]
           rfl
          refine pure_ (i:=3) (N:=some 127) (v:=?_) (a':=?_) (bm_ 4 36) rfl rfl (any_of HT_.out (by kernel_rfl)) (fun _ _ _ h => h) (Or.inl ⟨by rfl,?_⟩) ?_ ?_;rotate_left
          ·
           intro w'
           go_simp
           with_reducible rfl
          rotate_left
          ·
           simp only [Act.put,zi,zj,zk,zG,zH]
           rfl
          refine take_ (i:=4) (N:=some 128) (v:=?_) (a':=?_) (bm_ 5 36) rfl rfl (yo HT_.out HW_.out (by kernel_rfl)) (fun _ _ _ h => h) (Or.inl ⟨by rfl,?_⟩) hHeld ?_ ?_;rotate_left
          ·
           rintro w' ⟨s0,s1,s2,s3,s4,s5,s6,s7⟩
           go_simp
           with_reducible rfl
          rotate_left
          ·
           simp only [Act.put,zi,zj,zk,zG,zH]
           rfl
          refine one_ (i:=5) (N:=some 129) (bm_ 6 36) rfl rfl (one_of HT_.out (by kernel_rfl)) (by decide) (fun K hK => ?_);refine goes_ Try.func26 (by kernel_rfl) rfl #[.string ((rd_T54 t153 x10_2).f0)] (by rfl) rfl rfl (by (try simp only [zt,zu,zv]);first|done|rfl|(simp only [zw,zx];rfl)|(simp only [yr,ys,zV,zW];rfl)) ?_
          with_reducible refine (Fy.calls k2  ((rd_T54 t153 x10_2).f0) true _ A68.out).mono ?_
          rintro e w' ⟨rfl,⟨nd,rfl⟩⟩;refine ⟨_,rfl,?_⟩;refine hK.out _ _ ⟨hHeld.1,hHeld.2.1,hHeld.2.2.1,hHeld.2.2.2.1,hHeld.2.2.2.2.1,hHeld.2.2.2.2.2.1,hHeld.2.2.2.2.2.2.1,hHeld.2.2.2.2.2.2.2⟩ (fun hHeld => ?_);clear hK K;refine norm_ (a':=?_) ?_ ?_;rotate_left
          ·
           show Act.put _ (some 129) _=_
           simp only [Act.put,zi,zj,zk,zG,zH]
           rfl
          refine pure_ (i:=6) (N:=some 130) (v:=?_) (a':=?_) (bm_ 7 36) rfl rfl (any_of HT_.out (by kernel_rfl)) (fun _ _ _ h => h) (Or.inl ⟨by rfl,?_⟩) ?_ ?_;rotate_left
          ·
           intro w'
           go_simp
           with_reducible rfl
          rotate_left
          ·
           simp only [Act.put,zi,zj,zk,zG,zH]
           rfl
          refine pure_ (i:=7) (N:=some 131) (v:=?_) (a':=?_) (bm_ 8 36) rfl rfl (any_of HT_.out (by kernel_rfl)) (fun _ _ _ h => h) (Or.inl ⟨by rfl,?_⟩) ?_ ?_;rotate_left
          ·
           intro w'
           go_simp
           with_reducible rfl
          rotate_left
          ·
           simp only [Act.put,zi,zj,zk,zG,zH]
           rfl
          refine pure_ (i:=8) (N:=some 132) (v:=?_) (a':=?_) (bm_ 9 36) rfl rfl (any_of HT_.out (by kernel_rfl)) (fun _ _ _ h => h) (Or.inl ⟨by rfl,?_⟩) ?_ ?_;rotate_left
          ·
           intro w'
           go_simp
           with_reducible rfl
          rotate_left
          ·
           simp only [Act.put,zi,zj,zk,zG,zH]
           rfl
          refine pure_ (i:=9) (N:=some 133) (v:=?_) (a':=?_) (bm_ 10 36) rfl rfl (any_of HT_.out (by kernel_rfl)) (fun _ _ _ h => h) (Or.inl ⟨by rfl,?_⟩) ?_ ?_;rotate_left
          ·
           intro w'
           go_simp
           with_reducible rfl
          rotate_left
          ·
           simp only [Act.put,zi,zj,zk,zG,zH]
           rfl
          refine pure_ (i:=10) (N:=some 134) (v:=?_) (a':=?_) (bm_ 11 36) rfl rfl (any_of HT_.out (by kernel_rfl)) (fun _ _ _ h => h) (Or.inl ⟨by rfl,?_⟩) ?_ ?_;rotate_left
          ·
           intro w'
           go_simp
           with_reducible rfl
          rotate_left
          ·
           simp only [Act.put,zi,zj,zk,zG,zH]
           rfl
          refine pure_ (i:=11) (N:=some 135) (v:=undef) (a':=?_) (bm_ 12 36) rfl rfl (any_of HT_.out (by kernel_rfl)) (fun _ _ _ h => h) (Or.inr ⟨by rfl,rfl⟩) ?_ ?_;rotate_left
          ·
           simp only [Act.put,zi,zj,zk,zG,zH]
           rfl
          refine pure_ (i:=12) (N:=some 136) (v:=undef) (a':=?_) (bm_ 13 36) rfl rfl (any_of HT_.out (by kernel_rfl)) (fun _ _ _ h => h) (Or.inr ⟨by rfl,rfl⟩) ?_ ?_;rotate_left
          ·
           simp only [Act.put,zi,zj,zk,zG,zH]
           rfl
          refine pure_ (i:=13) (N:=some 137) (v:=undef) (a':=?_) (bm_ 14 36) rfl rfl (any_of HT_.out (by kernel_rfl)) (fun _ _ _ h => h) (Or.inr ⟨by rfl,rfl⟩) ?_ ?_;rotate_left
          ·
           simp only [Act.put,zi,zj,zk,zG,zH]
           rfl
          refine pure_ (i:=14) (N:=some 138) (v:=undef) (a':=?_) (bm_ 15 36) rfl rfl (any_of HT_.out (by kernel_rfl)) (fun _ _ _ h => h) (Or.inr ⟨by rfl,rfl⟩) ?_ ?_;rotate_left
          ·
           simp only [Act.put,zi,zj,zk,zG,zH]
           rfl
          refine pure_ (i:=15) (N:=some 139) (v:=undef) (a':=?_) (bm_ 16 36) rfl rfl (any_of HT_.out (by kernel_rfl)) (fun _ _ _ h => h) (Or.inr ⟨by rfl,rfl⟩) ?_ ?_;rotate_left
          ·
           simp only [Act.put,zi,zj,zk,zG,zH]
           rfl
          refine pure_ (i:=16) (N:=some 140) (v:=undef) (a':=?_) (bm_ 17 36) rfl rfl (any_of HT_.out (by kernel_rfl)) (fun _ _ _ h => h) (Or.inr ⟨by rfl,rfl⟩) ?_ ?_;rotate_left
          ·
           simp only [Act.put,zi,zj,zk,zG,zH]
           rfl
          refine pure_ (i:=17) (N:=some 141) (v:=undef) (a':=?_) (bm_ 18 36) rfl rfl (any_of HT_.out (by kernel_rfl)) (fun _ _ _ h => h) (Or.inr ⟨by rfl,rfl⟩) ?_ ?_;rotate_left
          ·
           simp only [Act.put,zi,zj,zk,zG,zH]
           rfl
          refine pure_ (i:=18) (N:=some 142) (v:=undef) (a':=?_) (bm_ 19 36) rfl rfl (any_of HT_.out (by kernel_rfl)) (fun _ _ _ h => h) (Or.inr ⟨by rfl,rfl⟩) ?_ ?_;rotate_left
          ·
           simp only [Act.put,zi,zj,zk,zG,zH]
           rfl
          refine pure_ (i:=19) (N:=some 143) (v:=undef) (a':=?_) (bm_ 20 36) rfl rfl (any_of HT_.out (by kernel_rfl)) (fun _ _ _ h => h) (Or.inr ⟨by rfl,rfl⟩) ?_ ?_;rotate_left
          ·
           simp only [Act.put,zi,zj,zk,zG,zH]
           rfl
          refine pure_ (i:=20) (N:=some 144) (v:=undef) (a':=?_) (bm_ 21 36) rfl rfl (any_of HT_.out (by kernel_rfl)) (fun _ _ _ h => h) (Or.inr ⟨by rfl,rfl⟩) ?_ ?_;rotate_left
          ·
           simp only [Act.put,zi,zj,zk,zG,zH]
           rfl
          refine pure_ (i:=21) (N:=some 145) (v:=undef) (a':=?_) (bm_ 22 36) rfl rfl (any_of HT_.out (by kernel_rfl)) (fun _ _ _ h => h) (Or.inr ⟨by rfl,rfl⟩) ?_ ?_;rotate_left
          ·
           simp only [Act.put,zi,zj,zk,zG,zH]
           rfl
          refine pure_ (i:=22) (N:=some 146) (v:=undef) (a':=?_) (bm_ 23 36) rfl rfl (any_of HT_.out (by kernel_rfl)) (fun _ _ _ h => h) (Or.inr ⟨by rfl,rfl⟩) ?_ ?_;rotate_left
          ·
           simp only [Act.put,zi,zj,zk,zG,zH]
           rfl
          refine pure_ (i:=23) (N:=some 147) (v:=?_) (a':=?_) (bm_ 24 36) rfl rfl (any_of HT_.out (by kernel_rfl)) (fun _ _ _ h => h) (Or.inl ⟨by rfl,?_⟩) ?_ ?_;rotate_left
          ·
           intro w'
           go_simp
           with_reducible rfl
          rotate_left
          ·
           simp only [Act.put,zi,zj,zk,zG,zH]
           rfl
          refine pure_ (i:=24) (N:=some 148) (v:=?_) (a':=?_) (bm_ 25 36) rfl rfl (any_of HT_.out (by kernel_rfl)) (fun _ _ _ h => h) (Or.inl ⟨by rfl,?_⟩) ?_ ?_;rotate_left
          ·
           intro w'
           go_simp
           with_reducible rfl
          rotate_left
          ·
           simp only [Act.put,zi,zj,zk,zG,zH]
           rfl
          refine pure_ (i:=25) (N:=some 149) (v:=?_) (a':=?_) (bm_ 26 36) rfl rfl (any_of HT_.out (by kernel_rfl)) (fun _ _ _ h => h) (Or.inl ⟨by rfl,?_⟩) ?_ ?_;rotate_left
          ·
           intro w'
           go_simp
           with_reducible rfl
          rotate_left
          ·
           simp only [Act.put,zi,zj,zk,zG,zH]
           rfl
          refine pure_ (i:=26) (N:=some 150) (v:=?_) (a':=?_) (bm_ 27 36) rfl rfl (any_of HT_.out (by kernel_rfl)) (fun _ _ _ h => h) (Or.inl ⟨by rfl,?_⟩) ?_ ?_;rotate_left
          ·
           intro w'
           go_simp
           with_reducible rfl
          rotate_left
          ·
           simp only [Act.put,zi,zj,zk,zG,zH]
           rfl
          refine pure_ (i:=27) (N:=some 151) (v:=?_) (a':=?_) (bm_ 28 36) rfl rfl (any_of HT_.out (by kernel_rfl)) (fun _ _ _ h => h) (Or.inl ⟨by rfl,?_⟩) ?_ ?_;rotate_left
          ·
           intro w'
           go_simp
           with_reducible rfl
          rotate_left
          ·
           simp only [Act.put,zi,zj,zk,zG,zH]
           rfl
          refine pure_ (i:=28) (N:=some 152) (v:=?_) (a':=?_) (bm_ 29 36) rfl rfl (any_of HT_.out (by kernel_rfl)) (fun _ _ _ h => h) (Or.inl ⟨by rfl,?_⟩) ?_ ?_;rotate_left
          ·
           intro w'
           go_simp
           with_reducible rfl
          rotate_left
          ·
           simp only [Act.put,zi,zj,zk,zG,zH]
           rfl
          refine pure_ (i:=29) (N:=some 153) (v:=?_) (a':=?_) (bm_ 30 36) rfl rfl (any_of HT_.out (by kernel_rfl)) (fun _ _ _ h => h) (Or.inl ⟨by rfl,?_⟩) ?_ ?_;rotate_left
          ·
           intro w'
           go_simp
           with_reducible rfl
          rotate_left
          ·
           simp only [Act.put,zi,zj,zk,zG,zH]
           rfl
          refine pure_ (i:=31) (N:=some 155) (v:=?_) (a':=?_) #[true,true,true,true,true,true,true,true,true,true,true,true,true,true,true,true,true,true,true,true,true,true,true,true,true,true,true,true,true,true,false,true,false,false,false,false] rfl rfl (any_of HT_.out (by kernel_rfl)) (fun _ _ _ h => h) (Or.inl ⟨by rfl,?_⟩) ?_ ?_;rotate_left
          ·
           intro w'
           go_simp
           with_reducible rfl
          rotate_left
          ·
           simp only [Act.put,zi,zj,zk,zG,zH]
           rfl
          refine pure_ (i:=32) (N:=some 156) (v:=?_) (a':=?_) #[true,true,true,true,true,true,true,true,true,true,true,true,true,true,true,true,true,true,true,true,true,true,true,true,true,true,true,true,true,true,false,true,true,false,false,false] rfl rfl (any_of HT_.out (by kernel_rfl)) (fun _ _ _ h => h) (Or.inl ⟨by rfl,?_⟩) ?_ ?_;rotate_left
          ·
           intro w'
           go_simp
           with_reducible rfl
          rotate_left
          ·
           simp only [Act.put,zi,zj,zk,zG,zH]
           rfl
          refine take_ (i:=30) (N:=some 154) (v:=?_) (a':=?_) (bm_ 33 36) rfl rfl (yo HT_.out HW_.out (by kernel_rfl)) (fun _ _ _ h => h) (Or.inl ⟨by rfl,?_⟩) hHeld ?_ ?_;rotate_left
          ·
           rintro w' ⟨s0,s1,s2,s3,s4,s5,s6,s7⟩
           go_simp
           with_reducible rfl
          rotate_left
          ·
           simp only [Act.put,zi,zj,zk,zG,zH]
           rfl
          refine one_ (i:=33) (N:=some 157) (bm_ 34 36) rfl rfl (one_of HT_.out (by kernel_rfl)) (by decide) (fun K hK => ?_);refine goes_ Try.func41 (by kernel_rfl) rfl #[.agg #[.int .i64 ((rd_T54 t153 x10_2).f1.f0),.int .i64 ((rd_T54 t153 x10_2).f1.f1),.string ((rd_T54 t153 x10_2).f1.f2)],.int .i64 (wrap64 (a1 - 1))] (by rfl) rfl rfl (by (try simp only [zt,zu,zv]);first|done|rfl|(simp only [zw,zx];rfl)|(simp only [yr,ys,zV,zW];rfl)) ?_
          with_reducible refine (ih k2 (by have:=HJ53.out;have:=HK2.out;omega)  ((rd_T54 t153 x10_2).f1.f0) ((rd_T54 t153 x10_2).f1.f1) ((rd_T54 t153 x10_2).f1.f2) (wrap64 (a1 - 1)) true _ A85.out).mono ?_
          rintro e w89 ⟨rfl,hb⟩;have HS0_:=(hb.cell (zl _ _ (hHeld.1))).trans (hHeld.1);have HS1_:=(hb.cell (zl _ _ (hHeld.2.1))).trans (hHeld.2.1);have HS2_:=(hb.cell (zl _ _ (hHeld.2.2.1))).trans (hHeld.2.2.1);have HS3_:=(hb.cell (zl _ _ (hHeld.2.2.2.1))).trans (hHeld.2.2.2.1);have HS4_:=(hb.cell (zl _ _ (hHeld.2.2.2.2.1))).trans (hHeld.2.2.2.2.1);have HS5_:=(hb.cell (zl _ _ (hHeld.2.2.2.2.2.1))).trans (hHeld.2.2.2.2.2.1);have HS6_:=(hb.cell (zl _ _ (hHeld.2.2.2.2.2.2.1))).trans (hHeld.2.2.2.2.2.2.1);have HS7_:=(hb.cell (zl _ _ (hHeld.2.2.2.2.2.2.2))).trans (hHeld.2.2.2.2.2.2.2);refine ⟨_,rfl,?_⟩;replace HO_8:=zh (yg (by (with_reducible repeat (first|apply zm|apply zn|apply zo));exact HO_8.out) hb);replace BK144:=zh (cD BK144.out (by (with_reducible repeat first|apply ze|apply zf|apply zg);exact BK144.out) hb);replace HB:=zh (zC (by repeat (with_reducible first|exact HB.out|apply za|apply zb|apply zc|refine zd ?_ GE144.out)) hb);(try clear hb);(try clear hb2);(try clear hk);(try clear hi);refine hK.out _ _ ⟨HS0_,HS1_,HS2_,HS3_,HS4_,HS5_,HS6_,HS7_⟩ (fun hHeld => ?_);clear hK K;refine norm_ (a':=?_) ?_ ?_;rotate_left
          ·
           show Act.put _ (some 157) _=_
           simp only [Act.put,zi,zj,zk,zG,zH]
           rfl
          refine pure_ (i:=34) (N:=some 158) (v:=?_) (a':=?_) (bm_ 35 36) rfl rfl (any_of HT_.out (by kernel_rfl)) (fun _ _ _ h => h) (Or.inl ⟨by rfl,?_⟩) ?_ ?_;rotate_left
          ·
           intro w'
           go_simp
           with_reducible rfl
          rotate_left
          ·
           simp only [Act.put,zi,zj,zk,zG,zH]
           rfl
          refine pure_ (i:=35) (N:=some 159) (v:=?_) (a':=?_) (bm_ 36 36) rfl rfl (any_of HT_.out (by kernel_rfl)) (fun _ _ _ h => h) (Or.inl ⟨by rfl,?_⟩) ?_ ?_;rotate_left
          ·
           intro w'
           go_simp
           with_reducible rfl
          rotate_left
          ·
           simp only [Act.put,zi,zj,zk,zG,zH]
           rfl
          refine done_ (done_of HT_.out (by kernel_rfl)) ?_
          try go_wp2
          go_roundg k2
          case measure => have:=HJ53.out;have:=HK2.out;omega
          case rel => exact ⟨(wrap64 (x10_2 + 1)),(by first|rfl|(simp;done)|(simp [*];done)),H',⟨by have:=HJ53.out;have:=HK2.out;omega⟩,⟨by (with_reducible repeat (first|apply zm|apply zn|apply zo));exact HO_8.out⟩,⟨by (with_reducible repeat first|apply ze|apply zf|apply zg);exact BK144.out⟩,⟨by repeat (with_reducible first|exact HB.out|apply za|apply zb|apply zc|refine zd ?_ GE144.out)⟩⟩
         replace c86:=yb.mpr c86;subst c86;have H1 : (some false)=some r:=by rw [if_neg (show ¬ (false=true) by decide)] at H;exact H
         clear H;have H:=H1;clear H1;obtain rfl:=zU H;obtain ⟨Ao90,co90,eo90⟩:=yk HO_8.out;subst eo90
         try go_wp2
         replace HO_8:=zh (zo HO_8.out);replace BK144:=zh (zf BK144.out);replace HB:=zh (zc HB.out);have p157 : 0≤(x10_2 : Int):=zy (by first|(with_reducible assumption)|assumption);have q157 : x10_2<(t153.length : Int):=zy (by first|(with_reducible assumption)|assumption);obtain ⟨ad157,e157,hx157_0,hx157_1,hx157_2,hx157_3⟩:=at_T54 (yh HO_8.out).2.2 x10_2 p157 q157
         cases e157
         replace p157:=eq_true p157;replace q157:=eq_true q157;have p163 : 0≤(x10_2 : Int):=zy (by first|(with_reducible assumption)|assumption);have q163 : x10_2<(t153.length : Int):=zy (by first|(with_reducible assumption)|assumption);obtain ⟨ad163,e163,hx163_0,hx163_1,hx163_2,hx163_3⟩:=at_T54 (yh HO_8.out).2.2 x10_2 p163 q163;obtain rfl : ad157=ad163:=(by injection e163);replace p163:=eq_true p163;replace q163:=eq_true q163;refine start_ (n:=36) (S:=fun w' => w'.cell? (ad157.add ((x10_2).toNat * 4))=some (.string ((rd_T54 t153 x10_2).f0))∧w'.cell? ⟨(ad157.add ((x10_2).toNat * 4)).block,(ad157.add ((x10_2).toNat * 4)).off + 1,none⟩=some (.int .i64 ((rd_T54 t153 x10_2).f1.f0))∧w'.cell? ⟨(ad157.add ((x10_2).toNat * 4)).block,(ad157.add ((x10_2).toNat * 4)).off + 2,none⟩=some (.int .i64 ((rd_T54 t153 x10_2).f1.f1))∧w'.cell? ⟨(ad157.add ((x10_2).toNat * 4)).block,(ad157.add ((x10_2).toNat * 4)).off + 3,none⟩=some (.string ((rd_T54 t153 x10_2).f1.f2))∧w'.cell? (ad157.add ((x10_2).toNat * 4))=some (.string ((rd_T54 t153 x10_2).f0))∧w'.cell? ⟨(ad157.add ((x10_2).toNat * 4)).block,(ad157.add ((x10_2).toNat * 4)).off + 1,none⟩=some (.int .i64 ((rd_T54 t153 x10_2).f1.f0))∧w'.cell? ⟨(ad157.add ((x10_2).toNat * 4)).block,(ad157.add ((x10_2).toNat * 4)).off + 2,none⟩=some (.int .i64 ((rd_T54 t153 x10_2).f1.f1))∧w'.cell? ⟨(ad157.add ((x10_2).toNat * 4)).block,(ad157.add ((x10_2).toNat * 4)).off + 3,none⟩=some (.string ((rd_T54 t153 x10_2).f1.f2))) (ds:=[]) (bm_ 0 36) (by kernel_rfl) rfl rfl ⟨hx157_0,hx157_1,hx157_2,hx157_3,hx163_0,hx163_1,hx163_2,hx163_3⟩ (fun hHeld => ?_);refine with_tabW F0.tab27 F0.bits27 (fun HT_ HW_ => ?_);generalize wr.drew=w91 at HO_8 BK144 HB hx157_0 hx157_1 hx157_2 hx157_3 hx163_0 hx163_1 hx163_2 hx163_3 hHeld ⊢;refine pure_ (i:=0) (N:=some 124) (v:=?_) (a':=?_) (bm_ 1 36) rfl rfl (any_of HT_.out (by kernel_rfl)) (fun _ _ _ h => h) (Or.inl ⟨by rfl,?_⟩) ?_ ?_;rotate_left
         ·
          intro w'
          go_simp
          with_reducible rfl
         rotate_left
         ·
          simp only [Act.put,zi,zj,zk,zG,zH]
          rfl
         refine pure_ (i:=1) (N:=some 125) (v:=?_) (a':=?_) (bm_ 2 36) rfl rfl (any_of HT_.out (by kernel_rfl)) (fun _ _ _ h => h) (Or.inl ⟨by rfl,?_⟩) ?_ ?_;rotate_left
         ·
          intro w'
          go_simp
          with_reducible rfl
         rotate_left
         ·
          simp only [Act.put,zi,zj,zk,zG,zH]
          rfl
         refine pure_ (i:=2) (N:=some 126) (v:=?_) (a':=?_) (bm_ 3 36) rfl rfl (any_of HT_.out (by kernel_rfl)) (fun _ _ _ h => h) (Or.inl ⟨by rfl,?_⟩) ?_ ?_;rotate_left
         ·
          intro w'
          go_simp
          with_reducible rfl
         rotate_left
         ·
          simp only [Act.put,zi,zj,zk,zG,zH]
          rfl
         refine pure_ (i:=3) (N:=some 127) (v:=?_) (a':=?_) (bm_ 4 36) rfl rfl (any_of HT_.out (by kernel_rfl)) (fun _ _ _ h => h) (Or.inl ⟨by rfl,?_⟩) ?_ ?_;rotate_left
         ·
          intro w'
          go_simp
          with_reducible rfl
         rotate_left
         ·
          simp only [Act.put,zi,zj,zk,zG,zH]
          rfl
         refine take_ (i:=4) (N:=some 128) (v:=?_) (a':=?_) (bm_ 5 36) rfl rfl (yo HT_.out HW_.out (by kernel_rfl)) (fun _ _ _ h => h) (Or.inl ⟨by rfl,?_⟩) hHeld ?_ ?_;rotate_left
         ·
          rintro w' ⟨s0,s1,s2,s3,s4,s5,s6,s7⟩
          go_simp
          with_reducible rfl
         rotate_left
         ·
          simp only [Act.put,zi,zj,zk,zG,zH]
          rfl
         refine one_ (i:=5) (N:=some 129) (bm_ 6 36) rfl rfl (one_of HT_.out (by kernel_rfl)) (by decide) (fun K hK => ?_);refine goes_ Try.func26 (by kernel_rfl) rfl #[.string ((rd_T54 t153 x10_2).f0)] (by rfl) rfl rfl (by (try simp only [zt,zu,zv]);first|done|rfl|(simp only [zw,zx];rfl)|(simp only [yr,ys,zV,zW];rfl)) ?_
         with_reducible refine (Fy.calls k2  ((rd_T54 t153 x10_2).f0) true _ A68.out).mono ?_
         rintro e w' ⟨rfl,⟨nd,rfl⟩⟩;refine ⟨_,rfl,?_⟩;refine hK.out _ _ ⟨hHeld.1,hHeld.2.1,hHeld.2.2.1,hHeld.2.2.2.1,hHeld.2.2.2.2.1,hHeld.2.2.2.2.2.1,hHeld.2.2.2.2.2.2.1,hHeld.2.2.2.2.2.2.2⟩ (fun hHeld => ?_);clear hK K;refine norm_ (a':=?_) ?_ ?_;rotate_left
         ·
          show Act.put _ (some 129) _=_
          simp only [Act.put,zi,zj,zk,zG,zH]
          rfl
         refine pure_ (i:=6) (N:=some 130) (v:=?_) (a':=?_) (bm_ 7 36) rfl rfl (any_of HT_.out (by kernel_rfl)) (fun _ _ _ h => h) (Or.inl ⟨by rfl,?_⟩) ?_ ?_;rotate_left
         ·
          intro w'
          go_simp
          with_reducible rfl
         rotate_left
         ·
          simp only [Act.put,zi,zj,zk,zG,zH]
          rfl
         refine pure_ (i:=7) (N:=some 131) (v:=?_) (a':=?_) (bm_ 8 36) rfl rfl (any_of HT_.out (by kernel_rfl)) (fun _ _ _ h => h) (Or.inl ⟨by rfl,?_⟩) ?_ ?_;rotate_left
         ·
          intro w'
          go_simp
          with_reducible rfl
         rotate_left
         ·
          simp only [Act.put,zi,zj,zk,zG,zH]
          rfl
         refine pure_ (i:=8) (N:=some 132) (v:=?_) (a':=?_) (bm_ 9 36) rfl rfl (any_of HT_.out (by kernel_rfl)) (fun _ _ _ h => h) (Or.inl ⟨by rfl,?_⟩) ?_ ?_;rotate_left
         ·
          intro w'
          go_simp
          with_reducible rfl
         rotate_left
         ·
          simp only [Act.put,zi,zj,zk,zG,zH]
          rfl
         refine pure_ (i:=9) (N:=some 133) (v:=?_) (a':=?_) (bm_ 10 36) rfl rfl (any_of HT_.out (by kernel_rfl)) (fun _ _ _ h => h) (Or.inl ⟨by rfl,?_⟩) ?_ ?_;rotate_left
         ·
          intro w'
          go_simp
          with_reducible rfl
         rotate_left
         ·
          simp only [Act.put,zi,zj,zk,zG,zH]
          rfl
         refine pure_ (i:=10) (N:=some 134) (v:=?_) (a':=?_) (bm_ 11 36) rfl rfl (any_of HT_.out (by kernel_rfl)) (fun _ _ _ h => h) (Or.inl ⟨by rfl,?_⟩) ?_ ?_;rotate_left
         ·
          intro w'
          go_simp
          with_reducible rfl
         rotate_left
         ·
          simp only [Act.put,zi,zj,zk,zG,zH]
          rfl
         refine pure_ (i:=11) (N:=some 135) (v:=undef) (a':=?_) (bm_ 12 36) rfl rfl (any_of HT_.out (by kernel_rfl)) (fun _ _ _ h => h) (Or.inr ⟨by rfl,rfl⟩) ?_ ?_;rotate_left
         ·
          simp only [Act.put,zi,zj,zk,zG,zH]
          rfl
         refine pure_ (i:=12) (N:=some 136) (v:=undef) (a':=?_) (bm_ 13 36) rfl rfl (any_of HT_.out (by kernel_rfl)) (fun _ _ _ h => h) (Or.inr ⟨by rfl,rfl⟩) ?_ ?_;rotate_left
         ·
          simp only [Act.put,zi,zj,zk,zG,zH]
          rfl
         refine pure_ (i:=13) (N:=some 137) (v:=undef) (a':=?_) (bm_ 14 36) rfl rfl (any_of HT_.out (by kernel_rfl)) (fun _ _ _ h => h) (Or.inr ⟨by rfl,rfl⟩) ?_ ?_;rotate_left
         ·
          simp only [Act.put,zi,zj,zk,zG,zH]
          rfl
         refine pure_ (i:=14) (N:=some 138) (v:=undef) (a':=?_) (bm_ 15 36) rfl rfl (any_of HT_.out (by kernel_rfl)) (fun _ _ _ h => h) (Or.inr ⟨by rfl,rfl⟩) ?_ ?_;rotate_left
         ·
          simp only [Act.put,zi,zj,zk,zG,zH]
          rfl
         refine pure_ (i:=15) (N:=some 139) (v:=undef) (a':=?_) (bm_ 16 36) rfl rfl (any_of HT_.out (by kernel_rfl)) (fun _ _ _ h => h) (Or.inr ⟨by rfl,rfl⟩) ?_ ?_;rotate_left
         ·
          simp only [Act.put,zi,zj,zk,zG,zH]
          rfl
         refine pure_ (i:=16) (N:=some 140) (v:=undef) (a':=?_) (bm_ 17 36) rfl rfl (any_of HT_.out (by kernel_rfl)) (fun _ _ _ h => h) (Or.inr ⟨by rfl,rfl⟩) ?_ ?_;rotate_left
         ·
          simp only [Act.put,zi,zj,zk,zG,zH]
          rfl
         refine pure_ (i:=17) (N:=some 141) (v:=undef) (a':=?_) (bm_ 18 36) rfl rfl (any_of HT_.out (by kernel_rfl)) (fun _ _ _ h => h) (Or.inr ⟨by rfl,rfl⟩) ?_ ?_;rotate_left
         ·
          simp only [Act.put,zi,zj,zk,zG,zH]
          rfl
         refine pure_ (i:=18) (N:=some 142) (v:=undef) (a':=?_) (bm_ 19 36) rfl rfl (any_of HT_.out (by kernel_rfl)) (fun _ _ _ h => h) (Or.inr ⟨by rfl,rfl⟩) ?_ ?_;rotate_left
         ·
          simp only [Act.put,zi,zj,zk,zG,zH]
          rfl
         refine pure_ (i:=19) (N:=some 143) (v:=undef) (a':=?_) (bm_ 20 36) rfl rfl (any_of HT_.out (by kernel_rfl)) (fun _ _ _ h => h) (Or.inr ⟨by rfl,rfl⟩) ?_ ?_;rotate_left
         ·
          simp only [Act.put,zi,zj,zk,zG,zH]
          rfl
         refine pure_ (i:=20) (N:=some 144) (v:=undef) (a':=?_) (bm_ 21 36) rfl rfl (any_of HT_.out (by kernel_rfl)) (fun _ _ _ h => h) (Or.inr ⟨by rfl,rfl⟩) ?_ ?_;rotate_left
         ·
          simp only [Act.put,zi,zj,zk,zG,zH]
          rfl
         refine pure_ (i:=21) (N:=some 145) (v:=undef) (a':=?_) (bm_ 22 36) rfl rfl (any_of HT_.out (by kernel_rfl)) (fun _ _ _ h => h) (Or.inr ⟨by rfl,rfl⟩) ?_ ?_;rotate_left
         ·
          simp only [Act.put,zi,zj,zk,zG,zH]
          rfl
         refine pure_ (i:=22) (N:=some 146) (v:=undef) (a':=?_) (bm_ 23 36) rfl rfl (any_of HT_.out (by kernel_rfl)) (fun _ _ _ h => h) (Or.inr ⟨by rfl,rfl⟩) ?_ ?_;rotate_left
         ·
          simp only [Act.put,zi,zj,zk,zG,zH]
          rfl
         refine pure_ (i:=23) (N:=some 147) (v:=?_) (a':=?_) (bm_ 24 36) rfl rfl (any_of HT_.out (by kernel_rfl)) (fun _ _ _ h => h) (Or.inl ⟨by rfl,?_⟩) ?_ ?_;rotate_left
         ·
          intro w'
          go_simp
          with_reducible rfl
         rotate_left
         ·
          simp only [Act.put,zi,zj,zk,zG,zH]
          rfl
         refine pure_ (i:=24) (N:=some 148) (v:=?_) (a':=?_) (bm_ 25 36) rfl rfl (any_of HT_.out (by kernel_rfl)) (fun _ _ _ h => h) (Or.inl ⟨by rfl,?_⟩) ?_ ?_;rotate_left
         ·
          intro w'
          go_simp
          with_reducible rfl
         rotate_left
         ·
          simp only [Act.put,zi,zj,zk,zG,zH]
          rfl
         refine pure_ (i:=25) (N:=some 149) (v:=?_) (a':=?_) (bm_ 26 36) rfl rfl (any_of HT_.out (by kernel_rfl)) (fun _ _ _ h => h) (Or.inl ⟨by rfl,?_⟩) ?_ ?_;rotate_left
         ·
          intro w'
          go_simp
          with_reducible rfl
         rotate_left
         ·
          simp only [Act.put,zi,zj,zk,zG,zH]
          rfl
         refine pure_ (i:=26) (N:=some 150) (v:=?_) (a':=?_) (bm_ 27 36) rfl rfl (any_of HT_.out (by kernel_rfl)) (fun _ _ _ h => h) (Or.inl ⟨by rfl,?_⟩) ?_ ?_;rotate_left
         ·
          intro w'
          go_simp
          with_reducible rfl
         rotate_left
         ·
          simp only [Act.put,zi,zj,zk,zG,zH]
          rfl
         refine pure_ (i:=27) (N:=some 151) (v:=?_) (a':=?_) (bm_ 28 36) rfl rfl (any_of HT_.out (by kernel_rfl)) (fun _ _ _ h => h) (Or.inl ⟨by rfl,?_⟩) ?_ ?_;rotate_left
         ·
          intro w'
          go_simp
          with_reducible rfl
         rotate_left
         ·
          simp only [Act.put,zi,zj,zk,zG,zH]
          rfl
         refine pure_ (i:=28) (N:=some 152) (v:=?_) (a':=?_) (bm_ 29 36) rfl rfl (any_of HT_.out (by kernel_rfl)) (fun _ _ _ h => h) (Or.inl ⟨by rfl,?_⟩) ?_ ?_;rotate_left
         ·
          intro w'
          go_simp
          with_reducible rfl
         rotate_left
         ·
          simp only [Act.put,zi,zj,zk,zG,zH]
          rfl
         refine pure_ (i:=29) (N:=some 153) (v:=?_) (a':=?_) (bm_ 30 36) rfl rfl (any_of HT_.out (by kernel_rfl)) (fun _ _ _ h => h) (Or.inl ⟨by rfl,?_⟩) ?_ ?_;rotate_left
         ·
          intro w'
          go_simp
          with_reducible rfl
         rotate_left
         ·
          simp only [Act.put,zi,zj,zk,zG,zH]
          rfl
         refine pure_ (i:=31) (N:=some 155) (v:=?_) (a':=?_) #[true,true,true,true,true,true,true,true,true,true,true,true,true,true,true,true,true,true,true,true,true,true,true,true,true,true,true,true,true,true,false,true,false,false,false,false] rfl rfl (any_of HT_.out (by kernel_rfl)) (fun _ _ _ h => h) (Or.inl ⟨by rfl,?_⟩) ?_ ?_;rotate_left
         ·
          intro w'
          go_simp
          with_reducible rfl
         rotate_left
         ·
          simp only [Act.put,zi,zj,zk,zG,zH]
          rfl
         refine pure_ (i:=32) (N:=some 156) (v:=?_) (a':=?_) #[true,true,true,true,true,true,true,true,true,true,true,true,true,true,true,true,true,true,true,true,true,true,true,true,true,true,true,true,true,true,false,true,true,false,false,false] rfl rfl (any_of HT_.out (by kernel_rfl)) (fun _ _ _ h => h) (Or.inl ⟨by rfl,?_⟩) ?_ ?_;rotate_left
         ·
          intro w'
          go_simp
          with_reducible rfl
         rotate_left
         ·
          simp only [Act.put,zi,zj,zk,zG,zH]
          rfl
         refine take_ (i:=30) (N:=some 154) (v:=?_) (a':=?_) (bm_ 33 36) rfl rfl (yo HT_.out HW_.out (by kernel_rfl)) (fun _ _ _ h => h) (Or.inl ⟨by rfl,?_⟩) hHeld ?_ ?_;rotate_left
         ·
          rintro w' ⟨s0,s1,s2,s3,s4,s5,s6,s7⟩
          go_simp
          with_reducible rfl
         rotate_left
         ·
          simp only [Act.put,zi,zj,zk,zG,zH]
          rfl
         refine one_ (i:=33) (N:=some 157) (bm_ 34 36) rfl rfl (one_of HT_.out (by kernel_rfl)) (by decide) (fun K hK => ?_);refine goes_ Try.func41 (by kernel_rfl) rfl #[.agg #[.int .i64 ((rd_T54 t153 x10_2).f1.f0),.int .i64 ((rd_T54 t153 x10_2).f1.f1),.string ((rd_T54 t153 x10_2).f1.f2)],.int .i64 (wrap64 (a1 - 1))] (by rfl) rfl rfl (by (try simp only [zt,zu,zv]);first|done|rfl|(simp only [zw,zx];rfl)|(simp only [yr,ys,zV,zW];rfl)) ?_
         with_reducible refine (ih k2 (by have:=HJ53.out;have:=HK2.out;omega)  ((rd_T54 t153 x10_2).f1.f0) ((rd_T54 t153 x10_2).f1.f1) ((rd_T54 t153 x10_2).f1.f2) (wrap64 (a1 - 1)) false _ A85.out).mono ?_
         rintro e w92 ⟨rfl,hb⟩;have HS0_:=(hb.cell (zl _ _ (hHeld.1))).trans (hHeld.1);have HS1_:=(hb.cell (zl _ _ (hHeld.2.1))).trans (hHeld.2.1);have HS2_:=(hb.cell (zl _ _ (hHeld.2.2.1))).trans (hHeld.2.2.1);have HS3_:=(hb.cell (zl _ _ (hHeld.2.2.2.1))).trans (hHeld.2.2.2.1);have HS4_:=(hb.cell (zl _ _ (hHeld.2.2.2.2.1))).trans (hHeld.2.2.2.2.1);have HS5_:=(hb.cell (zl _ _ (hHeld.2.2.2.2.2.1))).trans (hHeld.2.2.2.2.2.1);have HS6_:=(hb.cell (zl _ _ (hHeld.2.2.2.2.2.2.1))).trans (hHeld.2.2.2.2.2.2.1);have HS7_:=(hb.cell (zl _ _ (hHeld.2.2.2.2.2.2.2))).trans (hHeld.2.2.2.2.2.2.2);refine ⟨_,rfl,?_⟩;replace HO_8:=zh (yg (by (with_reducible repeat (first|apply zm|apply zn|apply zo));exact HO_8.out) hb);replace BK144:=zh (cD BK144.out (by (with_reducible repeat first|apply ze|apply zf|apply zg);exact BK144.out) hb);replace HB:=zh (zC (by repeat (with_reducible first|exact HB.out|apply za|apply zb|apply zc|refine zd ?_ GE144.out)) hb);(try clear hb);(try clear hb2);(try clear hk);(try clear hi);refine hK.out _ _ ⟨HS0_,HS1_,HS2_,HS3_,HS4_,HS5_,HS6_,HS7_⟩ (fun hHeld => ?_);clear hK K;refine norm_ (a':=?_) ?_ ?_;rotate_left
         ·
          show Act.put _ (some 157) _=_
          simp only [Act.put,zi,zj,zk,zG,zH]
          rfl
         refine pure_ (i:=34) (N:=some 158) (v:=?_) (a':=?_) (bm_ 35 36) rfl rfl (any_of HT_.out (by kernel_rfl)) (fun _ _ _ h => h) (Or.inl ⟨by rfl,?_⟩) ?_ ?_;rotate_left
         ·
          intro w'
          go_simp
          with_reducible rfl
         rotate_left
         ·
          simp only [Act.put,zi,zj,zk,zG,zH]
          rfl
         refine pure_ (i:=35) (N:=some 159) (v:=?_) (a':=?_) (bm_ 36 36) rfl rfl (any_of HT_.out (by kernel_rfl)) (fun _ _ _ h => h) (Or.inl ⟨by rfl,?_⟩) ?_ ?_;rotate_left
         ·
          intro w'
          go_simp
          with_reducible rfl
         rotate_left
         ·
          simp only [Act.put,zi,zj,zk,zG,zH]
          rfl
         refine done_ (done_of HT_.out (by kernel_rfl)) ?_
         try go_wp2
         go_ret
         exact ⟨by first|rfl|(simp [yt,yu] <;> rfl)|(simp [*,yt,yu] <;> rfl),by repeat (with_reducible first|exact HB.out|apply za|apply zb|apply zc|refine zd ?_ GE144.out)⟩
        replace c69:=yb.mpr c69;subst c69;have H1 : (some false)=some r:=by rw [if_neg (show ¬ (false=true) by decide)] at H;exact H
        clear H;have H:=H1;clear H1;obtain rfl:=zU H;obtain ⟨Ao93,co93,eo93⟩:=yk HO_8.out;subst eo93
        try go_wp2
        replace HO_8:=zh (zo HO_8.out);replace BK144:=zh (zf BK144.out);replace HB:=zh (zc HB.out);have p157 : 0≤(x10_2 : Int):=zy (by first|(with_reducible assumption)|assumption);have q157 : x10_2<(t153.length : Int):=zy (by first|(with_reducible assumption)|assumption);obtain ⟨ad157,e157,hx157_0,hx157_1,hx157_2,hx157_3⟩:=at_T54 (yh HO_8.out).2.2 x10_2 p157 q157
        cases e157
        replace p157:=eq_true p157;replace q157:=eq_true q157;refine start_ (n:=36) (S:=fun w' => w'.cell? (ad157.add ((x10_2).toNat * 4))=some (.string ((rd_T54 t153 x10_2).f0))∧w'.cell? ⟨(ad157.add ((x10_2).toNat * 4)).block,(ad157.add ((x10_2).toNat * 4)).off + 1,none⟩=some (.int .i64 ((rd_T54 t153 x10_2).f1.f0))∧w'.cell? ⟨(ad157.add ((x10_2).toNat * 4)).block,(ad157.add ((x10_2).toNat * 4)).off + 2,none⟩=some (.int .i64 ((rd_T54 t153 x10_2).f1.f1))∧w'.cell? ⟨(ad157.add ((x10_2).toNat * 4)).block,(ad157.add ((x10_2).toNat * 4)).off + 3,none⟩=some (.string ((rd_T54 t153 x10_2).f1.f2))) (ds:=[]) (bm_ 0 36) (by kernel_rfl) rfl rfl ⟨hx157_0,hx157_1,hx157_2,hx157_3⟩ (fun hHeld => ?_);refine with_tabW F0.tab27 F0.bits27 (fun HT_ HW_ => ?_);generalize wr.drew=w94 at HO_8 BK144 HB hx157_0 hx157_1 hx157_2 hx157_3 hHeld ⊢;refine pure_ (i:=0) (N:=some 124) (v:=?_) (a':=?_) (bm_ 1 36) rfl rfl (any_of HT_.out (by kernel_rfl)) (fun _ _ _ h => h) (Or.inl ⟨by rfl,?_⟩) ?_ ?_;rotate_left
        ·
         intro w'
         go_simp
         with_reducible rfl
        rotate_left
        ·
         simp only [Act.put,zi,zj,zk,zG,zH]
         rfl
        refine pure_ (i:=1) (N:=some 125) (v:=?_) (a':=?_) (bm_ 2 36) rfl rfl (any_of HT_.out (by kernel_rfl)) (fun _ _ _ h => h) (Or.inl ⟨by rfl,?_⟩) ?_ ?_;rotate_left
        ·
         intro w'
         go_simp
         with_reducible rfl
        rotate_left
        ·
         simp only [Act.put,zi,zj,zk,zG,zH]
         rfl
        refine pure_ (i:=2) (N:=some 126) (v:=?_) (a':=?_) (bm_ 3 36) rfl rfl (any_of HT_.out (by kernel_rfl)) (fun _ _ _ h => h) (Or.inl ⟨by rfl,?_⟩) ?_ ?_;rotate_left
        ·
         intro w'
         go_simp
         with_reducible rfl
        rotate_left
        ·
         simp only [Act.put,zi,zj,zk,zG,zH]
         rfl
        refine pure_ (i:=3) (N:=some 127) (v:=?_) (a':=?_) (bm_ 4 36) rfl rfl (any_of HT_.out (by kernel_rfl)) (fun _ _ _ h => h) (Or.inl ⟨by rfl,?_⟩) ?_ ?_;rotate_left
        ·
         intro w'
         go_simp
         with_reducible rfl
        rotate_left
        ·
         simp only [Act.put,zi,zj,zk,zG,zH]
         rfl
        refine take_ (i:=4) (N:=some 128) (v:=?_) (a':=?_) (bm_ 5 36) rfl rfl (yo HT_.out HW_.out (by kernel_rfl)) (fun _ _ _ h => h) (Or.inl ⟨by rfl,?_⟩) hHeld ?_ ?_;rotate_left
        ·
         rintro w' ⟨s0,s1,s2,s3⟩
         go_simp
         with_reducible rfl
        rotate_left
        ·
         simp only [Act.put,zi,zj,zk,zG,zH]
         rfl
        refine one_ (i:=5) (N:=some 129) (bm_ 6 36) rfl rfl (one_of HT_.out (by kernel_rfl)) (by decide) (fun K hK => ?_);refine goes_ Try.func26 (by kernel_rfl) rfl #[.string ((rd_T54 t153 x10_2).f0)] (by rfl) rfl rfl (by (try simp only [zt,zu,zv]);first|done|rfl|(simp only [zw,zx];rfl)|(simp only [yr,ys,zV,zW];rfl)) ?_
        with_reducible refine (Fy.calls k2  ((rd_T54 t153 x10_2).f0) false _ A68.out).mono ?_
        rintro e w' ⟨rfl,⟨nd,rfl⟩⟩;refine ⟨_,rfl,?_⟩;refine hK.out _ _ ⟨hHeld.1,hHeld.2.1,hHeld.2.2.1,hHeld.2.2.2⟩ (fun hHeld => ?_);clear hK K;refine norm_ (a':=?_) ?_ ?_;rotate_left
        ·
         show Act.put _ (some 129) _=_
         simp only [Act.put,zi,zj,zk,zG,zH]
         rfl
        refine pure_ (i:=6) (N:=some 130) (v:=?_) (a':=?_) (bm_ 7 36) rfl rfl (any_of HT_.out (by kernel_rfl)) (fun _ _ _ h => h) (Or.inl ⟨by rfl,?_⟩) ?_ ?_;rotate_left
        ·
         intro w'
         go_simp
         with_reducible rfl
        rotate_left
        ·
         simp only [Act.put,zi,zj,zk,zG,zH]
         rfl
        refine pure_ (i:=7) (N:=some 131) (v:=?_) (a':=?_) (bm_ 8 36) rfl rfl (any_of HT_.out (by kernel_rfl)) (fun _ _ _ h => h) (Or.inl ⟨by rfl,?_⟩) ?_ ?_;rotate_left
        ·
         intro w'
         go_simp
         with_reducible rfl
        rotate_left
        ·
         simp only [Act.put,zi,zj,zk,zG,zH]
         rfl
        refine pure_ (i:=8) (N:=some 132) (v:=undef) (a':=?_) (bm_ 9 36) rfl rfl (any_of HT_.out (by kernel_rfl)) (fun _ _ _ h => h) (Or.inr ⟨by rfl,rfl⟩) ?_ ?_;rotate_left
        ·
         simp only [Act.put,zi,zj,zk,zG,zH]
         rfl
        refine pure_ (i:=9) (N:=some 133) (v:=undef) (a':=?_) (bm_ 10 36) rfl rfl (any_of HT_.out (by kernel_rfl)) (fun _ _ _ h => h) (Or.inr ⟨by rfl,rfl⟩) ?_ ?_;rotate_left
        ·
         simp only [Act.put,zi,zj,zk,zG,zH]
         rfl
        refine pure_ (i:=10) (N:=some 134) (v:=undef) (a':=?_) (bm_ 11 36) rfl rfl (any_of HT_.out (by kernel_rfl)) (fun _ _ _ h => h) (Or.inr ⟨by rfl,rfl⟩) ?_ ?_;rotate_left
        ·
         simp only [Act.put,zi,zj,zk,zG,zH]
         rfl
        refine pure_ (i:=11) (N:=some 135) (v:=undef) (a':=?_) (bm_ 12 36) rfl rfl (any_of HT_.out (by kernel_rfl)) (fun _ _ _ h => h) (Or.inr ⟨by rfl,rfl⟩) ?_ ?_;rotate_left
        ·
         simp only [Act.put,zi,zj,zk,zG,zH]
         rfl
        refine pure_ (i:=12) (N:=some 136) (v:=undef) (a':=?_) (bm_ 13 36) rfl rfl (any_of HT_.out (by kernel_rfl)) (fun _ _ _ h => h) (Or.inr ⟨by rfl,rfl⟩) ?_ ?_;rotate_left
        ·
         simp only [Act.put,zi,zj,zk,zG,zH]
         rfl
        refine pure_ (i:=13) (N:=some 137) (v:=undef) (a':=?_) (bm_ 14 36) rfl rfl (any_of HT_.out (by kernel_rfl)) (fun _ _ _ h => h) (Or.inr ⟨by rfl,rfl⟩) ?_ ?_;rotate_left
        ·
         simp only [Act.put,zi,zj,zk,zG,zH]
         rfl
        refine pure_ (i:=14) (N:=some 138) (v:=undef) (a':=?_) (bm_ 15 36) rfl rfl (any_of HT_.out (by kernel_rfl)) (fun _ _ _ h => h) (Or.inr ⟨by rfl,rfl⟩) ?_ ?_;rotate_left
        ·
         simp only [Act.put,zi,zj,zk,zG,zH]
         rfl
        refine pure_ (i:=15) (N:=some 139) (v:=undef) (a':=?_) (bm_ 16 36) rfl rfl (any_of HT_.out (by kernel_rfl)) (fun _ _ _ h => h) (Or.inr ⟨by rfl,rfl⟩) ?_ ?_;rotate_left
        ·
         simp only [Act.put,zi,zj,zk,zG,zH]
         rfl
        refine pure_ (i:=16) (N:=some 140) (v:=undef) (a':=?_) (bm_ 17 36) rfl rfl (any_of HT_.out (by kernel_rfl)) (fun _ _ _ h => h) (Or.inr ⟨by rfl,rfl⟩) ?_ ?_;rotate_left
        ·
         simp only [Act.put,zi,zj,zk,zG,zH]
         rfl
        refine pure_ (i:=17) (N:=some 141) (v:=undef) (a':=?_) (bm_ 18 36) rfl rfl (any_of HT_.out (by kernel_rfl)) (fun _ _ _ h => h) (Or.inr ⟨by rfl,rfl⟩) ?_ ?_;rotate_left
        ·
         simp only [Act.put,zi,zj,zk,zG,zH]
         rfl
        refine pure_ (i:=18) (N:=some 142) (v:=undef) (a':=?_) (bm_ 19 36) rfl rfl (any_of HT_.out (by kernel_rfl)) (fun _ _ _ h => h) (Or.inr ⟨by rfl,rfl⟩) ?_ ?_;rotate_left
        ·
         simp only [Act.put,zi,zj,zk,zG,zH]
         rfl
        refine pure_ (i:=19) (N:=some 143) (v:=undef) (a':=?_) (bm_ 20 36) rfl rfl (any_of HT_.out (by kernel_rfl)) (fun _ _ _ h => h) (Or.inr ⟨by rfl,rfl⟩) ?_ ?_;rotate_left
        ·
         simp only [Act.put,zi,zj,zk,zG,zH]
         rfl
        refine pure_ (i:=20) (N:=some 144) (v:=undef) (a':=?_) (bm_ 21 36) rfl rfl (any_of HT_.out (by kernel_rfl)) (fun _ _ _ h => h) (Or.inr ⟨by rfl,rfl⟩) ?_ ?_;rotate_left
        ·
         simp only [Act.put,zi,zj,zk,zG,zH]
         rfl
        refine pure_ (i:=21) (N:=some 145) (v:=undef) (a':=?_) (bm_ 22 36) rfl rfl (any_of HT_.out (by kernel_rfl)) (fun _ _ _ h => h) (Or.inr ⟨by rfl,rfl⟩) ?_ ?_;rotate_left
        ·
         simp only [Act.put,zi,zj,zk,zG,zH]
         rfl
        refine pure_ (i:=22) (N:=some 146) (v:=undef) (a':=?_) (bm_ 23 36) rfl rfl (any_of HT_.out (by kernel_rfl)) (fun _ _ _ h => h) (Or.inr ⟨by rfl,rfl⟩) ?_ ?_;rotate_left
        ·
         simp only [Act.put,zi,zj,zk,zG,zH]
         rfl
        refine pure_ (i:=23) (N:=some 147) (v:=undef) (a':=?_) (bm_ 24 36) rfl rfl (any_of HT_.out (by kernel_rfl)) (fun _ _ _ h => h) (Or.inr ⟨by rfl,rfl⟩) ?_ ?_;rotate_left
        ·
         simp only [Act.put,zi,zj,zk,zG,zH]
         rfl
        refine pure_ (i:=24) (N:=some 148) (v:=?_) (a':=?_) (bm_ 25 36) rfl rfl (any_of HT_.out (by kernel_rfl)) (fun _ _ _ h => h) (Or.inl ⟨by rfl,?_⟩) ?_ ?_;rotate_left
        ·
         intro w'
         go_simp
         with_reducible rfl
        rotate_left
        ·
         simp only [Act.put,zi,zj,zk,zG,zH]
         rfl
        refine pure_ (i:=25) (N:=some 149) (v:=?_) (a':=?_) (bm_ 26 36) rfl rfl (any_of HT_.out (by kernel_rfl)) (fun _ _ _ h => h) (Or.inl ⟨by rfl,?_⟩) ?_ ?_;rotate_left
        ·
         intro w'
         go_simp
         with_reducible rfl
        rotate_left
        ·
         simp only [Act.put,zi,zj,zk,zG,zH]
         rfl
        refine pure_ (i:=26) (N:=some 150) (v:=undef) (a':=?_) (bm_ 27 36) rfl rfl (any_of HT_.out (by kernel_rfl)) (fun _ _ _ h => h) (Or.inr ⟨by rfl,rfl⟩) ?_ ?_;rotate_left
        ·
         simp only [Act.put,zi,zj,zk,zG,zH]
         rfl
        refine pure_ (i:=27) (N:=some 151) (v:=undef) (a':=?_) (bm_ 28 36) rfl rfl (any_of HT_.out (by kernel_rfl)) (fun _ _ _ h => h) (Or.inr ⟨by rfl,rfl⟩) ?_ ?_;rotate_left
        ·
         simp only [Act.put,zi,zj,zk,zG,zH]
         rfl
        refine pure_ (i:=28) (N:=some 152) (v:=undef) (a':=?_) (bm_ 29 36) rfl rfl (any_of HT_.out (by kernel_rfl)) (fun _ _ _ h => h) (Or.inr ⟨by rfl,rfl⟩) ?_ ?_;rotate_left
        ·
         simp only [Act.put,zi,zj,zk,zG,zH]
         rfl
        refine pure_ (i:=29) (N:=some 153) (v:=undef) (a':=?_) (bm_ 30 36) rfl rfl (any_of HT_.out (by kernel_rfl)) (fun _ _ _ h => h) (Or.inr ⟨by rfl,rfl⟩) ?_ ?_;rotate_left
        ·
         simp only [Act.put,zi,zj,zk,zG,zH]
         rfl
        refine pure_ (i:=30) (N:=some 154) (v:=undef) (a':=?_) (bm_ 31 36) rfl rfl (any_of HT_.out (by kernel_rfl)) (fun _ _ _ h => h) (Or.inr ⟨by rfl,rfl⟩) ?_ ?_;rotate_left
        ·
         simp only [Act.put,zi,zj,zk,zG,zH]
         rfl
        refine pure_ (i:=31) (N:=some 155) (v:=undef) (a':=?_) (bm_ 32 36) rfl rfl (any_of HT_.out (by kernel_rfl)) (fun _ _ _ h => h) (Or.inr ⟨by rfl,rfl⟩) ?_ ?_;rotate_left
        ·
         simp only [Act.put,zi,zj,zk,zG,zH]
         rfl
        refine pure_ (i:=32) (N:=some 156) (v:=undef) (a':=?_) (bm_ 33 36) rfl rfl (any_of HT_.out (by kernel_rfl)) (fun _ _ _ h => h) (Or.inr ⟨by rfl,rfl⟩) ?_ ?_;rotate_left
        ·
         simp only [Act.put,zi,zj,zk,zG,zH]
         rfl
        refine pure_ (i:=33) (N:=some 157) (v:=undef) (a':=?_) (bm_ 34 36) rfl rfl (any_of HT_.out (by kernel_rfl)) (fun _ _ _ h => h) (Or.inr ⟨by rfl,rfl⟩) ?_ ?_;rotate_left
        ·
         simp only [Act.put,zi,zj,zk,zG,zH]
         rfl
        refine pure_ (i:=34) (N:=some 158) (v:=undef) (a':=?_) (bm_ 35 36) rfl rfl (any_of HT_.out (by kernel_rfl)) (fun _ _ _ h => h) (Or.inr ⟨by rfl,rfl⟩) ?_ ?_;rotate_left
        ·
         simp only [Act.put,zi,zj,zk,zG,zH]
         rfl
        refine pure_ (i:=35) (N:=some 159) (v:=?_) (a':=?_) (bm_ 36 36) rfl rfl (any_of HT_.out (by kernel_rfl)) (fun _ _ _ h => h) (Or.inl ⟨by rfl,?_⟩) ?_ ?_;rotate_left
        ·
         intro w'
         go_simp
         with_reducible rfl
        rotate_left
        ·
         simp only [Act.put,zi,zj,zk,zG,zH]
         rfl
        refine done_ (done_of HT_.out (by kernel_rfl)) ?_
        try go_wp2
        go_ret
        exact ⟨by first|rfl|(simp [yt,yu] <;> rfl)|(simp [*,yt,yu] <;> rfl),by repeat (with_reducible first|exact HB.out|apply za|apply zb|apply zc|refine zd ?_ GE144.out)⟩
       rw [if_neg c67] at H;exact absurd H (by simp)
      rw [if_neg c66] at H;have c66b0 : decide (x10_2<(t153.length : Int))=false:=decide_eq_false c66;clear c66;obtain rfl:=zU H;obtain ⟨Ao95,co95,eo95⟩:=yk HO_8.out;subst eo95
      go_wp2
      go_ret
      exact ⟨by first|rfl|(simp [yt,yu] <;> rfl)|(simp [*,yt,yu] <;> rfl),by repeat (with_reducible first|exact HB.out|apply za|apply zb|apply zc|refine zd ?_ GE144.out)⟩
 rw [if_neg c52] at H;have c52b0 : (a0_0 == 5)=false:=zY.mpr c52;have c52b1 : (a0_0 != 5)=true:=zZ.mpr c52;obtain rfl:=zU H
 go_enter Try.func41,Try.ntmps41
 go_wp2_with (first|((with_reducible refine zK (N:=2) rfl ?_);(try (refine yz (by rfl) ?_;dsimp only));refine zI ?hg (N:=2) ?hd (cs:=#[.int .i64 a0_0,.int .i64 a0_1,.string a0_2]) (t:=27) ?hr ?_;(case hd|hg => rfl);(case hr => go_simp <;> rfl);intro gb144 hg w96 hbox hb;have BK144:=zh (hbox);have hH_:=cH (by repeat (with_reducible first|exact HB.out|apply za|apply zb|apply zc)) hb hg;have GW144:=zh hH_.1;have GE144:=GW144;replace HB:=zh hH_.2;clear hb hbox hg hH_;obtain ⟨hcz97_0,hcz97_1,hcz97_2,hfz97_0,hfz97_1,hfz97_2⟩:=cB3 BK144.out))
 go_ret
 exact ⟨by first|rfl|(simp [yt,yu] <;> rfl)|(simp [*,yt,yu] <;> rfl),by repeat (with_reducible first|exact HB.out|apply za|apply zb|apply zc|refine zd ?_ GE144.out)⟩

end Go.Proofs.Ytaoihmompioncaa.Q
end
section
namespace Go.Proofs.Ytaoihmompioncaa.Q
open Go.RowKit Go.Proofs.YtaoihmompioncaaW.PrintWords Go.Proofs.YtaoihmompioncaaW.PrintLast Go.Proofs.YtaoihmompioncaaW.PrintMore
attribute [local go_sem] max2_int min2_int max_two min_two max_three min_three max_four min_four max2_str min2_str str_geq str_gtr str_leq
set_option linter.unusedVariables false
set_option linter.unusedSimpArgs false

def F07.f (k : Nat) (a0_0 : Int) (a0_1 : Int) (a0_2 : ByteArray) : Option (Bool):=if (a0_2.size : Int)≤65536 then ((F0.f k a0_0 a0_1 a0_2 5).bind fun t166 => (some t166)) else (some false)
theorem F07.mono : ∀ a0 a1 a2 k,LeO (F07.f k a0 a1 a2) (F07.f (k + 1) a0 a1 a2):=by
 intro a0 a1 a2 k;unfold F07.f
 repeat' first|(with_reducible first|exact F0.mono _ _ _ _ _|exact zQ _|exact zN _|refine zP ?_ ?_|refine zO ?_ (fun _ => ?_))|refine zP ?_ ?_|refine zO ?_ (fun _ => ?_)
set_option maxHeartbeats 8000000 in
set_option maxRecDepth 100000 in
theorem F07.calls (k : Nat) (a0_0 : Int) (a0_1 : Int) (a0_2 : ByteArray) (r : Bool) (w : World) (h : F07.f k a0_0 a0_1 a0_2=some r) :
  Calls Try.prog 21 #[.agg #[.int .i64 a0_0,.int .i64 a0_1,.string a0_2]] w fun e w' => e = .returned (.bool r)∧Below w.heap.size w w':=by
 have hu27:=Try.underlying27;have HB:=zh (Below.refl w.heap.size w);have H : (if (a0_2.size : Int)≤65536 then ((F0.f k a0_0 a0_1 a0_2 5).bind fun t166 => (some t166)) else (some false))=some r:=h;clear h
 by_cases c2 : (a0_2.size : Int)≤65536
 ·
  rw [if_pos c2] at H
  have c2b0 : decide ((a0_2.size : Int)≤65536)=true:=decide_eq_true c2;have c2b1 : decide (a0_2.size≤65536)=true:=decide_eq_true (by omega);clear c2;replace H:=zT.mp H;obtain ⟨t166,A30,H⟩:=H;replace H : (some t166)=some r:=H;have A3:=zh A30;clear A30;obtain rfl:=zU H
  go_enter Try.func21,Try.ntmps21
  go_wp2_with (first|((with_reducible refine zK (N:=1) rfl ?_);refine zI ?hg (N:=1) ?hd (cs:=#[.int .i64 a0_0,.int .i64 a0_1,.string a0_2]) (t:=27) ?hr ?_;(case hd|hg => rfl);(case hr => go_simp <;> rfl);intro gb165 hg w4 hbox hb;have BK165:=zh (hbox);have hH_:=cH (by repeat (with_reducible first|exact HB.out|apply za|apply zb|apply zc)) hb hg;have GW165:=zh hH_.1;have GE165:=GW165;replace HB:=zh hH_.2;clear hb hbox hg hH_;obtain ⟨hcz5_0,hcz5_1,hcz5_2,hfz5_0,hfz5_1,hfz5_2⟩:=cB3 BK165.out)|(go_at_call 41;(with_reducible refine (F0.calls k  a0_0 a0_1 a0_2 5 t166 _ A3.out).mono ?_);rintro e w6 ⟨rfl,hb⟩;replace BK165:=zh (cD BK165.out (by (with_reducible repeat first|apply ze|apply zf|apply zg);exact BK165.out) hb);replace HB:=zh (zC (by repeat (with_reducible first|exact HB.out|apply za|apply zb|apply zc|refine zd ?_ GE165.out)) hb);(try clear hb);(try clear hb2);(try clear hk);(try clear hi)))
  go_ret
  exact ⟨by first|rfl|(simp [yt,yu] <;> rfl)|(simp [*,yt,yu] <;> rfl),by repeat (with_reducible first|exact HB.out|apply za|apply zb|apply zc|refine zd ?_ GE165.out)⟩
 rw [if_neg c2] at H;have c2b0 : decide ((a0_2.size : Int)≤65536)=false:=decide_eq_false c2;have c2b1 : decide (a0_2.size≤65536)=false:=decide_eq_false (by omega);clear c2;obtain rfl:=zU H
 go_enter Try.func21,Try.ntmps21
 go_wp2_with (first|((with_reducible refine zK (N:=1) rfl ?_);refine zI ?hg (N:=1) ?hd (cs:=#[.int .i64 a0_0,.int .i64 a0_1,.string a0_2]) (t:=27) ?hr ?_;(case hd|hg => rfl);(case hr => go_simp <;> rfl);intro gb165 hg w7 hbox hb;have BK165:=zh (hbox);have hH_:=cH (by repeat (with_reducible first|exact HB.out|apply za|apply zb|apply zc)) hb hg;have GW165:=zh hH_.1;have GE165:=GW165;replace HB:=zh hH_.2;clear hb hbox hg hH_;obtain ⟨hcz8_0,hcz8_1,hcz8_2,hfz8_0,hfz8_1,hfz8_2⟩:=cB3 BK165.out))
 go_ret
 exact ⟨by first|rfl|(simp [yt,yu] <;> rfl)|(simp [*,yt,yu] <;> rfl),by repeat (with_reducible first|exact HB.out|apply za|apply zb|apply zc|refine zd ?_ GE165.out)⟩


def F08.f (k : Nat) (a0_0 : Int) (a0_1 : Int) (a0_2 : ByteArray) : Option (Bool):=(F07.f k a0_0 a0_1 a0_2).bind fun t417 => (if t417=true then (some (a0_0 == 5)) else (some false))
theorem F08.mono : ∀ a0 a1 a2 k,LeO (F08.f k a0 a1 a2) (F08.f (k + 1) a0 a1 a2):=by
 intro a0 a1 a2 k;unfold F08.f
 repeat' first|(with_reducible first|exact F07.mono _ _ _ _|exact zQ _|exact zN _|refine zP ?_ ?_|refine zO ?_ (fun _ => ?_))|refine zP ?_ ?_|refine zO ?_ (fun _ => ?_)
set_option maxHeartbeats 8000000 in
set_option maxRecDepth 100000 in
theorem F08.calls (k : Nat) (a0_0 : Int) (a0_1 : Int) (a0_2 : ByteArray) (r : Bool) (w : World) (h : F08.f k a0_0 a0_1 a0_2=some r) :
  Calls Try.prog 25 #[.agg #[.int .i64 a0_0,.int .i64 a0_1,.string a0_2]] w fun e w' => e = .returned (.bool r)∧Below w.heap.size w w':=by
 have hu27:=Try.underlying27;have HB:=zh (Below.refl w.heap.size w);have H : ((F07.f k a0_0 a0_1 a0_2).bind fun t417 => (if t417=true then (some (a0_0 == 5)) else (some false)))=some r:=h;clear h;replace H:=zT.mp H;obtain ⟨t417,A20,H⟩:=H;replace H : (if t417=true then (some (a0_0 == 5)) else (some false))=some r:=H;have A2:=zh A20;clear A20
 by_cases c3 : t417=true
 ·
  subst c3
  have H1 : (some (a0_0 == 5))=some r:=by rw [if_pos rfl] at H;exact H
  clear H;have H:=H1;clear H1;obtain rfl:=zU H
  go_enter Try.func25,Try.ntmps25
  go_wp2_with (first|((with_reducible refine zK (N:=1) rfl ?_);refine zI ?hg (N:=1) ?hd (cs:=#[.int .i64 a0_0,.int .i64 a0_1,.string a0_2]) (t:=27) ?hr ?_;(case hd|hg => rfl);(case hr => go_simp <;> rfl);intro gb416 hg w4 hbox hb;have BK416:=zh (hbox);have hH_:=cH (by repeat (with_reducible first|exact HB.out|apply za|apply zb|apply zc)) hb hg;have GW416:=zh hH_.1;have GE416:=GW416;replace HB:=zh hH_.2;clear hb hbox hg hH_;obtain ⟨hcz5_0,hcz5_1,hcz5_2,hfz5_0,hfz5_1,hfz5_2⟩:=cB3 BK416.out)|((with_reducible refine zJ (f:=21) rfl ?_);refine yj (some 4) rfl rfl Try.func21 (by kernel_rfl) rfl #[.agg #[.int .i64 a0_0,.int .i64 a0_1,.string a0_2]] rfl (by (try simp only [zt,zu,zv]);first|done|rfl|(simp only [zw,zx];rfl)|(simp only [yr,ys,zV,zW];rfl)) ?_;(with_reducible refine (F07.calls k  a0_0 a0_1 a0_2 true _ A2.out).mono ?_);rintro e w6 ⟨rfl,hb⟩;refine ⟨_,rfl,?_⟩;replace BK416:=zh (cD BK416.out (by (with_reducible repeat first|apply ze|apply zf|apply zg);exact BK416.out) hb);replace HB:=zh (zC (by repeat (with_reducible first|exact HB.out|apply za|apply zb|apply zc|refine zd ?_ GE416.out)) hb);(try clear hb);(try clear hb2);(try clear hk);(try clear hi);obtain ⟨hcz7_0,hcz7_1,hcz7_2,hfz7_0,hfz7_1,hfz7_2⟩:=cB3 BK416.out))
  go_ret
  exact ⟨by first|rfl|(simp [yt,yu] <;> rfl)|(simp [*,yt,yu] <;> rfl),by repeat (with_reducible first|exact HB.out|apply za|apply zb|apply zc|refine zd ?_ GE416.out)⟩
 replace c3:=yb.mpr c3;subst c3;have H1 : (some false)=some r:=by rw [if_neg (show ¬ (false=true) by decide)] at H;exact H
 clear H;have H:=H1;clear H1;obtain rfl:=zU H
 go_enter Try.func25,Try.ntmps25
 go_wp2_with (first|((with_reducible refine zK (N:=1) rfl ?_);refine zI ?hg (N:=1) ?hd (cs:=#[.int .i64 a0_0,.int .i64 a0_1,.string a0_2]) (t:=27) ?hr ?_;(case hd|hg => rfl);(case hr => go_simp <;> rfl);intro gb416 hg w8 hbox hb;have BK416:=zh (hbox);have hH_:=cH (by repeat (with_reducible first|exact HB.out|apply za|apply zb|apply zc)) hb hg;have GW416:=zh hH_.1;have GE416:=GW416;replace HB:=zh hH_.2;clear hb hbox hg hH_;obtain ⟨hcz9_0,hcz9_1,hcz9_2,hfz9_0,hfz9_1,hfz9_2⟩:=cB3 BK416.out)|((with_reducible refine zJ (f:=21) rfl ?_);refine yj (some 4) rfl rfl Try.func21 (by kernel_rfl) rfl #[.agg #[.int .i64 a0_0,.int .i64 a0_1,.string a0_2]] rfl (by (try simp only [zt,zu,zv]);first|done|rfl|(simp only [zw,zx];rfl)|(simp only [yr,ys,zV,zW];rfl)) ?_;(with_reducible refine (F07.calls k  a0_0 a0_1 a0_2 false _ A2.out).mono ?_);rintro e w10 ⟨rfl,hb⟩;refine ⟨_,rfl,?_⟩;replace BK416:=zh (cD BK416.out (by (with_reducible repeat first|apply ze|apply zf|apply zg);exact BK416.out) hb);replace HB:=zh (zC (by repeat (with_reducible first|exact HB.out|apply za|apply zb|apply zc|refine zd ?_ GE416.out)) hb);(try clear hb);(try clear hb2);(try clear hk);(try clear hi)))
 go_ret
 exact ⟨by first|rfl|(simp [yt,yu] <;> rfl)|(simp [*,yt,yu] <;> rfl),by repeat (with_reducible first|exact HB.out|apply za|apply zb|apply zc|refine zd ?_ GE416.out)⟩


def Fb.l0 : Nat→Int→List Int→Int→Option (ByteArray)
 | 0,_,_,_ => none
 | k + 1,x0,x5,x6 => if x6 ≥ 0 then (if 0≤(IntKind.u64.wrap (wrap64 (8 * x6))) then (if x5.length<140737488355328 then (Fb.l0 k x0 (x5 ++ [(shr .i64 x0 (IntKind.u64.wrap (wrap64 (8 * x6)))) % 256]) (wrap64 (x6 - 1))) else (none)) else (none)) else (some (strOfNums x5))
def Fb.f (k : Nat) (a0 : Int) (a1 : Int) : Option (ByteArray):=Fb.l0 k a0 (([] : List Int)) (wrap64 (a1 - 1))
theorem Fb.mono_l : ∀ k,(∀ y0 y1 y2,LeO (Fb.l0 k y0 y1 y2) (Fb.l0 (k + 1) y0 y1 y2))
 | 0 => fun _ _ _ r h => by simp [Fb.l0] at h
 | k + 1 => by
  have ih0:=Fb.mono_l k;intro y0 y1 y2;unfold Fb.l0
  repeat' first|(with_reducible first|exact ih0 _ _ _|exact zQ _|exact zN _|refine zP ?_ ?_|refine zO ?_ (fun _ => ?_))|refine zP ?_ ?_|refine zO ?_ (fun _ => ?_)
theorem Fb.mono : ∀ a0 a1 k,LeO (Fb.f k a0 a1) (Fb.f (k + 1) a0 a1):=by
 intro a0 a1 k;have ih0:=Fb.mono_l k;unfold Fb.f
 repeat' first|(with_reducible first|exact ih0 _ _ _|exact zQ _|exact zN _|refine zP ?_ ?_|refine zO ?_ (fun _ => ?_))|refine zP ?_ ?_|refine zO ?_ (fun _ => ?_)
set_option maxHeartbeats 8000000 in
set_option maxRecDepth 100000 in
theorem Fb.calls (k : Nat) (a0 : Int) (a1 : Int) (r : ByteArray) (w : World) (h : Fb.f k a0 a1=some r) :
  Calls Try.prog 55 #[.int .i64 a0,.int .i64 a1] w fun e w' => e = .returned (.string r)∧Below w.heap.size w w':=by
 have HB:=zh (Below.refl w.heap.size w);have H : (Fb.l0 k a0 (([] : List Int)) (wrap64 (a1 - 1)))=some r:=h;clear h;obtain ⟨y173,hy173⟩ : ∃ y_ : List Int,y_=(([] : List Int)):=⟨_,rfl⟩;replace H : (Fb.l0 k a0 y173 (wrap64 (a1 - 1)))=some r:=by first|(rw [hy173];with_reducible exact H)|(have H2_:=(Option.bind_some _ _).symm.trans H;rw [hy173];with_reducible exact H2_)|(have H2_:=(Option.bind_some _ _).symm.trans H;with_reducible exact H2_)|with_reducible exact H|(rw [hy173];exact H)|exact H
 have Ny173:=zh hy173;clear hy173;have H':=zh H;clear H
 go_enter Try.func55,Try.ntmps55
 go_wp2_with (first|((with_reducible refine zK (N:=7) rfl ?_);refine Kd.R_lit (Kd.int .u8) _ 5 ?hg (N:=7) ?hd (xs:=([] : List Int)) (inner:=[]) (ok:=fun _ => True) (okp:=fun _ => True) ?hr ?hp (fun _ hk => hk) trivial (Below.refl _ _) (ye _) (by simp) ?_;(case hd|hg => rfl);(case hr => go_simp <;> rfl);(case hp => exact (Reps.none _ _));intro v174 w3 ho4 hb hg_ hnew_;clear hg_ hnew_;(first|rw [← Ny173.out] at ho4|(simp only [Int.reduceToNat] at ho4;rw [← Ny173.out] at ho4));have HO175:=zh (yy ho4 (zB (by repeat (with_reducible first|exact HB.out|apply za|apply zb|apply zc))));replace HB:=zh (zC (by repeat (with_reducible first|exact HB.out|apply za|apply zb|apply zc)) hb);clear hb ho4))
 go_loopg [5,6] k (fun kq v5 v6 w' => ∃ (x5_1 : List Int) (x6_1 : Int),v6 = .int .i64 x6_1∧Aside0 (Fb.l0 kq a0 x5_1 x6_1=some r)∧Aside0 (kq≤k)∧Aside0 (Kd.R (Kd.int .u8) 5 w' w.heap.size (fun _ => True) v5 x5_1)∧Aside0 (Below w.heap.size w w'))
 case atStart => exact ⟨(y173),(wrap64 (a1 - 1)),(by first|rfl|(simp;done)|(simp [*];done)),H',⟨ye _⟩,⟨by (with_reducible repeat (first|apply zm|apply zn|apply zo));exact HO175.out⟩,⟨by repeat (with_reducible first|exact HB.out|apply za|apply zb|apply zc)⟩⟩
 case round =>
  clear H'
  try clear p2
  obtain ⟨x5_1,x6_1,rfl,HA,HK1,HO_5,HB⟩:=hrel
  cases gk with
  | zero => exact absurd HA.out (by simp [Fb.l0])
  | succ k1 =>
   have H:=HA.out;clear HA;simp only [Fb.l0] at H
   by_cases c5 : x6_1 ≥ 0
   ·
    rw [if_pos c5] at H
    have c5b0 : decide (0≤x6_1)=true:=decide_eq_true c5;clear c5;obtain ⟨ji6,hji6⟩ : ∃ j_ : Int,(IntKind.u64.wrap (wrap64 (8 * x6_1)))=j_:=⟨_,rfl⟩;replace H : (if 0≤(ji6) then (if x5_1.length<140737488355328 then (Fb.l0 k1 a0 (x5_1 ++ [(shr .i64 a0 (ji6)) % 256]) (wrap64 (x6_1 - 1))) else (none)) else (none))=some r:=by first|(rw [hji6] at H;exact H)|(simp only [hji6] at H ⊢;exact H)
    by_cases c7 : 0≤(ji6)
    ·
     rw [if_pos c7] at H
     have c7b0:=eq_true c7;have c7b1 : decide (0≤(ji6))=true:=decide_eq_true c7;clear c7;obtain ⟨ji8,hji8⟩ : ∃ j_ : Int,(shr .i64 a0 (ji6))=j_:=⟨_,rfl⟩;replace H : (if x5_1.length<140737488355328 then (Fb.l0 k1 a0 (x5_1 ++ [(ji8) % 256]) (wrap64 (x6_1 - 1))) else (none))=some r:=by first|(rw [hji8] at H;exact H)|(simp only [hji8] at H ⊢;exact H)
     have hji8_ : (a0 / 2 ^ min (ji6).toNat 64)=ji8:=hji8;have hji8z : (ji6)≤64→(a0 / 2 ^ (ji6).toNat)=ji8:=shr_small hji8
     by_cases c9 : x5_1.length<140737488355328
     ·
      rw [if_pos c9] at H
      have LMc9:=zh c9;clear c9;obtain ⟨y176,hy176⟩ : ∃ y_ : List Int,y_=(x5_1 ++ [(ji8) % 256]):=⟨_,rfl⟩;replace H : (Fb.l0 k1 a0 y176 (wrap64 (x6_1 - 1)))=some r:=by first|(rw [hy176];with_reducible exact H)|(have H2_:=(Option.bind_some _ _).symm.trans H;rw [hy176];with_reducible exact H2_)|(have H2_:=(Option.bind_some _ _).symm.trans H;with_reducible exact H2_)|with_reducible exact H|(rw [hy176];exact H)|exact H
      have Ny176:=zh hy176;clear hy176;have H':=zh H;clear H
      go_wp2_with (first|((with_reducible refine yB (b:=.append) (xs:=#[.tmp 14,.tmp 21]) rfl ?_);at_builtin;refine Kd.R_append (Kd.int .u8) (w0:=w) w.heap.size rfl (.tmp 14) (.tmp 21) 66 5 (.int .u8 0) 1 rfl Try.underlying66 info5 rfl (by decide) (by omega) u5 x5_1 ((ji8) % 256) [.int .u8 ((ji8) % 256)] (fun _ => True) (fun _ => False) rfl rfl ?aP (fun _ hk => hk.elim) ?aF ?aO ?aB ?aS ?aL ?_;(case aP => exact rfl);(case aB => exact (by repeat (with_reducible first|exact HB.out|apply za|apply zb|apply zc)));(case aF => exact (fun _ _ => trivial));(case aO => exact (by (with_reducible repeat (first|apply zm|apply zn|apply zo));exact HO_5.out));(case aS => exact (zB (by repeat (with_reducible first|exact HB.out|apply za|apply zb|apply zc))));(case aL => have:=LMc9.out;omega);intro v177 w10 ho hb hg hat;rw [← Ny176.out] at ho;replace HB:=zh (hb);have HO178:=zh (ho);clear HO_5 ho hb hg hat))
      go_roundg k1
      case measure => have:=HK1.out;omega
      case rel => exact ⟨(y176),(wrap64 (x6_1 - 1)),(by first|rfl|(simp;done)|(simp [*];done)),H',⟨by have:=HK1.out;omega⟩,⟨by (with_reducible repeat (first|apply zm|apply zn|apply zo));exact HO178.out⟩,⟨by repeat (with_reducible first|exact HB.out|apply za|apply zb|apply zc)⟩⟩
     rw [if_neg c9] at H;exact absurd H (by simp)
    rw [if_neg c7] at H;exact absurd H (by simp)
   rw [if_neg c5] at H;have c5b0 : decide (0≤x6_1)=false:=decide_eq_false c5;clear c5;obtain rfl:=zU H;have hcv11:=own_string (P:=Try.prog) Try.underlying66 Try.underlying5 Try.underlying9 (Kd.own_of_R HO_5.out)
   go_wp2
   go_ret
   exact ⟨by first|rfl|(simp [yt,yu] <;> rfl)|(simp [*,yt,yu] <;> rfl),by repeat (with_reducible first|exact HB.out|apply za|apply zb|apply zc)⟩


def Fz.f (k : Nat) (a0_0 : Int) (a0_1 : Int) (a0_2 : ByteArray) : Option (ByteArray):=(Fb.f k a0_0 1).bind fun t419 => (if a0_0=0 then (some t419) else (if a0_0=1 then ((Fb.f k a0_1 1).bind fun t420 => (if t419.size + t420.size≤9223372036854775807 then (some (t419 ++ t420)) else (none))) else (if a0_0=2 then ((Fb.f k (wrap64 (a0_1 + 4611686018427387904)) 8).bind fun t421 => (if t419.size + t421.size≤9223372036854775807 then (some (t419 ++ t421)) else (none))) else ((Fb.f k (a0_2.size : Int) 2).bind fun t422 => (if t419.size + t422.size≤9223372036854775807 then (if (t419 ++ t422).size + a0_2.size≤9223372036854775807 then (some ((t419 ++ t422) ++ a0_2)) else (none)) else (none))))))
theorem Fz.mono : ∀ a0 a1 a2 k,LeO (Fz.f k a0 a1 a2) (Fz.f (k + 1) a0 a1 a2):=by
 intro a0 a1 a2 k;unfold Fz.f
 repeat' first|(with_reducible first|exact Fb.mono _ _ _|exact zQ _|exact zN _|refine zP ?_ ?_|refine zO ?_ (fun _ => ?_))|refine zP ?_ ?_|refine zO ?_ (fun _ => ?_)
def Fz.T9 : Bool×List (List Nat×List Nat):=(true,[([],[]),([],[]),([1],[1]),([2],[2]),([3],[3]),([0,4],[0,4]),([],[]),([6],[6]),([5,7],[5,7]),([8,4,0,1,2,3,4,5,6,7,8],[8])])
def Fz.B9 : List Nat:=[0,0,2,6,14,31,0,64,255,511]
theorem Fz.tab9 : rtab .any (opsOf Try.f56 9)=Fz.T9:=by kernel_rfl
theorem Fz.bits9 : waitsOk Fz.T9.2 Fz.B9=true:=by kernel_rfl
set_option maxHeartbeats 8000000 in
set_option maxRecDepth 100000 in
theorem Fz.calls (k : Nat) (a0_0 : Int) (a0_1 : Int) (a0_2 : ByteArray) (r : ByteArray) (w : World) (h : Fz.f k a0_0 a0_1 a0_2=some r) :
  Calls Try.prog 56 #[.agg #[.int .i64 a0_0,.int .i64 a0_1,.string a0_2]] w fun e w' => e = .returned (.string r)∧Below w.heap.size w w':=by
 have hu27:=Try.underlying27;have HB:=zh (Below.refl w.heap.size w);have H : ((Fb.f k a0_0 1).bind fun t419 => (if a0_0=0 then (some t419) else (if a0_0=1 then ((Fb.f k a0_1 1).bind fun t420 => (if t419.size + t420.size≤9223372036854775807 then (some (t419 ++ t420)) else (none))) else (if a0_0=2 then ((Fb.f k (wrap64 (a0_1 + 4611686018427387904)) 8).bind fun t421 => (if t419.size + t421.size≤9223372036854775807 then (some (t419 ++ t421)) else (none))) else ((Fb.f k (a0_2.size : Int) 2).bind fun t422 => (if t419.size + t422.size≤9223372036854775807 then (if (t419 ++ t422).size + a0_2.size≤9223372036854775807 then (some ((t419 ++ t422) ++ a0_2)) else (none)) else (none)))))))=some r:=h;clear h;replace H:=zT.mp H;obtain ⟨t419,A20,H⟩:=H;replace H : (if a0_0=0 then (some t419) else (if a0_0=1 then ((Fb.f k a0_1 1).bind fun t420 => (if t419.size + t420.size≤9223372036854775807 then (some (t419 ++ t420)) else (none))) else (if a0_0=2 then ((Fb.f k (wrap64 (a0_1 + 4611686018427387904)) 8).bind fun t421 => (if t419.size + t421.size≤9223372036854775807 then (some (t419 ++ t421)) else (none))) else ((Fb.f k (a0_2.size : Int) 2).bind fun t422 => (if t419.size + t422.size≤9223372036854775807 then (if (t419 ++ t422).size + a0_2.size≤9223372036854775807 then (some ((t419 ++ t422) ++ a0_2)) else (none)) else (none))))))=some r:=H;have A2:=zh A20;clear A20
 by_cases c3 : a0_0=0
 ·
  rw [if_pos c3] at H
  have c3b0 : (a0_0 == 0)=true:=ya.mpr c3;have c3b1 : (a0_0 != 0)=false:=zX.mpr c3;clear c3;obtain rfl:=zU H
  go_enter Try.func56,Try.ntmps56
  go_wp2_with (first|((with_reducible refine zK (N:=1) rfl ?_);refine zI ?hg (N:=1) ?hd (cs:=#[.int .i64 a0_0,.int .i64 a0_1,.string a0_2]) (t:=27) ?hr ?_;(case hd|hg => rfl);(case hr => go_simp <;> rfl);intro gb418 hg w4 hbox hb;have BK418:=zh (hbox);have hH_:=cH (by repeat (with_reducible first|exact HB.out|apply za|apply zb|apply zc)) hb hg;have GW418:=zh hH_.1;have GE418:=GW418;replace HB:=zh hH_.2;clear hb hbox hg hH_;obtain ⟨hcz5_0,hcz5_1,hcz5_2,hfz5_0,hfz5_1,hfz5_2⟩:=cB3 BK418.out)|((with_reducible refine zJ (f:=55) rfl ?_);refine yj (some 6) rfl rfl Try.func55 (by kernel_rfl) rfl #[.int .i64 a0_0,.int .i64 1] rfl (by (try simp only [zt,zu,zv]);first|done|rfl|(simp only [zw,zx];rfl)|(simp only [yr,ys,zV,zW];rfl)) ?_;(with_reducible refine (Fb.calls k  a0_0 1 t419 _ A2.out).mono ?_);rintro e w6 ⟨rfl,hb⟩;refine ⟨_,rfl,?_⟩;replace BK418:=zh (cD BK418.out (by (with_reducible repeat first|apply ze|apply zf|apply zg);exact BK418.out) hb);replace HB:=zh (zC (by repeat (with_reducible first|exact HB.out|apply za|apply zb|apply zc|refine zd ?_ GE418.out)) hb);(try clear hb);(try clear hb2);(try clear hk);(try clear hi);obtain ⟨hcz7_0,hcz7_1,hcz7_2,hfz7_0,hfz7_1,hfz7_2⟩:=cB3 BK418.out))
  go_ret
  exact ⟨by first|rfl|(simp [yt,yu] <;> rfl)|(simp [*,yt,yu] <;> rfl),by repeat (with_reducible first|exact HB.out|apply za|apply zb|apply zc|refine zd ?_ GE418.out)⟩
 rw [if_neg c3] at H;have c3b0 : (a0_0 == 0)=false:=zY.mpr c3;have c3b1 : (a0_0 != 0)=true:=zZ.mpr c3
 by_cases c8 : a0_0=1
 ·
  rw [if_pos c8] at H
  have c8b0 : (a0_0 == 1)=true:=ya.mpr c8;have c8b1 : (a0_0 != 1)=false:=zX.mpr c8;clear c8;replace H:=zT.mp H;obtain ⟨t420,A90,H⟩:=H;replace H : (if t419.size + t420.size≤9223372036854775807 then (some (t419 ++ t420)) else (none))=some r:=H;have A9:=zh A90;clear A90
  by_cases c10 : t419.size + t420.size≤9223372036854775807
  ·
   rw [if_pos c10] at H
   have c10b0:=eq_true c10;have c10b1 : decide (t419.size + t420.size≤9223372036854775807)=true:=decide_eq_true c10
   try have c10b2 : (9223372036854775807<t419.size + t420.size)=False:=eq_false (Nat.not_lt.2 c10)
   obtain rfl:=zU H
   go_enter Try.func56,Try.ntmps56
   go_wp2_with (first|((with_reducible refine zK (N:=1) rfl ?_);refine zI ?hg (N:=1) ?hd (cs:=#[.int .i64 a0_0,.int .i64 a0_1,.string a0_2]) (t:=27) ?hr ?_;(case hd|hg => rfl);(case hr => go_simp <;> rfl);intro gb418 hg w11 hbox hb;have BK418:=zh (hbox);have hH_:=cH (by repeat (with_reducible first|exact HB.out|apply za|apply zb|apply zc)) hb hg;have GW418:=zh hH_.1;have GE418:=GW418;replace HB:=zh hH_.2;clear hb hbox hg hH_;obtain ⟨hcz12_0,hcz12_1,hcz12_2,hfz12_0,hfz12_1,hfz12_2⟩:=cB3 BK418.out)|((with_reducible refine zJ (f:=55) rfl ?_);refine yj (some 6) rfl rfl Try.func55 (by kernel_rfl) rfl #[.int .i64 a0_0,.int .i64 1] rfl (by (try simp only [zt,zu,zv]);first|done|rfl|(simp only [zw,zx];rfl)|(simp only [yr,ys,zV,zW];rfl)) ?_;(with_reducible refine (Fb.calls k  a0_0 1 t419 _ A2.out).mono ?_);rintro e w13 ⟨rfl,hb⟩;refine ⟨_,rfl,?_⟩;replace BK418:=zh (cD BK418.out (by (with_reducible repeat first|apply ze|apply zf|apply zg);exact BK418.out) hb);replace HB:=zh (zC (by repeat (with_reducible first|exact HB.out|apply za|apply zb|apply zc|refine zd ?_ GE418.out)) hb);(try clear hb);(try clear hb2);(try clear hk);(try clear hi);obtain ⟨hcz14_0,hcz14_1,hcz14_2,hfz14_0,hfz14_1,hfz14_2⟩:=cB3 BK418.out)|((with_reducible refine zJ (f:=55) rfl ?_);refine yj (some 17) rfl rfl Try.func55 (by kernel_rfl) rfl #[.int .i64 a0_1,.int .i64 1] rfl (by (try simp only [zt,zu,zv]);first|done|rfl|(simp only [zw,zx];rfl)|(simp only [yr,ys,zV,zW];rfl)) ?_;(with_reducible refine (Fb.calls k  a0_1 1 t420 _ A9.out).mono ?_);rintro e w15 ⟨rfl,hb⟩;refine ⟨_,rfl,?_⟩;replace BK418:=zh (cD BK418.out (by (with_reducible repeat first|apply ze|apply zf|apply zg);exact BK418.out) hb);replace HB:=zh (zC (by repeat (with_reducible first|exact HB.out|apply za|apply zb|apply zc|refine zd ?_ GE418.out)) hb);(try clear hb);(try clear hb2);(try clear hk);(try clear hi)))
   go_ret
   exact ⟨by first|rfl|(simp [yt,yu] <;> rfl)|(simp [*,yt,yu] <;> rfl),by repeat (with_reducible first|exact HB.out|apply za|apply zb|apply zc|refine zd ?_ GE418.out)⟩
  rw [if_neg c10] at H;exact absurd H (by simp)
 rw [if_neg c8] at H;have c8b0 : (a0_0 == 1)=false:=zY.mpr c8;have c8b1 : (a0_0 != 1)=true:=zZ.mpr c8
 by_cases c16 : a0_0=2
 ·
  rw [if_pos c16] at H
  have c16b0 : (a0_0 == 2)=true:=ya.mpr c16;have c16b1 : (a0_0 != 2)=false:=zX.mpr c16;clear c16;replace H:=zT.mp H;obtain ⟨t421,A170,H⟩:=H;replace H : (if t419.size + t421.size≤9223372036854775807 then (some (t419 ++ t421)) else (none))=some r:=H;have A17:=zh A170;clear A170
  by_cases c18 : t419.size + t421.size≤9223372036854775807
  ·
   rw [if_pos c18] at H
   have c18b0:=eq_true c18;have c18b1 : decide (t419.size + t421.size≤9223372036854775807)=true:=decide_eq_true c18
   try have c18b2 : (9223372036854775807<t419.size + t421.size)=False:=eq_false (Nat.not_lt.2 c18)
   obtain rfl:=zU H
   go_enter Try.func56,Try.ntmps56
   go_wp2_with (first|((with_reducible refine zK (N:=1) rfl ?_);refine zI ?hg (N:=1) ?hd (cs:=#[.int .i64 a0_0,.int .i64 a0_1,.string a0_2]) (t:=27) ?hr ?_;(case hd|hg => rfl);(case hr => go_simp <;> rfl);intro gb418 hg w19 hbox hb;have BK418:=zh (hbox);have hH_:=cH (by repeat (with_reducible first|exact HB.out|apply za|apply zb|apply zc)) hb hg;have GW418:=zh hH_.1;have GE418:=GW418;replace HB:=zh hH_.2;clear hb hbox hg hH_;obtain ⟨hcz20_0,hcz20_1,hcz20_2,hfz20_0,hfz20_1,hfz20_2⟩:=cB3 BK418.out)|((with_reducible refine zJ (f:=55) rfl ?_);refine yj (some 6) rfl rfl Try.func55 (by kernel_rfl) rfl #[.int .i64 a0_0,.int .i64 1] rfl (by (try simp only [zt,zu,zv]);first|done|rfl|(simp only [zw,zx];rfl)|(simp only [yr,ys,zV,zW];rfl)) ?_;(with_reducible refine (Fb.calls k  a0_0 1 t419 _ A2.out).mono ?_);rintro e w21 ⟨rfl,hb⟩;refine ⟨_,rfl,?_⟩;replace BK418:=zh (cD BK418.out (by (with_reducible repeat first|apply ze|apply zf|apply zg);exact BK418.out) hb);replace HB:=zh (zC (by repeat (with_reducible first|exact HB.out|apply za|apply zb|apply zc|refine zd ?_ GE418.out)) hb);(try clear hb);(try clear hb2);(try clear hk);(try clear hi);obtain ⟨hcz22_0,hcz22_1,hcz22_2,hfz22_0,hfz22_1,hfz22_2⟩:=cB3 BK418.out)|((with_reducible refine zJ (f:=55) rfl ?_);refine yj (some 25) rfl rfl Try.func55 (by kernel_rfl) rfl #[.int .i64 (wrap64 (a0_1 + 4611686018427387904)),.int .i64 8] rfl (by (try simp only [zt,zu,zv]);first|done|rfl|(simp only [zw,zx];rfl)|(simp only [yr,ys,zV,zW];rfl)) ?_;(with_reducible refine (Fb.calls k  (wrap64 (a0_1 + 4611686018427387904)) 8 t421 _ A17.out).mono ?_);rintro e w23 ⟨rfl,hb⟩;refine ⟨_,rfl,?_⟩;replace BK418:=zh (cD BK418.out (by (with_reducible repeat first|apply ze|apply zf|apply zg);exact BK418.out) hb);replace HB:=zh (zC (by repeat (with_reducible first|exact HB.out|apply za|apply zb|apply zc|refine zd ?_ GE418.out)) hb);(try clear hb);(try clear hb2);(try clear hk);(try clear hi)))
   go_ret
   exact ⟨by first|rfl|(simp [yt,yu] <;> rfl)|(simp [*,yt,yu] <;> rfl),by repeat (with_reducible first|exact HB.out|apply za|apply zb|apply zc|refine zd ?_ GE418.out)⟩
  rw [if_neg c18] at H;exact absurd H (by simp)
 rw [if_neg c16] at H;have c16b0 : (a0_0 == 2)=false:=zY.mpr c16;have c16b1 : (a0_0 != 2)=true:=zZ.mpr c16;replace H:=zT.mp H;obtain ⟨t422,A240,H⟩:=H;replace H : (if t419.size + t422.size≤9223372036854775807 then (if (t419 ++ t422).size + a0_2.size≤9223372036854775807 then (some ((t419 ++ t422) ++ a0_2)) else (none)) else (none))=some r:=H;have A24:=zh A240;clear A240
 by_cases c25 : t419.size + t422.size≤9223372036854775807
 ·
  rw [if_pos c25] at H
  have c25b0:=eq_true c25;have c25b1 : decide (t419.size + t422.size≤9223372036854775807)=true:=decide_eq_true c25
  try have c25b2 : (9223372036854775807<t419.size + t422.size)=False:=eq_false (Nat.not_lt.2 c25)
  by_cases c26 : (t419 ++ t422).size + a0_2.size≤9223372036854775807
  ·
   rw [if_pos c26] at H
   have c26b0:=eq_true c26;have c26b1 : decide ((t419 ++ t422).size + a0_2.size≤9223372036854775807)=true:=decide_eq_true c26
   try have c26b2 : (9223372036854775807<(t419 ++ t422).size + a0_2.size)=False:=eq_false (Nat.not_lt.2 c26)
   (try have c26b4:=c26b2;simp only [ByteArray.size_append] at c26b4);obtain rfl:=zU H
   go_enter Try.func56,Try.ntmps56
   try go_wp2_with (first|((with_reducible refine zK (N:=1) rfl ?_);refine zI ?hg (N:=1) ?hd (cs:=#[.int .i64 a0_0,.int .i64 a0_1,.string a0_2]) (t:=27) ?hr ?_;(case hd|hg => rfl);(case hr => go_simp <;> rfl);intro gb418 hg w27 hbox hb;have BK418:=zh (hbox);have hH_:=cH (by repeat (with_reducible first|exact HB.out|apply za|apply zb|apply zc)) hb hg;have GW418:=zh hH_.1;have GE418:=GW418;replace HB:=zh hH_.2;clear hb hbox hg hH_;obtain ⟨hcz28_0,hcz28_1,hcz28_2,hfz28_0,hfz28_1,hfz28_2⟩:=cB3 BK418.out)|((with_reducible refine zJ (f:=55) rfl ?_);refine yj (some 6) rfl rfl Try.func55 (by kernel_rfl) rfl #[.int .i64 a0_0,.int .i64 1] rfl (by (try simp only [zt,zu,zv]);first|done|rfl|(simp only [zw,zx];rfl)|(simp only [yr,ys,zV,zW];rfl)) ?_;(with_reducible refine (Fb.calls k  a0_0 1 t419 _ A2.out).mono ?_);rintro e w29 ⟨rfl,hb⟩;refine ⟨_,rfl,?_⟩;replace BK418:=zh (cD BK418.out (by (with_reducible repeat first|apply ze|apply zf|apply zg);exact BK418.out) hb);replace HB:=zh (zC (by repeat (with_reducible first|exact HB.out|apply za|apply zb|apply zc|refine zd ?_ GE418.out)) hb);(try clear hb);(try clear hb2);(try clear hk);(try clear hi);obtain ⟨hcz30_0,hcz30_1,hcz30_2,hfz30_0,hfz30_1,hfz30_2⟩:=cB3 BK418.out))
   replace BK418:=zh (zf BK418.out);replace HB:=zh (zc HB.out);refine start_ (n:=10) (S:=fun w' => w'.cell? ⟨gb418,0,none⟩=some (.int .i64 a0_0)∧w'.cell? ⟨gb418,1,none⟩=some (.int .i64 a0_1)∧w'.cell? ⟨gb418,2,none⟩=some (.string a0_2)) (ds:=[]) (bm_ 0 10) (by kernel_rfl) rfl rfl ⟨(zz BK418.out 0).trans rfl,(zz BK418.out 1).trans rfl,(zz BK418.out 2).trans rfl⟩ (fun hHeld => ?_);refine with_tabW Fz.tab9 Fz.bits9 (fun HT_ HW_ => ?_);generalize w29.drew=w31 at BK418 HB hHeld ⊢;refine pure_ (i:=0) (N:=some 27) (v:=?_) (a':=?_) (bm_ 1 10) rfl rfl (any_of HT_.out (by kernel_rfl)) (fun _ _ _ h => h) (Or.inl ⟨by rfl,?_⟩) ?_ ?_;rotate_left
   ·
    intro w'
    go_simp
    with_reducible rfl
   rotate_left
   ·
    simp only [Act.put,zi,zj,zk,zG,zH]
    rfl
   refine pure_ (i:=1) (N:=some 28) (v:=?_) (a':=?_) (bm_ 2 10) rfl rfl (any_of HT_.out (by kernel_rfl)) (fun _ _ _ h => h) (Or.inl ⟨by rfl,?_⟩) ?_ ?_;rotate_left
   ·
    intro w'
    go_simp
    with_reducible rfl
   rotate_left
   ·
    simp only [Act.put,zi,zj,zk,zG,zH]
    rfl
   refine pure_ (i:=6) (N:=some 33) (v:=?_) (a':=?_) #[true,true,false,false,false,false,true,false,false,false] rfl rfl (any_of HT_.out (by kernel_rfl)) (fun _ _ _ h => h) (Or.inl ⟨by rfl,?_⟩) ?_ ?_;rotate_left
   ·
    intro w'
    go_simp
    with_reducible rfl
   rotate_left
   ·
    simp only [Act.put,zi,zj,zk,zG,zH]
    rfl
   refine take_ (i:=2) (N:=some 29) (v:=?_) (a':=?_) #[true,true,true,false,false,false,true,false,false,false] rfl rfl (yo HT_.out HW_.out (by kernel_rfl)) (fun _ _ _ h => h) (Or.inl ⟨by rfl,?_⟩) hHeld ?_ ?_;rotate_left
   ·
    rintro w' ⟨s0,s1,s2⟩
    go_simp
    with_reducible rfl
   rotate_left
   ·
    simp only [Act.put,zi,zj,zk,zG,zH]
    rfl
   refine pure_ (i:=3) (N:=some 30) (v:=?_) (a':=?_) #[true,true,true,true,false,false,true,false,false,false] rfl rfl (any_of HT_.out (by kernel_rfl)) (fun _ _ _ h => h) (Or.inl ⟨by rfl,?_⟩) ?_ ?_;rotate_left
   ·
    intro w'
    go_simp
    with_reducible rfl
   rotate_left
   ·
    simp only [Act.put,zi,zj,zk,zG,zH]
    rfl
   refine take_ (i:=7) (N:=some 34) (v:=?_) (a':=?_) #[true,true,true,true,false,false,true,true,false,false] rfl rfl (yo HT_.out HW_.out (by kernel_rfl)) (fun _ _ _ h => h) (Or.inl ⟨by rfl,?_⟩) hHeld ?_ ?_;rotate_left
   ·
    rintro w' ⟨s0,s1,s2⟩
    go_simp
    with_reducible rfl
   rotate_left
   ·
    simp only [Act.put,zi,zj,zk,zG,zH]
    rfl
   refine one_ (i:=4) (N:=some 31) #[true,true,true,true,true,false,true,true,false,false] rfl rfl (one_of HT_.out (by kernel_rfl)) (by decide) (fun K hK => ?_);refine goes_ Try.func55 (by kernel_rfl) rfl #[.int .i64 (a0_2.size : Int),.int .i64 2] (by rfl) rfl rfl (by (try simp only [zt,zu,zv]);first|done|rfl|(simp only [zw,zx];rfl)|(simp only [yr,ys,zV,zW];rfl)) ?_
   with_reducible refine (Fb.calls k  (a0_2.size : Int) 2 t422 _ A24.out).mono ?_
   rintro e w32 ⟨rfl,hb⟩;refine ⟨_,rfl,?_⟩;replace BK418:=zh (cD BK418.out (by (with_reducible repeat first|apply ze|apply zf|apply zg);exact BK418.out) hb);replace HB:=zh (zC (by repeat (with_reducible first|exact HB.out|apply za|apply zb|apply zc|refine zd ?_ GE418.out)) hb);(try clear hb);(try clear hb2);(try clear hk);(try clear hi);refine hK.out _ _ ⟨(zz BK418.out 0).trans rfl,(zz BK418.out 1).trans rfl,(zz BK418.out 2).trans rfl⟩ (fun hHeld => ?_);clear hK K;refine norm_ (a':=?_) ?_ ?_;rotate_left
   ·
    show Act.put _ (some 31) _=_
    simp only [Act.put,zi,zj,zk,zG,zH]
    rfl
   refine pure_ (i:=5) (N:=some 32) (v:=?_) (a':=?_) (bm_ 8 10) rfl rfl (any_of HT_.out (by kernel_rfl)) (fun _ _ _ h => h) (Or.inl ⟨by rfl,?_⟩) ?_ ?_;rotate_left
   ·
    intro w'
    go_simp
    with_reducible rfl
   rotate_left
   ·
    simp only [Act.put,zi,zj,zk,zG,zH]
    rfl
   refine pure_ (i:=8) (N:=some 35) (v:=?_) (a':=?_) (bm_ 9 10) rfl rfl (any_of HT_.out (by kernel_rfl)) (fun _ _ _ h => h) (Or.inl ⟨by rfl,?_⟩) ?_ ?_;rotate_left
   ·
    intro w'
    go_simp
    with_reducible rfl
   rotate_left
   ·
    simp only [Act.put,zi,zj,zk,zG,zH]
    rfl
   refine pure_ (i:=9) (N:=some 2) (v:=?_) (a':=?_) (bm_ 10 10) rfl rfl (any_of HT_.out (by kernel_rfl)) (fun _ _ _ h => h) (Or.inl ⟨by rfl,?_⟩) ?_ ?_;rotate_left
   ·
    intro w'
    go_simp
    with_reducible rfl
   rotate_left
   ·
    simp only [Act.put,zi,zj,zk,zG,zH]
    rfl
   refine done_ (done_of HT_.out (by kernel_rfl)) ?_
   try go_wp2
   go_ret
   exact ⟨by first|rfl|(simp [yt,yu] <;> rfl)|(simp [*,yt,yu] <;> rfl),by repeat (with_reducible first|exact HB.out|apply za|apply zb|apply zc|refine zd ?_ GE418.out)⟩
  rw [if_neg c26] at H;exact absurd H (by simp)
 rw [if_neg c25] at H;exact absurd H (by simp)


def Fg.l0 : Nat→List (S54)→ByteArray→Int→Option (Int×Int×ByteArray)
 | 0,_,_,_ => none
 | k + 1,x0,x3,x4 => if x4<(x0.length : Int) then (if 0≤x4 then ((Fb.f k (((rd_T54 x0 x4).f0).size : Int) 1).bind fun t425 => (if t425.size + ((rd_T54 x0 x4).f0).size≤9223372036854775807 then ((Fz.f k ((rd_T54 x0 x4).f1.f0) ((rd_T54 x0 x4).f1.f1) ((rd_T54 x0 x4).f1.f2)).bind fun t428 => (if (t425 ++ ((rd_T54 x0 x4).f0)).size + t428.size≤9223372036854775807 then (if x3.size + ((t425 ++ ((rd_T54 x0 x4).f0)) ++ t428).size≤9223372036854775807 then (Fg.l0 k x0 (x3 ++ ((t425 ++ ((rd_T54 x0 x4).f0)) ++ t428)) (wrap64 (x4 + 1))) else (none)) else (none))) else (none))) else (none)) else (some (5,0,x3))
def Fg.f (k : Nat) (l0 : List (S54)) : Option (Int×Int×ByteArray):=Fg.l0 k l0 (⟨#[]⟩ : ByteArray) 0
theorem Fg.mono_l : ∀ k,(∀ y0 y1 y2,LeO (Fg.l0 k y0 y1 y2) (Fg.l0 (k + 1) y0 y1 y2))
 | 0 => fun _ _ _ r h => by simp [Fg.l0] at h
 | k + 1 => by
  have ih0:=Fg.mono_l k;intro y0 y1 y2;unfold Fg.l0
  repeat' first|(with_reducible first|exact ih0 _ _ _|exact Fb.mono _ _ _|exact Fz.mono _ _ _ _|exact zQ _|exact zN _|refine zP ?_ ?_|refine zO ?_ (fun _ => ?_))|refine zP ?_ ?_|refine zO ?_ (fun _ => ?_)
theorem Fg.mono : ∀ a0 k,LeO (Fg.f k a0) (Fg.f (k + 1) a0):=by
 intro a0 k;have ih0:=Fg.mono_l k;unfold Fg.f
 repeat' first|(with_reducible first|exact ih0 _ _ _|exact Fb.mono _ _ _|exact Fz.mono _ _ _ _|exact zQ _|exact zN _|refine zP ?_ ?_|refine zO ?_ (fun _ => ?_))|refine zP ?_ ?_|refine zO ?_ (fun _ => ?_)
def Fg.T5 : Bool×List (List Nat×List Nat):=(true,[([],[]),([],[]),([],[]),([1,2],[1,2]),([3],[3]),([4],[4]),([5],[5]),([6],[6]),([],[]),([],[]),([8,9],[8,9]),([10],[10]),([11],[11]),([7,12],[7,12]),([],[]),([],[]),([14,15],[14,15]),([16],[16]),([17],[17]),([18,7],[18]),([13,19],[13,19]),([0,20],[0,20]),([21,19,0,1,2,3,4,5,6,7,8,9,10,11,12,13,14,15,16,17,18,19,20,21],[0,21])])
def Fg.B5 : List Nat:=[0,0,0,6,14,30,62,126,0,0,768,1792,3840,8190,0,0,49152,114688,245760,508158,1048574,2097151,4194303]
theorem Fg.tab5 : rtab .any (opsOf Try.f33 5)=Fg.T5:=by kernel_rfl
theorem Fg.bits5 : waitsOk Fg.T5.2 Fg.B5=true:=by kernel_rfl
set_option maxHeartbeats 8000000 in
set_option maxRecDepth 100000 in
theorem Fg.calls (k : Nat) (A0 : Option Addr) (c0 : Nat) (l0 : List (S54)) (r1 : Int) (r2 : Int) (r3 : ByteArray) (w : World) (hr0 : Kd.C k54 w A0 l0.length l0) (hc0 : l0.length≤c0) (h : Fg.f k l0=some (r1,r2,r3)) :
  Calls Try.prog 33 #[.slice A0 l0.length c0] w fun e w' => e = .returned (.agg #[.int .i64 r1,.int .i64 r2,.string r3])∧Below w.heap.size w w':=by
 have hu27:=Try.underlying27;have HR0:=zh hr0;have HC0:=zh hc0;clear hr0 hc0;have HB:=zh (Below.refl w.heap.size w);have H : (Fg.l0 k l0 (⟨#[]⟩ : ByteArray) 0)=some (r1,r2,r3):=h;clear h;have H':=zh H;clear H
 go_enter Try.func33,Try.ntmps33
 go_wp2_with (first|((with_reducible refine zK (N:=2) rfl ?_);refine zI ?hg (N:=2) ?hd (cs:=#[.int .i64 0,.int .i64 0,.string (⟨#[]⟩ : ByteArray)]) (t:=27) ?hr ?_;(case hd|hg => rfl);(case hr => go_simp <;> rfl);intro gb423 hg w2 hbox hb;have BK423:=zh (hbox);have hH_:=cH (by repeat (with_reducible first|exact HB.out|apply za|apply zb|apply zc)) hb hg;have GW423:=zh hH_.1;have GE423:=GW423;replace HB:=zh hH_.2;clear hb hbox hg hH_))
 go_loopg [3,4] k (fun kq v3 v4 w' => ∃ (x3_1 : ByteArray) (x4_1 : Int),v3 = .string x3_1∧v4 = .int .i64 x4_1∧Aside0 (Fg.l0 kq l0 x3_1 x4_1=some (r1,r2,r3))∧Aside0 (kq≤k)∧Aside0 (w'.heap[gb423]? = some (.cells #[.int .i64 0,.int .i64 0,.string (⟨#[]⟩ : ByteArray)] 27 (0,0)))∧Aside0 (Below w.heap.size w w'))
 case atStart => exact ⟨((⟨#[]⟩ : ByteArray)),(0),(by first|rfl|(simp;done)|(simp [*];done)),(by first|rfl|(simp;done)|(simp [*];done)),H',⟨ye _⟩,⟨by (with_reducible repeat first|apply ze|apply zf|apply zg);exact BK423.out⟩,⟨by repeat (with_reducible first|exact HB.out|apply za|apply zb|apply zc|refine zd ?_ GE423.out)⟩⟩
 case round =>
  clear H'
  try clear p2
  obtain ⟨x3_1,x4_1,rfl,rfl,HA,HK1,BK423,HB⟩:=hrel
  cases gk with
  | zero => exact absurd HA.out (by simp [Fg.l0])
  | succ k1 =>
   have H:=HA.out;clear HA;simp only [Fg.l0] at H
   by_cases c3 : x4_1<(l0.length : Int)
   ·
    rw [if_pos c3] at H
    have c3b0 : decide (x4_1<(l0.length : Int))=true:=decide_eq_true c3;clear c3
    by_cases c4 : 0≤x4_1
    ·
     rw [if_pos c4] at H
     have c4b0 : decide (0≤x4_1)=true:=decide_eq_true c4;clear c4;replace H:=zT.mp H;obtain ⟨t425,A50,H⟩:=H;replace H : (if t425.size + ((rd_T54 l0 x4_1).f0).size≤9223372036854775807 then ((Fz.f k1 ((rd_T54 l0 x4_1).f1.f0) ((rd_T54 l0 x4_1).f1.f1) ((rd_T54 l0 x4_1).f1.f2)).bind fun t428 => (if (t425 ++ ((rd_T54 l0 x4_1).f0)).size + t428.size≤9223372036854775807 then (if x3_1.size + ((t425 ++ ((rd_T54 l0 x4_1).f0)) ++ t428).size≤9223372036854775807 then (Fg.l0 k1 l0 (x3_1 ++ ((t425 ++ ((rd_T54 l0 x4_1).f0)) ++ t428)) (wrap64 (x4_1 + 1))) else (none)) else (none))) else (none))=some (r1,r2,r3):=H;have A5:=zh A50;clear A50
     by_cases c6 : t425.size + ((rd_T54 l0 x4_1).f0).size≤9223372036854775807
     ·
      rw [if_pos c6] at H
      have c6b0:=eq_true c6;have c6b1 : decide (t425.size + ((rd_T54 l0 x4_1).f0).size≤9223372036854775807)=true:=decide_eq_true c6
      try have c6b2 : (9223372036854775807<t425.size + ((rd_T54 l0 x4_1).f0).size)=False:=eq_false (Nat.not_lt.2 c6)
      replace H:=zT.mp H;obtain ⟨t428,A70,H⟩:=H;replace H : (if (t425 ++ ((rd_T54 l0 x4_1).f0)).size + t428.size≤9223372036854775807 then (if x3_1.size + ((t425 ++ ((rd_T54 l0 x4_1).f0)) ++ t428).size≤9223372036854775807 then (Fg.l0 k1 l0 (x3_1 ++ ((t425 ++ ((rd_T54 l0 x4_1).f0)) ++ t428)) (wrap64 (x4_1 + 1))) else (none)) else (none))=some (r1,r2,r3):=H;have A7:=zh A70;clear A70
      by_cases c8 : (t425 ++ ((rd_T54 l0 x4_1).f0)).size + t428.size≤9223372036854775807
      ·
       rw [if_pos c8] at H
       have c8b0:=eq_true c8;have c8b1 : decide ((t425 ++ ((rd_T54 l0 x4_1).f0)).size + t428.size≤9223372036854775807)=true:=decide_eq_true c8
       try have c8b2 : (9223372036854775807<(t425 ++ ((rd_T54 l0 x4_1).f0)).size + t428.size)=False:=eq_false (Nat.not_lt.2 c8)
       (try have c8b4:=c8b2;simp only [ByteArray.size_append] at c8b4)
       by_cases c9 : x3_1.size + ((t425 ++ ((rd_T54 l0 x4_1).f0)) ++ t428).size≤9223372036854775807
       ·
        rw [if_pos c9] at H
        have c9b0:=eq_true c9;have c9b1 : decide (x3_1.size + ((t425 ++ ((rd_T54 l0 x4_1).f0)) ++ t428).size≤9223372036854775807)=true:=decide_eq_true c9
        try have c9b2 : (9223372036854775807<x3_1.size + ((t425 ++ ((rd_T54 l0 x4_1).f0)) ++ t428).size)=False:=eq_false (Nat.not_lt.2 c9)
        (try have c9b4:=c9b2;simp only [ByteArray.size_append] at c9b4);have H':=zh H;clear H
        try go_wp2
        replace BK423:=zh (zf BK423.out);replace HB:=zh (zc HB.out);have p424 : 0≤(x4_1 : Int):=zy (by first|(with_reducible assumption)|assumption);have q424 : x4_1<(l0.length : Int):=zy (by first|(with_reducible assumption)|assumption);obtain ⟨ad424,e424,hx424_0,hx424_1,hx424_2,hx424_3⟩:=at_T54 HR0.out x4_1 p424 q424;have hw424_3:=hx424_3;have hw424_2:=hx424_2;have hw424_1:=hx424_1;have hw424_0:=hx424_0
        cases e424
        replace hx424_0:=(HB.out.cell (zl w _ hx424_0)).trans hx424_0;replace hx424_1:=(HB.out.cell (zl w _ hx424_1)).trans hx424_1;replace hx424_2:=(HB.out.cell (zl w _ hx424_2)).trans hx424_2;replace hx424_3:=(HB.out.cell (zl w _ hx424_3)).trans hx424_3;replace p424:=eq_true p424;replace q424:=eq_true q424;have p426 : 0≤(x4_1 : Int):=zy (by first|(with_reducible assumption)|assumption);have q426 : x4_1<(l0.length : Int):=zy (by first|(with_reducible assumption)|assumption);obtain ⟨ad426,e426,hx426_0,hx426_1,hx426_2,hx426_3⟩:=at_T54 HR0.out x4_1 p426 q426;have hw426_3:=hx426_3;have hw426_2:=hx426_2;have hw426_1:=hx426_1;have hw426_0:=hx426_0;obtain rfl : ad424=ad426:=(by injection e426);replace hx426_0:=(HB.out.cell (zl w _ hx426_0)).trans hx426_0;replace hx426_1:=(HB.out.cell (zl w _ hx426_1)).trans hx426_1;replace hx426_2:=(HB.out.cell (zl w _ hx426_2)).trans hx426_2;replace hx426_3:=(HB.out.cell (zl w _ hx426_3)).trans hx426_3;replace p426:=eq_true p426;replace q426:=eq_true q426;have p427 : 0≤(x4_1 : Int):=zy (by first|(with_reducible assumption)|assumption);have q427 : x4_1<(l0.length : Int):=zy (by first|(with_reducible assumption)|assumption);obtain ⟨ad427,e427,hx427_0,hx427_1,hx427_2,hx427_3⟩:=at_T54 HR0.out x4_1 p427 q427;have hw427_3:=hx427_3;have hw427_2:=hx427_2;have hw427_1:=hx427_1;have hw427_0:=hx427_0;obtain rfl : ad424=ad427:=(by injection e427);replace hx427_0:=(HB.out.cell (zl w _ hx427_0)).trans hx427_0;replace hx427_1:=(HB.out.cell (zl w _ hx427_1)).trans hx427_1;replace hx427_2:=(HB.out.cell (zl w _ hx427_2)).trans hx427_2;replace hx427_3:=(HB.out.cell (zl w _ hx427_3)).trans hx427_3;replace p427:=eq_true p427;replace q427:=eq_true q427;refine start_ (n:=23) (S:=fun w' => w'.cell? (ad424.add ((x4_1).toNat * 4))=some (.string ((rd_T54 l0 x4_1).f0))∧w'.cell? ⟨(ad424.add ((x4_1).toNat * 4)).block,(ad424.add ((x4_1).toNat * 4)).off + 1,none⟩=some (.int .i64 ((rd_T54 l0 x4_1).f1.f0))∧w'.cell? ⟨(ad424.add ((x4_1).toNat * 4)).block,(ad424.add ((x4_1).toNat * 4)).off + 2,none⟩=some (.int .i64 ((rd_T54 l0 x4_1).f1.f1))∧w'.cell? ⟨(ad424.add ((x4_1).toNat * 4)).block,(ad424.add ((x4_1).toNat * 4)).off + 3,none⟩=some (.string ((rd_T54 l0 x4_1).f1.f2))∧w'.cell? (ad424.add ((x4_1).toNat * 4))=some (.string ((rd_T54 l0 x4_1).f0))∧w'.cell? ⟨(ad424.add ((x4_1).toNat * 4)).block,(ad424.add ((x4_1).toNat * 4)).off + 1,none⟩=some (.int .i64 ((rd_T54 l0 x4_1).f1.f0))∧w'.cell? ⟨(ad424.add ((x4_1).toNat * 4)).block,(ad424.add ((x4_1).toNat * 4)).off + 2,none⟩=some (.int .i64 ((rd_T54 l0 x4_1).f1.f1))∧w'.cell? ⟨(ad424.add ((x4_1).toNat * 4)).block,(ad424.add ((x4_1).toNat * 4)).off + 3,none⟩=some (.string ((rd_T54 l0 x4_1).f1.f2))∧w'.cell? (ad424.add ((x4_1).toNat * 4))=some (.string ((rd_T54 l0 x4_1).f0))∧w'.cell? ⟨(ad424.add ((x4_1).toNat * 4)).block,(ad424.add ((x4_1).toNat * 4)).off + 1,none⟩=some (.int .i64 ((rd_T54 l0 x4_1).f1.f0))∧w'.cell? ⟨(ad424.add ((x4_1).toNat * 4)).block,(ad424.add ((x4_1).toNat * 4)).off + 2,none⟩=some (.int .i64 ((rd_T54 l0 x4_1).f1.f1))∧w'.cell? ⟨(ad424.add ((x4_1).toNat * 4)).block,(ad424.add ((x4_1).toNat * 4)).off + 3,none⟩=some (.string ((rd_T54 l0 x4_1).f1.f2))) (ds:=[]) (bm_ 0 23) (by kernel_rfl) rfl rfl ⟨((HB.out.cell (zl w _ hw424_0)).trans hw424_0),((HB.out.cell (zl w _ hw424_1)).trans hw424_1),((HB.out.cell (zl w _ hw424_2)).trans hw424_2),((HB.out.cell (zl w _ hw424_3)).trans hw424_3),((HB.out.cell (zl w _ hw426_0)).trans hw426_0),((HB.out.cell (zl w _ hw426_1)).trans hw426_1),((HB.out.cell (zl w _ hw426_2)).trans hw426_2),((HB.out.cell (zl w _ hw426_3)).trans hw426_3),((HB.out.cell (zl w _ hw427_0)).trans hw427_0),((HB.out.cell (zl w _ hw427_1)).trans hw427_1),((HB.out.cell (zl w _ hw427_2)).trans hw427_2),((HB.out.cell (zl w _ hw427_3)).trans hw427_3)⟩ (fun hHeld => ?_);refine with_tabW Fg.tab5 Fg.bits5 (fun HT_ HW_ => ?_);generalize wr.drew=w10 at BK423 HB hx424_0 hx424_1 hx424_2 hx424_3 hx426_0 hx426_1 hx426_2 hx426_3 hx427_0 hx427_1 hx427_2 hx427_3 hHeld ⊢;refine pure_ (i:=0) (N:=some 11) (v:=?_) (a':=?_) (bm_ 1 23) rfl rfl (any_of HT_.out (by kernel_rfl)) (fun _ _ _ h => h) (Or.inl ⟨by rfl,?_⟩) ?_ ?_;rotate_left
        ·
         intro w'
         go_simp
         with_reducible rfl
        rotate_left
        ·
         simp only [Act.put,zi,zj,zk,zG,zH]
         rfl
        refine pure_ (i:=1) (N:=some 12) (v:=?_) (a':=?_) (bm_ 2 23) rfl rfl (any_of HT_.out (by kernel_rfl)) (fun _ _ _ h => h) (Or.inl ⟨by rfl,?_⟩) ?_ ?_;rotate_left
        ·
         intro w'
         go_simp
         with_reducible rfl
        rotate_left
        ·
         simp only [Act.put,zi,zj,zk,zG,zH]
         rfl
        refine pure_ (i:=2) (N:=some 13) (v:=?_) (a':=?_) (bm_ 3 23) rfl rfl (any_of HT_.out (by kernel_rfl)) (fun _ _ _ h => h) (Or.inl ⟨by rfl,?_⟩) ?_ ?_;rotate_left
        ·
         intro w'
         go_simp
         with_reducible rfl
        rotate_left
        ·
         simp only [Act.put,zi,zj,zk,zG,zH]
         rfl
        refine pure_ (i:=3) (N:=some 14) (v:=?_) (a':=?_) (bm_ 4 23) rfl rfl (any_of HT_.out (by kernel_rfl)) (fun _ _ _ h => h) (Or.inl ⟨by rfl,?_⟩) ?_ ?_;rotate_left
        ·
         intro w'
         go_simp
         with_reducible rfl
        rotate_left
        ·
         simp only [Act.put,zi,zj,zk,zG,zH]
         rfl
        refine pure_ (i:=4) (N:=some 15) (v:=?_) (a':=?_) (bm_ 5 23) rfl rfl (any_of HT_.out (by kernel_rfl)) (fun _ _ _ h => h) (Or.inl ⟨by rfl,?_⟩) ?_ ?_;rotate_left
        ·
         intro w'
         go_simp
         with_reducible rfl
        rotate_left
        ·
         simp only [Act.put,zi,zj,zk,zG,zH]
         rfl
        refine pure_ (i:=8) (N:=some 19) (v:=?_) (a':=?_) #[true,true,true,true,true,false,false,false,true,false,false,false,false,false,false,false,false,false,false,false,false,false,false] rfl rfl (any_of HT_.out (by kernel_rfl)) (fun _ _ _ h => h) (Or.inl ⟨by rfl,?_⟩) ?_ ?_;rotate_left
        ·
         intro w'
         go_simp
         with_reducible rfl
        rotate_left
        ·
         simp only [Act.put,zi,zj,zk,zG,zH]
         rfl
        refine pure_ (i:=9) (N:=some 20) (v:=?_) (a':=?_) #[true,true,true,true,true,false,false,false,true,true,false,false,false,false,false,false,false,false,false,false,false,false,false] rfl rfl (any_of HT_.out (by kernel_rfl)) (fun _ _ _ h => h) (Or.inl ⟨by rfl,?_⟩) ?_ ?_;rotate_left
        ·
         intro w'
         go_simp
         with_reducible rfl
        rotate_left
        ·
         simp only [Act.put,zi,zj,zk,zG,zH]
         rfl
        refine pure_ (i:=10) (N:=some 21) (v:=?_) (a':=?_) #[true,true,true,true,true,false,false,false,true,true,true,false,false,false,false,false,false,false,false,false,false,false,false] rfl rfl (any_of HT_.out (by kernel_rfl)) (fun _ _ _ h => h) (Or.inl ⟨by rfl,?_⟩) ?_ ?_;rotate_left
        ·
         intro w'
         go_simp
         with_reducible rfl
        rotate_left
        ·
         simp only [Act.put,zi,zj,zk,zG,zH]
         rfl
        refine pure_ (i:=11) (N:=some 22) (v:=?_) (a':=?_) #[true,true,true,true,true,false,false,false,true,true,true,true,false,false,false,false,false,false,false,false,false,false,false] rfl rfl (any_of HT_.out (by kernel_rfl)) (fun _ _ _ h => h) (Or.inl ⟨by rfl,?_⟩) ?_ ?_;rotate_left
        ·
         intro w'
         go_simp
         with_reducible rfl
        rotate_left
        ·
         simp only [Act.put,zi,zj,zk,zG,zH]
         rfl
        refine pure_ (i:=14) (N:=some 25) (v:=?_) (a':=?_) #[true,true,true,true,true,false,false,false,true,true,true,true,false,false,true,false,false,false,false,false,false,false,false] rfl rfl (any_of HT_.out (by kernel_rfl)) (fun _ _ _ h => h) (Or.inl ⟨by rfl,?_⟩) ?_ ?_;rotate_left
        ·
         intro w'
         go_simp
         with_reducible rfl
        rotate_left
        ·
         simp only [Act.put,zi,zj,zk,zG,zH]
         rfl
        refine pure_ (i:=15) (N:=some 26) (v:=?_) (a':=?_) #[true,true,true,true,true,false,false,false,true,true,true,true,false,false,true,true,false,false,false,false,false,false,false] rfl rfl (any_of HT_.out (by kernel_rfl)) (fun _ _ _ h => h) (Or.inl ⟨by rfl,?_⟩) ?_ ?_;rotate_left
        ·
         intro w'
         go_simp
         with_reducible rfl
        rotate_left
        ·
         simp only [Act.put,zi,zj,zk,zG,zH]
         rfl
        refine pure_ (i:=16) (N:=some 27) (v:=?_) (a':=?_) #[true,true,true,true,true,false,false,false,true,true,true,true,false,false,true,true,true,false,false,false,false,false,false] rfl rfl (any_of HT_.out (by kernel_rfl)) (fun _ _ _ h => h) (Or.inl ⟨by rfl,?_⟩) ?_ ?_;rotate_left
        ·
         intro w'
         go_simp
         with_reducible rfl
        rotate_left
        ·
         simp only [Act.put,zi,zj,zk,zG,zH]
         rfl
        refine pure_ (i:=17) (N:=some 28) (v:=?_) (a':=?_) #[true,true,true,true,true,false,false,false,true,true,true,true,false,false,true,true,true,true,false,false,false,false,false] rfl rfl (any_of HT_.out (by kernel_rfl)) (fun _ _ _ h => h) (Or.inl ⟨by rfl,?_⟩) ?_ ?_;rotate_left
        ·
         intro w'
         go_simp
         with_reducible rfl
        rotate_left
        ·
         simp only [Act.put,zi,zj,zk,zG,zH]
         rfl
        refine take_ (i:=5) (N:=some 16) (v:=?_) (a':=?_) #[true,true,true,true,true,true,false,false,true,true,true,true,false,false,true,true,true,true,false,false,false,false,false] rfl rfl (yo HT_.out HW_.out (by kernel_rfl)) (fun _ _ _ h => h) (Or.inl ⟨by rfl,?_⟩) hHeld ?_ ?_;rotate_left
        ·
         rintro w' ⟨s0,s1,s2,s3,s4,s5,s6,s7,s8,s9,s10,s11⟩
         go_simp
         with_reducible rfl
        rotate_left
        ·
         simp only [Act.put,zi,zj,zk,zG,zH]
         rfl
        refine pure_ (i:=6) (N:=some 17) (v:=?_) (a':=?_) #[true,true,true,true,true,true,true,false,true,true,true,true,false,false,true,true,true,true,false,false,false,false,false] rfl rfl (any_of HT_.out (by kernel_rfl)) (fun _ _ _ h => h) (Or.inl ⟨by rfl,?_⟩) ?_ ?_;rotate_left
        ·
         intro w'
         go_simp
         with_reducible rfl
        rotate_left
        ·
         simp only [Act.put,zi,zj,zk,zG,zH]
         rfl
        refine take_ (i:=12) (N:=some 23) (v:=?_) (a':=?_) #[true,true,true,true,true,true,true,false,true,true,true,true,true,false,true,true,true,true,false,false,false,false,false] rfl rfl (yo HT_.out HW_.out (by kernel_rfl)) (fun _ _ _ h => h) (Or.inl ⟨by rfl,?_⟩) hHeld ?_ ?_;rotate_left
        ·
         rintro w' ⟨s0,s1,s2,s3,s4,s5,s6,s7,s8,s9,s10,s11⟩
         go_simp
         with_reducible rfl
        rotate_left
        ·
         simp only [Act.put,zi,zj,zk,zG,zH]
         rfl
        refine take_ (i:=18) (N:=some 29) (v:=?_) (a':=?_) #[true,true,true,true,true,true,true,false,true,true,true,true,true,false,true,true,true,true,true,false,false,false,false] rfl rfl (yo HT_.out HW_.out (by kernel_rfl)) (fun _ _ _ h => h) (Or.inl ⟨by rfl,?_⟩) hHeld ?_ ?_;rotate_left
        ·
         rintro w' ⟨s0,s1,s2,s3,s4,s5,s6,s7,s8,s9,s10,s11⟩
         go_simp
         with_reducible rfl
        rotate_left
        ·
         simp only [Act.put,zi,zj,zk,zG,zH]
         rfl
        refine one_ (i:=7) (N:=some 18) #[true,true,true,true,true,true,true,true,true,true,true,true,true,false,true,true,true,true,true,false,false,false,false] rfl rfl (one_of HT_.out (by kernel_rfl)) (by decide) (fun K hK => ?_);refine goes_ Try.func55 (by kernel_rfl) rfl #[.int .i64 (((rd_T54 l0 x4_1).f0).size : Int),.int .i64 1] (by rfl) rfl rfl (by (try simp only [zt,zu,zv]);first|done|rfl|(simp only [zw,zx];rfl)|(simp only [yr,ys,zV,zW];rfl)) ?_
        with_reducible refine (Fb.calls k1  (((rd_T54 l0 x4_1).f0).size : Int) 1 t425 _ A5.out).mono ?_
        rintro e w11 ⟨rfl,hb⟩;refine ⟨_,rfl,?_⟩;replace BK423:=zh (cD BK423.out (by (with_reducible repeat first|apply ze|apply zf|apply zg);exact BK423.out) hb);replace HB:=zh (zC (by repeat (with_reducible first|exact HB.out|apply za|apply zb|apply zc|refine zd ?_ GE423.out)) hb);(try clear hb);(try clear hb2);(try clear hk);(try clear hi);refine hK.out _ _ ⟨((HB.out.cell (zl w _ hw424_0)).trans hw424_0),((HB.out.cell (zl w _ hw424_1)).trans hw424_1),((HB.out.cell (zl w _ hw424_2)).trans hw424_2),((HB.out.cell (zl w _ hw424_3)).trans hw424_3),((HB.out.cell (zl w _ hw426_0)).trans hw426_0),((HB.out.cell (zl w _ hw426_1)).trans hw426_1),((HB.out.cell (zl w _ hw426_2)).trans hw426_2),((HB.out.cell (zl w _ hw426_3)).trans hw426_3),((HB.out.cell (zl w _ hw427_0)).trans hw427_0),((HB.out.cell (zl w _ hw427_1)).trans hw427_1),((HB.out.cell (zl w _ hw427_2)).trans hw427_2),((HB.out.cell (zl w _ hw427_3)).trans hw427_3)⟩ (fun hHeld => ?_);clear hK K;refine norm_ (a':=?_) ?_ ?_;rotate_left
        ·
         show Act.put _ (some 18) _=_
         simp only [Act.put,zi,zj,zk,zG,zH]
         rfl
        refine pure_ (i:=13) (N:=some 24) (v:=?_) (a':=?_) (bm_ 19 23) rfl rfl (any_of HT_.out (by kernel_rfl)) (fun _ _ _ h => h) (Or.inl ⟨by rfl,?_⟩) ?_ ?_;rotate_left
        ·
         intro w'
         go_simp
         with_reducible rfl
        rotate_left
        ·
         simp only [Act.put,zi,zj,zk,zG,zH]
         rfl
        refine one_ (i:=19) (N:=some 30) (bm_ 20 23) rfl rfl (one_of HT_.out (by kernel_rfl)) (by decide) (fun K hK => ?_);refine goes_ Try.func56 (by kernel_rfl) rfl #[.agg #[.int .i64 ((rd_T54 l0 x4_1).f1.f0),.int .i64 ((rd_T54 l0 x4_1).f1.f1),.string ((rd_T54 l0 x4_1).f1.f2)]] (by rfl) rfl rfl (by (try simp only [zt,zu,zv]);first|done|rfl|(simp only [zw,zx];rfl)|(simp only [yr,ys,zV,zW];rfl)) ?_
        with_reducible refine (Fz.calls k1  ((rd_T54 l0 x4_1).f1.f0) ((rd_T54 l0 x4_1).f1.f1) ((rd_T54 l0 x4_1).f1.f2) t428 _ A7.out).mono ?_
        rintro e w12 ⟨rfl,hb⟩;refine ⟨_,rfl,?_⟩;replace BK423:=zh (cD BK423.out (by (with_reducible repeat first|apply ze|apply zf|apply zg);exact BK423.out) hb);replace HB:=zh (zC (by repeat (with_reducible first|exact HB.out|apply za|apply zb|apply zc|refine zd ?_ GE423.out)) hb);(try clear hb);(try clear hb2);(try clear hk);(try clear hi);refine hK.out _ _ ⟨((HB.out.cell (zl w _ hw424_0)).trans hw424_0),((HB.out.cell (zl w _ hw424_1)).trans hw424_1),((HB.out.cell (zl w _ hw424_2)).trans hw424_2),((HB.out.cell (zl w _ hw424_3)).trans hw424_3),((HB.out.cell (zl w _ hw426_0)).trans hw426_0),((HB.out.cell (zl w _ hw426_1)).trans hw426_1),((HB.out.cell (zl w _ hw426_2)).trans hw426_2),((HB.out.cell (zl w _ hw426_3)).trans hw426_3),((HB.out.cell (zl w _ hw427_0)).trans hw427_0),((HB.out.cell (zl w _ hw427_1)).trans hw427_1),((HB.out.cell (zl w _ hw427_2)).trans hw427_2),((HB.out.cell (zl w _ hw427_3)).trans hw427_3)⟩ (fun hHeld => ?_);clear hK K;refine norm_ (a':=?_) ?_ ?_;rotate_left
        ·
         show Act.put _ (some 30) _=_
         simp only [Act.put,zi,zj,zk,zG,zH]
         rfl
        refine pure_ (i:=20) (N:=some 31) (v:=?_) (a':=?_) (bm_ 21 23) rfl rfl (any_of HT_.out (by kernel_rfl)) (fun _ _ _ h => h) (Or.inl ⟨by rfl,?_⟩) ?_ ?_;rotate_left
        ·
         intro w'
         go_simp
         with_reducible rfl
        rotate_left
        ·
         simp only [Act.put,zi,zj,zk,zG,zH]
         rfl
        refine pure_ (i:=21) (N:=some 32) (v:=?_) (a':=?_) (bm_ 22 23) rfl rfl (any_of HT_.out (by kernel_rfl)) (fun _ _ _ h => h) (Or.inl ⟨by rfl,?_⟩) ?_ ?_;rotate_left
        ·
         intro w'
         go_simp
         with_reducible rfl
        rotate_left
        ·
         simp only [Act.put,zi,zj,zk,zG,zH]
         rfl
        refine pure_ (i:=22) (N:=some 3) (v:=?_) (a':=?_) (bm_ 23 23) rfl rfl (any_of HT_.out (by kernel_rfl)) (fun _ _ _ h => h) (Or.inl ⟨by rfl,?_⟩) ?_ ?_;rotate_left
        ·
         intro w'
         go_simp
         with_reducible rfl
        rotate_left
        ·
         simp only [Act.put,zi,zj,zk,zG,zH]
         rfl
        refine done_ (done_of HT_.out (by kernel_rfl)) ?_
        try go_wp2
        go_roundg k1
        case measure => have:=HK1.out;omega
        case rel => exact ⟨(x3_1 ++ ((t425 ++ ((rd_T54 l0 x4_1).f0)) ++ t428)),(wrap64 (x4_1 + 1)),(by first|rfl|(simp;done)|(simp [*];done)),(by first|rfl|(simp;done)|(simp [*];done)),H',⟨by have:=HK1.out;omega⟩,⟨by (with_reducible repeat first|apply ze|apply zf|apply zg);exact BK423.out⟩,⟨by repeat (with_reducible first|exact HB.out|apply za|apply zb|apply zc|refine zd ?_ GE423.out)⟩⟩
       rw [if_neg c9] at H;exact absurd H (by simp)
      rw [if_neg c8] at H;exact absurd H (by simp)
     rw [if_neg c6] at H;exact absurd H (by simp)
    rw [if_neg c4] at H;exact absurd H (by simp)
   rw [if_neg c3] at H;have c3b0 : decide (x4_1<(l0.length : Int))=false:=decide_eq_false c3;clear c3;simp only [Option.some.injEq,Prod.mk.injEq] at H;obtain ⟨rfl,rfl,rfl⟩:=H;obtain ⟨hcz13_0,hcz13_1,hcz13_2,hfz13_0,hfz13_1,hfz13_2⟩:=cB3 BK423.out
   go_wp2
   refine bodyPost_ret (results_cell_row rfl _ _ gb423 27 #[.int .i64 5,.int .i64 0,.string x3_1] (0,0) _ rfl (by (with_reducible repeat first|apply ze|apply zf|apply zg);refine zL (cs:=#[.int .i64 5,.int .i64 0,.string (⟨#[]⟩ : ByteArray)]) ?_ 2 _ rfl;(with_reducible repeat first|apply ze|apply zf|apply zg);refine zL (cs:=#[.int .i64 5,.int .i64 0,.string (⟨#[]⟩ : ByteArray)]) ?_ 1 _ rfl;(with_reducible repeat first|apply ze|apply zf|apply zg);refine zL (cs:=#[.int .i64 0,.int .i64 0,.string (⟨#[]⟩ : ByteArray)]) ?_ 0 _ rfl;(with_reducible repeat first|apply ze|apply zf|apply zg);exact BK423.out) Try.underlying27 rfl (by kernel_rfl)) rfl ?_;exact ⟨by first|rfl|(simp [yt,yu] <;> rfl)|(simp [*,yt,yu] <;> rfl),by repeat (with_reducible first|exact HB.out|apply za|apply zb|apply zc|refine zd ?_ GE423.out)⟩

end Go.Proofs.Ytaoihmompioncaa.Q
end
section
namespace Go.Proofs.Ytaoihmompioncaa.Q
open Go.RowKit Go.Proofs.YtaoihmompioncaaW.PrintWords Go.Proofs.YtaoihmompioncaaW.PrintLast Go.Proofs.YtaoihmompioncaaW.PrintMore
attribute [local go_sem] max2_int min2_int max_two min_two max_three min_three max_four min_four max2_str min2_str str_geq str_gtr str_leq   -- for this text's walks alone
set_option linter.unusedVariables false
set_option linter.unusedSimpArgs false

mutual
def F9.l0 : Nat→List ByteArray→List (S54)→List (S54)→Int→Option (Int×Int×ByteArray)
 | 0,_,_,_,_ => none
 | k + 1,x1,x5,x7,x8 => if x8<(x5.length : Int) then (if 0≤x8 then (F9.l1 k x1 x5 x7 x8 (((rd_T54 x5 x8).f0).toList == ([105,100] : List UInt8)) 0) else (none)) else ((Fg.f k x7).bind fun bt438 => (some (bt438.1,bt438.2.1,bt438.2.2)))
def F9.l1 : Nat→List ByteArray→List (S54)→List (S54)→Int→Bool→Int→Option (Int×Int×ByteArray)
 | 0,_,_,_,_,_,_ => none
 | k + 1,x1,x5,x7,x8,x9,x10 => if x10<(x1.length : Int) then (if x9=true then (F9.l1 k x1 x5 x7 x8 true (wrap64 (x10 + 1))) else (if 0≤x10 then (if 0≤x8 then (if x8<(x5.length : Int) then (F9.l1 k x1 x5 x7 x8 ((rdOf ByteArray.empty x1 x10).toList == ((rd_T54 x5 x8).f0).toList) (wrap64 (x10 + 1))) else (none)) else (none)) else (none))) else (if x9=true then (if 0≤x8 then (if x8<(x5.length : Int) then (if x7.length<2932031007402 then (F9.l0 k x1 x5 (x7 ++ [(⟨(rd_T54 x5 x8).f0,(⟨(rd_T54 x5 x8).f1.f0,(rd_T54 x5 x8).f1.f1,(rd_T54 x5 x8).f1.f2⟩ : S27)⟩ : S54)]) (wrap64 (x8 + 1))) else (none)) else (none)) else (none)) else (F9.l0 k x1 x5 x7 (wrap64 (x8 + 1))))
end
def F9.f (k : Nat) (a0_0 : Int) (a0_1 : Int) (a0_2 : ByteArray) (l1 : List ByteArray) : Option (Int×Int×ByteArray):=if (l1.length : Int)=0 then (some (a0_0,a0_1,a0_2)) else ((Ff.f k a0_2).bind fun bt431 => (F9.l0 k l1 bt431.1 (([] : List (S54))) 0))
theorem F9.mono_l : ∀ k,(∀ y0 y1 y2 y3,LeO (F9.l0 k y0 y1 y2 y3) (F9.l0 (k + 1) y0 y1 y2 y3))∧(∀ y0 y1 y2 y3 y4 y5,LeO (F9.l1 k y0 y1 y2 y3 y4 y5) (F9.l1 (k + 1) y0 y1 y2 y3 y4 y5))
 | 0 => ⟨fun _ _ _ _ r h => by simp [F9.l0] at h,fun _ _ _ _ _ _ r h => by simp [F9.l1] at h⟩
 | k + 1 => by
  obtain ⟨ih0,ih1⟩:=F9.mono_l k;refine ⟨?_,?_⟩
  ·
   intro y0 y1 y2 y3
   unfold F9.l0
   repeat' first|(with_reducible first|exact ih0 _ _ _ _|exact ih1 _ _ _ _ _ _|exact Fg.mono _ _|exact Ff.mono _ _|exact zQ _|exact zN _|refine zP ?_ ?_|refine zO ?_ (fun _ => ?_))|refine zP ?_ ?_|refine zO ?_ (fun _ => ?_)
  intro y0 y1 y2 y3 y4 y5;unfold F9.l1
  repeat' first|(with_reducible first|exact ih0 _ _ _ _|exact ih1 _ _ _ _ _ _|exact Fg.mono _ _|exact Ff.mono _ _|exact zQ _|exact zN _|refine zP ?_ ?_|refine zO ?_ (fun _ => ?_))|refine zP ?_ ?_|refine zO ?_ (fun _ => ?_)
theorem F9.mono : ∀ a0 a1 a2 a3 k,LeO (F9.f k a0 a1 a2 a3) (F9.f (k + 1) a0 a1 a2 a3):=by
 intro a0 a1 a2 a3 k;obtain ⟨ih0,ih1⟩:=F9.mono_l k;unfold F9.f
 repeat' first|(with_reducible first|exact ih0 _ _ _ _|exact ih1 _ _ _ _ _ _|exact Fg.mono _ _|exact Ff.mono _ _|exact zQ _|exact zN _|refine zP ?_ ?_|refine zO ?_ (fun _ => ?_))|refine zP ?_ ?_|refine zO ?_ (fun _ => ?_)
set_option maxHeartbeats 8000000 in
set_option maxRecDepth 100000 in
theorem F9.calls (k : Nat) (a0_0 : Int) (a0_1 : Int) (a0_2 : ByteArray) (A1 : Option Addr) (c1 : Nat) (l1 : List ByteArray) (r1 : Int) (r2 : Int) (r3 : ByteArray) (w : World) (hr1 : Kd.C Kd.string w A1 l1.length l1) (hc1 : l1.length≤c1) (h : F9.f k a0_0 a0_1 a0_2 l1=some (r1,r2,r3)) :
  Calls Try.prog 27 #[.agg #[.int .i64 a0_0,.int .i64 a0_1,.string a0_2],.slice A1 l1.length c1] w fun e w' => e = .returned (.agg #[.int .i64 r1,.int .i64 r2,.string r3])∧Below w.heap.size w w':=by
 have hu27:=Try.underlying27;have hu54:=Try.underlying54;have HR1:=zh hr1;have HC1:=zh hc1;clear hr1 hc1;have HB:=zh (Below.refl w.heap.size w);have H : (if (l1.length : Int)=0 then (some (a0_0,a0_1,a0_2)) else ((Ff.f k a0_2).bind fun bt431 => (F9.l0 k l1 bt431.1 (([] : List (S54))) 0)))=some (r1,r2,r3):=h;clear h
 by_cases c3 : (l1.length : Int)=0
 ·
  rw [if_pos c3] at H
  have c3b0 : ((l1.length : Int) == 0)=true:=ya.mpr c3;have c3b1 : ((l1.length : Int) != 0)=false:=zX.mpr c3;clear c3;simp only [Option.some.injEq,Prod.mk.injEq] at H;obtain ⟨rfl,rfl,rfl⟩:=H
  go_enter Try.func27,Try.ntmps27
  go_wp2_with (first|((with_reducible refine zK (N:=2) rfl ?_);refine zI ?hg (N:=2) ?hd (cs:=#[.int .i64 a0_0,.int .i64 a0_1,.string a0_2]) (t:=27) ?hr ?_;(case hd|hg => rfl);(case hr => go_simp <;> rfl);intro gb429 hg w4 hbox hb;have BK429:=zh (hbox);have hH_:=cH (by repeat (with_reducible first|exact HB.out|apply za|apply zb|apply zc)) hb hg;have GW429:=zh hH_.1;have GE429:=GW429;replace HB:=zh hH_.2;clear hb hbox hg hH_)|((with_reducible refine zK (N:=4) rfl ?_);refine zI ?hg (N:=4) ?hd (cs:=#[.int .i64 0,.int .i64 0,.string (⟨#[]⟩ : ByteArray)]) (t:=27) ?hr ?_;(case hd|hg => rfl);(case hr => go_simp <;> rfl);intro gb430 hg w5 hbox hb;have BK430:=zh (hbox);have hH_:=cH (by repeat (with_reducible first|exact HB.out|apply za|apply zb|apply zc|refine zd ?_ GE429.out)) hb hg;have GW430:=zh hH_.1;have GE430:=GW430;replace HB:=zh hH_.2;have NB429_430:=zh ((by rw [hg];exact yc (yi (g:=gb429) (o:=.cells #[.int .i64 a0_0,.int .i64 a0_1,.string a0_2] 27 (0,0)) (by (with_reducible repeat first|apply ze|apply zf|apply zg);exact BK429.out)) : gb429≠gb430));have NB430_429:=zh NB429_430.out.symm;replace BK429:=zh (cD BK429.out (by (with_reducible repeat first|apply ze|apply zf|apply zg);exact BK429.out) hb);clear hb hbox hg hH_;have hnb6:=NB429_430.out;have hnc6:=NB430_429.out;obtain ⟨hcz7_0,hcz7_1,hcz7_2,hfz7_0,hfz7_1,hfz7_2⟩:=cB3 BK429.out;obtain ⟨hcz8_0,hcz8_1,hcz8_2,hfz8_0,hfz8_1,hfz8_2⟩:=cB3 BK430.out))
  repeat (go_quiet (first|((with_reducible refine zK (N:=2) rfl ?_);refine zI ?hg (N:=2) ?hd (cs:=#[.int .i64 a0_0,.int .i64 a0_1,.string a0_2]) (t:=27) ?hr ?_;(case hd|hg => rfl);(case hr => go_simp <;> rfl);intro gb429 hg w4 hbox hb;have BK429:=zh (hbox);have hH_:=cH (by repeat (with_reducible first|exact HB.out|apply za|apply zb|apply zc)) hb hg;have GW429:=zh hH_.1;have GE429:=GW429;replace HB:=zh hH_.2;clear hb hbox hg hH_)|((with_reducible refine zK (N:=4) rfl ?_);refine zI ?hg (N:=4) ?hd (cs:=#[.int .i64 0,.int .i64 0,.string (⟨#[]⟩ : ByteArray)]) (t:=27) ?hr ?_;(case hd|hg => rfl);(case hr => go_simp <;> rfl);intro gb430 hg w5 hbox hb;have BK430:=zh (hbox);have hH_:=cH (by repeat (with_reducible first|exact HB.out|apply za|apply zb|apply zc|refine zd ?_ GE429.out)) hb hg;have GW430:=zh hH_.1;have GE430:=GW430;replace HB:=zh hH_.2;have NB429_430:=zh ((by rw [hg];exact yc (yi (g:=gb429) (o:=.cells #[.int .i64 a0_0,.int .i64 a0_1,.string a0_2] 27 (0,0)) (by (with_reducible repeat first|apply ze|apply zf|apply zg);exact BK429.out)) : gb429≠gb430));have NB430_429:=zh NB429_430.out.symm;replace BK429:=zh (cD BK429.out (by (with_reducible repeat first|apply ze|apply zf|apply zg);exact BK429.out) hb);clear hb hbox hg hH_;have hnb6:=NB429_430.out;have hnc6:=NB430_429.out;obtain ⟨hcz7_0,hcz7_1,hcz7_2,hfz7_0,hfz7_1,hfz7_2⟩:=cB3 BK429.out;obtain ⟨hcz8_0,hcz8_1,hcz8_2,hfz8_0,hfz8_1,hfz8_2⟩:=cB3 BK430.out));try go_wp2_with (first|((with_reducible refine zK (N:=2) rfl ?_);refine zI ?hg (N:=2) ?hd (cs:=#[.int .i64 a0_0,.int .i64 a0_1,.string a0_2]) (t:=27) ?hr ?_;(case hd|hg => rfl);(case hr => go_simp <;> rfl);intro gb429 hg w4 hbox hb;have BK429:=zh (hbox);have hH_:=cH (by repeat (with_reducible first|exact HB.out|apply za|apply zb|apply zc)) hb hg;have GW429:=zh hH_.1;have GE429:=GW429;replace HB:=zh hH_.2;clear hb hbox hg hH_)|((with_reducible refine zK (N:=4) rfl ?_);refine zI ?hg (N:=4) ?hd (cs:=#[.int .i64 0,.int .i64 0,.string (⟨#[]⟩ : ByteArray)]) (t:=27) ?hr ?_;(case hd|hg => rfl);(case hr => go_simp <;> rfl);intro gb430 hg w5 hbox hb;have BK430:=zh (hbox);have hH_:=cH (by repeat (with_reducible first|exact HB.out|apply za|apply zb|apply zc|refine zd ?_ GE429.out)) hb hg;have GW430:=zh hH_.1;have GE430:=GW430;replace HB:=zh hH_.2;have NB429_430:=zh ((by rw [hg];exact yc (yi (g:=gb429) (o:=.cells #[.int .i64 a0_0,.int .i64 a0_1,.string a0_2] 27 (0,0)) (by (with_reducible repeat first|apply ze|apply zf|apply zg);exact BK429.out)) : gb429≠gb430));have NB430_429:=zh NB429_430.out.symm;replace BK429:=zh (cD BK429.out (by (with_reducible repeat first|apply ze|apply zf|apply zg);exact BK429.out) hb);clear hb hbox hg hH_;have hnb6:=NB429_430.out;have hnc6:=NB430_429.out;obtain ⟨hcz7_0,hcz7_1,hcz7_2,hfz7_0,hfz7_1,hfz7_2⟩:=cB3 BK429.out;obtain ⟨hcz8_0,hcz8_1,hcz8_2,hfz8_0,hfz8_1,hfz8_2⟩:=cB3 BK430.out)))
  refine bodyPost_ret (results_cell_row rfl _ _ gb430 27 #[.int .i64 a0_0,.int .i64 a0_1,.string a0_2] (0,0) _ rfl (by (with_reducible repeat first|apply ze|apply zf|apply zg);refine zL (cs:=#[.int .i64 a0_0,.int .i64 a0_1,.string (⟨#[]⟩ : ByteArray)]) ?_ 2 _ rfl;(with_reducible repeat first|apply ze|apply zf|apply zg);refine zL (cs:=#[.int .i64 a0_0,.int .i64 0,.string (⟨#[]⟩ : ByteArray)]) ?_ 1 _ rfl;(with_reducible repeat first|apply ze|apply zf|apply zg);refine zL (cs:=#[.int .i64 0,.int .i64 0,.string (⟨#[]⟩ : ByteArray)]) ?_ 0 _ rfl;(with_reducible repeat first|apply ze|apply zf|apply zg);exact BK430.out) Try.underlying27 rfl (by kernel_rfl)) rfl ?_;exact ⟨by first|rfl|(simp [yt,yu] <;> rfl)|(simp [*,yt,yu] <;> rfl),by repeat (with_reducible first|exact HB.out|apply za|apply zb|apply zc|refine zd ?_ GE429.out|refine zd ?_ GE430.out)⟩
 rw [if_neg c3] at H;have c3b0 : ((l1.length : Int) == 0)=false:=zY.mpr c3;have c3b1 : ((l1.length : Int) != 0)=true:=zZ.mpr c3;have c3b2 : ¬ (l1=[]):=fun h_ => c3 (by rw [h_];rfl);replace H:=zT.mp H;obtain ⟨⟨t431,t432⟩,A90,H⟩:=H;replace H : (F9.l0 k l1 t431 (([] : List (S54))) 0)=some (r1,r2,r3):=H;have A9:=zh A90;clear A90;obtain ⟨y435,hy435⟩ : ∃ y_ : List (S54),y_=(([] : List (S54))):=⟨_,rfl⟩;replace H : (F9.l0 k l1 t431 y435 0)=some (r1,r2,r3):=by first|(rw [hy435];with_reducible exact H)|(have H2_:=(Option.bind_some _ _).symm.trans H;rw [hy435];with_reducible exact H2_)|(have H2_:=(Option.bind_some _ _).symm.trans H;with_reducible exact H2_)|with_reducible exact H|(rw [hy435];exact H)|exact H
 have Ny435:=zh hy435;clear hy435;have H':=zh H;clear H
 go_enter Try.func27,Try.ntmps27
 go_wp2_with (first|((with_reducible refine zK (N:=2) rfl ?_);refine zI ?hg (N:=2) ?hd (cs:=#[.int .i64 a0_0,.int .i64 a0_1,.string a0_2]) (t:=27) ?hr ?_;(case hd|hg => rfl);(case hr => go_simp <;> rfl);intro gb429 hg w10 hbox hb;have BK429:=zh (hbox);have hH_:=cH (by repeat (with_reducible first|exact HB.out|apply za|apply zb|apply zc)) hb hg;have GW429:=zh hH_.1;have GE429:=GW429;replace HB:=zh hH_.2;clear hb hbox hg hH_)|((with_reducible refine zK (N:=4) rfl ?_);refine zI ?hg (N:=4) ?hd (cs:=#[.int .i64 0,.int .i64 0,.string (⟨#[]⟩ : ByteArray)]) (t:=27) ?hr ?_;(case hd|hg => rfl);(case hr => go_simp <;> rfl);intro gb430 hg w11 hbox hb;have BK430:=zh (hbox);have hH_:=cH (by repeat (with_reducible first|exact HB.out|apply za|apply zb|apply zc|refine zd ?_ GE429.out)) hb hg;have GW430:=zh hH_.1;have GE430:=GW430;replace HB:=zh hH_.2;have NB429_430:=zh ((by rw [hg];exact yc (yi (g:=gb429) (o:=.cells #[.int .i64 a0_0,.int .i64 a0_1,.string a0_2] 27 (0,0)) (by (with_reducible repeat first|apply ze|apply zf|apply zg);exact BK429.out)) : gb429≠gb430));have NB430_429:=zh NB429_430.out.symm;replace BK429:=zh (cD BK429.out (by (with_reducible repeat first|apply ze|apply zf|apply zg);exact BK429.out) hb);clear hb hbox hg hH_;have hnb12:=NB429_430.out;have hnc12:=NB430_429.out;obtain ⟨hcz13_0,hcz13_1,hcz13_2,hfz13_0,hfz13_1,hfz13_2⟩:=cB3 BK429.out)|(go_at_call 48;(with_reducible refine (Ff.calls k  a0_2 t431 t432 _ A9.out).mono ?_);rintro e w14 ⟨v433,rfl,ho0,hb⟩;have HO434:=zh (yy ho0 (zB (by repeat (with_reducible first|exact HB.out|apply za|apply zb|apply zc|refine zd ?_ GE429.out|refine zd ?_ GE430.out))));replace BK429:=zh (cD BK429.out (by (with_reducible repeat first|apply ze|apply zf|apply zg);exact BK429.out) hb);replace BK430:=zh (cD BK430.out (by (with_reducible repeat first|apply ze|apply zf|apply zg);exact BK430.out) hb);replace HB:=zh (zC (by repeat (with_reducible first|exact HB.out|apply za|apply zb|apply zc|refine zd ?_ GE429.out|refine zd ?_ GE430.out)) hb);(try clear hb);(try clear hb2);(try clear hk);(try clear hi);(try clear ho0))|((with_reducible refine zK (N:=21) rfl ?_);refine Kd.R_lit k54 _ 54 ?hg (N:=21) ?hd (xs:=([] : List (S54))) (inner:=[]) (ok:=fun _ => True) (okp:=fun _ => True) ?hr ?hp (fun _ hk => hk) trivial (Below.refl _ _) (ye _) (by simp) ?_;(case hd|hg => rfl);(case hr => go_simp <;> rfl);(case hp => exact (Reps.none _ _));intro v436 w15 ho16 hb hg_ hnew_;clear hg_ hnew_;(first|rw [← Ny435.out] at ho16|(simp only [Int.reduceToNat] at ho16;rw [← Ny435.out] at ho16));have HO437:=zh (yy (Kd.R_new' ho16 (Kd.R_lt (by (with_reducible repeat (first|apply zm|apply zn|apply zo));exact HO434.out))) (zB (by repeat (with_reducible first|exact HB.out|apply za|apply zb|apply zc|refine zd ?_ GE429.out|refine zd ?_ GE430.out))));replace HO434:=zh (Kd.R_elder' (by (with_reducible repeat (first|apply zm|apply zn|apply zo));exact HO434.out) (Kd.R_base ho16) hb);replace BK429:=zh (cD BK429.out (by (with_reducible repeat first|apply ze|apply zf|apply zg);exact BK429.out) hb);replace BK430:=zh (cD BK430.out (by (with_reducible repeat first|apply ze|apply zf|apply zg);exact BK430.out) hb);replace HB:=zh (zC (by repeat (with_reducible first|exact HB.out|apply za|apply zb|apply zc|refine zd ?_ GE429.out|refine zd ?_ GE430.out)) hb);clear hb ho16))
 repeat (go_quiet (first|((with_reducible refine zK (N:=2) rfl ?_);refine zI ?hg (N:=2) ?hd (cs:=#[.int .i64 a0_0,.int .i64 a0_1,.string a0_2]) (t:=27) ?hr ?_;(case hd|hg => rfl);(case hr => go_simp <;> rfl);intro gb429 hg w10 hbox hb;have BK429:=zh (hbox);have hH_:=cH (by repeat (with_reducible first|exact HB.out|apply za|apply zb|apply zc)) hb hg;have GW429:=zh hH_.1;have GE429:=GW429;replace HB:=zh hH_.2;clear hb hbox hg hH_)|((with_reducible refine zK (N:=4) rfl ?_);refine zI ?hg (N:=4) ?hd (cs:=#[.int .i64 0,.int .i64 0,.string (⟨#[]⟩ : ByteArray)]) (t:=27) ?hr ?_;(case hd|hg => rfl);(case hr => go_simp <;> rfl);intro gb430 hg w11 hbox hb;have BK430:=zh (hbox);have hH_:=cH (by repeat (with_reducible first|exact HB.out|apply za|apply zb|apply zc|refine zd ?_ GE429.out)) hb hg;have GW430:=zh hH_.1;have GE430:=GW430;replace HB:=zh hH_.2;have NB429_430:=zh ((by rw [hg];exact yc (yi (g:=gb429) (o:=.cells #[.int .i64 a0_0,.int .i64 a0_1,.string a0_2] 27 (0,0)) (by (with_reducible repeat first|apply ze|apply zf|apply zg);exact BK429.out)) : gb429≠gb430));have NB430_429:=zh NB429_430.out.symm;replace BK429:=zh (cD BK429.out (by (with_reducible repeat first|apply ze|apply zf|apply zg);exact BK429.out) hb);clear hb hbox hg hH_;have hnb12:=NB429_430.out;have hnc12:=NB430_429.out;obtain ⟨hcz13_0,hcz13_1,hcz13_2,hfz13_0,hfz13_1,hfz13_2⟩:=cB3 BK429.out)|(go_at_call 48;(with_reducible refine (Ff.calls k  a0_2 t431 t432 _ A9.out).mono ?_);rintro e w14 ⟨v433,rfl,ho0,hb⟩;have HO434:=zh (yy ho0 (zB (by repeat (with_reducible first|exact HB.out|apply za|apply zb|apply zc|refine zd ?_ GE429.out|refine zd ?_ GE430.out))));replace BK429:=zh (cD BK429.out (by (with_reducible repeat first|apply ze|apply zf|apply zg);exact BK429.out) hb);replace BK430:=zh (cD BK430.out (by (with_reducible repeat first|apply ze|apply zf|apply zg);exact BK430.out) hb);replace HB:=zh (zC (by repeat (with_reducible first|exact HB.out|apply za|apply zb|apply zc|refine zd ?_ GE429.out|refine zd ?_ GE430.out)) hb);(try clear hb);(try clear hb2);(try clear hk);(try clear hi);(try clear ho0))|((with_reducible refine zK (N:=21) rfl ?_);refine Kd.R_lit k54 _ 54 ?hg (N:=21) ?hd (xs:=([] : List (S54))) (inner:=[]) (ok:=fun _ => True) (okp:=fun _ => True) ?hr ?hp (fun _ hk => hk) trivial (Below.refl _ _) (ye _) (by simp) ?_;(case hd|hg => rfl);(case hr => go_simp <;> rfl);(case hp => exact (Reps.none _ _));intro v436 w15 ho16 hb hg_ hnew_;clear hg_ hnew_;(first|rw [← Ny435.out] at ho16|(simp only [Int.reduceToNat] at ho16;rw [← Ny435.out] at ho16));have HO437:=zh (yy (Kd.R_new' ho16 (Kd.R_lt (by (with_reducible repeat (first|apply zm|apply zn|apply zo));exact HO434.out))) (zB (by repeat (with_reducible first|exact HB.out|apply za|apply zb|apply zc|refine zd ?_ GE429.out|refine zd ?_ GE430.out))));replace HO434:=zh (Kd.R_elder' (by (with_reducible repeat (first|apply zm|apply zn|apply zo));exact HO434.out) (Kd.R_base ho16) hb);replace BK429:=zh (cD BK429.out (by (with_reducible repeat first|apply ze|apply zf|apply zg);exact BK429.out) hb);replace BK430:=zh (cD BK430.out (by (with_reducible repeat first|apply ze|apply zf|apply zg);exact BK430.out) hb);replace HB:=zh (zC (by repeat (with_reducible first|exact HB.out|apply za|apply zb|apply zc|refine zd ?_ GE429.out|refine zd ?_ GE430.out)) hb);clear hb ho16));try go_wp2_with (first|((with_reducible refine zK (N:=2) rfl ?_);refine zI ?hg (N:=2) ?hd (cs:=#[.int .i64 a0_0,.int .i64 a0_1,.string a0_2]) (t:=27) ?hr ?_;(case hd|hg => rfl);(case hr => go_simp <;> rfl);intro gb429 hg w10 hbox hb;have BK429:=zh (hbox);have hH_:=cH (by repeat (with_reducible first|exact HB.out|apply za|apply zb|apply zc)) hb hg;have GW429:=zh hH_.1;have GE429:=GW429;replace HB:=zh hH_.2;clear hb hbox hg hH_)|((with_reducible refine zK (N:=4) rfl ?_);refine zI ?hg (N:=4) ?hd (cs:=#[.int .i64 0,.int .i64 0,.string (⟨#[]⟩ : ByteArray)]) (t:=27) ?hr ?_;(case hd|hg => rfl);(case hr => go_simp <;> rfl);intro gb430 hg w11 hbox hb;have BK430:=zh (hbox);have hH_:=cH (by repeat (with_reducible first|exact HB.out|apply za|apply zb|apply zc|refine zd ?_ GE429.out)) hb hg;have GW430:=zh hH_.1;have GE430:=GW430;replace HB:=zh hH_.2;have NB429_430:=zh ((by rw [hg];exact yc (yi (g:=gb429) (o:=.cells #[.int .i64 a0_0,.int .i64 a0_1,.string a0_2] 27 (0,0)) (by (with_reducible repeat first|apply ze|apply zf|apply zg);exact BK429.out)) : gb429≠gb430));have NB430_429:=zh NB429_430.out.symm;replace BK429:=zh (cD BK429.out (by (with_reducible repeat first|apply ze|apply zf|apply zg);exact BK429.out) hb);clear hb hbox hg hH_;have hnb12:=NB429_430.out;have hnc12:=NB430_429.out;obtain ⟨hcz13_0,hcz13_1,hcz13_2,hfz13_0,hfz13_1,hfz13_2⟩:=cB3 BK429.out)|(go_at_call 48;(with_reducible refine (Ff.calls k  a0_2 t431 t432 _ A9.out).mono ?_);rintro e w14 ⟨v433,rfl,ho0,hb⟩;have HO434:=zh (yy ho0 (zB (by repeat (with_reducible first|exact HB.out|apply za|apply zb|apply zc|refine zd ?_ GE429.out|refine zd ?_ GE430.out))));replace BK429:=zh (cD BK429.out (by (with_reducible repeat first|apply ze|apply zf|apply zg);exact BK429.out) hb);replace BK430:=zh (cD BK430.out (by (with_reducible repeat first|apply ze|apply zf|apply zg);exact BK430.out) hb);replace HB:=zh (zC (by repeat (with_reducible first|exact HB.out|apply za|apply zb|apply zc|refine zd ?_ GE429.out|refine zd ?_ GE430.out)) hb);(try clear hb);(try clear hb2);(try clear hk);(try clear hi);(try clear ho0))|((with_reducible refine zK (N:=21) rfl ?_);refine Kd.R_lit k54 _ 54 ?hg (N:=21) ?hd (xs:=([] : List (S54))) (inner:=[]) (ok:=fun _ => True) (okp:=fun _ => True) ?hr ?hp (fun _ hk => hk) trivial (Below.refl _ _) (ye _) (by simp) ?_;(case hd|hg => rfl);(case hr => go_simp <;> rfl);(case hp => exact (Reps.none _ _));intro v436 w15 ho16 hb hg_ hnew_;clear hg_ hnew_;(first|rw [← Ny435.out] at ho16|(simp only [Int.reduceToNat] at ho16;rw [← Ny435.out] at ho16));have HO437:=zh (yy (Kd.R_new' ho16 (Kd.R_lt (by (with_reducible repeat (first|apply zm|apply zn|apply zo));exact HO434.out))) (zB (by repeat (with_reducible first|exact HB.out|apply za|apply zb|apply zc|refine zd ?_ GE429.out|refine zd ?_ GE430.out))));replace HO434:=zh (Kd.R_elder' (by (with_reducible repeat (first|apply zm|apply zn|apply zo));exact HO434.out) (Kd.R_base ho16) hb);replace BK429:=zh (cD BK429.out (by (with_reducible repeat first|apply ze|apply zf|apply zg);exact BK429.out) hb);replace BK430:=zh (cD BK430.out (by (with_reducible repeat first|apply ze|apply zf|apply zg);exact BK430.out) hb);replace HB:=zh (zC (by repeat (with_reducible first|exact HB.out|apply za|apply zb|apply zc|refine zd ?_ GE429.out|refine zd ?_ GE430.out)) hb);clear hb ho16)))
 go_loopg [7,8] k (fun kq v7 v8 w' => ∃ (x7_1 : List (S54)) (x8_1 : Int),v8 = .int .i64 x8_1∧Aside0 (F9.l0 kq l1 t431 x7_1 x8_1=some (r1,r2,r3))∧Aside0 (kq≤k)∧Aside0 (Kd.R k54 54 w' w.heap.size (fun k_ => some k_≠(v7 : Value).ownBlock) v433 t431)∧Aside0 (Kd.R k54 54 w' w.heap.size (fun k_ => some k_≠(v433 : Value).ownBlock) v7 x7_1)∧Aside0 (w'.heap[gb429]? = some (.cells #[.int .i64 a0_0,.int .i64 a0_1,.string a0_2] 27 (0,0)))∧Aside0 (w'.heap[gb430]? = some (.cells #[.int .i64 0,.int .i64 0,.string (⟨#[]⟩ : ByteArray)] 27 (0,0)))∧Aside0 (Below w.heap.size w w'))
 case atStart => exact ⟨(y435),(0),(by first|rfl|(simp;done)|(simp [*];done)),H',⟨ye _⟩,⟨by (with_reducible repeat (first|apply zm|apply zn|apply zo));exact zM HO434.out (fun _ hk => hk.2)⟩,⟨by (with_reducible repeat (first|apply zm|apply zn|apply zo));exact zM HO437.out (fun _ hk => hk.2)⟩,⟨by (with_reducible repeat first|apply ze|apply zf|apply zg);exact BK429.out⟩,⟨by (with_reducible repeat first|apply ze|apply zf|apply zg);exact BK430.out⟩,⟨by repeat (with_reducible first|exact HB.out|apply za|apply zb|apply zc|refine zd ?_ GE429.out|refine zd ?_ GE430.out)⟩⟩
 case round =>
  clear H'
  try clear c1 c2
  try clear p2
  try clear c3 c3b0 c3b1 c3b2 c6 c12
  try clear hcz13_0 hcz13_1 hcz13_2
  try clear hcz7_0 hcz7_1 hcz7_2
  try clear hcz8_0 hcz8_1 hcz8_2
  try clear hfz13_0 hfz13_1 hfz13_2
  try clear hfz7_0 hfz7_1 hfz7_2
  try clear hfz8_0 hfz8_1 hfz8_2
  obtain ⟨x7_1,x8_1,rfl,HA,HK1,HO_5,HO_7,BK429,BK430,HB⟩:=hrel
  cases gk with
  | zero => exact absurd HA.out (by simp [F9.l0])
  | succ k1 =>
   have H:=HA.out;clear HA;simp only [F9.l0] at H
   by_cases c17 : x8_1<(t431.length : Int)
   ·
    rw [if_pos c17] at H
    have c17b0 : decide (x8_1<(t431.length : Int))=true:=decide_eq_true c17;clear c17
    by_cases c18 : 0≤x8_1
    ·
     rw [if_pos c18] at H
     have c18b0 : decide (0≤x8_1)=true:=decide_eq_true c18;clear c18;have H':=zh H;clear H;obtain ⟨Ao19,co19,eo19⟩:=yk HO_5.out;subst eo19;have p441 : 0≤(x8_1 : Int):=zy (by first|(with_reducible assumption)|assumption);have q441 : x8_1<(t431.length : Int):=zy (by first|(with_reducible assumption)|assumption);obtain ⟨ad441,e441,hx441_0,hx441_1,hx441_2,hx441_3⟩:=at_T54 (yh HO_5.out).2.2 x8_1 p441 q441
     cases e441
     replace p441:=eq_true p441;replace q441:=eq_true q441
     go_wp2
     repeat (go_quiet (fail);try go_wp2)
     go_loopg [9,10] k1 (fun kq v9 v10 w' => ∃ (x9_2 : Bool) (x10_2 : Int),v9 = .bool x9_2∧v10 = .int .i64 x10_2∧Aside0 (F9.l1 kq l1 t431 x7_1 x8_1 x9_2 x10_2=some (r1,r2,r3))∧Aside0 (kq≤k1)∧Aside0 (Kd.R k54 54 w' w.heap.size (fun k_ => some k_≠(u7 : Value).ownBlock) (.slice (some ad441) t431.length co19) t431)∧Aside0 (Kd.R k54 54 w' w.heap.size (fun k_ => some k_≠((.slice (some ad441) t431.length co19) : Value).ownBlock) u7 x7_1)∧Aside0 (w'.heap[gb429]? = some (.cells #[.int .i64 a0_0,.int .i64 a0_1,.string a0_2] 27 (0,0)))∧Aside0 (w'.heap[gb430]? = some (.cells #[.int .i64 0,.int .i64 0,.string (⟨#[]⟩ : ByteArray)] 27 (0,0)))∧Aside0 (Below w.heap.size w w'))
     case atStart => exact ⟨((((rd_T54 t431 x8_1).f0).toList == ([105,100] : List UInt8))),(0),(by first|rfl|(simp;done)|(simp [*];done)),(by first|rfl|(simp;done)|(simp [*];done)),H',⟨ye _⟩,⟨by (with_reducible repeat (first|apply zm|apply zn|apply zo));exact HO_5.out⟩,⟨by (with_reducible repeat (first|apply zm|apply zn|apply zo));exact HO_7.out⟩,⟨by (with_reducible repeat first|apply ze|apply zf|apply zg);exact BK429.out⟩,⟨by (with_reducible repeat first|apply ze|apply zf|apply zg);exact BK430.out⟩,⟨by repeat (with_reducible first|exact HB.out|apply za|apply zb|apply zc|refine zd ?_ GE429.out|refine zd ?_ GE430.out)⟩⟩
     case round =>
      clear H'
      try clear c1 c2
      try clear p2
      try clear c3 c3b0 c3b1 c3b2
      try clear p4
      try clear q4
      try clear hx4
      try clear c6 c12 c17 c17b0 c18 c18b0
      try clear hcz13_0 hcz13_1 hcz13_2
      try clear hcz7_0 hcz7_1 hcz7_2
      try clear hcz8_0 hcz8_1 hcz8_2
      try clear hfz13_0 hfz13_1 hfz13_2
      try clear hfz7_0 hfz7_1 hfz7_2
      try clear hfz8_0 hfz8_1 hfz8_2
      try clear hx441_0
      try clear hx441_1
      try clear hx441_2
      try clear hx441_3
      try clear p2
      try clear p441
      try clear q441
      obtain ⟨x9_2,x10_2,rfl,rfl,HA,HK2,HO_5,HO_7,BK429,BK430,HB⟩:=hrel
      cases gk with
      | zero => exact absurd HA.out (by simp [F9.l1])
      | succ k2 =>
       have H:=HA.out;clear HA;simp only [F9.l1] at H
       by_cases c20 : x10_2<(l1.length : Int)
       ·
        rw [if_pos c20] at H
        have c20b0 : decide (x10_2<(l1.length : Int))=true:=decide_eq_true c20;clear c20
        by_cases c21 : x9_2=true
        ·
         subst c21
         have H1 : (F9.l1 k2 l1 t431 x7_1 x8_1 true (wrap64 (x10_2 + 1)))=some (r1,r2,r3):=by rw [if_pos rfl] at H;exact H
         clear H;have H:=H1;clear H1;have H':=zh H;clear H
         go_wp2
         repeat (go_quiet (fail);try go_wp2)
         go_roundg k2
         case measure => have:=HK1.out;have:=HK2.out;omega
         case rel => exact ⟨(true),(wrap64 (x10_2 + 1)),(by first|rfl|(simp;done)|(simp [*];done)),(by first|rfl|(simp;done)|(simp [*];done)),H',⟨by have:=HK1.out;have:=HK2.out;omega⟩,⟨by (with_reducible repeat (first|apply zm|apply zn|apply zo));exact HO_5.out⟩,⟨by (with_reducible repeat (first|apply zm|apply zn|apply zo));exact HO_7.out⟩,⟨by (with_reducible repeat first|apply ze|apply zf|apply zg);exact BK429.out⟩,⟨by (with_reducible repeat first|apply ze|apply zf|apply zg);exact BK430.out⟩,⟨by repeat (with_reducible first|exact HB.out|apply za|apply zb|apply zc|refine zd ?_ GE429.out|refine zd ?_ GE430.out)⟩⟩
        replace c21:=yb.mpr c21;subst c21;have H1 : (if 0≤x10_2 then (if 0≤x8_1 then (if x8_1<(t431.length : Int) then (F9.l1 k2 l1 t431 x7_1 x8_1 ((rdOf ByteArray.empty l1 x10_2).toList == ((rd_T54 t431 x8_1).f0).toList) (wrap64 (x10_2 + 1))) else (none)) else (none)) else (none))=some (r1,r2,r3):=by rw [if_neg (show ¬ (false=true) by decide)] at H;exact H
        clear H;have H:=H1;clear H1
        by_cases c22 : 0≤x10_2
        ·
         rw [if_pos c22] at H
         have c22b0 : decide (0≤x10_2)=true:=decide_eq_true c22;clear c22
         by_cases c23 : 0≤x8_1
         ·
          rw [if_pos c23] at H
          have c23b0 : decide (0≤x8_1)=true:=decide_eq_true c23;clear c23
          by_cases c24 : x8_1<(t431.length : Int)
          ·
           rw [if_pos c24] at H
           have c24b0 : decide (x8_1<(t431.length : Int))=true:=decide_eq_true c24;clear c24;have H':=zh H;clear H;have p442 : 0≤(x10_2 : Int):=zy (by first|(with_reducible assumption)|assumption);have q442 : x10_2<(l1.length : Int):=zy (by first|(with_reducible assumption)|assumption);obtain ⟨ad442,e442,hx442_0⟩:=Kd.at_string HR1.out x10_2 p442 q442
           cases e442
           replace hx442_0:=(HB.out.cell (zl w _ hx442_0)).trans hx442_0;replace p442:=eq_true p442;replace q442:=eq_true q442;have p443 : 0≤(x8_1 : Int):=zy (by first|(with_reducible assumption)|assumption);have q443 : x8_1<(t431.length : Int):=zy (by first|(with_reducible assumption)|assumption);obtain ⟨ad443,e443,hx443_0,hx443_1,hx443_2,hx443_3⟩:=at_T54 (yh HO_5.out).2.2 x8_1 p443 q443;obtain rfl : ad441=ad443:=(by injection e443);replace p443:=eq_true p443;replace q443:=eq_true q443
           go_wp2
           repeat (go_quiet (fail);try go_wp2)
           go_roundg k2
           case measure => have:=HK1.out;have:=HK2.out;omega
           case rel => exact ⟨(((rdOf ByteArray.empty l1 x10_2).toList == ((rd_T54 t431 x8_1).f0).toList)),(wrap64 (x10_2 + 1)),(by first|rfl|(simp;done)|(simp [*];done)),(by first|rfl|(simp;done)|(simp [*];done)),H',⟨by have:=HK1.out;have:=HK2.out;omega⟩,⟨by (with_reducible repeat (first|apply zm|apply zn|apply zo));exact HO_5.out⟩,⟨by (with_reducible repeat (first|apply zm|apply zn|apply zo));exact HO_7.out⟩,⟨by (with_reducible repeat first|apply ze|apply zf|apply zg);exact BK429.out⟩,⟨by (with_reducible repeat first|apply ze|apply zf|apply zg);exact BK430.out⟩,⟨by repeat (with_reducible first|exact HB.out|apply za|apply zb|apply zc|refine zd ?_ GE429.out|refine zd ?_ GE430.out)⟩⟩
          rw [if_neg c24] at H;exact absurd H (by simp)
         rw [if_neg c23] at H;exact absurd H (by simp)
        rw [if_neg c22] at H;exact absurd H (by simp)
       rw [if_neg c20] at H;have c20b0 : decide (x10_2<(l1.length : Int))=false:=decide_eq_false c20;clear c20
       by_cases c25 : x9_2=true
       ·
        subst c25
        have H1 : (if 0≤x8_1 then (if x8_1<(t431.length : Int) then (if x7_1.length<2932031007402 then (F9.l0 k2 l1 t431 (x7_1 ++ [(⟨(rd_T54 t431 x8_1).f0,(⟨(rd_T54 t431 x8_1).f1.f0,(rd_T54 t431 x8_1).f1.f1,(rd_T54 t431 x8_1).f1.f2⟩ : S27)⟩ : S54)]) (wrap64 (x8_1 + 1))) else (none)) else (none)) else (none))=some (r1,r2,r3):=by rw [if_pos rfl] at H;exact H
        clear H;have H:=H1;clear H1
        by_cases c26 : 0≤x8_1
        ·
         rw [if_pos c26] at H
         have c26b0 : decide (0≤x8_1)=true:=decide_eq_true c26;clear c26
         by_cases c27 : x8_1<(t431.length : Int)
         ·
          rw [if_pos c27] at H
          have c27b0 : decide (x8_1<(t431.length : Int))=true:=decide_eq_true c27;clear c27
          by_cases c28 : x7_1.length<2932031007402
          ·
           rw [if_pos c28] at H
           have LMc28:=zh c28;clear c28;obtain ⟨y445,hy445⟩ : ∃ y_ : List (S54),y_=(x7_1 ++ [(⟨(rd_T54 t431 x8_1).f0,(⟨(rd_T54 t431 x8_1).f1.f0,(rd_T54 t431 x8_1).f1.f1,(rd_T54 t431 x8_1).f1.f2⟩ : S27)⟩ : S54)]):=⟨_,rfl⟩;replace H : (F9.l0 k2 l1 t431 y445 (wrap64 (x8_1 + 1)))=some (r1,r2,r3):=by first|(rw [hy445];with_reducible exact H)|(have H2_:=(Option.bind_some _ _).symm.trans H;rw [hy445];with_reducible exact H2_)|(have H2_:=(Option.bind_some _ _).symm.trans H;with_reducible exact H2_)|with_reducible exact H|(rw [hy445];exact H)|exact H
           have Ny445:=zh hy445;clear hy445;have H':=zh H;clear H;have p444 : 0≤(x8_1 : Int):=zy (by first|(with_reducible assumption)|assumption);have q444 : x8_1<(t431.length : Int):=zy (by first|(with_reducible assumption)|assumption);obtain ⟨ad444,e444,hx444_0,hx444_1,hx444_2,hx444_3⟩:=at_T54 (yh HO_5.out).2.2 x8_1 p444 q444;obtain rfl : ad441=ad444:=(by injection e444);replace p444:=eq_true p444;replace q444:=eq_true q444
           go_wp2_with (first|((with_reducible refine yB (b:=.append) (xs:=#[.tmp 54,.tmp 59]) rfl ?_);at_builtin;refine Kd.R_append k54 (w0:=w) w.heap.size rfl (.tmp 54) (.tmp 59) 41 54 (.agg #[(.string ⟨#[]⟩),(.int .i64 0),(.int .i64 0),(.string ⟨#[]⟩)]) 48 rfl Try.underlying41 info54 rfl (by decide) (by omega) u7 x7_1 (⟨(rd_T54 t431 x8_1).f0,(⟨(rd_T54 t431 x8_1).f1.f0,(rd_T54 t431 x8_1).f1.f1,(rd_T54 t431 x8_1).f1.f2⟩ : S27)⟩ : S54) [.string ((rd_T54 t431 x8_1).f0),.int .i64 ((rd_T54 t431 x8_1).f1.f0),.int .i64 ((rd_T54 t431 x8_1).f1.f1),.string ((rd_T54 t431 x8_1).f1.f2)] (fun k_ => some k_≠(.slice (some ad441) t431.length co19 : Value).ownBlock) (fun _ => False) rfl rfl ?aP (fun _ hk => hk.elim) ?aF ?aO ?aB ?aS ?aL ?_;(case aP => exact k54_mkM _ _ _ (⟨(rd_T54 t431 x8_1).f0,(⟨(rd_T54 t431 x8_1).f1.f0,(rd_T54 t431 x8_1).f1.f1,(rd_T54 t431 x8_1).f1.f2⟩ : S27)⟩ : S54));(case aB => exact (by repeat (with_reducible first|exact HB.out|apply za|apply zb|apply zc|refine zd ?_ GE429.out|refine zd ?_ GE430.out)));(case aF => exact (fun k_ hk => Kd.fresh' (Kd.R_lt (by (with_reducible repeat (first|apply zm|apply zn|apply zo));exact HO_5.out)) k_ hk));(case aO => exact (by (with_reducible repeat (first|apply zm|apply zn|apply zo));exact HO_7.out));(case aS => exact (zB (by repeat (with_reducible first|exact HB.out|apply za|apply zb|apply zc|refine zd ?_ GE429.out|refine zd ?_ GE430.out))));(case aL => have:=LMc28.out;omega);intro v446 w29 ho hb hg hat;rw [← Ny445.out] at ho;replace HO_5:=zh (Kd.R_after (ok:=(fun _ => True)) (by (with_reducible repeat (first|apply zm|apply zn|apply zo));exact zM HO_5.out (fun _ hk => ⟨trivial,hk⟩)) hg hat);replace BK429:=zh (yw (g:=gb429) (o:=.cells #[.int .i64 a0_0,.int .i64 a0_1,.string a0_2] 27 (0,0)) (by (with_reducible repeat first|apply ze|apply zf|apply zg);exact BK429.out) hg (Kd.R_ne HO_7.out BK429.out (by decide)));replace BK430:=zh (yw (g:=gb430) (o:=.cells #[.int .i64 0,.int .i64 0,.string (⟨#[]⟩ : ByteArray)] 27 (0,0)) (by (with_reducible repeat first|apply ze|apply zf|apply zg);exact BK430.out) hg (Kd.R_ne HO_7.out BK430.out (by decide)));replace HB:=zh (hb);have HO447:=zh (ho);clear HO_7 ho hb hg hat))
           repeat (go_quiet (first|((with_reducible refine yB (b:=.append) (xs:=#[.tmp 54,.tmp 59]) rfl ?_);at_builtin;refine Kd.R_append k54 (w0:=w) w.heap.size rfl (.tmp 54) (.tmp 59) 41 54 (.agg #[(.string ⟨#[]⟩),(.int .i64 0),(.int .i64 0),(.string ⟨#[]⟩)]) 48 rfl Try.underlying41 info54 rfl (by decide) (by omega) u7 x7_1 (⟨(rd_T54 t431 x8_1).f0,(⟨(rd_T54 t431 x8_1).f1.f0,(rd_T54 t431 x8_1).f1.f1,(rd_T54 t431 x8_1).f1.f2⟩ : S27)⟩ : S54) [.string ((rd_T54 t431 x8_1).f0),.int .i64 ((rd_T54 t431 x8_1).f1.f0),.int .i64 ((rd_T54 t431 x8_1).f1.f1),.string ((rd_T54 t431 x8_1).f1.f2)] (fun k_ => some k_≠(.slice (some ad441) t431.length co19 : Value).ownBlock) (fun _ => False) rfl rfl ?aP (fun _ hk => hk.elim) ?aF ?aO ?aB ?aS ?aL ?_;(case aP => exact k54_mkM _ _ _ (⟨(rd_T54 t431 x8_1).f0,(⟨(rd_T54 t431 x8_1).f1.f0,(rd_T54 t431 x8_1).f1.f1,(rd_T54 t431 x8_1).f1.f2⟩ : S27)⟩ : S54));(case aB => exact (by repeat (with_reducible first|exact HB.out|apply za|apply zb|apply zc|refine zd ?_ GE429.out|refine zd ?_ GE430.out)));(case aF => exact (fun k_ hk => Kd.fresh' (Kd.R_lt (by (with_reducible repeat (first|apply zm|apply zn|apply zo));exact HO_5.out)) k_ hk));(case aO => exact (by (with_reducible repeat (first|apply zm|apply zn|apply zo));exact HO_7.out));(case aS => exact (zB (by repeat (with_reducible first|exact HB.out|apply za|apply zb|apply zc|refine zd ?_ GE429.out|refine zd ?_ GE430.out))));(case aL => have:=LMc28.out;omega);intro v446 w29 ho hb hg hat;rw [← Ny445.out] at ho;replace HO_5:=zh (Kd.R_after (ok:=(fun _ => True)) (by (with_reducible repeat (first|apply zm|apply zn|apply zo));exact zM HO_5.out (fun _ hk => ⟨trivial,hk⟩)) hg hat);replace BK429:=zh (yw (g:=gb429) (o:=.cells #[.int .i64 a0_0,.int .i64 a0_1,.string a0_2] 27 (0,0)) (by (with_reducible repeat first|apply ze|apply zf|apply zg);exact BK429.out) hg (Kd.R_ne HO_7.out BK429.out (by decide)));replace BK430:=zh (yw (g:=gb430) (o:=.cells #[.int .i64 0,.int .i64 0,.string (⟨#[]⟩ : ByteArray)] 27 (0,0)) (by (with_reducible repeat first|apply ze|apply zf|apply zg);exact BK430.out) hg (Kd.R_ne HO_7.out BK430.out (by decide)));replace HB:=zh (hb);have HO447:=zh (ho);clear HO_7 ho hb hg hat));try go_wp2_with (first|((with_reducible refine yB (b:=.append) (xs:=#[.tmp 54,.tmp 59]) rfl ?_);at_builtin;refine Kd.R_append k54 (w0:=w) w.heap.size rfl (.tmp 54) (.tmp 59) 41 54 (.agg #[(.string ⟨#[]⟩),(.int .i64 0),(.int .i64 0),(.string ⟨#[]⟩)]) 48 rfl Try.underlying41 info54 rfl (by decide) (by omega) u7 x7_1 (⟨(rd_T54 t431 x8_1).f0,(⟨(rd_T54 t431 x8_1).f1.f0,(rd_T54 t431 x8_1).f1.f1,(rd_T54 t431 x8_1).f1.f2⟩ : S27)⟩ : S54) [.string ((rd_T54 t431 x8_1).f0),.int .i64 ((rd_T54 t431 x8_1).f1.f0),.int .i64 ((rd_T54 t431 x8_1).f1.f1),.string ((rd_T54 t431 x8_1).f1.f2)] (fun k_ => some k_≠(.slice (some ad441) t431.length co19 : Value).ownBlock) (fun _ => False) rfl rfl ?aP (fun _ hk => hk.elim) ?aF ?aO ?aB ?aS ?aL ?_;(case aP => exact k54_mkM _ _ _ (⟨(rd_T54 t431 x8_1).f0,(⟨(rd_T54 t431 x8_1).f1.f0,(rd_T54 t431 x8_1).f1.f1,(rd_T54 t431 x8_1).f1.f2⟩ : S27)⟩ : S54));(case aB => exact (by repeat (with_reducible first|exact HB.out|apply za|apply zb|apply zc|refine zd ?_ GE429.out|refine zd ?_ GE430.out)));(case aF => exact (fun k_ hk => Kd.fresh' (Kd.R_lt (by (with_reducible repeat (first|apply zm|apply zn|apply zo));exact HO_5.out)) k_ hk));(case aO => exact (by (with_reducible repeat (first|apply zm|apply zn|apply zo));exact HO_7.out));(case aS => exact (zB (by repeat (with_reducible first|exact HB.out|apply za|apply zb|apply zc|refine zd ?_ GE429.out|refine zd ?_ GE430.out))));(case aL => have:=LMc28.out;omega);intro v446 w29 ho hb hg hat;rw [← Ny445.out] at ho;replace HO_5:=zh (Kd.R_after (ok:=(fun _ => True)) (by (with_reducible repeat (first|apply zm|apply zn|apply zo));exact zM HO_5.out (fun _ hk => ⟨trivial,hk⟩)) hg hat);replace BK429:=zh (yw (g:=gb429) (o:=.cells #[.int .i64 a0_0,.int .i64 a0_1,.string a0_2] 27 (0,0)) (by (with_reducible repeat first|apply ze|apply zf|apply zg);exact BK429.out) hg (Kd.R_ne HO_7.out BK429.out (by decide)));replace BK430:=zh (yw (g:=gb430) (o:=.cells #[.int .i64 0,.int .i64 0,.string (⟨#[]⟩ : ByteArray)] 27 (0,0)) (by (with_reducible repeat first|apply ze|apply zf|apply zg);exact BK430.out) hg (Kd.R_ne HO_7.out BK430.out (by decide)));replace HB:=zh (hb);have HO447:=zh (ho);clear HO_7 ho hb hg hat)))
           go_roundg k2
           case measure => have:=HK1.out;have:=HK2.out;omega
           case rel => exact ⟨(y445),(wrap64 (x8_1 + 1)),(by first|rfl|(simp;done)|(simp [*];done)),H',⟨by have:=HK1.out;have:=HK2.out;omega⟩,⟨by (with_reducible repeat (first|apply zm|apply zn|apply zo));exact zM HO_5.out (fun _ hk => hk.2)⟩,⟨by (with_reducible repeat (first|apply zm|apply zn|apply zo));exact HO447.out⟩,⟨by (with_reducible repeat first|apply ze|apply zf|apply zg);exact BK429.out⟩,⟨by (with_reducible repeat first|apply ze|apply zf|apply zg);exact BK430.out⟩,⟨by repeat (with_reducible first|exact HB.out|apply za|apply zb|apply zc|refine zd ?_ GE429.out|refine zd ?_ GE430.out)⟩⟩
          rw [if_neg c28] at H;exact absurd H (by simp)
         rw [if_neg c27] at H;exact absurd H (by simp)
        rw [if_neg c26] at H;exact absurd H (by simp)
       replace c25:=yb.mpr c25;subst c25;have H1 : (F9.l0 k2 l1 t431 x7_1 (wrap64 (x8_1 + 1)))=some (r1,r2,r3):=by rw [if_neg (show ¬ (false=true) by decide)] at H;exact H
       clear H;have H:=H1;clear H1;have H':=zh H;clear H
       go_wp2
       repeat (go_quiet (fail);try go_wp2)
       go_roundg k2
       case measure => have:=HK1.out;have:=HK2.out;omega
       case rel => exact ⟨(x7_1),(wrap64 (x8_1 + 1)),(by first|rfl|(simp;done)|(simp [*];done)),H',⟨by have:=HK1.out;have:=HK2.out;omega⟩,⟨by (with_reducible repeat (first|apply zm|apply zn|apply zo));exact HO_5.out⟩,⟨by (with_reducible repeat (first|apply zm|apply zn|apply zo));exact HO_7.out⟩,⟨by (with_reducible repeat first|apply ze|apply zf|apply zg);exact BK429.out⟩,⟨by (with_reducible repeat first|apply ze|apply zf|apply zg);exact BK430.out⟩,⟨by repeat (with_reducible first|exact HB.out|apply za|apply zb|apply zc|refine zd ?_ GE429.out|refine zd ?_ GE430.out)⟩⟩
    rw [if_neg c18] at H;exact absurd H (by simp)
   rw [if_neg c17] at H;have c17b0 : decide (x8_1<(t431.length : Int))=false:=decide_eq_false c17;clear c17;replace H:=zT.mp H;obtain ⟨⟨t438,t439,t440⟩,A300,H⟩:=H;replace H : (some (t438,t439,t440))=some (r1,r2,r3):=H;have A30:=zh A300;clear A300;simp only [Option.some.injEq,Prod.mk.injEq] at H;obtain ⟨rfl,rfl,rfl⟩:=H;obtain ⟨Ao31,co31,eo31⟩:=yk HO_5.out;subst eo31;obtain ⟨Ao32,co32,eo32⟩:=yk HO_7.out;subst eo32
   go_wp2_with (first|(go_at_call 33;(with_reducible refine (Fg.calls k1  _ _ x7_1 t438 t439 t440 _ ?side1 ?side2 A30.out).mono ?_);(case side1 => repeat (first|exact (yh HO_7.out).2.2|(with_reducible refine Kd.C_alloc ?_ _)|(with_reducible refine Kd.C_drewN ?_ _)|(with_reducible refine Kd.C_drew ?_)));(case side2 => exact (yh HO_7.out).2.1);rintro e w33 ⟨rfl,hb⟩;replace HO_5:=zh (yg (by (with_reducible repeat (first|apply zm|apply zn|apply zo));exact HO_5.out) hb);replace HO_7:=zh (yg (by (with_reducible repeat (first|apply zm|apply zn|apply zo));exact HO_7.out) hb);replace BK429:=zh (cD BK429.out (by (with_reducible repeat first|apply ze|apply zf|apply zg);exact BK429.out) hb);replace BK430:=zh (cD BK430.out (by (with_reducible repeat first|apply ze|apply zf|apply zg);exact BK430.out) hb);replace HB:=zh (zC (by repeat (with_reducible first|exact HB.out|apply za|apply zb|apply zc|refine zd ?_ GE429.out|refine zd ?_ GE430.out)) hb);(try clear hb);(try clear hb2);(try clear hk);(try clear hi);have hnb34:=NB430_429.out;have hnc34:=NB429_430.out;obtain ⟨hcz35_0,hcz35_1,hcz35_2,hfz35_0,hfz35_1,hfz35_2⟩:=cB3 BK430.out))
   repeat (go_quiet (first|(go_at_call 33;(with_reducible refine (Fg.calls k1  _ _ x7_1 t438 t439 t440 _ ?side1 ?side2 A30.out).mono ?_);(case side1 => repeat (first|exact (yh HO_7.out).2.2|(with_reducible refine Kd.C_alloc ?_ _)|(with_reducible refine Kd.C_drewN ?_ _)|(with_reducible refine Kd.C_drew ?_)));(case side2 => exact (yh HO_7.out).2.1);rintro e w33 ⟨rfl,hb⟩;replace HO_5:=zh (yg (by (with_reducible repeat (first|apply zm|apply zn|apply zo));exact HO_5.out) hb);replace HO_7:=zh (yg (by (with_reducible repeat (first|apply zm|apply zn|apply zo));exact HO_7.out) hb);replace BK429:=zh (cD BK429.out (by (with_reducible repeat first|apply ze|apply zf|apply zg);exact BK429.out) hb);replace BK430:=zh (cD BK430.out (by (with_reducible repeat first|apply ze|apply zf|apply zg);exact BK430.out) hb);replace HB:=zh (zC (by repeat (with_reducible first|exact HB.out|apply za|apply zb|apply zc|refine zd ?_ GE429.out|refine zd ?_ GE430.out)) hb);(try clear hb);(try clear hb2);(try clear hk);(try clear hi);have hnb34:=NB430_429.out;have hnc34:=NB429_430.out;obtain ⟨hcz35_0,hcz35_1,hcz35_2,hfz35_0,hfz35_1,hfz35_2⟩:=cB3 BK430.out));try go_wp2_with (first|(go_at_call 33;(with_reducible refine (Fg.calls k1  _ _ x7_1 t438 t439 t440 _ ?side1 ?side2 A30.out).mono ?_);(case side1 => repeat (first|exact (yh HO_7.out).2.2|(with_reducible refine Kd.C_alloc ?_ _)|(with_reducible refine Kd.C_drewN ?_ _)|(with_reducible refine Kd.C_drew ?_)));(case side2 => exact (yh HO_7.out).2.1);rintro e w33 ⟨rfl,hb⟩;replace HO_5:=zh (yg (by (with_reducible repeat (first|apply zm|apply zn|apply zo));exact HO_5.out) hb);replace HO_7:=zh (yg (by (with_reducible repeat (first|apply zm|apply zn|apply zo));exact HO_7.out) hb);replace BK429:=zh (cD BK429.out (by (with_reducible repeat first|apply ze|apply zf|apply zg);exact BK429.out) hb);replace BK430:=zh (cD BK430.out (by (with_reducible repeat first|apply ze|apply zf|apply zg);exact BK430.out) hb);replace HB:=zh (zC (by repeat (with_reducible first|exact HB.out|apply za|apply zb|apply zc|refine zd ?_ GE429.out|refine zd ?_ GE430.out)) hb);(try clear hb);(try clear hb2);(try clear hk);(try clear hi);have hnb34:=NB430_429.out;have hnc34:=NB429_430.out;obtain ⟨hcz35_0,hcz35_1,hcz35_2,hfz35_0,hfz35_1,hfz35_2⟩:=cB3 BK430.out)))
   refine bodyPost_ret (results_cell_row rfl _ _ gb430 27 #[.int .i64 t438,.int .i64 t439,.string t440] (0,0) _ rfl (by (with_reducible repeat first|apply ze|apply zf|apply zg);refine zL (cs:=#[.int .i64 t438,.int .i64 t439,.string (⟨#[]⟩ : ByteArray)]) ?_ 2 _ rfl;(with_reducible repeat first|apply ze|apply zf|apply zg);refine zL (cs:=#[.int .i64 t438,.int .i64 0,.string (⟨#[]⟩ : ByteArray)]) ?_ 1 _ rfl;(with_reducible repeat first|apply ze|apply zf|apply zg);refine zL (cs:=#[.int .i64 0,.int .i64 0,.string (⟨#[]⟩ : ByteArray)]) ?_ 0 _ rfl;(with_reducible repeat first|apply ze|apply zf|apply zg);exact BK430.out) Try.underlying27 rfl (by kernel_rfl)) rfl ?_;exact ⟨by first|rfl|(simp [yt,yu] <;> rfl)|(simp [*,yt,yu] <;> rfl),by repeat (with_reducible first|exact HB.out|apply za|apply zb|apply zc|refine zd ?_ GE429.out|refine zd ?_ GE430.out)⟩

end Go.Proofs.Ytaoihmompioncaa.Q
end

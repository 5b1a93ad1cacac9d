/- Texts of this claim, merged by a program of this session. -/
import Derived.Test.YthjgfjlogilleaaGreatDoorKLawFnExactReadOKp22
section
namespace Go.Proofs.YthjgfjlogilleaaGreatDoor.Q
open Go.RowKit Go.Proofs.YthjgfjlogilleaaGreatDoorW.PrintWords Go.Proofs.YthjgfjlogilleaaGreatDoorW.PrintLast Go.Proofs.YthjgfjlogilleaaGreatDoorW.PrintMore
attribute [local go_sem] max2_int min2_int max_two min_two max_three min_three max_four min_four max2_str min2_str str_geq str_gtr str_leq   -- for this text's walks alone
set_option linter.unusedVariables false
set_option linter.unusedSimpArgs false

mutual
def F0.j0 : Nat→Int→List (S49)→Bool→Option (Bool)
 | 0,_,_,_ => none
 | k + 1,x1,x5,x78 => if x78=true then (some false) else (F0.l0 k x1 x5 0)
def F0.l0 : Nat→Int→List (S49)→Int→Option (Bool)
 | 0,_,_,_ => none
 | k + 1,x1,x5,x7 => if x7<(x5.length : Int) then (if 0≤x7 then ((F0.f k ((rd_T49 x5 x7).f0) ((rd_T49 x5 x7).f1) ((rd_T49 x5 x7).f2) (wrap64 (x1 - 1))).bind fun t176 => (if t176=true then (F0.l0 k x1 x5 (wrap64 (x7 + 1))) else (some false))) else (none)) else (some true)
def F0.j2 : Nat→Int→List (S87)→Bool→Option (Bool)
 | 0,_,_,_ => none
 | k + 1,x1,x8,x117 => if x117=true then (some false) else (F0.l1 k x1 x8 0)
def F0.l1 : Nat→Int→List (S87)→Int→Option (Bool)
 | 0,_,_,_ => none
 | k + 1,x1,x8,x10 => if x10<(x8.length : Int) then (if 0≤x10 then ((F00.f k ((rd_T87 x8 x10).f0)).bind fun t182 => (if t182=true then (if x10 > 0 then (if 0≤(wrap64 (x10 - 1)) then (if (wrap64 (x10 - 1))<(x8.length : Int) then (if ((Op.bytesLess (((rd_T87 x8 (wrap64 (x10 - 1))).f0).toList) (((rd_T87 x8 x10).f0).toList))=true) then ((F0.f k ((rd_T87 x8 x10).f1.f0) ((rd_T87 x8 x10).f1.f1) ((rd_T87 x8 x10).f1.f2) (wrap64 (x1 - 1))).bind fun t186 => (if t186=true then (F0.l1 k x1 x8 (wrap64 (x10 + 1))) else (some false))) else (some false)) else (none)) else (none)) else ((F0.f k ((rd_T87 x8 x10).f1.f0) ((rd_T87 x8 x10).f1.f1) ((rd_T87 x8 x10).f1.f2) (wrap64 (x1 - 1))).bind fun t188 => (if t188=true then (F0.l1 k x1 x8 (wrap64 (x10 + 1))) else (some false)))) else (some false))) else (none)) else (some true)
def F0.f : Nat→Int→Int→ByteArray→Int→Option (Bool)
 | 0,_,_,_,_ => none
 | k + 1,a0_0,a0_1,a0_2,a1 => if a0_0=0 then (if a0_1=0 then (some (a0_2.toList == ([] : List UInt8))) else (some false)) else (if a0_0=1 then ((F09.f a0_1 0 1).bind fun t169 => (if t169=true then (some (a0_2.toList == ([] : List UInt8))) else (some false))) else (if a0_0=2 then ((F09.f a0_1 (-1000000000000) 1000000000000).bind fun t170 => (if t170=true then (some (a0_2.toList == ([] : List UInt8))) else (some false))) else (if a0_0=3 then (if a0_1=0 then (some (decide ((a0_2.size : Int)≤300))) else (some false)) else (if a0_0=4 then ((Fo.f k a0_2).bind fun bt171 => (if a0_1=0 then (if bt171.2=true then (if (a0_2.size : Int) > 300 then (F0.j0 k a1 bt171.1 true) else (F0.j0 k a1 bt171.1 (a1 == 0))) else (F0.j0 k a1 bt171.1 true)) else (F0.j0 k a1 bt171.1 true))) else (if a0_0=5 then ((Fn.f k a0_2).bind fun bt177 => (if a0_1=0 then (if bt177.2=true then (if (a0_2.size : Int) > 300 then (F0.j2 k a1 bt177.1 true) else (F0.j2 k a1 bt177.1 (a1 == 0))) else (F0.j2 k a1 bt177.1 true)) else (F0.j2 k a1 bt177.1 true))) else (some false))))))
end
theorem F0.mono_l : ∀ k,(∀ y0 y1 y2 y3,LeO (F0.f k y0 y1 y2 y3) (F0.f (k + 1) y0 y1 y2 y3))∧(∀ y0 y1 y2,LeO (F0.j0 k y0 y1 y2) (F0.j0 (k + 1) y0 y1 y2))∧(∀ y0 y1 y2,LeO (F0.l0 k y0 y1 y2) (F0.l0 (k + 1) y0 y1 y2))∧(∀ y0 y1 y2,LeO (F0.j2 k y0 y1 y2) (F0.j2 (k + 1) y0 y1 y2))∧(∀ y0 y1 y2,LeO (F0.l1 k y0 y1 y2) (F0.l1 (k + 1) y0 y1 y2))
 | 0 => ⟨fun _ _ _ _ r h => by simp [F0.f] at h,fun _ _ _ r h => by simp [F0.j0] at h,fun _ _ _ r h => by simp [F0.l0] at h,fun _ _ _ r h => by simp [F0.j2] at h,fun _ _ _ r h => by simp [F0.l1] at h⟩
 | k + 1 => by
  obtain ⟨ih0,ih1,ih2,ih3,ih4⟩:=F0.mono_l k;refine ⟨?_,?_,?_,?_,?_⟩
  ·
   intro y0 y1 y2 y3
   unfold F0.f
   repeat' first|(with_reducible first|exact ih0 _ _ _ _|exact ih1 _ _ _|exact ih2 _ _ _|exact ih3 _ _ _|exact ih4 _ _ _|exact F00.mono _ _|exact Fo.mono _ _|exact Fn.mono _ _|exact zQ _|exact zN _|refine zP ?_ ?_|refine zO ?_ (fun _ => ?_))|refine zP ?_ ?_|refine zO ?_ (fun _ => ?_)
  ·
   intro y0 y1 y2
   unfold F0.j0
   repeat' first|(with_reducible first|exact ih0 _ _ _ _|exact ih1 _ _ _|exact ih2 _ _ _|exact ih3 _ _ _|exact ih4 _ _ _|exact F00.mono _ _|exact Fo.mono _ _|exact Fn.mono _ _|exact zQ _|exact zN _|refine zP ?_ ?_|refine zO ?_ (fun _ => ?_))|refine zP ?_ ?_|refine zO ?_ (fun _ => ?_)
  ·
   intro y0 y1 y2
   unfold F0.l0
   repeat' first|(with_reducible first|exact ih0 _ _ _ _|exact ih1 _ _ _|exact ih2 _ _ _|exact ih3 _ _ _|exact ih4 _ _ _|exact F00.mono _ _|exact Fo.mono _ _|exact Fn.mono _ _|exact zQ _|exact zN _|refine zP ?_ ?_|refine zO ?_ (fun _ => ?_))|refine zP ?_ ?_|refine zO ?_ (fun _ => ?_)
  ·
   intro y0 y1 y2
   unfold F0.j2
   repeat' first|(with_reducible first|exact ih0 _ _ _ _|exact ih1 _ _ _|exact ih2 _ _ _|exact ih3 _ _ _|exact ih4 _ _ _|exact F00.mono _ _|exact Fo.mono _ _|exact Fn.mono _ _|exact zQ _|exact zN _|refine zP ?_ ?_|refine zO ?_ (fun _ => ?_))|refine zP ?_ ?_|refine zO ?_ (fun _ => ?_)
  intro y0 y1 y2;unfold F0.l1
  repeat' first|(with_reducible first|exact ih0 _ _ _ _|exact ih1 _ _ _|exact ih2 _ _ _|exact ih3 _ _ _|exact ih4 _ _ _|exact F00.mono _ _|exact Fo.mono _ _|exact Fn.mono _ _|exact zQ _|exact zN _|refine zP ?_ ?_|refine zO ?_ (fun _ => ?_))|refine zP ?_ ?_|refine zO ?_ (fun _ => ?_)
theorem F0.mono : ∀ a0 a1 a2 a3 k,LeO (F0.f k a0 a1 a2 a3) (F0.f (k + 1) a0 a1 a2 a3):=by
 intro a0 a1 a2 a3 k;obtain ⟨ih0,ih1,ih2,ih3,ih4⟩:=F0.mono_l k;exact ih0 a0 a1 a2 a3
def F0.T27 : Bool×List (List Nat×List Nat):=(true,[([],[]),([],[]),([0,1],[0,1]),([2],[2]),([3],[3]),([4],[4]),([5],[5]),([6,5],[6]),([7],[7]),([8,7],[7,8]),([9,7,7],[7,9]),([10],[10]),([10],[10]),([12,10],[10,12]),([11,13,10],[10,11,13]),([14,10],[10,14]),([15,10],[10,15]),([10],[10]),([10],[10]),([17,18,10],[10,17,18]),([19,10],[10,19]),([20,10],[10,20]),([16,21,10],[10,16,21]),([10,22,7],[7,10,22]),([7,23],[7,23]),([24,10],[24]),([25],[25]),([25],[25]),([26,27,25],[25,26,27]),([28,25],[25,28]),([29,25],[25,29]),([25],[25]),([31,25],[25,31]),([30,32,25,25],[25,30,32]),([33,25],[25,33]),([25,34],[25,34])])
def F0.B27 : List Nat:=[0,0,3,7,15,31,63,127,255,511,1023,2047,2047,6143,16383,32767,65535,2047,2047,395263,919551,1968127,4194303,8388607,16777215,33554431,67108863,67108863,268435455,536870911,1073741823,67108863,2214592511,8589934591,17179869183,34359738367]
theorem F0.tab27 : rtab .any (opsOf Tryz.f41 27)=F0.T27:=by kernel_rfl
theorem F0.bits27 : waitsOk F0.T27.2 F0.B27=true:=by kernel_rfl
set_option maxHeartbeats 8000000 in
set_option maxRecDepth 100000 in
theorem F0.calls (k : Nat) : ∀ (a0_0 : Int) (a0_1 : Int) (a0_2 : ByteArray) (a1 : Int) (r : Bool) (w : World) (h : F0.f k a0_0 a0_1 a0_2 a1=some r),
  Calls Tryz.prog 41 #[.agg #[.int .i64 a0_0,.int .i64 a0_1,.string a0_2],.int .i64 a1] w fun e w' => e = .returned (.bool r)∧Below w.heap.size w w':=by
 induction k using Nat.strongRecOn with
 | _ k ih =>
 intro a0_0 a0_1 a0_2 a1 r w h
 cases k with
 | zero => exact absurd h (by simp [F0.f])
 | succ k =>
 simp only [F0.f] at h;have hu49:=Tryz.underlying49;have HB:=zh (Below.refl w.heap.size w);have H : (if a0_0=0 then (if a0_1=0 then (some (a0_2.toList == ([] : List UInt8))) else (some false)) else (if a0_0=1 then ((F09.f a0_1 0 1).bind fun t169 => (if t169=true then (some (a0_2.toList == ([] : List UInt8))) else (some false))) else (if a0_0=2 then ((F09.f a0_1 (-1000000000000) 1000000000000).bind fun t170 => (if t170=true then (some (a0_2.toList == ([] : List UInt8))) else (some false))) else (if a0_0=3 then (if a0_1=0 then (some (decide ((a0_2.size : Int)≤300))) else (some false)) else (if a0_0=4 then ((Fo.f k a0_2).bind fun bt171 => (if a0_1=0 then (if bt171.2=true then (if (a0_2.size : Int) > 300 then (F0.j0 k a1 bt171.1 true) else (F0.j0 k a1 bt171.1 (a1 == 0))) else (F0.j0 k a1 bt171.1 true)) else (F0.j0 k a1 bt171.1 true))) else (if a0_0=5 then ((Fn.f k a0_2).bind fun bt177 => (if a0_1=0 then (if bt177.2=true then (if (a0_2.size : Int) > 300 then (F0.j2 k a1 bt177.1 true) else (F0.j2 k a1 bt177.1 (a1 == 0))) else (F0.j2 k a1 bt177.1 true)) else (F0.j2 k a1 bt177.1 true))) else (some false)))))))=some r:=h;clear h
 by_cases c3 : a0_0=0
 ·
  rw [if_pos c3] at H
  have c3b0 : (a0_0 == 0)=true:=ya.mpr c3;have c3b1 : (a0_0 != 0)=false:=zX.mpr c3;clear c3
  by_cases c4 : a0_1=0
  ·
   rw [if_pos c4] at H
   have c4b0 : (a0_1 == 0)=true:=ya.mpr c4;have c4b1 : (a0_1 != 0)=false:=zX.mpr c4;clear c4;obtain rfl:=zU H
   go_enter Tryz.func41,Tryz.ntmps41
   go_wp2_with (first|((with_reducible refine zK (N:=2) rfl ?_);(try (refine yz (by rfl) ?_;dsimp only));refine zI ?hg (N:=2) ?hd (cs:=#[.int .i64 a0_0,.int .i64 a0_1,.string a0_2]) (t:=49) ?hr ?_;(case hd => rfl);(case hg => rfl);(case hr => first|(go_simp;done)|(go_simp;rfl));intro gb168 hg w5 hbox hb;have BK168:=zh (hbox);have GW168:=zh ((by rw [hg];exact (zB (by repeat (with_reducible first|exact HB.out|apply za|apply zb|apply zc))) : w.heap.size≤gb168));have GE168:=zh ((by rw [hg];exact (zB (by repeat (with_reducible first|exact HB.out|apply za|apply zb|apply zc))) : w.heap.size≤gb168));replace HB:=zh (zC (by repeat (with_reducible first|exact HB.out|apply za|apply zb|apply zc)) hb);clear hb hbox hg;have hcz6_0 : w5.cell? ⟨gb168,0,none⟩=some (.int .i64 a0_0):=(zz BK168.out 0).trans rfl;have hcz6_1 : w5.cell? ⟨gb168,1,none⟩=some (.int .i64 a0_1):=(zz BK168.out 1).trans rfl;have hcz6_2 : w5.cell? ⟨gb168,2,none⟩=some (.string a0_2):=(zz BK168.out 2).trans rfl;have hfz6_0:=zA BK168.out 0;have hfz6_1:=zA BK168.out 1;have hfz6_2:=zA BK168.out 2))
   go_ret
   exact ⟨by first|rfl|(simp [yt,yu] <;> rfl)|(simp [*,yt,yu] <;> rfl),by repeat (with_reducible first|exact HB.out|apply za|apply zb|apply zc|refine zd ?_ GE168.out)⟩
  rw [if_neg c4] at H;have c4b0 : (a0_1 == 0)=false:=zY.mpr c4;have c4b1 : (a0_1 != 0)=true:=zZ.mpr c4;obtain rfl:=zU H
  go_enter Tryz.func41,Tryz.ntmps41
  go_wp2_with (first|((with_reducible refine zK (N:=2) rfl ?_);(try (refine yz (by rfl) ?_;dsimp only));refine zI ?hg (N:=2) ?hd (cs:=#[.int .i64 a0_0,.int .i64 a0_1,.string a0_2]) (t:=49) ?hr ?_;(case hd => rfl);(case hg => rfl);(case hr => first|(go_simp;done)|(go_simp;rfl));intro gb168 hg w7 hbox hb;have BK168:=zh (hbox);have GW168:=zh ((by rw [hg];exact (zB (by repeat (with_reducible first|exact HB.out|apply za|apply zb|apply zc))) : w.heap.size≤gb168));have GE168:=zh ((by rw [hg];exact (zB (by repeat (with_reducible first|exact HB.out|apply za|apply zb|apply zc))) : w.heap.size≤gb168));replace HB:=zh (zC (by repeat (with_reducible first|exact HB.out|apply za|apply zb|apply zc)) hb);clear hb hbox hg;have hcz8_0 : w7.cell? ⟨gb168,0,none⟩=some (.int .i64 a0_0):=(zz BK168.out 0).trans rfl;have hcz8_1 : w7.cell? ⟨gb168,1,none⟩=some (.int .i64 a0_1):=(zz BK168.out 1).trans rfl;have hcz8_2 : w7.cell? ⟨gb168,2,none⟩=some (.string a0_2):=(zz BK168.out 2).trans rfl;have hfz8_0:=zA BK168.out 0;have hfz8_1:=zA BK168.out 1;have hfz8_2:=zA BK168.out 2))
  go_ret
  exact ⟨by first|rfl|(simp [yt,yu] <;> rfl)|(simp [*,yt,yu] <;> rfl),by repeat (with_reducible first|exact HB.out|apply za|apply zb|apply zc|refine zd ?_ GE168.out)⟩
 rw [if_neg c3] at H;have c3b0 : (a0_0 == 0)=false:=zY.mpr c3;have c3b1 : (a0_0 != 0)=true:=zZ.mpr c3
 by_cases c9 : a0_0=1
 ·
  rw [if_pos c9] at H
  have c9b0 : (a0_0 == 1)=true:=ya.mpr c9;have c9b1 : (a0_0 != 1)=false:=zX.mpr c9;clear c9;replace H:=zT.mp H;obtain ⟨t169,A100,H⟩:=H;replace H : (if t169=true then (some (a0_2.toList == ([] : List UInt8))) else (some false))=some r:=H;have A10:=zh A100;clear A100
  by_cases c11 : t169=true
  ·
   subst c11
   have H1 : (some (a0_2.toList == ([] : List UInt8)))=some r:=by rw [if_pos rfl] at H;exact H
   clear H;have H:=H1;clear H1;obtain rfl:=zU H
   go_enter Tryz.func41,Tryz.ntmps41
   go_wp2_with (first|((with_reducible refine zK (N:=2) rfl ?_);(try (refine yz (by rfl) ?_;dsimp only));refine zI ?hg (N:=2) ?hd (cs:=#[.int .i64 a0_0,.int .i64 a0_1,.string a0_2]) (t:=49) ?hr ?_;(case hd => rfl);(case hg => rfl);(case hr => first|(go_simp;done)|(go_simp;rfl));intro gb168 hg w12 hbox hb;have BK168:=zh (hbox);have GW168:=zh ((by rw [hg];exact (zB (by repeat (with_reducible first|exact HB.out|apply za|apply zb|apply zc))) : w.heap.size≤gb168));have GE168:=zh ((by rw [hg];exact (zB (by repeat (with_reducible first|exact HB.out|apply za|apply zb|apply zc))) : w.heap.size≤gb168));replace HB:=zh (zC (by repeat (with_reducible first|exact HB.out|apply za|apply zb|apply zc)) hb);clear hb hbox hg;have hcz13_0 : w12.cell? ⟨gb168,0,none⟩=some (.int .i64 a0_0):=(zz BK168.out 0).trans rfl;have hcz13_1 : w12.cell? ⟨gb168,1,none⟩=some (.int .i64 a0_1):=(zz BK168.out 1).trans rfl;have hcz13_2 : w12.cell? ⟨gb168,2,none⟩=some (.string a0_2):=(zz BK168.out 2).trans rfl;have hfz13_0:=zA BK168.out 0;have hfz13_1:=zA BK168.out 1;have hfz13_2:=zA BK168.out 2)|((with_reducible refine zJ (f:=16) rfl ?_);refine yj (some 27) rfl rfl Tryz.func16 (by kernel_rfl) rfl #[.int .i64 a0_1,.int .i64 0,.int .i64 1] rfl (by (try simp only [zt,zu,zv]);first|done|rfl|(simp only [zw,zx];rfl)|(simp only [yr,ys,zV,zW];rfl)) ?_;(with_reducible refine (F09.calls  a0_1 0 1 true _ A10.out).mono ?_);rintro e w' ⟨rfl,⟨nd,rfl⟩⟩;refine ⟨_,rfl,?_⟩))
   go_ret
   exact ⟨by first|rfl|(simp [yt,yu] <;> rfl)|(simp [*,yt,yu] <;> rfl),by repeat (with_reducible first|exact HB.out|apply za|apply zb|apply zc|refine zd ?_ GE168.out)⟩
  replace c11:=yb.mpr c11;subst c11;have H1 : (some false)=some r:=by rw [if_neg (show ¬ (false=true) by decide)] at H;exact H
  clear H;have H:=H1;clear H1;obtain rfl:=zU H
  go_enter Tryz.func41,Tryz.ntmps41
  go_wp2_with (first|((with_reducible refine zK (N:=2) rfl ?_);(try (refine yz (by rfl) ?_;dsimp only));refine zI ?hg (N:=2) ?hd (cs:=#[.int .i64 a0_0,.int .i64 a0_1,.string a0_2]) (t:=49) ?hr ?_;(case hd => rfl);(case hg => rfl);(case hr => first|(go_simp;done)|(go_simp;rfl));intro gb168 hg w14 hbox hb;have BK168:=zh (hbox);have GW168:=zh ((by rw [hg];exact (zB (by repeat (with_reducible first|exact HB.out|apply za|apply zb|apply zc))) : w.heap.size≤gb168));have GE168:=zh ((by rw [hg];exact (zB (by repeat (with_reducible first|exact HB.out|apply za|apply zb|apply zc))) : w.heap.size≤gb168));replace HB:=zh (zC (by repeat (with_reducible first|exact HB.out|apply za|apply zb|apply zc)) hb);clear hb hbox hg;have hcz15_0 : w14.cell? ⟨gb168,0,none⟩=some (.int .i64 a0_0):=(zz BK168.out 0).trans rfl;have hcz15_1 : w14.cell? ⟨gb168,1,none⟩=some (.int .i64 a0_1):=(zz BK168.out 1).trans rfl;have hcz15_2 : w14.cell? ⟨gb168,2,none⟩=some (.string a0_2):=(zz BK168.out 2).trans rfl;have hfz15_0:=zA BK168.out 0;have hfz15_1:=zA BK168.out 1;have hfz15_2:=zA BK168.out 2)|((with_reducible refine zJ (f:=16) rfl ?_);refine yj (some 27) rfl rfl Tryz.func16 (by kernel_rfl) rfl #[.int .i64 a0_1,.int .i64 0,.int .i64 1] rfl (by (try simp only [zt,zu,zv]);first|done|rfl|(simp only [zw,zx];rfl)|(simp only [yr,ys,zV,zW];rfl)) ?_;(with_reducible refine (F09.calls  a0_1 0 1 false _ A10.out).mono ?_);rintro e w' ⟨rfl,⟨nd,rfl⟩⟩;refine ⟨_,rfl,?_⟩))
  go_ret
  exact ⟨by first|rfl|(simp [yt,yu] <;> rfl)|(simp [*,yt,yu] <;> rfl),by repeat (with_reducible first|exact HB.out|apply za|apply zb|apply zc|refine zd ?_ GE168.out)⟩
 rw [if_neg c9] at H;have c9b0 : (a0_0 == 1)=false:=zY.mpr c9;have c9b1 : (a0_0 != 1)=true:=zZ.mpr c9
 by_cases c16 : a0_0=2
 ·
  rw [if_pos c16] at H
  have c16b0 : (a0_0 == 2)=true:=ya.mpr c16;have c16b1 : (a0_0 != 2)=false:=zX.mpr c16;clear c16;replace H:=zT.mp H;obtain ⟨t170,A170,H⟩:=H;replace H : (if t170=true then (some (a0_2.toList == ([] : List UInt8))) else (some false))=some r:=H;have A17:=zh A170;clear A170
  by_cases c18 : t170=true
  ·
   subst c18
   have H1 : (some (a0_2.toList == ([] : List UInt8)))=some r:=by rw [if_pos rfl] at H;exact H
   clear H;have H:=H1;clear H1;obtain rfl:=zU H
   go_enter Tryz.func41,Tryz.ntmps41
   go_wp2_with (first|((with_reducible refine zK (N:=2) rfl ?_);(try (refine yz (by rfl) ?_;dsimp only));refine zI ?hg (N:=2) ?hd (cs:=#[.int .i64 a0_0,.int .i64 a0_1,.string a0_2]) (t:=49) ?hr ?_;(case hd => rfl);(case hg => rfl);(case hr => first|(go_simp;done)|(go_simp;rfl));intro gb168 hg w19 hbox hb;have BK168:=zh (hbox);have GW168:=zh ((by rw [hg];exact (zB (by repeat (with_reducible first|exact HB.out|apply za|apply zb|apply zc))) : w.heap.size≤gb168));have GE168:=zh ((by rw [hg];exact (zB (by repeat (with_reducible first|exact HB.out|apply za|apply zb|apply zc))) : w.heap.size≤gb168));replace HB:=zh (zC (by repeat (with_reducible first|exact HB.out|apply za|apply zb|apply zc)) hb);clear hb hbox hg;have hcz20_0 : w19.cell? ⟨gb168,0,none⟩=some (.int .i64 a0_0):=(zz BK168.out 0).trans rfl;have hcz20_1 : w19.cell? ⟨gb168,1,none⟩=some (.int .i64 a0_1):=(zz BK168.out 1).trans rfl;have hcz20_2 : w19.cell? ⟨gb168,2,none⟩=some (.string a0_2):=(zz BK168.out 2).trans rfl;have hfz20_0:=zA BK168.out 0;have hfz20_1:=zA BK168.out 1;have hfz20_2:=zA BK168.out 2)|((with_reducible refine zJ (f:=16) rfl ?_);refine yj (some 37) rfl rfl Tryz.func16 (by kernel_rfl) rfl #[.int .i64 a0_1,.int .i64 (-1000000000000),.int .i64 1000000000000] rfl (by (try simp only [zt,zu,zv]);first|done|rfl|(simp only [zw,zx];rfl)|(simp only [yr,ys,zV,zW];rfl)) ?_;(with_reducible refine (F09.calls  a0_1 (-1000000000000) 1000000000000 true _ A17.out).mono ?_);rintro e w' ⟨rfl,⟨nd,rfl⟩⟩;refine ⟨_,rfl,?_⟩))
   go_ret
   exact ⟨by first|rfl|(simp [yt,yu] <;> rfl)|(simp [*,yt,yu] <;> rfl),by repeat (with_reducible first|exact HB.out|apply za|apply zb|apply zc|refine zd ?_ GE168.out)⟩
  replace c18:=yb.mpr c18;subst c18;have H1 : (some false)=some r:=by rw [if_neg (show ¬ (false=true) by decide)] at H;exact H
  clear H;have H:=H1;clear H1;obtain rfl:=zU H
  go_enter Tryz.func41,Tryz.ntmps41
  go_wp2_with (first|((with_reducible refine zK (N:=2) rfl ?_);(try (refine yz (by rfl) ?_;dsimp only));refine zI ?hg (N:=2) ?hd (cs:=#[.int .i64 a0_0,.int .i64 a0_1,.string a0_2]) (t:=49) ?hr ?_;(case hd => rfl);(case hg => rfl);(case hr => first|(go_simp;done)|(go_simp;rfl));intro gb168 hg w21 hbox hb;have BK168:=zh (hbox);have GW168:=zh ((by rw [hg];exact (zB (by repeat (with_reducible first|exact HB.out|apply za|apply zb|apply zc))) : w.heap.size≤gb168));have GE168:=zh ((by rw [hg];exact (zB (by repeat (with_reducible first|exact HB.out|apply za|apply zb|apply zc))) : w.heap.size≤gb168));replace HB:=zh (zC (by repeat (with_reducible first|exact HB.out|apply za|apply zb|apply zc)) hb);clear hb hbox hg;have hcz22_0 : w21.cell? ⟨gb168,0,none⟩=some (.int .i64 a0_0):=(zz BK168.out 0).trans rfl;have hcz22_1 : w21.cell? ⟨gb168,1,none⟩=some (.int .i64 a0_1):=(zz BK168.out 1).trans rfl;have hcz22_2 : w21.cell? ⟨gb168,2,none⟩=some (.string a0_2):=(zz BK168.out 2).trans rfl;have hfz22_0:=zA BK168.out 0;have hfz22_1:=zA BK168.out 1;have hfz22_2:=zA BK168.out 2)|((with_reducible refine zJ (f:=16) rfl ?_);refine yj (some 37) rfl rfl Tryz.func16 (by kernel_rfl) rfl #[.int .i64 a0_1,.int .i64 (-1000000000000),.int .i64 1000000000000] rfl (by (try simp only [zt,zu,zv]);first|done|rfl|(simp only [zw,zx];rfl)|(simp only [yr,ys,zV,zW];rfl)) ?_;(with_reducible refine (F09.calls  a0_1 (-1000000000000) 1000000000000 false _ A17.out).mono ?_);rintro e w' ⟨rfl,⟨nd,rfl⟩⟩;refine ⟨_,rfl,?_⟩))
  go_ret
  exact ⟨by first|rfl|(simp [yt,yu] <;> rfl)|(simp [*,yt,yu] <;> rfl),by repeat (with_reducible first|exact HB.out|apply za|apply zb|apply zc|refine zd ?_ GE168.out)⟩
 rw [if_neg c16] at H;have c16b0 : (a0_0 == 2)=false:=zY.mpr c16;have c16b1 : (a0_0 != 2)=true:=zZ.mpr c16
 by_cases c23 : a0_0=3
 ·
  rw [if_pos c23] at H
  have c23b0 : (a0_0 == 3)=true:=ya.mpr c23;have c23b1 : (a0_0 != 3)=false:=zX.mpr c23;clear c23
  by_cases c24 : a0_1=0
  ·
   rw [if_pos c24] at H
   have c24b0 : (a0_1 == 0)=true:=ya.mpr c24;have c24b1 : (a0_1 != 0)=false:=zX.mpr c24;clear c24;obtain rfl:=zU H
   go_enter Tryz.func41,Tryz.ntmps41
   go_wp2_with (first|((with_reducible refine zK (N:=2) rfl ?_);(try (refine yz (by rfl) ?_;dsimp only));refine zI ?hg (N:=2) ?hd (cs:=#[.int .i64 a0_0,.int .i64 a0_1,.string a0_2]) (t:=49) ?hr ?_;(case hd => rfl);(case hg => rfl);(case hr => first|(go_simp;done)|(go_simp;rfl));intro gb168 hg w25 hbox hb;have BK168:=zh (hbox);have GW168:=zh ((by rw [hg];exact (zB (by repeat (with_reducible first|exact HB.out|apply za|apply zb|apply zc))) : w.heap.size≤gb168));have GE168:=zh ((by rw [hg];exact (zB (by repeat (with_reducible first|exact HB.out|apply za|apply zb|apply zc))) : w.heap.size≤gb168));replace HB:=zh (zC (by repeat (with_reducible first|exact HB.out|apply za|apply zb|apply zc)) hb);clear hb hbox hg;have hcz26_0 : w25.cell? ⟨gb168,0,none⟩=some (.int .i64 a0_0):=(zz BK168.out 0).trans rfl;have hcz26_1 : w25.cell? ⟨gb168,1,none⟩=some (.int .i64 a0_1):=(zz BK168.out 1).trans rfl;have hcz26_2 : w25.cell? ⟨gb168,2,none⟩=some (.string a0_2):=(zz BK168.out 2).trans rfl;have hfz26_0:=zA BK168.out 0;have hfz26_1:=zA BK168.out 1;have hfz26_2:=zA BK168.out 2))
   go_ret
   exact ⟨by first|rfl|(simp [yt,yu] <;> rfl)|(simp [*,yt,yu] <;> rfl),by repeat (with_reducible first|exact HB.out|apply za|apply zb|apply zc|refine zd ?_ GE168.out)⟩
  rw [if_neg c24] at H;have c24b0 : (a0_1 == 0)=false:=zY.mpr c24;have c24b1 : (a0_1 != 0)=true:=zZ.mpr c24;obtain rfl:=zU H
  go_enter Tryz.func41,Tryz.ntmps41
  go_wp2_with (first|((with_reducible refine zK (N:=2) rfl ?_);(try (refine yz (by rfl) ?_;dsimp only));refine zI ?hg (N:=2) ?hd (cs:=#[.int .i64 a0_0,.int .i64 a0_1,.string a0_2]) (t:=49) ?hr ?_;(case hd => rfl);(case hg => rfl);(case hr => first|(go_simp;done)|(go_simp;rfl));intro gb168 hg w27 hbox hb;have BK168:=zh (hbox);have GW168:=zh ((by rw [hg];exact (zB (by repeat (with_reducible first|exact HB.out|apply za|apply zb|apply zc))) : w.heap.size≤gb168));have GE168:=zh ((by rw [hg];exact (zB (by repeat (with_reducible first|exact HB.out|apply za|apply zb|apply zc))) : w.heap.size≤gb168));replace HB:=zh (zC (by repeat (with_reducible first|exact HB.out|apply za|apply zb|apply zc)) hb);clear hb hbox hg;have hcz28_0 : w27.cell? ⟨gb168,0,none⟩=some (.int .i64 a0_0):=(zz BK168.out 0).trans rfl;have hcz28_1 : w27.cell? ⟨gb168,1,none⟩=some (.int .i64 a0_1):=(zz BK168.out 1).trans rfl;have hcz28_2 : w27.cell? ⟨gb168,2,none⟩=some (.string a0_2):=(zz BK168.out 2).trans rfl;have hfz28_0:=zA BK168.out 0;have hfz28_1:=zA BK168.out 1;have hfz28_2:=zA BK168.out 2))
  go_ret
  exact ⟨by first|rfl|(simp [yt,yu] <;> rfl)|(simp [*,yt,yu] <;> rfl),by repeat (with_reducible first|exact HB.out|apply za|apply zb|apply zc|refine zd ?_ GE168.out)⟩
 rw [if_neg c23] at H;have c23b0 : (a0_0 == 3)=false:=zY.mpr c23;have c23b1 : (a0_0 != 3)=true:=zZ.mpr c23
 by_cases c29 : a0_0=4
 ·
  rw [if_pos c29] at H
  have c29b0 : (a0_0 == 4)=true:=ya.mpr c29;have c29b1 : (a0_0 != 4)=false:=zX.mpr c29;clear c29;replace H:=zT.mp H;obtain ⟨⟨t171,t172⟩,A300,H⟩:=H;replace H : (if a0_1=0 then (if t172=true then (if (a0_2.size : Int) > 300 then (F0.j0 k a1 t171 true) else (F0.j0 k a1 t171 (a1 == 0))) else (F0.j0 k a1 t171 true)) else (F0.j0 k a1 t171 true))=some r:=H;have A30:=zh A300;clear A300;have HC31:=zh H;clear H
  go_enter Tryz.func41,Tryz.ntmps41
  go_upto_region 12 with (first|((with_reducible refine zK (N:=2) rfl ?_);(try (refine yz (by rfl) ?_;dsimp only));refine zI ?hg (N:=2) ?hd (cs:=#[.int .i64 a0_0,.int .i64 a0_1,.string a0_2]) (t:=49) ?hr ?_;(case hd => rfl);(case hg => rfl);(case hr => first|(go_simp;done)|(go_simp;rfl));intro gb168 hg w32 hbox hb;have BK168:=zh (hbox);have GW168:=zh ((by rw [hg];exact (zB (by repeat (with_reducible first|exact HB.out|apply za|apply zb|apply zc))) : w.heap.size≤gb168));have GE168:=zh ((by rw [hg];exact (zB (by repeat (with_reducible first|exact HB.out|apply za|apply zb|apply zc))) : w.heap.size≤gb168));replace HB:=zh (zC (by repeat (with_reducible first|exact HB.out|apply za|apply zb|apply zc)) hb);clear hb hbox hg;have hcz33_0 : w32.cell? ⟨gb168,0,none⟩=some (.int .i64 a0_0):=(zz BK168.out 0).trans rfl;have hcz33_1 : w32.cell? ⟨gb168,1,none⟩=some (.int .i64 a0_1):=(zz BK168.out 1).trans rfl;have hcz33_2 : w32.cell? ⟨gb168,2,none⟩=some (.string a0_2):=(zz BK168.out 2).trans rfl;have hfz33_0:=zA BK168.out 0;have hfz33_1:=zA BK168.out 1;have hfz33_2:=zA BK168.out 2)|((with_reducible refine zJ (f:=52) rfl ?_);refine yj (some 59) rfl rfl Tryz.func52 (by kernel_rfl) rfl #[.string a0_2] rfl (by (try simp only [zt,zu,zv]);first|done|rfl|(simp only [zw,zx];rfl)|(simp only [yr,ys,zV,zW];rfl)) ?_;(with_reducible refine (Fo.calls k  a0_2 t171 t172 _ A30.out).mono ?_);rintro e w34 ⟨v173,rfl,ho0,hb⟩;refine ⟨_,rfl,?_⟩;have HO174:=zh (yy (Kd.R_newB ho0 (g:=gb168) (o:=.cells #[.int .i64 a0_0,.int .i64 a0_1,.string a0_2] 49 (0,0)) (by (with_reducible repeat (first|refine ze ?_ _|refine zf ?_|refine zg ?_ _));exact BK168.out)) (zB (by repeat (with_reducible first|exact HB.out|apply za|apply zb|apply zc|refine zd ?_ GE168.out))));replace BK168:=zh (zD (g:=gb168) (o:=.cells #[.int .i64 a0_0,.int .i64 a0_1,.string a0_2] 49 (0,0)) (by (with_reducible repeat (first|refine ze ?_ _|refine zf ?_|refine zg ?_ _));exact BK168.out) hb);replace HB:=zh (zC (by repeat (with_reducible first|exact HB.out|apply za|apply zb|apply zc|refine zd ?_ GE168.out)) hb);(try clear hb);(try clear hb2);(try clear hk);(try clear hi);(try clear ho0)))
  (try simp only [Act.put,zi,zj,zk])
  go_cut [78] (fun v78 wc => ∃ (kq : Nat) (x78_30 : Bool),v78 = .bool x78_30∧Aside0 (F0.j0 kq a1 t171 x78_30=some r)∧Aside0 (kq≤k)∧Aside0 (Kd.R k49 49 wc w.heap.size (fun k_ => k_≠gb168) v173 t171)∧Aside0 (wc.heap[gb168]? = some (.cells #[.int .i64 a0_0,.int .i64 a0_1,.string a0_2] 49 (0,0)))∧Aside0 (Below w.heap.size w wc))
  case first =>
   have H:=HC31.out;clear HC31
   by_cases c35 : a0_1=0
   ·
    rw [if_pos c35] at H
    have c35b0 : (a0_1 == 0)=true:=ya.mpr c35;have c35b1 : (a0_1 != 0)=false:=zX.mpr c35;clear c35;(first|rw [c35b0]|(simp only [zG,zH];rw [c35b0])|skip)
    by_cases c36 : t172=true
    ·
     subst c36
     have H1 : (if (a0_2.size : Int) > 300 then (F0.j0 k a1 t171 true) else (F0.j0 k a1 t171 (a1 == 0)))=some r:=by rw [if_pos rfl] at H;exact H
     clear H;have H:=H1;clear H1
     by_cases c37 : (a0_2.size : Int) > 300
     ·
      rw [if_pos c37] at H
      have c37b0 : decide (300<(a0_2.size : Int))=true:=decide_eq_true c37;have c37b1 : decide (300<a0_2.size)=true:=decide_eq_true (by omega);clear c37;have H':=zh H;clear H;have hcz38_0 : w34.cell? ⟨gb168,0,none⟩=some (.int .i64 a0_0):=(zz BK168.out 0).trans rfl;have hcz38_1 : w34.cell? ⟨gb168,1,none⟩=some (.int .i64 a0_1):=(zz BK168.out 1).trans rfl;have hcz38_2 : w34.cell? ⟨gb168,2,none⟩=some (.string a0_2):=(zz BK168.out 2).trans rfl;have hfz38_0:=zA BK168.out 0;have hfz38_1:=zA BK168.out 1;have hfz38_2:=zA BK168.out 2
      go_wp2
      go_meet
      case rel => exact ⟨_,(true),(by first|rfl|(simp;done)|(simp [*];done)),H',⟨by first|omega|exact ye _⟩,⟨by (with_reducible repeat (first|apply zm|apply zn|apply zo));exact zM HO174.out (fun _ hk => hk.2)⟩,⟨by (with_reducible repeat (first|refine ze ?_ _|refine zf ?_|refine zg ?_ _));exact BK168.out⟩,⟨by repeat (with_reducible first|exact HB.out|apply za|apply zb|apply zc|refine zd ?_ GE168.out)⟩⟩
     rw [if_neg c37] at H;have c37b0 : decide (300<(a0_2.size : Int))=false:=decide_eq_false c37;have c37b1 : decide (300<a0_2.size)=false:=decide_eq_false (by omega);clear c37;have H':=zh H;clear H;have hcz39_0 : w34.cell? ⟨gb168,0,none⟩=some (.int .i64 a0_0):=(zz BK168.out 0).trans rfl;have hcz39_1 : w34.cell? ⟨gb168,1,none⟩=some (.int .i64 a0_1):=(zz BK168.out 1).trans rfl;have hcz39_2 : w34.cell? ⟨gb168,2,none⟩=some (.string a0_2):=(zz BK168.out 2).trans rfl;have hfz39_0:=zA BK168.out 0;have hfz39_1:=zA BK168.out 1;have hfz39_2:=zA BK168.out 2
     go_wp2
     go_meet
     case rel => exact ⟨_,((a1 == 0)),(by first|rfl|(simp;done)|(simp [*];done)),H',⟨by first|omega|exact ye _⟩,⟨by (with_reducible repeat (first|apply zm|apply zn|apply zo));exact zM HO174.out (fun _ hk => hk.2)⟩,⟨by (with_reducible repeat (first|refine ze ?_ _|refine zf ?_|refine zg ?_ _));exact BK168.out⟩,⟨by repeat (with_reducible first|exact HB.out|apply za|apply zb|apply zc|refine zd ?_ GE168.out)⟩⟩
    replace c36:=yb.mpr c36;subst c36;have H1 : (F0.j0 k a1 t171 true)=some r:=by rw [if_neg (show ¬ (false=true) by decide)] at H;exact H
    clear H;have H:=H1;clear H1;have H':=zh H;clear H;have hcz40_0 : w34.cell? ⟨gb168,0,none⟩=some (.int .i64 a0_0):=(zz BK168.out 0).trans rfl;have hcz40_1 : w34.cell? ⟨gb168,1,none⟩=some (.int .i64 a0_1):=(zz BK168.out 1).trans rfl;have hcz40_2 : w34.cell? ⟨gb168,2,none⟩=some (.string a0_2):=(zz BK168.out 2).trans rfl;have hfz40_0:=zA BK168.out 0;have hfz40_1:=zA BK168.out 1;have hfz40_2:=zA BK168.out 2
    go_wp2
    go_meet
    case rel => exact ⟨_,(true),(by first|rfl|(simp;done)|(simp [*];done)),H',⟨by first|omega|exact ye _⟩,⟨by (with_reducible repeat (first|apply zm|apply zn|apply zo));exact zM HO174.out (fun _ hk => hk.2)⟩,⟨by (with_reducible repeat (first|refine ze ?_ _|refine zf ?_|refine zg ?_ _));exact BK168.out⟩,⟨by repeat (with_reducible first|exact HB.out|apply za|apply zb|apply zc|refine zd ?_ GE168.out)⟩⟩
   rw [if_neg c35] at H;have c35b0 : (a0_1 == 0)=false:=zY.mpr c35;have c35b1 : (a0_1 != 0)=true:=zZ.mpr c35;(first|rw [c35b0]|(simp only [zG,zH];rw [c35b0])|skip);have H':=zh H;clear H;have hcz41_0 : w34.cell? ⟨gb168,0,none⟩=some (.int .i64 a0_0):=(zz BK168.out 0).trans rfl;have hcz41_1 : w34.cell? ⟨gb168,1,none⟩=some (.int .i64 a0_1):=(zz BK168.out 1).trans rfl;have hcz41_2 : w34.cell? ⟨gb168,2,none⟩=some (.string a0_2):=(zz BK168.out 2).trans rfl;have hfz41_0:=zA BK168.out 0;have hfz41_1:=zA BK168.out 1;have hfz41_2:=zA BK168.out 2
   go_wp2
   go_meet
   case rel => exact ⟨_,(true),(by first|rfl|(simp;done)|(simp [*];done)),H',⟨by first|omega|exact ye _⟩,⟨by (with_reducible repeat (first|apply zm|apply zn|apply zo));exact zM HO174.out (fun _ hk => hk.2)⟩,⟨by (with_reducible repeat (first|refine ze ?_ _|refine zf ?_|refine zg ?_ _));exact BK168.out⟩,⟨by repeat (with_reducible first|exact HB.out|apply za|apply zb|apply zc|refine zd ?_ GE168.out)⟩⟩
  case rest =>
   clear HC31
   try clear c1
   try clear c2
   try clear p2
   try clear c3
   try clear c3b0
   try clear c3b1
   try clear c4
   try clear c4b0
   try clear c4b1
   try clear c5
   try clear c9
   try clear c9b0
   try clear c9b1
   try clear c11
   try clear c16
   try clear c16b0
   try clear c16b1
   try clear c18
   try clear c23
   try clear c23b0
   try clear c23b1
   try clear c24
   try clear c24b0
   try clear c24b1
   try clear c29
   try clear c29b0
   try clear c29b1
   try clear c35
   try clear c35b0
   try clear c35b1
   try clear c36
   try clear c37
   try clear c37b0
   try clear c37b1
   try clear c41
   try clear hcz13_0
   try clear hcz13_1
   try clear hcz13_2
   try clear hcz15_0
   try clear hcz15_1
   try clear hcz15_2
   try clear hcz20_0
   try clear hcz20_1
   try clear hcz20_2
   try clear hcz22_0
   try clear hcz22_1
   try clear hcz22_2
   try clear hcz26_0
   try clear hcz26_1
   try clear hcz26_2
   try clear hcz28_0
   try clear hcz28_1
   try clear hcz28_2
   try clear hcz33_0
   try clear hcz33_1
   try clear hcz33_2
   try clear hcz38_0
   try clear hcz38_1
   try clear hcz38_2
   try clear hcz39_0
   try clear hcz39_1
   try clear hcz39_2
   try clear hcz40_0
   try clear hcz40_1
   try clear hcz40_2
   try clear hcz41_0
   try clear hcz41_1
   try clear hcz41_2
   try clear hcz6_0
   try clear hcz6_1
   try clear hcz6_2
   try clear hcz8_0
   try clear hcz8_1
   try clear hcz8_2
   try clear hfz13_0
   try clear hfz13_1
   try clear hfz13_2
   try clear hfz15_0
   try clear hfz15_1
   try clear hfz15_2
   try clear hfz20_0
   try clear hfz20_1
   try clear hfz20_2
   try clear hfz22_0
   try clear hfz22_1
   try clear hfz22_2
   try clear hfz26_0
   try clear hfz26_1
   try clear hfz26_2
   try clear hfz28_0
   try clear hfz28_1
   try clear hfz28_2
   try clear hfz33_0
   try clear hfz33_1
   try clear hfz33_2
   try clear hfz38_0
   try clear hfz38_1
   try clear hfz38_2
   try clear hfz39_0
   try clear hfz39_1
   try clear hfz39_2
   try clear hfz40_0
   try clear hfz40_1
   try clear hfz40_2
   try clear hfz41_0
   try clear hfz41_1
   try clear hfz41_2
   try clear hfz6_0
   try clear hfz6_1
   try clear hfz6_2
   try clear hfz8_0
   try clear hfz8_1
   try clear hfz8_2
   obtain ⟨kq,x78_30,rfl,HA,HJ30,HO_5,BK168,HB⟩:=hcut
   cases kq with
   | zero => exact absurd HA.out (by simp [F0.j0])
   | succ kj30 =>
    have H:=HA.out;clear HA;simp only [F0.j0] at H
    by_cases c42 : x78_30=true
    ·
     subst c42
     have H1 : (some false)=some r:=by rw [if_pos rfl] at H;exact H
     clear H;have H:=H1;clear H1;obtain rfl:=zU H
     go_wp2
     go_ret
     exact ⟨by first|rfl|(simp [yt,yu] <;> rfl)|(simp [*,yt,yu] <;> rfl),by repeat (with_reducible first|exact HB.out|apply za|apply zb|apply zc|refine zd ?_ GE168.out)⟩
    replace c42:=yb.mpr c42;subst c42;have H1 : (F0.l0 kj30 a1 t171 0)=some r:=by rw [if_neg (show ¬ (false=true) by decide)] at H;exact H
    clear H;have H:=H1;clear H1;have H':=zh H;clear H
    go_wp2
    go_loopg [7] kj30 (fun kq v7 w' => ∃ (x7_2 : Int),v7 = .int .i64 x7_2∧Aside0 (F0.l0 kq a1 t171 x7_2=some r)∧Aside0 (kq≤kj30)∧Aside0 (Kd.R k49 49 w' w.heap.size (fun k_ => k_≠gb168) v173 t171)∧Aside0 (w'.heap[gb168]? = some (.cells #[.int .i64 a0_0,.int .i64 a0_1,.string a0_2] 49 (0,0)))∧Aside0 (Below w.heap.size w w'))
    case atStart => exact ⟨(0),(by first|rfl|(simp;done)|(simp [*];done)),H',⟨ye _⟩,⟨by (with_reducible repeat (first|apply zm|apply zn|apply zo));exact HO_5.out⟩,⟨by (with_reducible repeat (first|refine ze ?_ _|refine zf ?_|refine zg ?_ _));exact BK168.out⟩,⟨by repeat (with_reducible first|exact HB.out|apply za|apply zb|apply zc|refine zd ?_ GE168.out)⟩⟩
    case round =>
     clear H'
     try clear c1
     try clear c2
     try clear p2
     try clear c3
     try clear c3b0
     try clear c3b1
     try clear c4
     try clear c4b0
     try clear c4b1
     try clear c5
     try clear c9
     try clear c9b0
     try clear c9b1
     try clear c11
     try clear c16
     try clear c16b0
     try clear c16b1
     try clear c18
     try clear c23
     try clear c23b0
     try clear c23b1
     try clear c24
     try clear c24b0
     try clear c24b1
     try clear c29
     try clear c29b0
     try clear c29b1
     try clear c35
     try clear c35b0
     try clear c35b1
     try clear c36
     try clear c37
     try clear c37b0
     try clear c37b1
     try clear c41
     try clear c42
     try clear hcz13_0
     try clear hcz13_1
     try clear hcz13_2
     try clear hcz15_0
     try clear hcz15_1
     try clear hcz15_2
     try clear hcz20_0
     try clear hcz20_1
     try clear hcz20_2
     try clear hcz22_0
     try clear hcz22_1
     try clear hcz22_2
     try clear hcz26_0
     try clear hcz26_1
     try clear hcz26_2
     try clear hcz28_0
     try clear hcz28_1
     try clear hcz28_2
     try clear hcz33_0
     try clear hcz33_1
     try clear hcz33_2
     try clear hcz38_0
     try clear hcz38_1
     try clear hcz38_2
     try clear hcz39_0
     try clear hcz39_1
     try clear hcz39_2
     try clear hcz40_0
     try clear hcz40_1
     try clear hcz40_2
     try clear hcz41_0
     try clear hcz41_1
     try clear hcz41_2
     try clear hcz6_0
     try clear hcz6_1
     try clear hcz6_2
     try clear hcz8_0
     try clear hcz8_1
     try clear hcz8_2
     try clear hfz13_0
     try clear hfz13_1
     try clear hfz13_2
     try clear hfz15_0
     try clear hfz15_1
     try clear hfz15_2
     try clear hfz20_0
     try clear hfz20_1
     try clear hfz20_2
     try clear hfz22_0
     try clear hfz22_1
     try clear hfz22_2
     try clear hfz26_0
     try clear hfz26_1
     try clear hfz26_2
     try clear hfz28_0
     try clear hfz28_1
     try clear hfz28_2
     try clear hfz33_0
     try clear hfz33_1
     try clear hfz33_2
     try clear hfz38_0
     try clear hfz38_1
     try clear hfz38_2
     try clear hfz39_0
     try clear hfz39_1
     try clear hfz39_2
     try clear hfz40_0
     try clear hfz40_1
     try clear hfz40_2
     try clear hfz41_0
     try clear hfz41_1
     try clear hfz41_2
     try clear hfz6_0
     try clear hfz6_1
     try clear hfz6_2
     try clear hfz8_0
     try clear hfz8_1
     try clear hfz8_2
     try clear p2
     obtain ⟨x7_2,rfl,HA,HK2,HO_5,BK168,HB⟩:=hrel
     cases gk with
     | zero => exact absurd HA.out (by simp [F0.l0])
     | succ k2 =>
      have H:=HA.out;clear HA;simp only [F0.l0] at H
      by_cases c43 : x7_2<(t171.length : Int)
      ·
       rw [if_pos c43] at H
       have c43b0 : decide (x7_2<(t171.length : Int))=true:=decide_eq_true c43;clear c43
       by_cases c44 : 0≤x7_2
       ·
        rw [if_pos c44] at H
        have c44b0 : decide (0≤x7_2)=true:=decide_eq_true c44;clear c44;replace H:=zT.mp H;obtain ⟨t176,A450,H⟩:=H;replace H : (if t176=true then (F0.l0 k2 a1 t171 (wrap64 (x7_2 + 1))) else (some false))=some r:=H;have A45:=zh A450;clear A450
        by_cases c46 : t176=true
        ·
         subst c46
         have H1 : (F0.l0 k2 a1 t171 (wrap64 (x7_2 + 1)))=some r:=by rw [if_pos rfl] at H;exact H
         clear H;have H:=H1;clear H1;have H':=zh H;clear H;obtain ⟨Ao47,co47,eo47⟩:=yk HO_5.out;subst eo47;have p175 : 0≤(x7_2 : Int):=zy (by first|(with_reducible assumption)|assumption);have q175 : x7_2<(t171.length : Int):=zy (by first|(with_reducible assumption)|assumption);obtain ⟨ad175,e175,hx175_0,hx175_1,hx175_2⟩:=at_T49 (yh HO_5.out).2.2 x7_2 p175 q175
         cases e175
         replace p175:=eq_true p175;replace q175:=eq_true q175
         go_wp2_with (first|((with_reducible refine zJ (f:=41) rfl ?_);refine yj (some 91) rfl rfl Tryz.func41 (by kernel_rfl) rfl #[.agg #[.int .i64 ((rd_T49 t171 x7_2).f0),.int .i64 ((rd_T49 t171 x7_2).f1),.string ((rd_T49 t171 x7_2).f2)],.int .i64 (wrap64 (a1 - 1))] rfl (by (try simp only [zt,zu,zv]);first|done|rfl|(simp only [zw,zx];rfl)|(simp only [yr,ys,zV,zW];rfl)) ?_;(with_reducible refine (ih k2 (by have:=HJ30.out;have:=HK2.out;omega)  ((rd_T49 t171 x7_2).f0) ((rd_T49 t171 x7_2).f1) ((rd_T49 t171 x7_2).f2) (wrap64 (a1 - 1)) true _ A45.out).mono ?_);rintro e w48 ⟨rfl,hb⟩;refine ⟨_,rfl,?_⟩;replace HO_5:=zh (yg (by (with_reducible repeat (first|apply zm|apply zn|apply zo));exact HO_5.out) hb);replace BK168:=zh (zD (g:=gb168) (o:=.cells #[.int .i64 a0_0,.int .i64 a0_1,.string a0_2] 49 (0,0)) (by (with_reducible repeat (first|refine ze ?_ _|refine zf ?_|refine zg ?_ _));exact BK168.out) hb);replace HB:=zh (zC (by repeat (with_reducible first|exact HB.out|apply za|apply zb|apply zc|refine zd ?_ GE168.out)) hb);(try clear hb);(try clear hb2);(try clear hk);(try clear hi)))
         go_roundg k2
         case measure => have:=HJ30.out;have:=HK2.out;omega
         case rel => exact ⟨(wrap64 (x7_2 + 1)),(by first|rfl|(simp;done)|(simp [*];done)),H',⟨by have:=HJ30.out;have:=HK2.out;omega⟩,⟨by (with_reducible repeat (first|apply zm|apply zn|apply zo));exact HO_5.out⟩,⟨by (with_reducible repeat (first|refine ze ?_ _|refine zf ?_|refine zg ?_ _));exact BK168.out⟩,⟨by repeat (with_reducible first|exact HB.out|apply za|apply zb|apply zc|refine zd ?_ GE168.out)⟩⟩
        replace c46:=yb.mpr c46;subst c46;have H1 : (some false)=some r:=by rw [if_neg (show ¬ (false=true) by decide)] at H;exact H
        clear H;have H:=H1;clear H1;obtain rfl:=zU H;obtain ⟨Ao49,co49,eo49⟩:=yk HO_5.out;subst eo49;have p175 : 0≤(x7_2 : Int):=zy (by first|(with_reducible assumption)|assumption);have q175 : x7_2<(t171.length : Int):=zy (by first|(with_reducible assumption)|assumption);obtain ⟨ad175,e175,hx175_0,hx175_1,hx175_2⟩:=at_T49 (yh HO_5.out).2.2 x7_2 p175 q175
        cases e175
        replace p175:=eq_true p175;replace q175:=eq_true q175
        go_wp2_with (first|((with_reducible refine zJ (f:=41) rfl ?_);refine yj (some 91) rfl rfl Tryz.func41 (by kernel_rfl) rfl #[.agg #[.int .i64 ((rd_T49 t171 x7_2).f0),.int .i64 ((rd_T49 t171 x7_2).f1),.string ((rd_T49 t171 x7_2).f2)],.int .i64 (wrap64 (a1 - 1))] rfl (by (try simp only [zt,zu,zv]);first|done|rfl|(simp only [zw,zx];rfl)|(simp only [yr,ys,zV,zW];rfl)) ?_;(with_reducible refine (ih k2 (by have:=HJ30.out;have:=HK2.out;omega)  ((rd_T49 t171 x7_2).f0) ((rd_T49 t171 x7_2).f1) ((rd_T49 t171 x7_2).f2) (wrap64 (a1 - 1)) false _ A45.out).mono ?_);rintro e w50 ⟨rfl,hb⟩;refine ⟨_,rfl,?_⟩;replace HO_5:=zh (yg (by (with_reducible repeat (first|apply zm|apply zn|apply zo));exact HO_5.out) hb);replace BK168:=zh (zD (g:=gb168) (o:=.cells #[.int .i64 a0_0,.int .i64 a0_1,.string a0_2] 49 (0,0)) (by (with_reducible repeat (first|refine ze ?_ _|refine zf ?_|refine zg ?_ _));exact BK168.out) hb);replace HB:=zh (zC (by repeat (with_reducible first|exact HB.out|apply za|apply zb|apply zc|refine zd ?_ GE168.out)) hb);(try clear hb);(try clear hb2);(try clear hk);(try clear hi)))
        go_ret
        exact ⟨by first|rfl|(simp [yt,yu] <;> rfl)|(simp [*,yt,yu] <;> rfl),by repeat (with_reducible first|exact HB.out|apply za|apply zb|apply zc|refine zd ?_ GE168.out)⟩
       rw [if_neg c44] at H;exact absurd H (by simp)
      rw [if_neg c43] at H;have c43b0 : decide (x7_2<(t171.length : Int))=false:=decide_eq_false c43;clear c43;obtain rfl:=zU H;obtain ⟨Ao51,co51,eo51⟩:=yk HO_5.out;subst eo51
      go_wp2
      go_ret
      exact ⟨by first|rfl|(simp [yt,yu] <;> rfl)|(simp [*,yt,yu] <;> rfl),by repeat (with_reducible first|exact HB.out|apply za|apply zb|apply zc|refine zd ?_ GE168.out)⟩
 rw [if_neg c29] at H;have c29b0 : (a0_0 == 4)=false:=zY.mpr c29;have c29b1 : (a0_0 != 4)=true:=zZ.mpr c29
 by_cases c52 : a0_0=5
 ·
  rw [if_pos c52] at H
  have c52b0 : (a0_0 == 5)=true:=ya.mpr c52;have c52b1 : (a0_0 != 5)=false:=zX.mpr c52;clear c52;replace H:=zT.mp H;obtain ⟨⟨t177,t178⟩,A530,H⟩:=H;replace H : (if a0_1=0 then (if t178=true then (if (a0_2.size : Int) > 300 then (F0.j2 k a1 t177 true) else (F0.j2 k a1 t177 (a1 == 0))) else (F0.j2 k a1 t177 true)) else (F0.j2 k a1 t177 true))=some r:=H;have A53:=zh A530;clear A530;have HC54:=zh H;clear H
  go_enter Tryz.func41,Tryz.ntmps41
  go_upto_region 22 with (first|((with_reducible refine zK (N:=2) rfl ?_);(try (refine yz (by rfl) ?_;dsimp only));refine zI ?hg (N:=2) ?hd (cs:=#[.int .i64 a0_0,.int .i64 a0_1,.string a0_2]) (t:=49) ?hr ?_;(case hd => rfl);(case hg => rfl);(case hr => first|(go_simp;done)|(go_simp;rfl));intro gb168 hg w55 hbox hb;have BK168:=zh (hbox);have GW168:=zh ((by rw [hg];exact (zB (by repeat (with_reducible first|exact HB.out|apply za|apply zb|apply zc))) : w.heap.size≤gb168));have GE168:=zh ((by rw [hg];exact (zB (by repeat (with_reducible first|exact HB.out|apply za|apply zb|apply zc))) : w.heap.size≤gb168));replace HB:=zh (zC (by repeat (with_reducible first|exact HB.out|apply za|apply zb|apply zc)) hb);clear hb hbox hg;have hcz56_0 : w55.cell? ⟨gb168,0,none⟩=some (.int .i64 a0_0):=(zz BK168.out 0).trans rfl;have hcz56_1 : w55.cell? ⟨gb168,1,none⟩=some (.int .i64 a0_1):=(zz BK168.out 1).trans rfl;have hcz56_2 : w55.cell? ⟨gb168,2,none⟩=some (.string a0_2):=(zz BK168.out 2).trans rfl;have hfz56_0:=zA BK168.out 0;have hfz56_1:=zA BK168.out 1;have hfz56_2:=zA BK168.out 2)|((with_reducible refine zJ (f:=53) rfl ?_);refine yj (some 98) rfl rfl Tryz.func53 (by kernel_rfl) rfl #[.string a0_2] rfl (by (try simp only [zt,zu,zv]);first|done|rfl|(simp only [zw,zx];rfl)|(simp only [yr,ys,zV,zW];rfl)) ?_;(with_reducible refine (Fn.calls k  a0_2 t177 t178 _ A53.out).mono ?_);rintro e w57 ⟨v179,rfl,ho0,hb⟩;refine ⟨_,rfl,?_⟩;have HO180:=zh (yy ho0 (zB (by repeat (with_reducible first|exact HB.out|apply za|apply zb|apply zc|refine zd ?_ GE168.out))));replace BK168:=zh (zD (g:=gb168) (o:=.cells #[.int .i64 a0_0,.int .i64 a0_1,.string a0_2] 49 (0,0)) (by (with_reducible repeat (first|refine ze ?_ _|refine zf ?_|refine zg ?_ _));exact BK168.out) hb);replace HB:=zh (zC (by repeat (with_reducible first|exact HB.out|apply za|apply zb|apply zc|refine zd ?_ GE168.out)) hb);(try clear hb);(try clear hb2);(try clear hk);(try clear hi);(try clear ho0)))
  (try simp only [Act.put,zi,zj,zk])
  go_cut [117] (fun v117 wc => ∃ (kq : Nat) (x117_53 : Bool),v117 = .bool x117_53∧Aside0 (F0.j2 kq a1 t177 x117_53=some r)∧Aside0 (kq≤k)∧Aside0 (Kd.R k87 87 wc w.heap.size (fun _ => True) v179 t177)∧Aside0 (wc.heap[gb168]? = some (.cells #[.int .i64 a0_0,.int .i64 a0_1,.string a0_2] 49 (0,0)))∧Aside0 (Below w.heap.size w wc))
  case first =>
   have H:=HC54.out;clear HC54
   by_cases c58 : a0_1=0
   ·
    rw [if_pos c58] at H
    have c58b0 : (a0_1 == 0)=true:=ya.mpr c58;have c58b1 : (a0_1 != 0)=false:=zX.mpr c58;clear c58;(first|rw [c58b0]|(simp only [zG,zH];rw [c58b0])|skip)
    by_cases c59 : t178=true
    ·
     subst c59
     have H1 : (if (a0_2.size : Int) > 300 then (F0.j2 k a1 t177 true) else (F0.j2 k a1 t177 (a1 == 0)))=some r:=by rw [if_pos rfl] at H;exact H
     clear H;have H:=H1;clear H1
     by_cases c60 : (a0_2.size : Int) > 300
     ·
      rw [if_pos c60] at H
      have c60b0 : decide (300<(a0_2.size : Int))=true:=decide_eq_true c60;have c60b1 : decide (300<a0_2.size)=true:=decide_eq_true (by omega);clear c60;have H':=zh H;clear H;have hcz61_0 : w57.cell? ⟨gb168,0,none⟩=some (.int .i64 a0_0):=(zz BK168.out 0).trans rfl;have hcz61_1 : w57.cell? ⟨gb168,1,none⟩=some (.int .i64 a0_1):=(zz BK168.out 1).trans rfl;have hcz61_2 : w57.cell? ⟨gb168,2,none⟩=some (.string a0_2):=(zz BK168.out 2).trans rfl;have hfz61_0:=zA BK168.out 0;have hfz61_1:=zA BK168.out 1;have hfz61_2:=zA BK168.out 2
      go_wp2
      go_meet
      case rel => exact ⟨_,(true),(by first|rfl|(simp;done)|(simp [*];done)),H',⟨by first|omega|exact ye _⟩,⟨by (with_reducible repeat (first|apply zm|apply zn|apply zo));exact HO180.out⟩,⟨by (with_reducible repeat (first|refine ze ?_ _|refine zf ?_|refine zg ?_ _));exact BK168.out⟩,⟨by repeat (with_reducible first|exact HB.out|apply za|apply zb|apply zc|refine zd ?_ GE168.out)⟩⟩
     rw [if_neg c60] at H;have c60b0 : decide (300<(a0_2.size : Int))=false:=decide_eq_false c60;have c60b1 : decide (300<a0_2.size)=false:=decide_eq_false (by omega);clear c60;have H':=zh H;clear H;have hcz62_0 : w57.cell? ⟨gb168,0,none⟩=some (.int .i64 a0_0):=(zz BK168.out 0).trans rfl;have hcz62_1 : w57.cell? ⟨gb168,1,none⟩=some (.int .i64 a0_1):=(zz BK168.out 1).trans rfl;have hcz62_2 : w57.cell? ⟨gb168,2,none⟩=some (.string a0_2):=(zz BK168.out 2).trans rfl;have hfz62_0:=zA BK168.out 0;have hfz62_1:=zA BK168.out 1;have hfz62_2:=zA BK168.out 2
     go_wp2
     go_meet
     case rel => exact ⟨_,((a1 == 0)),(by first|rfl|(simp;done)|(simp [*];done)),H',⟨by first|omega|exact ye _⟩,⟨by (with_reducible repeat (first|apply zm|apply zn|apply zo));exact HO180.out⟩,⟨by (with_reducible repeat (first|refine ze ?_ _|refine zf ?_|refine zg ?_ _));exact BK168.out⟩,⟨by repeat (with_reducible first|exact HB.out|apply za|apply zb|apply zc|refine zd ?_ GE168.out)⟩⟩
    replace c59:=yb.mpr c59;subst c59;have H1 : (F0.j2 k a1 t177 true)=some r:=by rw [if_neg (show ¬ (false=true) by decide)] at H;exact H
    clear H;have H:=H1;clear H1;have H':=zh H;clear H;have hcz63_0 : w57.cell? ⟨gb168,0,none⟩=some (.int .i64 a0_0):=(zz BK168.out 0).trans rfl;have hcz63_1 : w57.cell? ⟨gb168,1,none⟩=some (.int .i64 a0_1):=(zz BK168.out 1).trans rfl;have hcz63_2 : w57.cell? ⟨gb168,2,none⟩=some (.string a0_2):=(zz BK168.out 2).trans rfl;have hfz63_0:=zA BK168.out 0;have hfz63_1:=zA BK168.out 1;have hfz63_2:=zA BK168.out 2
    go_wp2
    go_meet
    case rel => exact ⟨_,(true),(by first|rfl|(simp;done)|(simp [*];done)),H',⟨by first|omega|exact ye _⟩,⟨by (with_reducible repeat (first|apply zm|apply zn|apply zo));exact HO180.out⟩,⟨by (with_reducible repeat (first|refine ze ?_ _|refine zf ?_|refine zg ?_ _));exact BK168.out⟩,⟨by repeat (with_reducible first|exact HB.out|apply za|apply zb|apply zc|refine zd ?_ GE168.out)⟩⟩
   rw [if_neg c58] at H;have c58b0 : (a0_1 == 0)=false:=zY.mpr c58;have c58b1 : (a0_1 != 0)=true:=zZ.mpr c58;(first|rw [c58b0]|(simp only [zG,zH];rw [c58b0])|skip);have H':=zh H;clear H;have hcz64_0 : w57.cell? ⟨gb168,0,none⟩=some (.int .i64 a0_0):=(zz BK168.out 0).trans rfl;have hcz64_1 : w57.cell? ⟨gb168,1,none⟩=some (.int .i64 a0_1):=(zz BK168.out 1).trans rfl;have hcz64_2 : w57.cell? ⟨gb168,2,none⟩=some (.string a0_2):=(zz BK168.out 2).trans rfl;have hfz64_0:=zA BK168.out 0;have hfz64_1:=zA BK168.out 1;have hfz64_2:=zA BK168.out 2
   go_wp2
   go_meet
   case rel => exact ⟨_,(true),(by first|rfl|(simp;done)|(simp [*];done)),H',⟨by first|omega|exact ye _⟩,⟨by (with_reducible repeat (first|apply zm|apply zn|apply zo));exact HO180.out⟩,⟨by (with_reducible repeat (first|refine ze ?_ _|refine zf ?_|refine zg ?_ _));exact BK168.out⟩,⟨by repeat (with_reducible first|exact HB.out|apply za|apply zb|apply zc|refine zd ?_ GE168.out)⟩⟩
  case rest =>
   clear HC54
   try clear c1
   try clear p1
   try clear q1
   try clear hx1
   try clear c2
   try clear p2
   try clear c3
   try clear c3b0
   try clear c3b1
   try clear c4
   try clear c4b0
   try clear c4b1
   try clear c5
   try clear c6
   try clear p6
   try clear c9
   try clear c9b0
   try clear c9b1
   try clear c11
   try clear c16
   try clear c16b0
   try clear c16b1
   try clear p17
   try clear q17
   try clear hx17
   try clear c18
   try clear c23
   try clear c23b0
   try clear c23b1
   try clear c24
   try clear c24b0
   try clear c24b1
   try clear c29
   try clear c29b0
   try clear c29b1
   try clear c35
   try clear c35b0
   try clear c35b1
   try clear c36
   try clear c37
   try clear c37b0
   try clear c37b1
   try clear c41
   try clear c42
   try clear c43
   try clear c43b0
   try clear c44
   try clear c44b0
   try clear c46
   try clear c52
   try clear c52b0
   try clear c52b1
   try clear c53
   try clear c58
   try clear c58b0
   try clear c58b1
   try clear c59
   try clear c60
   try clear c60b0
   try clear c60b1
   try clear p64
   try clear hcz13_0
   try clear hcz13_1
   try clear hcz13_2
   try clear hcz15_0
   try clear hcz15_1
   try clear hcz15_2
   try clear hcz20_0
   try clear hcz20_1
   try clear hcz20_2
   try clear hcz22_0
   try clear hcz22_1
   try clear hcz22_2
   try clear hcz26_0
   try clear hcz26_1
   try clear hcz26_2
   try clear hcz28_0
   try clear hcz28_1
   try clear hcz28_2
   try clear hcz33_0
   try clear hcz33_1
   try clear hcz33_2
   try clear hcz38_0
   try clear hcz38_1
   try clear hcz38_2
   try clear hcz39_0
   try clear hcz39_1
   try clear hcz39_2
   try clear hcz40_0
   try clear hcz40_1
   try clear hcz40_2
   try clear hcz41_0
   try clear hcz41_1
   try clear hcz41_2
   try clear hcz56_0
   try clear hcz56_1
   try clear hcz56_2
   try clear hcz61_0
   try clear hcz61_1
   try clear hcz61_2
   try clear hcz62_0
   try clear hcz62_1
   try clear hcz62_2
   try clear hcz63_0
   try clear hcz63_1
   try clear hcz63_2
   try clear hcz64_0
   try clear hcz64_1
   try clear hcz64_2
   try clear hcz6_0
   try clear hcz6_1
   try clear hcz6_2
   try clear hcz8_0
   try clear hcz8_1
   try clear hcz8_2
   try clear hfz13_0
   try clear hfz13_1
   try clear hfz13_2
   try clear hfz15_0
   try clear hfz15_1
   try clear hfz15_2
   try clear hfz20_0
   try clear hfz20_1
   try clear hfz20_2
   try clear hfz22_0
   try clear hfz22_1
   try clear hfz22_2
   try clear hfz26_0
   try clear hfz26_1
   try clear hfz26_2
   try clear hfz28_0
   try clear hfz28_1
   try clear hfz28_2
   try clear hfz33_0
   try clear hfz33_1
   try clear hfz33_2
   try clear hfz38_0
   try clear hfz38_1
   try clear hfz38_2
   try clear hfz39_0
   try clear hfz39_1
   try clear hfz39_2
   try clear hfz40_0
   try clear hfz40_1
   try clear hfz40_2
   try clear hfz41_0
   try clear hfz41_1
   try clear hfz41_2
   try clear hfz56_0
   try clear hfz56_1
   try clear hfz56_2
   try clear hfz61_0
   try clear hfz61_1
   try clear hfz61_2
   try clear hfz62_0
   try clear hfz62_1
   try clear hfz62_2
   try clear hfz63_0
   try clear hfz63_1
   try clear hfz63_2
   try clear hfz64_0
   try clear hfz64_1
   try clear hfz64_2
   try clear hfz6_0
   try clear hfz6_1
   try clear hfz6_2
   try clear hfz8_0
   try clear hfz8_1
   try clear hfz8_2
   try clear hx175_0
   try clear hx175_1
   try clear hx175_2
   try clear p175
   try clear p2
   try clear q175
   obtain ⟨kq,x117_53,rfl,HA,HJ53,HO_8,BK168,HB⟩:=hcut
   cases kq with
   | zero => exact absurd HA.out (by simp [F0.j2])
   | succ kj53 =>
    have H:=HA.out;clear HA;simp only [F0.j2] at H
    by_cases c65 : x117_53=true
    ·
     subst c65
     have H1 : (some false)=some r:=by rw [if_pos rfl] at H;exact H
     clear H;have H:=H1;clear H1;obtain rfl:=zU H
     go_wp2
     go_ret
     exact ⟨by first|rfl|(simp [yt,yu] <;> rfl)|(simp [*,yt,yu] <;> rfl),by repeat (with_reducible first|exact HB.out|apply za|apply zb|apply zc|refine zd ?_ GE168.out)⟩
    replace c65:=yb.mpr c65;subst c65;have H1 : (F0.l1 kj53 a1 t177 0)=some r:=by rw [if_neg (show ¬ (false=true) by decide)] at H;exact H
    clear H;have H:=H1;clear H1;have H':=zh H;clear H
    go_wp2
    go_loopg [10] kj53 (fun kq v10 w' => ∃ (x10_2 : Int),v10 = .int .i64 x10_2∧Aside0 (F0.l1 kq a1 t177 x10_2=some r)∧Aside0 (kq≤kj53)∧Aside0 (Kd.R k87 87 w' w.heap.size (fun _ => True) v179 t177)∧Aside0 (w'.heap[gb168]? = some (.cells #[.int .i64 a0_0,.int .i64 a0_1,.string a0_2] 49 (0,0)))∧Aside0 (Below w.heap.size w w'))
    case atStart => exact ⟨(0),(by first|rfl|(simp;done)|(simp [*];done)),H',⟨ye _⟩,⟨by (with_reducible repeat (first|apply zm|apply zn|apply zo));exact HO_8.out⟩,⟨by (with_reducible repeat (first|refine ze ?_ _|refine zf ?_|refine zg ?_ _));exact BK168.out⟩,⟨by repeat (with_reducible first|exact HB.out|apply za|apply zb|apply zc|refine zd ?_ GE168.out)⟩⟩
    case round =>
     clear H'
     try clear c1
     try clear p1
     try clear q1
     try clear hx1
     try clear c2
     try clear p2
     try clear c3
     try clear c3b0
     try clear c3b1
     try clear c4
     try clear c4b0
     try clear c4b1
     try clear c5
     try clear c6
     try clear p6
     try clear c9
     try clear c9b0
     try clear c9b1
     try clear c11
     try clear c16
     try clear c16b0
     try clear c16b1
     try clear p17
     try clear q17
     try clear hx17
     try clear c18
     try clear c23
     try clear c23b0
     try clear c23b1
     try clear c24
     try clear c24b0
     try clear c24b1
     try clear c29
     try clear c29b0
     try clear c29b1
     try clear c35
     try clear c35b0
     try clear c35b1
     try clear c36
     try clear c37
     try clear c37b0
     try clear c37b1
     try clear c41
     try clear c42
     try clear c43
     try clear c43b0
     try clear c44
     try clear c44b0
     try clear c46
     try clear c52
     try clear c52b0
     try clear c52b1
     try clear c53
     try clear c58
     try clear c58b0
     try clear c58b1
     try clear c59
     try clear c60
     try clear c60b0
     try clear c60b1
     try clear p64
     try clear c65
     try clear hcz13_0
     try clear hcz13_1
     try clear hcz13_2
     try clear hcz15_0
     try clear hcz15_1
     try clear hcz15_2
     try clear hcz20_0
     try clear hcz20_1
     try clear hcz20_2
     try clear hcz22_0
     try clear hcz22_1
     try clear hcz22_2
     try clear hcz26_0
     try clear hcz26_1
     try clear hcz26_2
     try clear hcz28_0
     try clear hcz28_1
     try clear hcz28_2
     try clear hcz33_0
     try clear hcz33_1
     try clear hcz33_2
     try clear hcz38_0
     try clear hcz38_1
     try clear hcz38_2
     try clear hcz39_0
     try clear hcz39_1
     try clear hcz39_2
     try clear hcz40_0
     try clear hcz40_1
     try clear hcz40_2
     try clear hcz41_0
     try clear hcz41_1
     try clear hcz41_2
     try clear hcz56_0
     try clear hcz56_1
     try clear hcz56_2
     try clear hcz61_0
     try clear hcz61_1
     try clear hcz61_2
     try clear hcz62_0
     try clear hcz62_1
     try clear hcz62_2
     try clear hcz63_0
     try clear hcz63_1
     try clear hcz63_2
     try clear hcz64_0
     try clear hcz64_1
     try clear hcz64_2
     try clear hcz6_0
     try clear hcz6_1
     try clear hcz6_2
     try clear hcz8_0
     try clear hcz8_1
     try clear hcz8_2
     try clear hfz13_0
     try clear hfz13_1
     try clear hfz13_2
     try clear hfz15_0
     try clear hfz15_1
     try clear hfz15_2
     try clear hfz20_0
     try clear hfz20_1
     try clear hfz20_2
     try clear hfz22_0
     try clear hfz22_1
     try clear hfz22_2
     try clear hfz26_0
     try clear hfz26_1
     try clear hfz26_2
     try clear hfz28_0
     try clear hfz28_1
     try clear hfz28_2
     try clear hfz33_0
     try clear hfz33_1
     try clear hfz33_2
     try clear hfz38_0
     try clear hfz38_1
     try clear hfz38_2
     try clear hfz39_0
     try clear hfz39_1
     try clear hfz39_2
     try clear hfz40_0
     try clear hfz40_1
     try clear hfz40_2
     try clear hfz41_0
     try clear hfz41_1
     try clear hfz41_2
     try clear hfz56_0
     try clear hfz56_1
     try clear hfz56_2
     try clear hfz61_0
     try clear hfz61_1
     try clear hfz61_2
     try clear hfz62_0
     try clear hfz62_1
     try clear hfz62_2
     try clear hfz63_0
     try clear hfz63_1
     try clear hfz63_2
     try clear hfz64_0
     try clear hfz64_1
     try clear hfz64_2
     try clear hfz6_0
     try clear hfz6_1
     try clear hfz6_2
     try clear hfz8_0
     try clear hfz8_1
     try clear hfz8_2
     try clear hx175_0
     try clear hx175_1
     try clear hx175_2
     try clear p1
     try clear p17
     try clear p175
     try clear p2
     try clear p6
     try clear p64
     try clear q1
     try clear q17
     try clear q175
     obtain ⟨x10_2,rfl,HA,HK2,HO_8,BK168,HB⟩:=hrel
     cases gk with
     | zero => exact absurd HA.out (by simp [F0.l1])
     | succ k2 =>
      have H:=HA.out;clear HA;simp only [F0.l1] at H
      by_cases c66 : x10_2<(t177.length : Int)
      ·
       rw [if_pos c66] at H
       have c66b0 : decide (x10_2<(t177.length : Int))=true:=decide_eq_true c66;clear c66
       by_cases c67 : 0≤x10_2
       ·
        rw [if_pos c67] at H
        have c67b0 : decide (0≤x10_2)=true:=decide_eq_true c67;clear c67;replace H:=zT.mp H;obtain ⟨t182,A680,H⟩:=H;replace H : (if t182=true then (if x10_2 > 0 then (if 0≤(wrap64 (x10_2 - 1)) then (if (wrap64 (x10_2 - 1))<(t177.length : Int) then (if ((Op.bytesLess (((rd_T87 t177 (wrap64 (x10_2 - 1))).f0).toList) (((rd_T87 t177 x10_2).f0).toList))=true) then ((F0.f k2 ((rd_T87 t177 x10_2).f1.f0) ((rd_T87 t177 x10_2).f1.f1) ((rd_T87 t177 x10_2).f1.f2) (wrap64 (a1 - 1))).bind fun t186 => (if t186=true then (F0.l1 k2 a1 t177 (wrap64 (x10_2 + 1))) else (some false))) else (some false)) else (none)) else (none)) else ((F0.f k2 ((rd_T87 t177 x10_2).f1.f0) ((rd_T87 t177 x10_2).f1.f1) ((rd_T87 t177 x10_2).f1.f2) (wrap64 (a1 - 1))).bind fun t188 => (if t188=true then (F0.l1 k2 a1 t177 (wrap64 (x10_2 + 1))) else (some false)))) else (some false))=some r:=H;have A68:=zh A680;clear A680
        by_cases c69 : t182=true
        ·
         subst c69
         have H1 : (if x10_2 > 0 then (if 0≤(wrap64 (x10_2 - 1)) then (if (wrap64 (x10_2 - 1))<(t177.length : Int) then (if ((Op.bytesLess (((rd_T87 t177 (wrap64 (x10_2 - 1))).f0).toList) (((rd_T87 t177 x10_2).f0).toList))=true) then ((F0.f k2 ((rd_T87 t177 x10_2).f1.f0) ((rd_T87 t177 x10_2).f1.f1) ((rd_T87 t177 x10_2).f1.f2) (wrap64 (a1 - 1))).bind fun t186 => (if t186=true then (F0.l1 k2 a1 t177 (wrap64 (x10_2 + 1))) else (some false))) else (some false)) else (none)) else (none)) else ((F0.f k2 ((rd_T87 t177 x10_2).f1.f0) ((rd_T87 t177 x10_2).f1.f1) ((rd_T87 t177 x10_2).f1.f2) (wrap64 (a1 - 1))).bind fun t188 => (if t188=true then (F0.l1 k2 a1 t177 (wrap64 (x10_2 + 1))) else (some false))))=some r:=by rw [if_pos rfl] at H;exact H
         clear H;have H:=H1;clear H1
         by_cases c70 : x10_2 > 0
         ·
          rw [if_pos c70] at H
          have c70b0 : decide (0<x10_2)=true:=decide_eq_true c70;clear c70;obtain ⟨ji71,hji71⟩ : ∃ j_ : Int,(wrap64 (x10_2 - 1))=j_:=⟨_,rfl⟩;replace H : (if 0≤(ji71) then (if (ji71)<(t177.length : Int) then (if ((Op.bytesLess (((rd_T87 t177 (ji71)).f0).toList) (((rd_T87 t177 x10_2).f0).toList))=true) then ((F0.f k2 ((rd_T87 t177 x10_2).f1.f0) ((rd_T87 t177 x10_2).f1.f1) ((rd_T87 t177 x10_2).f1.f2) (wrap64 (a1 - 1))).bind fun t186 => (if t186=true then (F0.l1 k2 a1 t177 (wrap64 (x10_2 + 1))) else (some false))) else (some false)) else (none)) else (none))=some r:=by first|(rw [hji71] at H;exact H)|(simp only [hji71] at H ⊢;exact H)
          (try rw [hji71] at A68);have hji71w : (IntKind.i64.wrap (x10_2 - 1))=ji71:=(zG _).trans hji71
          by_cases c72 : 0≤(ji71)
          ·
           rw [if_pos c72] at H
           have c72b0 : decide (0≤(ji71))=true:=decide_eq_true c72;clear c72
           by_cases c73 : (ji71)<(t177.length : Int)
           ·
            rw [if_pos c73] at H
            have c73b0 : decide ((ji71)<(t177.length : Int))=true:=decide_eq_true c73;clear c73
            by_cases c74 : ((Op.bytesLess (((rd_T87 t177 (ji71)).f0).toList) (((rd_T87 t177 x10_2).f0).toList))=true)
            ·
             rw [if_pos c74] at H
             have c74b0 : (Op.bytesLess (((rd_T87 t177 (ji71)).f0).toList) (((rd_T87 t177 x10_2).f0).toList))=true:=c74;clear c74;replace H:=zT.mp H;obtain ⟨t186,A750,H⟩:=H;replace H : (if t186=true then (F0.l1 k2 a1 t177 (wrap64 (x10_2 + 1))) else (some false))=some r:=H;have A75:=zh A750;clear A750
             by_cases c76 : t186=true
             ·
              subst c76
              have H1 : (F0.l1 k2 a1 t177 (wrap64 (x10_2 + 1)))=some r:=by rw [if_pos rfl] at H;exact H
              clear H;have H:=H1;clear H1;have H':=zh H;clear H;obtain ⟨Ao77,co77,eo77⟩:=yk HO_8.out;subst eo77
              try go_wp2
              replace HO_8:=zh (zo HO_8.out);replace BK168:=zh (zf BK168.out);replace HB:=zh (zc HB.out);have p181 : 0≤(x10_2 : Int):=zy (by first|(with_reducible assumption)|assumption);have q181 : x10_2<(t177.length : Int):=zy (by first|(with_reducible assumption)|assumption);obtain ⟨ad181,e181,hx181_0,hx181_1,hx181_2,hx181_3⟩:=at_T87 (yh HO_8.out).2.2 x10_2 p181 q181
              cases e181
              replace p181:=eq_true p181;replace q181:=eq_true q181;have p183 : 0≤((ji71) : Int):=zy (by first|(with_reducible assumption)|assumption);have q183 : (ji71)<(t177.length : Int):=zy (by first|(with_reducible assumption)|assumption);obtain ⟨ad183,e183,hx183_0,hx183_1,hx183_2,hx183_3⟩:=at_T87 (yh HO_8.out).2.2 (ji71) p183 q183;obtain rfl : ad181=ad183:=(by injection e183);replace p183:=eq_true p183;replace q183:=eq_true q183;have p184 : 0≤(x10_2 : Int):=zy (by first|(with_reducible assumption)|assumption);have q184 : x10_2<(t177.length : Int):=zy (by first|(with_reducible assumption)|assumption);obtain ⟨ad184,e184,hx184_0,hx184_1,hx184_2,hx184_3⟩:=at_T87 (yh HO_8.out).2.2 x10_2 p184 q184;obtain rfl : ad181=ad184:=(by injection e184);replace p184:=eq_true p184;replace q184:=eq_true q184;have p185 : 0≤(x10_2 : Int):=zy (by first|(with_reducible assumption)|assumption);have q185 : x10_2<(t177.length : Int):=zy (by first|(with_reducible assumption)|assumption);obtain ⟨ad185,e185,hx185_0,hx185_1,hx185_2,hx185_3⟩:=at_T87 (yh HO_8.out).2.2 x10_2 p185 q185;obtain rfl : ad181=ad185:=(by injection e185);replace p185:=eq_true p185;replace q185:=eq_true q185;refine start_ (n:=36) (S:=fun w' => w'.cell? (ad181.add ((x10_2).toNat * 4))=some (.string ((rd_T87 t177 x10_2).f0))∧w'.cell? ⟨(ad181.add ((x10_2).toNat * 4)).block,(ad181.add ((x10_2).toNat * 4)).off + 1,none⟩=some (.int .i64 ((rd_T87 t177 x10_2).f1.f0))∧w'.cell? ⟨(ad181.add ((x10_2).toNat * 4)).block,(ad181.add ((x10_2).toNat * 4)).off + 2,none⟩=some (.int .i64 ((rd_T87 t177 x10_2).f1.f1))∧w'.cell? ⟨(ad181.add ((x10_2).toNat * 4)).block,(ad181.add ((x10_2).toNat * 4)).off + 3,none⟩=some (.string ((rd_T87 t177 x10_2).f1.f2))∧w'.cell? (ad181.add (((ji71)).toNat * 4))=some (.string ((rd_T87 t177 (ji71)).f0))∧w'.cell? ⟨(ad181.add (((ji71)).toNat * 4)).block,(ad181.add (((ji71)).toNat * 4)).off + 1,none⟩=some (.int .i64 ((rd_T87 t177 (ji71)).f1.f0))∧w'.cell? ⟨(ad181.add (((ji71)).toNat * 4)).block,(ad181.add (((ji71)).toNat * 4)).off + 2,none⟩=some (.int .i64 ((rd_T87 t177 (ji71)).f1.f1))∧w'.cell? ⟨(ad181.add (((ji71)).toNat * 4)).block,(ad181.add (((ji71)).toNat * 4)).off + 3,none⟩=some (.string ((rd_T87 t177 (ji71)).f1.f2))∧w'.cell? (ad181.add ((x10_2).toNat * 4))=some (.string ((rd_T87 t177 x10_2).f0))∧w'.cell? ⟨(ad181.add ((x10_2).toNat * 4)).block,(ad181.add ((x10_2).toNat * 4)).off + 1,none⟩=some (.int .i64 ((rd_T87 t177 x10_2).f1.f0))∧w'.cell? ⟨(ad181.add ((x10_2).toNat * 4)).block,(ad181.add ((x10_2).toNat * 4)).off + 2,none⟩=some (.int .i64 ((rd_T87 t177 x10_2).f1.f1))∧w'.cell? ⟨(ad181.add ((x10_2).toNat * 4)).block,(ad181.add ((x10_2).toNat * 4)).off + 3,none⟩=some (.string ((rd_T87 t177 x10_2).f1.f2))∧w'.cell? (ad181.add ((x10_2).toNat * 4))=some (.string ((rd_T87 t177 x10_2).f0))∧w'.cell? ⟨(ad181.add ((x10_2).toNat * 4)).block,(ad181.add ((x10_2).toNat * 4)).off + 1,none⟩=some (.int .i64 ((rd_T87 t177 x10_2).f1.f0))∧w'.cell? ⟨(ad181.add ((x10_2).toNat * 4)).block,(ad181.add ((x10_2).toNat * 4)).off + 2,none⟩=some (.int .i64 ((rd_T87 t177 x10_2).f1.f1))∧w'.cell? ⟨(ad181.add ((x10_2).toNat * 4)).block,(ad181.add ((x10_2).toNat * 4)).off + 3,none⟩=some (.string ((rd_T87 t177 x10_2).f1.f2))) (ds:=[]) (bm_ 0 36) (by kernel_rfl) rfl rfl ⟨hx181_0,hx181_1,hx181_2,hx181_3,hx183_0,hx183_1,hx183_2,hx183_3,hx184_0,hx184_1,hx184_2,hx184_3,hx185_0,hx185_1,hx185_2,hx185_3⟩ (fun hHeld => ?_);refine with_tabW F0.tab27 F0.bits27 (fun HT_ HW_ => ?_);generalize wr.drew=w78 at HO_8 BK168 HB hx181_0 hx181_1 hx181_2 hx181_3 hx183_0 hx183_1 hx183_2 hx183_3 hx184_0 hx184_1 hx184_2 hx184_3 hx185_0 hx185_1 hx185_2 hx185_3 hHeld ⊢;refine pure_ (i:=0) (N:=some 124) (v:=?_) (a':=?_) (bm_ 1 36) rfl rfl (any_of HT_.out (by kernel_rfl)) (fun _ _ _ h => h) (Or.inl ⟨by rfl,?_⟩) ?_ ?_;rotate_left
              ·
               intro w'
               go_simp
               with_reducible rfl
              rotate_left
              ·
               simp only [Act.put,zi,zj,zk,zG,zH]
               rfl
              refine pure_ (i:=1) (N:=some 125) (v:=?_) (a':=?_) (bm_ 2 36) rfl rfl (any_of HT_.out (by kernel_rfl)) (fun _ _ _ h => h) (Or.inl ⟨by rfl,?_⟩) ?_ ?_;rotate_left
              ·
               intro w'
               go_simp
               with_reducible rfl
              rotate_left
              ·
               simp only [Act.put,zi,zj,zk,zG,zH]
               rfl
              refine pure_ (i:=2) (N:=some 126) (v:=?_) (a':=?_) (bm_ 3 36) rfl rfl (any_of HT_.out (by kernel_rfl)) (fun _ _ _ h => h) (Or.inl ⟨by rfl,?_⟩) ?_ ?_;rotate_left
              ·
               intro w'
               go_simp
               with_reducible rfl
              rotate_left
              ·
               simp only [Act.put,zi,zj,zk,zG,zH]
               rfl
              refine pure_ (i:=3) (N:=some 127) (v:=?_) (a':=?_) (bm_ 4 36) rfl rfl (any_of HT_.out (by kernel_rfl)) (fun _ _ _ h => h) (Or.inl ⟨by rfl,?_⟩) ?_ ?_;rotate_left
              ·
               intro w'
               go_simp
               with_reducible rfl
              rotate_left
              ·
               simp only [Act.put,zi,zj,zk,zG,zH]
               rfl
              refine take_ (i:=4) (N:=some 128) (v:=?_) (a':=?_) (bm_ 5 36) rfl rfl (yo HT_.out HW_.out (by kernel_rfl)) (fun _ _ _ h => h) (Or.inl ⟨by rfl,?_⟩) hHeld ?_ ?_;rotate_left
              ·
               rintro w' ⟨s0,s1,s2,s3,s4,s5,s6,s7,s8,s9,s10,s11,s12,s13,s14,s15⟩
               go_simp
               with_reducible rfl
              rotate_left
              ·
               simp only [Act.put,zi,zj,zk,zG,zH]
               rfl
              refine one_ (i:=5) (N:=some 129) (bm_ 6 36) rfl rfl (one_of HT_.out (by kernel_rfl)) (by decide) (fun K hK => ?_);refine goes_ Tryz.func26 (by kernel_rfl) rfl #[.string ((rd_T87 t177 x10_2).f0)] (by rfl) rfl rfl (by (try simp only [zt,zu,zv]);first|done|rfl|(simp only [zw,zx];rfl)|(simp only [yr,ys,zV,zW];rfl)) ?_
              with_reducible refine (F00.calls k2  ((rd_T87 t177 x10_2).f0) true _ A68.out).mono ?_
              rintro e w' ⟨rfl,⟨nd,rfl⟩⟩;refine ⟨_,rfl,?_⟩;refine hK.out _ _ ⟨hHeld.1,hHeld.2.1,hHeld.2.2.1,hHeld.2.2.2.1,hHeld.2.2.2.2.1,hHeld.2.2.2.2.2.1,hHeld.2.2.2.2.2.2.1,hHeld.2.2.2.2.2.2.2.1,hHeld.2.2.2.2.2.2.2.2.1,hHeld.2.2.2.2.2.2.2.2.2.1,hHeld.2.2.2.2.2.2.2.2.2.2.1,hHeld.2.2.2.2.2.2.2.2.2.2.2.1,hHeld.2.2.2.2.2.2.2.2.2.2.2.2.1,hHeld.2.2.2.2.2.2.2.2.2.2.2.2.2.1,hHeld.2.2.2.2.2.2.2.2.2.2.2.2.2.2.1,hHeld.2.2.2.2.2.2.2.2.2.2.2.2.2.2.2⟩ (fun hHeld => ?_);clear hK K;refine norm_ (a':=?_) ?_ ?_;rotate_left
              ·
               show Act.put _ (some 129) _=_
               simp only [Act.put,zi,zj,zk,zG,zH]
               rfl
              refine pure_ (i:=6) (N:=some 130) (v:=?_) (a':=?_) (bm_ 7 36) rfl rfl (any_of HT_.out (by kernel_rfl)) (fun _ _ _ h => h) (Or.inl ⟨by rfl,?_⟩) ?_ ?_;rotate_left
              ·
               intro w'
               go_simp
               with_reducible rfl
              rotate_left
              ·
               simp only [Act.put,zi,zj,zk,zG,zH]
               rfl
              refine pure_ (i:=7) (N:=some 131) (v:=?_) (a':=?_) (bm_ 8 36) rfl rfl (any_of HT_.out (by kernel_rfl)) (fun _ _ _ h => h) (Or.inl ⟨by rfl,?_⟩) ?_ ?_;rotate_left
              ·
               intro w'
               go_simp
               with_reducible rfl
              rotate_left
              ·
               simp only [Act.put,zi,zj,zk,zG,zH]
               rfl
              refine pure_ (i:=8) (N:=some 132) (v:=?_) (a':=?_) (bm_ 9 36) rfl rfl (any_of HT_.out (by kernel_rfl)) (fun _ _ _ h => h) (Or.inl ⟨by rfl,?_⟩) ?_ ?_;rotate_left
              ·
               intro w'
               go_simp
               with_reducible rfl
              rotate_left
              ·
               simp only [Act.put,zi,zj,zk,zG,zH]
               rfl
              refine pure_ (i:=9) (N:=some 133) (v:=?_) (a':=?_) (bm_ 10 36) rfl rfl (any_of HT_.out (by kernel_rfl)) (fun _ _ _ h => h) (Or.inl ⟨by rfl,?_⟩) ?_ ?_;rotate_left
              ·
               intro w'
               go_simp
               with_reducible rfl
              rotate_left
              ·
               simp only [Act.put,zi,zj,zk,zG,zH]
               rfl
              refine pure_ (i:=10) (N:=some 134) (v:=?_) (a':=?_) (bm_ 11 36) rfl rfl (any_of HT_.out (by kernel_rfl)) (fun _ _ _ h => h) (Or.inl ⟨by rfl,?_⟩) ?_ ?_;rotate_left
              ·
               intro w'
               go_simp
               with_reducible rfl
              rotate_left
              ·
               simp only [Act.put,zi,zj,zk,zG,zH]
               rfl
              refine pure_ (i:=11) (N:=some 135) (v:=?_) (a':=?_) (bm_ 12 36) rfl rfl (any_of HT_.out (by kernel_rfl)) (fun _ _ _ h => h) (Or.inl ⟨by rfl,?_⟩) ?_ ?_;rotate_left
              ·
               intro w'
               go_simp
               with_reducible rfl
              rotate_left
              ·
               simp only [Act.put,zi,zj,zk,zG,zH]
               rfl
              refine pure_ (i:=12) (N:=some 136) (v:=?_) (a':=?_) (bm_ 13 36) rfl rfl (any_of HT_.out (by kernel_rfl)) (fun _ _ _ h => h) (Or.inl ⟨by rfl,?_⟩) ?_ ?_;rotate_left
              ·
               intro w'
               go_simp
               with_reducible rfl
              rotate_left
              ·
               simp only [Act.put,zi,zj,zk,zG,zH]
               rfl
              refine pure_ (i:=13) (N:=some 137) (v:=?_) (a':=?_) (bm_ 14 36) rfl rfl (any_of HT_.out (by kernel_rfl)) (fun _ _ _ h => h) (Or.inl ⟨by rfl,?_⟩) ?_ ?_;rotate_left
              ·
               intro w'
               go_simp
               with_reducible rfl
              rotate_left
              ·
               simp only [Act.put,zi,zj,zk,zG,zH]
               rfl
              refine pure_ (i:=14) (N:=some 138) (v:=?_) (a':=?_) (bm_ 15 36) rfl rfl (any_of HT_.out (by kernel_rfl)) (fun _ _ _ h => h) (Or.inl ⟨by rfl,?_⟩) ?_ ?_;rotate_left
              ·
               intro w'
               go_simp
               with_reducible rfl
              rotate_left
              ·
               simp only [Act.put,zi,zj,zk,zG,zH]
               rfl
              refine pure_ (i:=15) (N:=some 139) (v:=?_) (a':=?_) (bm_ 16 36) rfl rfl (any_of HT_.out (by kernel_rfl)) (fun _ _ _ h => h) (Or.inl ⟨by rfl,?_⟩) ?_ ?_;rotate_left
              ·
               intro w'
               go_simp
               with_reducible rfl
              rotate_left
              ·
               simp only [Act.put,zi,zj,zk,zG,zH]
               rfl
              refine pure_ (i:=17) (N:=some 141) (v:=?_) (a':=?_) #[true,true,true,true,true,true,true,true,true,true,true,true,true,true,true,true,false,true,false,false,false,false,false,false,false,false,false,false,false,false,false,false,false,false,false,false] rfl rfl (any_of HT_.out (by kernel_rfl)) (fun _ _ _ h => h) (Or.inl ⟨by rfl,?_⟩) ?_ ?_;rotate_left
              ·
               intro w'
               go_simp
               with_reducible rfl
              rotate_left
              ·
               simp only [Act.put,zi,zj,zk,zG,zH]
               rfl
              refine pure_ (i:=18) (N:=some 142) (v:=?_) (a':=?_) #[true,true,true,true,true,true,true,true,true,true,true,true,true,true,true,true,false,true,true,false,false,false,false,false,false,false,false,false,false,false,false,false,false,false,false,false] rfl rfl (any_of HT_.out (by kernel_rfl)) (fun _ _ _ h => h) (Or.inl ⟨by rfl,?_⟩) ?_ ?_;rotate_left
              ·
               intro w'
               go_simp
               with_reducible rfl
              rotate_left
              ·
               simp only [Act.put,zi,zj,zk,zG,zH]
               rfl
              refine pure_ (i:=19) (N:=some 143) (v:=?_) (a':=?_) #[true,true,true,true,true,true,true,true,true,true,true,true,true,true,true,true,false,true,true,true,false,false,false,false,false,false,false,false,false,false,false,false,false,false,false,false] rfl rfl (any_of HT_.out (by kernel_rfl)) (fun _ _ _ h => h) (Or.inl ⟨by rfl,?_⟩) ?_ ?_;rotate_left
              ·
               intro w'
               go_simp
               with_reducible rfl
              rotate_left
              ·
               simp only [Act.put,zi,zj,zk,zG,zH]
               rfl
              refine pure_ (i:=20) (N:=some 144) (v:=?_) (a':=?_) #[true,true,true,true,true,true,true,true,true,true,true,true,true,true,true,true,false,true,true,true,true,false,false,false,false,false,false,false,false,false,false,false,false,false,false,false] rfl rfl (any_of HT_.out (by kernel_rfl)) (fun _ _ _ h => h) (Or.inl ⟨by rfl,?_⟩) ?_ ?_;rotate_left
              ·
               intro w'
               go_simp
               with_reducible rfl
              rotate_left
              ·
               simp only [Act.put,zi,zj,zk,zG,zH]
               rfl
              refine take_ (i:=16) (N:=some 140) (v:=?_) (a':=?_) (bm_ 21 36) rfl rfl (yo HT_.out HW_.out (by kernel_rfl)) (fun _ _ _ h => h) (Or.inl ⟨by rfl,?_⟩) hHeld ?_ ?_;rotate_left
              ·
               rintro w' ⟨s0,s1,s2,s3,s4,s5,s6,s7,s8,s9,s10,s11,s12,s13,s14,s15⟩
               go_simp
               with_reducible rfl
              rotate_left
              ·
               simp only [Act.put,zi,zj,zk,zG,zH]
               rfl
              refine take_ (i:=21) (N:=some 145) (v:=?_) (a':=?_) (bm_ 22 36) rfl rfl (yo HT_.out HW_.out (by kernel_rfl)) (fun _ _ _ h => h) (Or.inl ⟨by rfl,?_⟩) hHeld ?_ ?_;rotate_left
              ·
               rintro w' ⟨s0,s1,s2,s3,s4,s5,s6,s7,s8,s9,s10,s11,s12,s13,s14,s15⟩
               go_simp
               with_reducible rfl
              rotate_left
              ·
               simp only [Act.put,zi,zj,zk,zG,zH]
               rfl
              refine pure_ (i:=22) (N:=some 146) (v:=?_) (a':=?_) (bm_ 23 36) rfl rfl (any_of HT_.out (by kernel_rfl)) (fun _ _ _ h => h) (Or.inl ⟨by rfl,?_⟩) ?_ ?_;rotate_left
              ·
               intro w'
               go_simp
               with_reducible rfl
              rotate_left
              ·
               simp only [Act.put,zi,zj,zk,zG,zH]
               rfl
              refine pure_ (i:=23) (N:=some 147) (v:=?_) (a':=?_) (bm_ 24 36) rfl rfl (any_of HT_.out (by kernel_rfl)) (fun _ _ _ h => h) (Or.inl ⟨by rfl,?_⟩) ?_ ?_;rotate_left
              ·
               intro w'
               go_simp
               with_reducible rfl
              rotate_left
              ·
               simp only [Act.put,zi,zj,zk,zG,zH]
               rfl
              refine pure_ (i:=24) (N:=some 148) (v:=?_) (a':=?_) (bm_ 25 36) rfl rfl (any_of HT_.out (by kernel_rfl)) (fun _ _ _ h => h) (Or.inl ⟨by rfl,?_⟩) ?_ ?_;rotate_left
              ·
               intro w'
               go_simp
               with_reducible rfl
              rotate_left
              ·
               simp only [Act.put,zi,zj,zk,zG,zH]
               rfl
              refine pure_ (i:=25) (N:=some 149) (v:=?_) (a':=?_) (bm_ 26 36) rfl rfl (any_of HT_.out (by kernel_rfl)) (fun _ _ _ h => h) (Or.inl ⟨by rfl,?_⟩) ?_ ?_;rotate_left
              ·
               intro w'
               go_simp
               with_reducible rfl
              rotate_left
              ·
               simp only [Act.put,zi,zj,zk,zG,zH]
               rfl
              refine pure_ (i:=26) (N:=some 150) (v:=?_) (a':=?_) (bm_ 27 36) rfl rfl (any_of HT_.out (by kernel_rfl)) (fun _ _ _ h => h) (Or.inl ⟨by rfl,?_⟩) ?_ ?_;rotate_left
              ·
               intro w'
               go_simp
               with_reducible rfl
              rotate_left
              ·
               simp only [Act.put,zi,zj,zk,zG,zH]
               rfl
              refine pure_ (i:=27) (N:=some 151) (v:=?_) (a':=?_) (bm_ 28 36) rfl rfl (any_of HT_.out (by kernel_rfl)) (fun _ _ _ h => h) (Or.inl ⟨by rfl,?_⟩) ?_ ?_;rotate_left
              ·
               intro w'
               go_simp
               with_reducible rfl
              rotate_left
              ·
               simp only [Act.put,zi,zj,zk,zG,zH]
               rfl
              refine pure_ (i:=28) (N:=some 152) (v:=?_) (a':=?_) (bm_ 29 36) rfl rfl (any_of HT_.out (by kernel_rfl)) (fun _ _ _ h => h) (Or.inl ⟨by rfl,?_⟩) ?_ ?_;rotate_left
              ·
               intro w'
               go_simp
               with_reducible rfl
              rotate_left
              ·
               simp only [Act.put,zi,zj,zk,zG,zH]
               rfl
              refine pure_ (i:=29) (N:=some 153) (v:=?_) (a':=?_) (bm_ 30 36) rfl rfl (any_of HT_.out (by kernel_rfl)) (fun _ _ _ h => h) (Or.inl ⟨by rfl,?_⟩) ?_ ?_;rotate_left
              ·
               intro w'
               go_simp
               with_reducible rfl
              rotate_left
              ·
               simp only [Act.put,zi,zj,zk,zG,zH]
               rfl
              refine pure_ (i:=31) (N:=some 155) (v:=?_) (a':=?_) #[true,true,true,true,true,true,true,true,true,true,true,true,true,true,true,true,true,true,true,true,true,true,true,true,true,true,true,true,true,true,false,true,false,false,false,false] rfl rfl (any_of HT_.out (by kernel_rfl)) (fun _ _ _ h => h) (Or.inl ⟨by rfl,?_⟩) ?_ ?_;rotate_left
              ·
               intro w'
               go_simp
               with_reducible rfl
              rotate_left
              ·
               simp only [Act.put,zi,zj,zk,zG,zH]
               rfl
              refine pure_ (i:=32) (N:=some 156) (v:=?_) (a':=?_) #[true,true,true,true,true,true,true,true,true,true,true,true,true,true,true,true,true,true,true,true,true,true,true,true,true,true,true,true,true,true,false,true,true,false,false,false] rfl rfl (any_of HT_.out (by kernel_rfl)) (fun _ _ _ h => h) (Or.inl ⟨by rfl,?_⟩) ?_ ?_;rotate_left
              ·
               intro w'
               go_simp
               with_reducible rfl
              rotate_left
              ·
               simp only [Act.put,zi,zj,zk,zG,zH]
               rfl
              refine take_ (i:=30) (N:=some 154) (v:=?_) (a':=?_) (bm_ 33 36) rfl rfl (yo HT_.out HW_.out (by kernel_rfl)) (fun _ _ _ h => h) (Or.inl ⟨by rfl,?_⟩) hHeld ?_ ?_;rotate_left
              ·
               rintro w' ⟨s0,s1,s2,s3,s4,s5,s6,s7,s8,s9,s10,s11,s12,s13,s14,s15⟩
               go_simp
               with_reducible rfl
              rotate_left
              ·
               simp only [Act.put,zi,zj,zk,zG,zH]
               rfl
              refine one_ (i:=33) (N:=some 157) (bm_ 34 36) rfl rfl (one_of HT_.out (by kernel_rfl)) (by decide) (fun K hK => ?_);refine goes_ Tryz.func41 (by kernel_rfl) rfl #[.agg #[.int .i64 ((rd_T87 t177 x10_2).f1.f0),.int .i64 ((rd_T87 t177 x10_2).f1.f1),.string ((rd_T87 t177 x10_2).f1.f2)],.int .i64 (wrap64 (a1 - 1))] (by rfl) rfl rfl (by (try simp only [zt,zu,zv]);first|done|rfl|(simp only [zw,zx];rfl)|(simp only [yr,ys,zV,zW];rfl)) ?_
              with_reducible refine (ih k2 (by have:=HJ53.out;have:=HK2.out;omega)  ((rd_T87 t177 x10_2).f1.f0) ((rd_T87 t177 x10_2).f1.f1) ((rd_T87 t177 x10_2).f1.f2) (wrap64 (a1 - 1)) true _ A75.out).mono ?_
              rintro e w79 ⟨rfl,hb⟩;have HS0_:=(hb.cell (zl _ _ (hHeld.1))).trans (hHeld.1);have HS1_:=(hb.cell (zl _ _ (hHeld.2.1))).trans (hHeld.2.1);have HS2_:=(hb.cell (zl _ _ (hHeld.2.2.1))).trans (hHeld.2.2.1);have HS3_:=(hb.cell (zl _ _ (hHeld.2.2.2.1))).trans (hHeld.2.2.2.1);have HS4_:=(hb.cell (zl _ _ (hHeld.2.2.2.2.1))).trans (hHeld.2.2.2.2.1);have HS5_:=(hb.cell (zl _ _ (hHeld.2.2.2.2.2.1))).trans (hHeld.2.2.2.2.2.1);have HS6_:=(hb.cell (zl _ _ (hHeld.2.2.2.2.2.2.1))).trans (hHeld.2.2.2.2.2.2.1);have HS7_:=(hb.cell (zl _ _ (hHeld.2.2.2.2.2.2.2.1))).trans (hHeld.2.2.2.2.2.2.2.1);have HS8_:=(hb.cell (zl _ _ (hHeld.2.2.2.2.2.2.2.2.1))).trans (hHeld.2.2.2.2.2.2.2.2.1);have HS9_:=(hb.cell (zl _ _ (hHeld.2.2.2.2.2.2.2.2.2.1))).trans (hHeld.2.2.2.2.2.2.2.2.2.1);have HS10_:=(hb.cell (zl _ _ (hHeld.2.2.2.2.2.2.2.2.2.2.1))).trans (hHeld.2.2.2.2.2.2.2.2.2.2.1);have HS11_:=(hb.cell (zl _ _ (hHeld.2.2.2.2.2.2.2.2.2.2.2.1))).trans (hHeld.2.2.2.2.2.2.2.2.2.2.2.1);have HS12_:=(hb.cell (zl _ _ (hHeld.2.2.2.2.2.2.2.2.2.2.2.2.1))).trans (hHeld.2.2.2.2.2.2.2.2.2.2.2.2.1);have HS13_:=(hb.cell (zl _ _ (hHeld.2.2.2.2.2.2.2.2.2.2.2.2.2.1))).trans (hHeld.2.2.2.2.2.2.2.2.2.2.2.2.2.1);have HS14_:=(hb.cell (zl _ _ (hHeld.2.2.2.2.2.2.2.2.2.2.2.2.2.2.1))).trans (hHeld.2.2.2.2.2.2.2.2.2.2.2.2.2.2.1);have HS15_:=(hb.cell (zl _ _ (hHeld.2.2.2.2.2.2.2.2.2.2.2.2.2.2.2))).trans (hHeld.2.2.2.2.2.2.2.2.2.2.2.2.2.2.2);refine ⟨_,rfl,?_⟩;replace HO_8:=zh (yg (by (with_reducible repeat (first|apply zm|apply zn|apply zo));exact HO_8.out) hb);replace BK168:=zh (zD (g:=gb168) (o:=.cells #[.int .i64 a0_0,.int .i64 a0_1,.string a0_2] 49 (0,0)) (by (with_reducible repeat (first|refine ze ?_ _|refine zf ?_|refine zg ?_ _));exact BK168.out) hb);replace HB:=zh (zC (by repeat (with_reducible first|exact HB.out|apply za|apply zb|apply zc|refine zd ?_ GE168.out)) hb);(try clear hb);(try clear hb2);(try clear hk);(try clear hi);refine hK.out _ _ ⟨HS0_,HS1_,HS2_,HS3_,HS4_,HS5_,HS6_,HS7_,HS8_,HS9_,HS10_,HS11_,HS12_,HS13_,HS14_,HS15_⟩ (fun hHeld => ?_);clear hK K;refine norm_ (a':=?_) ?_ ?_;rotate_left
              ·
               show Act.put _ (some 157) _=_
               simp only [Act.put,zi,zj,zk,zG,zH]
               rfl
              refine pure_ (i:=34) (N:=some 158) (v:=?_) (a':=?_) (bm_ 35 36) rfl rfl (any_of HT_.out (by kernel_rfl)) (fun _ _ _ h => h) (Or.inl ⟨by rfl,?_⟩) ?_ ?_;rotate_left
              ·
               intro w'
               go_simp
               with_reducible rfl
              rotate_left
              ·
               simp only [Act.put,zi,zj,zk,zG,zH]
               rfl
              refine pure_ (i:=35) (N:=some 159) (v:=?_) (a':=?_) (bm_ 36 36) rfl rfl (any_of HT_.out (by kernel_rfl)) (fun _ _ _ h => h) (Or.inl ⟨by rfl,?_⟩) ?_ ?_;rotate_left
              ·
               intro w'
               go_simp
               with_reducible rfl
              rotate_left
              ·
               simp only [Act.put,zi,zj,zk,zG,zH]
               rfl
              refine done_ (done_of HT_.out (by kernel_rfl)) ?_
              try go_wp2
              go_roundg k2
              case measure => have:=HJ53.out;have:=HK2.out;omega
              case rel => exact ⟨(wrap64 (x10_2 + 1)),(by first|rfl|(simp;done)|(simp [*];done)),H',⟨by have:=HJ53.out;have:=HK2.out;omega⟩,⟨by (with_reducible repeat (first|apply zm|apply zn|apply zo));exact HO_8.out⟩,⟨by (with_reducible repeat (first|refine ze ?_ _|refine zf ?_|refine zg ?_ _));exact BK168.out⟩,⟨by repeat (with_reducible first|exact HB.out|apply za|apply zb|apply zc|refine zd ?_ GE168.out)⟩⟩
             replace c76:=yb.mpr c76;subst c76;have H1 : (some false)=some r:=by rw [if_neg (show ¬ (false=true) by decide)] at H;exact H
             clear H;have H:=H1;clear H1;obtain rfl:=zU H;obtain ⟨Ao80,co80,eo80⟩:=yk HO_8.out;subst eo80
             try go_wp2
             replace HO_8:=zh (zo HO_8.out);replace BK168:=zh (zf BK168.out);replace HB:=zh (zc HB.out);have p181 : 0≤(x10_2 : Int):=zy (by first|(with_reducible assumption)|assumption);have q181 : x10_2<(t177.length : Int):=zy (by first|(with_reducible assumption)|assumption);obtain ⟨ad181,e181,hx181_0,hx181_1,hx181_2,hx181_3⟩:=at_T87 (yh HO_8.out).2.2 x10_2 p181 q181
             cases e181
             replace p181:=eq_true p181;replace q181:=eq_true q181;have p183 : 0≤((ji71) : Int):=zy (by first|(with_reducible assumption)|assumption);have q183 : (ji71)<(t177.length : Int):=zy (by first|(with_reducible assumption)|assumption);obtain ⟨ad183,e183,hx183_0,hx183_1,hx183_2,hx183_3⟩:=at_T87 (yh HO_8.out).2.2 (ji71) p183 q183;obtain rfl : ad181=ad183:=(by injection e183);replace p183:=eq_true p183;replace q183:=eq_true q183;have p184 : 0≤(x10_2 : Int):=zy (by first|(with_reducible assumption)|assumption);have q184 : x10_2<(t177.length : Int):=zy (by first|(with_reducible assumption)|assumption);obtain ⟨ad184,e184,hx184_0,hx184_1,hx184_2,hx184_3⟩:=at_T87 (yh HO_8.out).2.2 x10_2 p184 q184;obtain rfl : ad181=ad184:=(by injection e184);replace p184:=eq_true p184;replace q184:=eq_true q184;have p185 : 0≤(x10_2 : Int):=zy (by first|(with_reducible assumption)|assumption);have q185 : x10_2<(t177.length : Int):=zy (by first|(with_reducible assumption)|assumption);obtain ⟨ad185,e185,hx185_0,hx185_1,hx185_2,hx185_3⟩:=at_T87 (yh HO_8.out).2.2 x10_2 p185 q185;obtain rfl : ad181=ad185:=(by injection e185);replace p185:=eq_true p185;replace q185:=eq_true q185;refine start_ (n:=36) (S:=fun w' => w'.cell? (ad181.add ((x10_2).toNat * 4))=some (.string ((rd_T87 t177 x10_2).f0))∧w'.cell? ⟨(ad181.add ((x10_2).toNat * 4)).block,(ad181.add ((x10_2).toNat * 4)).off + 1,none⟩=some (.int .i64 ((rd_T87 t177 x10_2).f1.f0))∧w'.cell? ⟨(ad181.add ((x10_2).toNat * 4)).block,(ad181.add ((x10_2).toNat * 4)).off + 2,none⟩=some (.int .i64 ((rd_T87 t177 x10_2).f1.f1))∧w'.cell? ⟨(ad181.add ((x10_2).toNat * 4)).block,(ad181.add ((x10_2).toNat * 4)).off + 3,none⟩=some (.string ((rd_T87 t177 x10_2).f1.f2))∧w'.cell? (ad181.add (((ji71)).toNat * 4))=some (.string ((rd_T87 t177 (ji71)).f0))∧w'.cell? ⟨(ad181.add (((ji71)).toNat * 4)).block,(ad181.add (((ji71)).toNat * 4)).off + 1,none⟩=some (.int .i64 ((rd_T87 t177 (ji71)).f1.f0))∧w'.cell? ⟨(ad181.add (((ji71)).toNat * 4)).block,(ad181.add (((ji71)).toNat * 4)).off + 2,none⟩=some (.int .i64 ((rd_T87 t177 (ji71)).f1.f1))∧w'.cell? ⟨(ad181.add (((ji71)).toNat * 4)).block,(ad181.add (((ji71)).toNat * 4)).off + 3,none⟩=some (.string ((rd_T87 t177 (ji71)).f1.f2))∧w'.cell? (ad181.add ((x10_2).toNat * 4))=some (.string ((rd_T87 t177 x10_2).f0))∧w'.cell? ⟨(ad181.add ((x10_2).toNat * 4)).block,(ad181.add ((x10_2).toNat * 4)).off + 1,none⟩=some (.int .i64 ((rd_T87 t177 x10_2).f1.f0))∧w'.cell? ⟨(ad181.add ((x10_2).toNat * 4)).block,(ad181.add ((x10_2).toNat * 4)).off + 2,none⟩=some (.int .i64 ((rd_T87 t177 x10_2).f1.f1))∧w'.cell? ⟨(ad181.add ((x10_2).toNat * 4)).block,(ad181.add ((x10_2).toNat * 4)).off + 3,none⟩=some (.string ((rd_T87 t177 x10_2).f1.f2))∧w'.cell? (ad181.add ((x10_2).toNat * 4))=some (.string ((rd_T87 t177 x10_2).f0))∧w'.cell? ⟨(ad181.add ((x10_2).toNat * 4)).block,(ad181.add ((x10_2).toNat * 4)).off + 1,none⟩=some (.int .i64 ((rd_T87 t177 x10_2).f1.f0))∧w'.cell? ⟨(ad181.add ((x10_2).toNat * 4)).block,(ad181.add ((x10_2).toNat * 4)).off + 2,none⟩=some (.int .i64 ((rd_T87 t177 x10_2).f1.f1))∧w'.cell? ⟨(ad181.add ((x10_2).toNat * 4)).block,(ad181.add ((x10_2).toNat * 4)).off + 3,none⟩=some (.string ((rd_T87 t177 x10_2).f1.f2))) (ds:=[]) (bm_ 0 36) (by kernel_rfl) rfl rfl ⟨hx181_0,hx181_1,hx181_2,hx181_3,hx183_0,hx183_1,hx183_2,hx183_3,hx184_0,hx184_1,hx184_2,hx184_3,hx185_0,hx185_1,hx185_2,hx185_3⟩ (fun hHeld => ?_);refine with_tabW F0.tab27 F0.bits27 (fun HT_ HW_ => ?_);generalize wr.drew=w81 at HO_8 BK168 HB hx181_0 hx181_1 hx181_2 hx181_3 hx183_0 hx183_1 hx183_2 hx183_3 hx184_0 hx184_1 hx184_2 hx184_3 hx185_0 hx185_1 hx185_2 hx185_3 hHeld ⊢;refine pure_ (i:=0) (N:=some 124) (v:=?_) (a':=?_) (bm_ 1 36) rfl rfl (any_of HT_.out (by kernel_rfl)) (fun _ _ _ h => h) (Or.inl ⟨by rfl,?_⟩) ?_ ?_;rotate_left
             ·
              intro w'
              go_simp
              with_reducible rfl
             rotate_left
             ·
              simp only [Act.put,zi,zj,zk,zG,zH]
              rfl
             refine pure_ (i:=1) (N:=some 125) (v:=?_) (a':=?_) (bm_ 2 36) rfl rfl (any_of HT_.out (by kernel_rfl)) (fun _ _ _ h => h) (Or.inl ⟨by rfl,?_⟩) ?_ ?_;rotate_left
             ·
              intro w'
              go_simp
              with_reducible rfl
             rotate_left
             ·
              simp only [Act.put,zi,zj,zk,zG,zH]
              rfl
             refine pure_ (i:=2) (N:=some 126) (v:=?_) (a':=?_) (bm_ 3 36) rfl rfl (any_of HT_.out (by kernel_rfl)) (fun _ _ _ h => h) (Or.inl ⟨by rfl,?_⟩) ?_ ?_;rotate_left
             ·
              intro w'
              go_simp
              with_reducible rfl
             rotate_left
             ·
              simp only [Act.put,zi,zj,zk,zG,zH]
              rfl
             refine pure_ (i:=3) (N:=some 127) (v:=?_) (a':=?_) (bm_ 4 36) rfl rfl (any_of HT_.out (by kernel_rfl)) (fun _ _ _ h => h) (Or.inl ⟨by rfl,?_⟩) ?_ ?_;rotate_left
             ·
              intro w'
              go_simp
              with_reducible rfl
             rotate_left
             ·
              simp only [Act.put,zi,zj,zk,zG,zH]
              rfl
             refine take_ (i:=4) (N:=some 128) (v:=?_) (a':=?_) (bm_ 5 36) rfl rfl (yo HT_.out HW_.out (by kernel_rfl)) (fun _ _ _ h => h) (Or.inl ⟨by rfl,?_⟩) hHeld ?_ ?_;rotate_left
             ·
              rintro w' ⟨s0,s1,s2,s3,s4,s5,s6,s7,s8,s9,s10,s11,s12,s13,s14,s15⟩
              go_simp
              with_reducible rfl
             rotate_left
             ·
              simp only [Act.put,zi,zj,zk,zG,zH]
              rfl
             refine one_ (i:=5) (N:=some 129) (bm_ 6 36) rfl rfl (one_of HT_.out (by kernel_rfl)) (by decide) (fun K hK => ?_);refine goes_ Tryz.func26 (by kernel_rfl) rfl #[.string ((rd_T87 t177 x10_2).f0)] (by rfl) rfl rfl (by (try simp only [zt,zu,zv]);first|done|rfl|(simp only [zw,zx];rfl)|(simp only [yr,ys,zV,zW];rfl)) ?_
             with_reducible refine (F00.calls k2  ((rd_T87 t177 x10_2).f0) true _ A68.out).mono ?_
             rintro e w' ⟨rfl,⟨nd,rfl⟩⟩;refine ⟨_,rfl,?_⟩;refine hK.out _ _ ⟨hHeld.1,hHeld.2.1,hHeld.2.2.1,hHeld.2.2.2.1,hHeld.2.2.2.2.1,hHeld.2.2.2.2.2.1,hHeld.2.2.2.2.2.2.1,hHeld.2.2.2.2.2.2.2.1,hHeld.2.2.2.2.2.2.2.2.1,hHeld.2.2.2.2.2.2.2.2.2.1,hHeld.2.2.2.2.2.2.2.2.2.2.1,hHeld.2.2.2.2.2.2.2.2.2.2.2.1,hHeld.2.2.2.2.2.2.2.2.2.2.2.2.1,hHeld.2.2.2.2.2.2.2.2.2.2.2.2.2.1,hHeld.2.2.2.2.2.2.2.2.2.2.2.2.2.2.1,hHeld.2.2.2.2.2.2.2.2.2.2.2.2.2.2.2⟩ (fun hHeld => ?_);clear hK K;refine norm_ (a':=?_) ?_ ?_;rotate_left
             ·
              show Act.put _ (some 129) _=_
              simp only [Act.put,zi,zj,zk,zG,zH]
              rfl
             refine pure_ (i:=6) (N:=some 130) (v:=?_) (a':=?_) (bm_ 7 36) rfl rfl (any_of HT_.out (by kernel_rfl)) (fun _ _ _ h => h) (Or.inl ⟨by rfl,?_⟩) ?_ ?_;rotate_left
             ·
              intro w'
              go_simp
              with_reducible rfl
             rotate_left
             ·
              simp only [Act.put,zi,zj,zk,zG,zH]
              rfl
             refine pure_ (i:=7) (N:=some 131) (v:=?_) (a':=?_) (bm_ 8 36) rfl rfl (any_of HT_.out (by kernel_rfl)) (fun _ _ _ h => h) (Or.inl ⟨by rfl,?_⟩) ?_ ?_;rotate_left
             ·
              intro w'
              go_simp
              with_reducible rfl
             rotate_left
             ·
              simp only [Act.put,zi,zj,zk,zG,zH]
              rfl
             refine pure_ (i:=8) (N:=some 132) (v:=?_) (a':=?_) (bm_ 9 36) rfl rfl (any_of HT_.out (by kernel_rfl)) (fun _ _ _ h => h) (Or.inl ⟨by rfl,?_⟩) ?_ ?_;rotate_left
             ·
              intro w'
              go_simp
              with_reducible rfl
             rotate_left
             ·
              simp only [Act.put,zi,zj,zk,zG,zH]
              rfl
             refine pure_ (i:=9) (N:=some 133) (v:=?_) (a':=?_) (bm_ 10 36) rfl rfl (any_of HT_.out (by kernel_rfl)) (fun _ _ _ h => h) (Or.inl ⟨by rfl,?_⟩) ?_ ?_;rotate_left
             ·
              intro w'
              go_simp
              with_reducible rfl
             rotate_left
             ·
              simp only [Act.put,zi,zj,zk,zG,zH]
              rfl
             refine pure_ (i:=10) (N:=some 134) (v:=?_) (a':=?_) (bm_ 11 36) rfl rfl (any_of HT_.out (by kernel_rfl)) (fun _ _ _ h => h) (Or.inl ⟨by rfl,?_⟩) ?_ ?_;rotate_left
             ·
              intro w'
              go_simp
              with_reducible rfl
             rotate_left
             ·
              simp only [Act.put,zi,zj,zk,zG,zH]
              rfl
             refine pure_ (i:=11) (N:=some 135) (v:=?_) (a':=?_) (bm_ 12 36) rfl rfl (any_of HT_.out (by kernel_rfl)) (fun _ _ _ h => h) (Or.inl ⟨by rfl,?_⟩) ?_ ?_;rotate_left
             ·
              intro w'
              go_simp
              with_reducible rfl
             rotate_left
             ·
              simp only [Act.put,zi,zj,zk,zG,zH]
              rfl
             refine pure_ (i:=12) (N:=some 136) (v:=?_) (a':=?_) (bm_ 13 36) rfl rfl (any_of HT_.out (by kernel_rfl)) (fun _ _ _ h => h) (Or.inl ⟨by rfl,?_⟩) ?_ ?_;rotate_left
             ·
              intro w'
              go_simp
              with_reducible rfl
             rotate_left
             ·
              simp only [Act.put,zi,zj,zk,zG,zH]
              rfl
             refine pure_ (i:=13) (N:=some 137) (v:=?_) (a':=?_) (bm_ 14 36) rfl rfl (any_of HT_.out (by kernel_rfl)) (fun _ _ _ h => h) (Or.inl ⟨by rfl,?_⟩) ?_ ?_;rotate_left
             ·
              intro w'
              go_simp
              with_reducible rfl
             rotate_left
             ·
              simp only [Act.put,zi,zj,zk,zG,zH]
              rfl
             refine pure_ (i:=14) (N:=some 138) (v:=?_) (a':=?_) (bm_ 15 36) rfl rfl (any_of HT_.out (by kernel_rfl)) (fun _ _ _ h => h) (Or.inl ⟨by rfl,?_⟩) ?_ ?_;rotate_left
             ·
              intro w'
              go_simp
              with_reducible rfl
             rotate_left
             ·
              simp only [Act.put,zi,zj,zk,zG,zH]
              rfl
             refine pure_ (i:=15) (N:=some 139) (v:=?_) (a':=?_) (bm_ 16 36) rfl rfl (any_of HT_.out (by kernel_rfl)) (fun _ _ _ h => h) (Or.inl ⟨by rfl,?_⟩) ?_ ?_;rotate_left
             ·
              intro w'
              go_simp
              with_reducible rfl
             rotate_left
             ·
              simp only [Act.put,zi,zj,zk,zG,zH]
              rfl
             refine pure_ (i:=17) (N:=some 141) (v:=?_) (a':=?_) #[true,true,true,true,true,true,true,true,true,true,true,true,true,true,true,true,false,true,false,false,false,false,false,false,false,false,false,false,false,false,false,false,false,false,false,false] rfl rfl (any_of HT_.out (by kernel_rfl)) (fun _ _ _ h => h) (Or.inl ⟨by rfl,?_⟩) ?_ ?_;rotate_left
             ·
              intro w'
              go_simp
              with_reducible rfl
             rotate_left
             ·
              simp only [Act.put,zi,zj,zk,zG,zH]
              rfl
             refine pure_ (i:=18) (N:=some 142) (v:=?_) (a':=?_) #[true,true,true,true,true,true,true,true,true,true,true,true,true,true,true,true,false,true,true,false,false,false,false,false,false,false,false,false,false,false,false,false,false,false,false,false] rfl rfl (any_of HT_.out (by kernel_rfl)) (fun _ _ _ h => h) (Or.inl ⟨by rfl,?_⟩) ?_ ?_;rotate_left
             ·
              intro w'
              go_simp
              with_reducible rfl
             rotate_left
             ·
              simp only [Act.put,zi,zj,zk,zG,zH]
              rfl
             refine pure_ (i:=19) (N:=some 143) (v:=?_) (a':=?_) #[true,true,true,true,true,true,true,true,true,true,true,true,true,true,true,true,false,true,true,true,false,false,false,false,false,false,false,false,false,false,false,false,false,false,false,false] rfl rfl (any_of HT_.out (by kernel_rfl)) (fun _ _ _ h => h) (Or.inl ⟨by rfl,?_⟩) ?_ ?_;rotate_left
             ·
              intro w'
              go_simp
              with_reducible rfl
             rotate_left
             ·
              simp only [Act.put,zi,zj,zk,zG,zH]
              rfl
             refine pure_ (i:=20) (N:=some 144) (v:=?_) (a':=?_) #[true,true,true,true,true,true,true,true,true,true,true,true,true,true,true,true,false,true,true,true,true,false,false,false,false,false,false,false,false,false,false,false,false,false,false,false] rfl rfl (any_of HT_.out (by kernel_rfl)) (fun _ _ _ h => h) (Or.inl ⟨by rfl,?_⟩) ?_ ?_;rotate_left
             ·
              intro w'
              go_simp
              with_reducible rfl
             rotate_left
             ·
              simp only [Act.put,zi,zj,zk,zG,zH]
              rfl
             refine take_ (i:=16) (N:=some 140) (v:=?_) (a':=?_) (bm_ 21 36) rfl rfl (yo HT_.out HW_.out (by kernel_rfl)) (fun _ _ _ h => h) (Or.inl ⟨by rfl,?_⟩) hHeld ?_ ?_;rotate_left
             ·
              rintro w' ⟨s0,s1,s2,s3,s4,s5,s6,s7,s8,s9,s10,s11,s12,s13,s14,s15⟩
              go_simp
              with_reducible rfl
             rotate_left
             ·
              simp only [Act.put,zi,zj,zk,zG,zH]
              rfl
             refine take_ (i:=21) (N:=some 145) (v:=?_) (a':=?_) (bm_ 22 36) rfl rfl (yo HT_.out HW_.out (by kernel_rfl)) (fun _ _ _ h => h) (Or.inl ⟨by rfl,?_⟩) hHeld ?_ ?_;rotate_left
             ·
              rintro w' ⟨s0,s1,s2,s3,s4,s5,s6,s7,s8,s9,s10,s11,s12,s13,s14,s15⟩
              go_simp
              with_reducible rfl
             rotate_left
             ·
              simp only [Act.put,zi,zj,zk,zG,zH]
              rfl
             refine pure_ (i:=22) (N:=some 146) (v:=?_) (a':=?_) (bm_ 23 36) rfl rfl (any_of HT_.out (by kernel_rfl)) (fun _ _ _ h => h) (Or.inl ⟨by rfl,?_⟩) ?_ ?_;rotate_left
             ·
              intro w'
              go_simp
              with_reducible rfl
             rotate_left
             ·
              simp only [Act.put,zi,zj,zk,zG,zH]
              rfl
             refine pure_ (i:=23) (N:=some 147) (v:=?_) (a':=?_) (bm_ 24 36) rfl rfl (any_of HT_.out (by kernel_rfl)) (fun _ _ _ h => h) (Or.inl ⟨by rfl,?_⟩) ?_ ?_;rotate_left
             ·
              intro w'
              go_simp
              with_reducible rfl
             rotate_left
             ·
              simp only [Act.put,zi,zj,zk,zG,zH]
              rfl
             refine pure_ (i:=24) (N:=some 148) (v:=?_) (a':=?_) (bm_ 25 36) rfl rfl (any_of HT_.out (by kernel_rfl)) (fun _ _ _ h => h) (Or.inl ⟨by rfl,?_⟩) ?_ ?_;rotate_left
             ·
              intro w'
              go_simp
              with_reducible rfl
             rotate_left
             ·
              simp only [Act.put,zi,zj,zk,zG,zH]
              rfl
             refine pure_ (i:=25) (N:=some 149) (v:=?_) (a':=?_) (bm_ 26 36) rfl rfl (any_of HT_.out (by kernel_rfl)) (fun _ _ _ h => h) (Or.inl ⟨by rfl,?_⟩) ?_ ?_;rotate_left
             ·
              intro w'
              go_simp
              with_reducible rfl
             rotate_left
             ·
              simp only [Act.put,zi,zj,zk,zG,zH]
              rfl
             refine pure_ (i:=26) (N:=some 150) (v:=?_) (a':=?_) (bm_ 27 36) rfl rfl (any_of HT_.out (by kernel_rfl)) (fun _ _ _ h => h) (Or.inl ⟨by rfl,?_⟩) ?_ ?_;rotate_left
             ·
              intro w'
              go_simp
              with_reducible rfl
             rotate_left
             ·
              simp only [Act.put,zi,zj,zk,zG,zH]
              rfl
             refine pure_ (i:=27) (N:=some 151) (v:=?_) (a':=?_) (bm_ 28 36) rfl rfl (any_of HT_.out (by kernel_rfl)) (fun _ _ _ h => h) (Or.inl ⟨by rfl,?_⟩) ?_ ?_;rotate_left
             ·
              intro w'
              go_simp
              with_reducible rfl
             rotate_left
             ·
              simp only [Act.put,zi,zj,zk,zG,zH]
              rfl
             refine pure_ (i:=28) (N:=some 152) (v:=?_) (a':=?_) (bm_ 29 36) rfl rfl (any_of HT_.out (by kernel_rfl)) (fun _ _ _ h => h) (Or.inl ⟨by rfl,?_⟩) ?_ ?_;rotate_left
             ·
              intro w'
              go_simp
              with_reducible rfl
             rotate_left
             ·
              simp only [Act.put,zi,zj,zk,zG,zH]
              rfl
             refine pure_ (i:=29) (N:=some 153) (v:=?_) (a':=?_) (bm_ 30 36) rfl rfl (any_of HT_.out (by kernel_rfl)) (fun _ _ _ h => h) (Or.inl ⟨by rfl,?_⟩) ?_ ?_;rotate_left
             ·
              intro w'
              go_simp
              with_reducible rfl
             rotate_left
             ·
              simp only [Act.put,zi,zj,zk,zG,zH]
              rfl
             refine pure_ (i:=31) (N:=some 155) (v:=?_) (a':=?_) #[true,true,true,true,true,true,true,true,true,true,true,true,true,true,true,true,true,true,true,true,true,true,true,true,true,true,true,true,true,true,false,true,false,false,false,false] rfl rfl (any_of HT_.out (by kernel_rfl)) (fun _ _ _ h => h) (Or.inl ⟨by rfl,?_⟩) ?_ ?_;rotate_left
             ·
              intro w'
              go_simp
              with_reducible rfl
             rotate_left
             ·
              simp only [Act.put,zi,zj,zk,zG,zH]
              rfl
             refine pure_ (i:=32) (N:=some 156) (v:=?_) (a':=?_) #[true,true,true,true,true,true,true,true,true,true,true,true,true,true,true,true,true,true,true,true,true,true,true,true,true,true,true,true,true,true,false,true,true,false,false,false] rfl rfl (any_of HT_.out (by kernel_rfl)) (fun _ _ _ h => h) (Or.inl ⟨by rfl,?_⟩) ?_ ?_;rotate_left
             ·
              intro w'
              go_simp
              with_reducible rfl
             rotate_left
             ·
              simp only [Act.put,zi,zj,zk,zG,zH]
              rfl
             refine take_ (i:=30) (N:=some 154) (v:=?_) (a':=?_) (bm_ 33 36) rfl rfl (yo HT_.out HW_.out (by kernel_rfl)) (fun _ _ _ h => h) (Or.inl ⟨by rfl,?_⟩) hHeld ?_ ?_;rotate_left
             ·
              rintro w' ⟨s0,s1,s2,s3,s4,s5,s6,s7,s8,s9,s10,s11,s12,s13,s14,s15⟩
              go_simp
              with_reducible rfl
             rotate_left
             ·
              simp only [Act.put,zi,zj,zk,zG,zH]
              rfl
             refine one_ (i:=33) (N:=some 157) (bm_ 34 36) rfl rfl (one_of HT_.out (by kernel_rfl)) (by decide) (fun K hK => ?_);refine goes_ Tryz.func41 (by kernel_rfl) rfl #[.agg #[.int .i64 ((rd_T87 t177 x10_2).f1.f0),.int .i64 ((rd_T87 t177 x10_2).f1.f1),.string ((rd_T87 t177 x10_2).f1.f2)],.int .i64 (wrap64 (a1 - 1))] (by rfl) rfl rfl (by (try simp only [zt,zu,zv]);first|done|rfl|(simp only [zw,zx];rfl)|(simp only [yr,ys,zV,zW];rfl)) ?_
             with_reducible refine (ih k2 (by have:=HJ53.out;have:=HK2.out;omega)  ((rd_T87 t177 x10_2).f1.f0) ((rd_T87 t177 x10_2).f1.f1) ((rd_T87 t177 x10_2).f1.f2) (wrap64 (a1 - 1)) false _ A75.out).mono ?_
             rintro e w82 ⟨rfl,hb⟩;have HS0_:=(hb.cell (zl _ _ (hHeld.1))).trans (hHeld.1);have HS1_:=(hb.cell (zl _ _ (hHeld.2.1))).trans (hHeld.2.1);have HS2_:=(hb.cell (zl _ _ (hHeld.2.2.1))).trans (hHeld.2.2.1);have HS3_:=(hb.cell (zl _ _ (hHeld.2.2.2.1))).trans (hHeld.2.2.2.1);have HS4_:=(hb.cell (zl _ _ (hHeld.2.2.2.2.1))).trans (hHeld.2.2.2.2.1);have HS5_:=(hb.cell (zl _ _ (hHeld.2.2.2.2.2.1))).trans (hHeld.2.2.2.2.2.1);have HS6_:=(hb.cell (zl _ _ (hHeld.2.2.2.2.2.2.1))).trans (hHeld.2.2.2.2.2.2.1);have HS7_:=(hb.cell (zl _ _ (hHeld.2.2.2.2.2.2.2.1))).trans (hHeld.2.2.2.2.2.2.2.1);have HS8_:=(hb.cell (zl _ _ (hHeld.2.2.2.2.2.2.2.2.1))).trans (hHeld.2.2.2.2.2.2.2.2.1);have HS9_:=(hb.cell (zl _ _ (hHeld.2.2.2.2.2.2.2.2.2.1))).trans (hHeld.2.2.2.2.2.2.2.2.2.1);have HS10_:=(hb.cell (zl _ _ (hHeld.2.2.2.2.2.2.2.2.2.2.1))).trans (hHeld.2.2.2.2.2.2.2.2.2.2.1);have HS11_:=(hb.cell (zl _ _ (hHeld.2.2.2.2.2.2.2.2.2.2.2.1))).trans (hHeld.2.2.2.2.2.2.2.2.2.2.2.1);have HS12_:=(hb.cell (zl _ _ (hHeld.2.2.2.2.2.2.2.2.2.2.2.2.1))).trans (hHeld.2.2.2.2.2.2.2.2.2.2.2.2.1);have HS13_:=(hb.cell (zl _ _ (hHeld.2.2.2.2.2.2.2.2.2.2.2.2.2.1))).trans (hHeld.2.2.2.2.2.2.2.2.2.2.2.2.2.1);have HS14_:=(hb.cell (zl _ _ (hHeld.2.2.2.2.2.2.2.2.2.2.2.2.2.2.1))).trans (hHeld.2.2.2.2.2.2.2.2.2.2.2.2.2.2.1);have HS15_:=(hb.cell (zl _ _ (hHeld.2.2.2.2.2.2.2.2.2.2.2.2.2.2.2))).trans (hHeld.2.2.2.2.2.2.2.2.2.2.2.2.2.2.2);refine ⟨_,rfl,?_⟩;replace HO_8:=zh (yg (by (with_reducible repeat (first|apply zm|apply zn|apply zo));exact HO_8.out) hb);replace BK168:=zh (zD (g:=gb168) (o:=.cells #[.int .i64 a0_0,.int .i64 a0_1,.string a0_2] 49 (0,0)) (by (with_reducible repeat (first|refine ze ?_ _|refine zf ?_|refine zg ?_ _));exact BK168.out) hb);replace HB:=zh (zC (by repeat (with_reducible first|exact HB.out|apply za|apply zb|apply zc|refine zd ?_ GE168.out)) hb);(try clear hb);(try clear hb2);(try clear hk);(try clear hi);refine hK.out _ _ ⟨HS0_,HS1_,HS2_,HS3_,HS4_,HS5_,HS6_,HS7_,HS8_,HS9_,HS10_,HS11_,HS12_,HS13_,HS14_,HS15_⟩ (fun hHeld => ?_);clear hK K;refine norm_ (a':=?_) ?_ ?_;rotate_left
             ·
              show Act.put _ (some 157) _=_
              simp only [Act.put,zi,zj,zk,zG,zH]
              rfl
             refine pure_ (i:=34) (N:=some 158) (v:=?_) (a':=?_) (bm_ 35 36) rfl rfl (any_of HT_.out (by kernel_rfl)) (fun _ _ _ h => h) (Or.inl ⟨by rfl,?_⟩) ?_ ?_;rotate_left
             ·
              intro w'
              go_simp
              with_reducible rfl
             rotate_left
             ·
              simp only [Act.put,zi,zj,zk,zG,zH]
              rfl
             refine pure_ (i:=35) (N:=some 159) (v:=?_) (a':=?_) (bm_ 36 36) rfl rfl (any_of HT_.out (by kernel_rfl)) (fun _ _ _ h => h) (Or.inl ⟨by rfl,?_⟩) ?_ ?_;rotate_left
             ·
              intro w'
              go_simp
              with_reducible rfl
             rotate_left
             ·
              simp only [Act.put,zi,zj,zk,zG,zH]
              rfl
             refine done_ (done_of HT_.out (by kernel_rfl)) ?_
             try go_wp2
             go_ret
             exact ⟨by first|rfl|(simp [yt,yu] <;> rfl)|(simp only [← hji71];first|rfl|(simp [yt,yu] <;> rfl))|(simp [*,yt,yu] <;> rfl),by repeat (with_reducible first|exact HB.out|apply za|apply zb|apply zc|refine zd ?_ GE168.out)⟩
            rw [if_neg c74] at H;have c74b0 : (Op.bytesLess (((rd_T87 t177 (ji71)).f0).toList) (((rd_T87 t177 x10_2).f0).toList))=false:=by simpa using c74
            clear c74;obtain rfl:=zU H;obtain ⟨Ao83,co83,eo83⟩:=yk HO_8.out;subst eo83
            try go_wp2
            replace HO_8:=zh (zo HO_8.out);replace BK168:=zh (zf BK168.out);replace HB:=zh (zc HB.out);have p181 : 0≤(x10_2 : Int):=zy (by first|(with_reducible assumption)|assumption);have q181 : x10_2<(t177.length : Int):=zy (by first|(with_reducible assumption)|assumption);obtain ⟨ad181,e181,hx181_0,hx181_1,hx181_2,hx181_3⟩:=at_T87 (yh HO_8.out).2.2 x10_2 p181 q181
            cases e181
            replace p181:=eq_true p181;replace q181:=eq_true q181;have p183 : 0≤((ji71) : Int):=zy (by first|(with_reducible assumption)|assumption);have q183 : (ji71)<(t177.length : Int):=zy (by first|(with_reducible assumption)|assumption);obtain ⟨ad183,e183,hx183_0,hx183_1,hx183_2,hx183_3⟩:=at_T87 (yh HO_8.out).2.2 (ji71) p183 q183;obtain rfl : ad181=ad183:=(by injection e183);replace p183:=eq_true p183;replace q183:=eq_true q183;have p184 : 0≤(x10_2 : Int):=zy (by first|(with_reducible assumption)|assumption);have q184 : x10_2<(t177.length : Int):=zy (by first|(with_reducible assumption)|assumption);obtain ⟨ad184,e184,hx184_0,hx184_1,hx184_2,hx184_3⟩:=at_T87 (yh HO_8.out).2.2 x10_2 p184 q184;obtain rfl : ad181=ad184:=(by injection e184);replace p184:=eq_true p184;replace q184:=eq_true q184;refine start_ (n:=36) (S:=fun w' => w'.cell? (ad181.add ((x10_2).toNat * 4))=some (.string ((rd_T87 t177 x10_2).f0))∧w'.cell? ⟨(ad181.add ((x10_2).toNat * 4)).block,(ad181.add ((x10_2).toNat * 4)).off + 1,none⟩=some (.int .i64 ((rd_T87 t177 x10_2).f1.f0))∧w'.cell? ⟨(ad181.add ((x10_2).toNat * 4)).block,(ad181.add ((x10_2).toNat * 4)).off + 2,none⟩=some (.int .i64 ((rd_T87 t177 x10_2).f1.f1))∧w'.cell? ⟨(ad181.add ((x10_2).toNat * 4)).block,(ad181.add ((x10_2).toNat * 4)).off + 3,none⟩=some (.string ((rd_T87 t177 x10_2).f1.f2))∧w'.cell? (ad181.add (((ji71)).toNat * 4))=some (.string ((rd_T87 t177 (ji71)).f0))∧w'.cell? ⟨(ad181.add (((ji71)).toNat * 4)).block,(ad181.add (((ji71)).toNat * 4)).off + 1,none⟩=some (.int .i64 ((rd_T87 t177 (ji71)).f1.f0))∧w'.cell? ⟨(ad181.add (((ji71)).toNat * 4)).block,(ad181.add (((ji71)).toNat * 4)).off + 2,none⟩=some (.int .i64 ((rd_T87 t177 (ji71)).f1.f1))∧w'.cell? ⟨(ad181.add (((ji71)).toNat * 4)).block,(ad181.add (((ji71)).toNat * 4)).off + 3,none⟩=some (.string ((rd_T87 t177 (ji71)).f1.f2))∧w'.cell? (ad181.add ((x10_2).toNat * 4))=some (.string ((rd_T87 t177 x10_2).f0))∧w'.cell? ⟨(ad181.add ((x10_2).toNat * 4)).block,(ad181.add ((x10_2).toNat * 4)).off + 1,none⟩=some (.int .i64 ((rd_T87 t177 x10_2).f1.f0))∧w'.cell? ⟨(ad181.add ((x10_2).toNat * 4)).block,(ad181.add ((x10_2).toNat * 4)).off + 2,none⟩=some (.int .i64 ((rd_T87 t177 x10_2).f1.f1))∧w'.cell? ⟨(ad181.add ((x10_2).toNat * 4)).block,(ad181.add ((x10_2).toNat * 4)).off + 3,none⟩=some (.string ((rd_T87 t177 x10_2).f1.f2))) (ds:=[]) (bm_ 0 36) (by kernel_rfl) rfl rfl ⟨hx181_0,hx181_1,hx181_2,hx181_3,hx183_0,hx183_1,hx183_2,hx183_3,hx184_0,hx184_1,hx184_2,hx184_3⟩ (fun hHeld => ?_);refine with_tabW F0.tab27 F0.bits27 (fun HT_ HW_ => ?_);generalize wr.drew=w84 at HO_8 BK168 HB hx181_0 hx181_1 hx181_2 hx181_3 hx183_0 hx183_1 hx183_2 hx183_3 hx184_0 hx184_1 hx184_2 hx184_3 hHeld ⊢;refine pure_ (i:=0) (N:=some 124) (v:=?_) (a':=?_) (bm_ 1 36) rfl rfl (any_of HT_.out (by kernel_rfl)) (fun _ _ _ h => h) (Or.inl ⟨by rfl,?_⟩) ?_ ?_;rotate_left
            ·
             intro w'
             go_simp
             with_reducible rfl
            rotate_left
            ·
             simp only [Act.put,zi,zj,zk,zG,zH]
             rfl
            refine pure_ (i:=1) (N:=some 125) (v:=?_) (a':=?_) (bm_ 2 36) rfl rfl (any_of HT_.out (by kernel_rfl)) (fun _ _ _ h => h) (Or.inl ⟨by rfl,?_⟩) ?_ ?_;rotate_left
            ·
             intro w'
             go_simp
             with_reducible rfl
            rotate_left
            ·
             simp only [Act.put,zi,zj,zk,zG,zH]
             rfl
            refine pure_ (i:=2) (N:=some 126) (v:=?_) (a':=?_) (bm_ 3 36) rfl rfl (any_of HT_.out (by kernel_rfl)) (fun _ _ _ h => h) (Or.inl ⟨by rfl,?_⟩) ?_ ?_;rotate_left
            ·
             intro w'
             go_simp
             with_reducible rfl
            rotate_left
            ·
             simp only [Act.put,zi,zj,zk,zG,zH]
             rfl
            refine pure_ (i:=3) (N:=some 127) (v:=?_) (a':=?_) (bm_ 4 36) rfl rfl (any_of HT_.out (by kernel_rfl)) (fun _ _ _ h => h) (Or.inl ⟨by rfl,?_⟩) ?_ ?_;rotate_left
            ·
             intro w'
             go_simp
             with_reducible rfl
            rotate_left
            ·
             simp only [Act.put,zi,zj,zk,zG,zH]
             rfl
            refine take_ (i:=4) (N:=some 128) (v:=?_) (a':=?_) (bm_ 5 36) rfl rfl (yo HT_.out HW_.out (by kernel_rfl)) (fun _ _ _ h => h) (Or.inl ⟨by rfl,?_⟩) hHeld ?_ ?_;rotate_left
            ·
             rintro w' ⟨s0,s1,s2,s3,s4,s5,s6,s7,s8,s9,s10,s11⟩
             go_simp
             with_reducible rfl
            rotate_left
            ·
             simp only [Act.put,zi,zj,zk,zG,zH]
             rfl
            refine one_ (i:=5) (N:=some 129) (bm_ 6 36) rfl rfl (one_of HT_.out (by kernel_rfl)) (by decide) (fun K hK => ?_);refine goes_ Tryz.func26 (by kernel_rfl) rfl #[.string ((rd_T87 t177 x10_2).f0)] (by rfl) rfl rfl (by (try simp only [zt,zu,zv]);first|done|rfl|(simp only [zw,zx];rfl)|(simp only [yr,ys,zV,zW];rfl)) ?_
            with_reducible refine (F00.calls k2  ((rd_T87 t177 x10_2).f0) true _ A68.out).mono ?_
            rintro e w' ⟨rfl,⟨nd,rfl⟩⟩;refine ⟨_,rfl,?_⟩;refine hK.out _ _ ⟨hHeld.1,hHeld.2.1,hHeld.2.2.1,hHeld.2.2.2.1,hHeld.2.2.2.2.1,hHeld.2.2.2.2.2.1,hHeld.2.2.2.2.2.2.1,hHeld.2.2.2.2.2.2.2.1,hHeld.2.2.2.2.2.2.2.2.1,hHeld.2.2.2.2.2.2.2.2.2.1,hHeld.2.2.2.2.2.2.2.2.2.2.1,hHeld.2.2.2.2.2.2.2.2.2.2.2⟩ (fun hHeld => ?_);clear hK K;refine norm_ (a':=?_) ?_ ?_;rotate_left
            ·
             show Act.put _ (some 129) _=_
             simp only [Act.put,zi,zj,zk,zG,zH]
             rfl
            refine pure_ (i:=6) (N:=some 130) (v:=?_) (a':=?_) (bm_ 7 36) rfl rfl (any_of HT_.out (by kernel_rfl)) (fun _ _ _ h => h) (Or.inl ⟨by rfl,?_⟩) ?_ ?_;rotate_left
            ·
             intro w'
             go_simp
             with_reducible rfl
            rotate_left
            ·
             simp only [Act.put,zi,zj,zk,zG,zH]
             rfl
            refine pure_ (i:=7) (N:=some 131) (v:=?_) (a':=?_) (bm_ 8 36) rfl rfl (any_of HT_.out (by kernel_rfl)) (fun _ _ _ h => h) (Or.inl ⟨by rfl,?_⟩) ?_ ?_;rotate_left
            ·
             intro w'
             go_simp
             with_reducible rfl
            rotate_left
            ·
             simp only [Act.put,zi,zj,zk,zG,zH]
             rfl
            refine pure_ (i:=8) (N:=some 132) (v:=?_) (a':=?_) (bm_ 9 36) rfl rfl (any_of HT_.out (by kernel_rfl)) (fun _ _ _ h => h) (Or.inl ⟨by rfl,?_⟩) ?_ ?_;rotate_left
            ·
             intro w'
             go_simp
             with_reducible rfl
            rotate_left
            ·
             simp only [Act.put,zi,zj,zk,zG,zH]
             rfl
            refine pure_ (i:=9) (N:=some 133) (v:=?_) (a':=?_) (bm_ 10 36) rfl rfl (any_of HT_.out (by kernel_rfl)) (fun _ _ _ h => h) (Or.inl ⟨by rfl,?_⟩) ?_ ?_;rotate_left
            ·
             intro w'
             go_simp
             with_reducible rfl
            rotate_left
            ·
             simp only [Act.put,zi,zj,zk,zG,zH]
             rfl
            refine pure_ (i:=10) (N:=some 134) (v:=?_) (a':=?_) (bm_ 11 36) rfl rfl (any_of HT_.out (by kernel_rfl)) (fun _ _ _ h => h) (Or.inl ⟨by rfl,?_⟩) ?_ ?_;rotate_left
            ·
             intro w'
             go_simp
             with_reducible rfl
            rotate_left
            ·
             simp only [Act.put,zi,zj,zk,zG,zH]
             rfl
            refine pure_ (i:=11) (N:=some 135) (v:=?_) (a':=?_) (bm_ 12 36) rfl rfl (any_of HT_.out (by kernel_rfl)) (fun _ _ _ h => h) (Or.inl ⟨by rfl,?_⟩) ?_ ?_;rotate_left
            ·
             intro w'
             go_simp
             with_reducible rfl
            rotate_left
            ·
             simp only [Act.put,zi,zj,zk,zG,zH]
             rfl
            refine pure_ (i:=12) (N:=some 136) (v:=?_) (a':=?_) (bm_ 13 36) rfl rfl (any_of HT_.out (by kernel_rfl)) (fun _ _ _ h => h) (Or.inl ⟨by rfl,?_⟩) ?_ ?_;rotate_left
            ·
             intro w'
             go_simp
             with_reducible rfl
            rotate_left
            ·
             simp only [Act.put,zi,zj,zk,zG,zH]
             rfl
            refine pure_ (i:=13) (N:=some 137) (v:=?_) (a':=?_) (bm_ 14 36) rfl rfl (any_of HT_.out (by kernel_rfl)) (fun _ _ _ h => h) (Or.inl ⟨by rfl,?_⟩) ?_ ?_;rotate_left
            ·
             intro w'
             go_simp
             with_reducible rfl
            rotate_left
            ·
             simp only [Act.put,zi,zj,zk,zG,zH]
             rfl
            refine pure_ (i:=14) (N:=some 138) (v:=?_) (a':=?_) (bm_ 15 36) rfl rfl (any_of HT_.out (by kernel_rfl)) (fun _ _ _ h => h) (Or.inl ⟨by rfl,?_⟩) ?_ ?_;rotate_left
            ·
             intro w'
             go_simp
             with_reducible rfl
            rotate_left
            ·
             simp only [Act.put,zi,zj,zk,zG,zH]
             rfl
            refine pure_ (i:=15) (N:=some 139) (v:=?_) (a':=?_) (bm_ 16 36) rfl rfl (any_of HT_.out (by kernel_rfl)) (fun _ _ _ h => h) (Or.inl ⟨by rfl,?_⟩) ?_ ?_;rotate_left
            ·
             intro w'
             go_simp
             with_reducible rfl
            rotate_left
            ·
             simp only [Act.put,zi,zj,zk,zG,zH]
             rfl
            refine pure_ (i:=17) (N:=some 141) (v:=?_) (a':=?_) #[true,true,true,true,true,true,true,true,true,true,true,true,true,true,true,true,false,true,false,false,false,false,false,false,false,false,false,false,false,false,false,false,false,false,false,false] rfl rfl (any_of HT_.out (by kernel_rfl)) (fun _ _ _ h => h) (Or.inl ⟨by rfl,?_⟩) ?_ ?_;rotate_left
            ·
             intro w'
             go_simp
             with_reducible rfl
            rotate_left
            ·
             simp only [Act.put,zi,zj,zk,zG,zH]
             rfl
            refine pure_ (i:=18) (N:=some 142) (v:=?_) (a':=?_) #[true,true,true,true,true,true,true,true,true,true,true,true,true,true,true,true,false,true,true,false,false,false,false,false,false,false,false,false,false,false,false,false,false,false,false,false] rfl rfl (any_of HT_.out (by kernel_rfl)) (fun _ _ _ h => h) (Or.inl ⟨by rfl,?_⟩) ?_ ?_;rotate_left
            ·
             intro w'
             go_simp
             with_reducible rfl
            rotate_left
            ·
             simp only [Act.put,zi,zj,zk,zG,zH]
             rfl
            refine pure_ (i:=19) (N:=some 143) (v:=?_) (a':=?_) #[true,true,true,true,true,true,true,true,true,true,true,true,true,true,true,true,false,true,true,true,false,false,false,false,false,false,false,false,false,false,false,false,false,false,false,false] rfl rfl (any_of HT_.out (by kernel_rfl)) (fun _ _ _ h => h) (Or.inl ⟨by rfl,?_⟩) ?_ ?_;rotate_left
            ·
             intro w'
             go_simp
             with_reducible rfl
            rotate_left
            ·
             simp only [Act.put,zi,zj,zk,zG,zH]
             rfl
            refine pure_ (i:=20) (N:=some 144) (v:=?_) (a':=?_) #[true,true,true,true,true,true,true,true,true,true,true,true,true,true,true,true,false,true,true,true,true,false,false,false,false,false,false,false,false,false,false,false,false,false,false,false] rfl rfl (any_of HT_.out (by kernel_rfl)) (fun _ _ _ h => h) (Or.inl ⟨by rfl,?_⟩) ?_ ?_;rotate_left
            ·
             intro w'
             go_simp
             with_reducible rfl
            rotate_left
            ·
             simp only [Act.put,zi,zj,zk,zG,zH]
             rfl
            refine take_ (i:=16) (N:=some 140) (v:=?_) (a':=?_) (bm_ 21 36) rfl rfl (yo HT_.out HW_.out (by kernel_rfl)) (fun _ _ _ h => h) (Or.inl ⟨by rfl,?_⟩) hHeld ?_ ?_;rotate_left
            ·
             rintro w' ⟨s0,s1,s2,s3,s4,s5,s6,s7,s8,s9,s10,s11⟩
             go_simp
             with_reducible rfl
            rotate_left
            ·
             simp only [Act.put,zi,zj,zk,zG,zH]
             rfl
            refine take_ (i:=21) (N:=some 145) (v:=?_) (a':=?_) (bm_ 22 36) rfl rfl (yo HT_.out HW_.out (by kernel_rfl)) (fun _ _ _ h => h) (Or.inl ⟨by rfl,?_⟩) hHeld ?_ ?_;rotate_left
            ·
             rintro w' ⟨s0,s1,s2,s3,s4,s5,s6,s7,s8,s9,s10,s11⟩
             go_simp
             with_reducible rfl
            rotate_left
            ·
             simp only [Act.put,zi,zj,zk,zG,zH]
             rfl
            refine pure_ (i:=22) (N:=some 146) (v:=?_) (a':=?_) (bm_ 23 36) rfl rfl (any_of HT_.out (by kernel_rfl)) (fun _ _ _ h => h) (Or.inl ⟨by rfl,?_⟩) ?_ ?_;rotate_left
            ·
             intro w'
             go_simp
             with_reducible rfl
            rotate_left
            ·
             simp only [Act.put,zi,zj,zk,zG,zH]
             rfl
            refine pure_ (i:=23) (N:=some 147) (v:=?_) (a':=?_) (bm_ 24 36) rfl rfl (any_of HT_.out (by kernel_rfl)) (fun _ _ _ h => h) (Or.inl ⟨by rfl,?_⟩) ?_ ?_;rotate_left
            ·
             intro w'
             go_simp
             with_reducible rfl
            rotate_left
            ·
             simp only [Act.put,zi,zj,zk,zG,zH]
             rfl
            refine pure_ (i:=24) (N:=some 148) (v:=?_) (a':=?_) (bm_ 25 36) rfl rfl (any_of HT_.out (by kernel_rfl)) (fun _ _ _ h => h) (Or.inl ⟨by rfl,?_⟩) ?_ ?_;rotate_left
            ·
             intro w'
             go_simp
             with_reducible rfl
            rotate_left
            ·
             simp only [Act.put,zi,zj,zk,zG,zH]
             rfl
            refine pure_ (i:=25) (N:=some 149) (v:=?_) (a':=?_) (bm_ 26 36) rfl rfl (any_of HT_.out (by kernel_rfl)) (fun _ _ _ h => h) (Or.inl ⟨by rfl,?_⟩) ?_ ?_;rotate_left
            ·
             intro w'
             go_simp
             with_reducible rfl
            rotate_left
            ·
             simp only [Act.put,zi,zj,zk,zG,zH]
             rfl
            refine pure_ (i:=26) (N:=some 150) (v:=undef) (a':=?_) (bm_ 27 36) rfl rfl (any_of HT_.out (by kernel_rfl)) (fun _ _ _ h => h) (Or.inr ⟨by rfl,rfl⟩) ?_ ?_;rotate_left
            ·
             simp only [Act.put,zi,zj,zk,zG,zH]
             rfl
            refine pure_ (i:=27) (N:=some 151) (v:=undef) (a':=?_) (bm_ 28 36) rfl rfl (any_of HT_.out (by kernel_rfl)) (fun _ _ _ h => h) (Or.inr ⟨by rfl,rfl⟩) ?_ ?_;rotate_left
            ·
             simp only [Act.put,zi,zj,zk,zG,zH]
             rfl
            refine pure_ (i:=28) (N:=some 152) (v:=undef) (a':=?_) (bm_ 29 36) rfl rfl (any_of HT_.out (by kernel_rfl)) (fun _ _ _ h => h) (Or.inr ⟨by rfl,rfl⟩) ?_ ?_;rotate_left
            ·
             simp only [Act.put,zi,zj,zk,zG,zH]
             rfl
            refine pure_ (i:=29) (N:=some 153) (v:=undef) (a':=?_) (bm_ 30 36) rfl rfl (any_of HT_.out (by kernel_rfl)) (fun _ _ _ h => h) (Or.inr ⟨by rfl,rfl⟩) ?_ ?_;rotate_left
            ·
             simp only [Act.put,zi,zj,zk,zG,zH]
             rfl
            refine pure_ (i:=30) (N:=some 154) (v:=undef) (a':=?_) (bm_ 31 36) rfl rfl (any_of HT_.out (by kernel_rfl)) (fun _ _ _ h => h) (Or.inr ⟨by rfl,rfl⟩) ?_ ?_;rotate_left
            ·
             simp only [Act.put,zi,zj,zk,zG,zH]
             rfl
            refine pure_ (i:=31) (N:=some 155) (v:=undef) (a':=?_) (bm_ 32 36) rfl rfl (any_of HT_.out (by kernel_rfl)) (fun _ _ _ h => h) (Or.inr ⟨by rfl,rfl⟩) ?_ ?_;rotate_left
            ·
             simp only [Act.put,zi,zj,zk,zG,zH]
             rfl
            refine pure_ (i:=32) (N:=some 156) (v:=undef) (a':=?_) (bm_ 33 36) rfl rfl (any_of HT_.out (by kernel_rfl)) (fun _ _ _ h => h) (Or.inr ⟨by rfl,rfl⟩) ?_ ?_;rotate_left
            ·
             simp only [Act.put,zi,zj,zk,zG,zH]
             rfl
            refine pure_ (i:=33) (N:=some 157) (v:=undef) (a':=?_) (bm_ 34 36) rfl rfl (any_of HT_.out (by kernel_rfl)) (fun _ _ _ h => h) (Or.inr ⟨by rfl,rfl⟩) ?_ ?_;rotate_left
            ·
             simp only [Act.put,zi,zj,zk,zG,zH]
             rfl
            refine pure_ (i:=34) (N:=some 158) (v:=undef) (a':=?_) (bm_ 35 36) rfl rfl (any_of HT_.out (by kernel_rfl)) (fun _ _ _ h => h) (Or.inr ⟨by rfl,rfl⟩) ?_ ?_;rotate_left
            ·
             simp only [Act.put,zi,zj,zk,zG,zH]
             rfl
            refine pure_ (i:=35) (N:=some 159) (v:=?_) (a':=?_) (bm_ 36 36) rfl rfl (any_of HT_.out (by kernel_rfl)) (fun _ _ _ h => h) (Or.inl ⟨by rfl,?_⟩) ?_ ?_;rotate_left
            ·
             intro w'
             go_simp
             with_reducible rfl
            rotate_left
            ·
             simp only [Act.put,zi,zj,zk,zG,zH]
             rfl
            refine done_ (done_of HT_.out (by kernel_rfl)) ?_
            try go_wp2
            go_ret
            exact ⟨by first|rfl|(simp [yt,yu] <;> rfl)|(simp only [← hji71];first|rfl|(simp [yt,yu] <;> rfl))|(simp [*,yt,yu] <;> rfl),by repeat (with_reducible first|exact HB.out|apply za|apply zb|apply zc|refine zd ?_ GE168.out)⟩
           rw [if_neg c73] at H;exact absurd H (by simp)
          rw [if_neg c72] at H;exact absurd H (by simp)
         rw [if_neg c70] at H;have c70b0 : decide (0<x10_2)=false:=decide_eq_false c70;clear c70;replace H:=zT.mp H;obtain ⟨t188,A850,H⟩:=H;replace H : (if t188=true then (F0.l1 k2 a1 t177 (wrap64 (x10_2 + 1))) else (some false))=some r:=H;have A85:=zh A850;clear A850
         by_cases c86 : t188=true
         ·
          subst c86
          have H1 : (F0.l1 k2 a1 t177 (wrap64 (x10_2 + 1)))=some r:=by rw [if_pos rfl] at H;exact H
          clear H;have H:=H1;clear H1;have H':=zh H;clear H;obtain ⟨Ao87,co87,eo87⟩:=yk HO_8.out;subst eo87
          try go_wp2
          replace HO_8:=zh (zo HO_8.out);replace BK168:=zh (zf BK168.out);replace HB:=zh (zc HB.out);have p181 : 0≤(x10_2 : Int):=zy (by first|(with_reducible assumption)|assumption);have q181 : x10_2<(t177.length : Int):=zy (by first|(with_reducible assumption)|assumption);obtain ⟨ad181,e181,hx181_0,hx181_1,hx181_2,hx181_3⟩:=at_T87 (yh HO_8.out).2.2 x10_2 p181 q181
          cases e181
          replace p181:=eq_true p181;replace q181:=eq_true q181;have p187 : 0≤(x10_2 : Int):=zy (by first|(with_reducible assumption)|assumption);have q187 : x10_2<(t177.length : Int):=zy (by first|(with_reducible assumption)|assumption);obtain ⟨ad187,e187,hx187_0,hx187_1,hx187_2,hx187_3⟩:=at_T87 (yh HO_8.out).2.2 x10_2 p187 q187;obtain rfl : ad181=ad187:=(by injection e187);replace p187:=eq_true p187;replace q187:=eq_true q187;refine start_ (n:=36) (S:=fun w' => w'.cell? (ad181.add ((x10_2).toNat * 4))=some (.string ((rd_T87 t177 x10_2).f0))∧w'.cell? ⟨(ad181.add ((x10_2).toNat * 4)).block,(ad181.add ((x10_2).toNat * 4)).off + 1,none⟩=some (.int .i64 ((rd_T87 t177 x10_2).f1.f0))∧w'.cell? ⟨(ad181.add ((x10_2).toNat * 4)).block,(ad181.add ((x10_2).toNat * 4)).off + 2,none⟩=some (.int .i64 ((rd_T87 t177 x10_2).f1.f1))∧w'.cell? ⟨(ad181.add ((x10_2).toNat * 4)).block,(ad181.add ((x10_2).toNat * 4)).off + 3,none⟩=some (.string ((rd_T87 t177 x10_2).f1.f2))∧w'.cell? (ad181.add ((x10_2).toNat * 4))=some (.string ((rd_T87 t177 x10_2).f0))∧w'.cell? ⟨(ad181.add ((x10_2).toNat * 4)).block,(ad181.add ((x10_2).toNat * 4)).off + 1,none⟩=some (.int .i64 ((rd_T87 t177 x10_2).f1.f0))∧w'.cell? ⟨(ad181.add ((x10_2).toNat * 4)).block,(ad181.add ((x10_2).toNat * 4)).off + 2,none⟩=some (.int .i64 ((rd_T87 t177 x10_2).f1.f1))∧w'.cell? ⟨(ad181.add ((x10_2).toNat * 4)).block,(ad181.add ((x10_2).toNat * 4)).off + 3,none⟩=some (.string ((rd_T87 t177 x10_2).f1.f2))) (ds:=[]) (bm_ 0 36) (by kernel_rfl) rfl rfl ⟨hx181_0,hx181_1,hx181_2,hx181_3,hx187_0,hx187_1,hx187_2,hx187_3⟩ (fun hHeld => ?_);refine with_tabW F0.tab27 F0.bits27 (fun HT_ HW_ => ?_);generalize wr.drew=w88 at HO_8 BK168 HB hx181_0 hx181_1 hx181_2 hx181_3 hx187_0 hx187_1 hx187_2 hx187_3 hHeld ⊢;refine pure_ (i:=0) (N:=some 124) (v:=?_) (a':=?_) (bm_ 1 36) rfl rfl (any_of HT_.out (by kernel_rfl)) (fun _ _ _ h => h) (Or.inl ⟨by rfl,?_⟩) ?_ ?_;rotate_left
          ·
           intro w'
           go_simp
           with_reducible rfl
          rotate_left
          ·
           simp only [Act.put,zi,zj,zk,zG,zH]
           rfl
          refine pure_ (i:=1) (N:=some 125) (v:=?_) (a':=?_) (bm_ 2 36) rfl rfl (any_of HT_.out (by kernel_rfl)) (fun _ _ _ h => h) (Or.inl ⟨by rfl,?_⟩) ?_ ?_;rotate_left
          ·
           intro w'
           go_simp
           with_reducible rfl
          rotate_left
          ·
           simp only [Act.put,zi,zj,zk,zG,zH]
           rfl
          refine pure_ (i:=2) (N:=some 126) (v:=?_) (a':=?_) (bm_ 3 36) rfl rfl (any_of HT_.out (by kernel_rfl)) (fun _ _ _ h => h) (Or.inl ⟨by rfl,?_⟩) ?_ ?_;rotate_left
          ·
           intro w'
           go_simp
           with_reducible rfl
          rotate_left
          ·
           simp only [Act.put,zi,zj,zk,zG,zH]
           rfl
          refine pure_ (i:=3) (N:=some 127) (v:=?_) (a':=?_) (bm_ 4 36) rfl rfl (any_of HT_.out (by kernel_rfl)) (fun _ _ _ h => h) (Or.inl ⟨by rfl,?_⟩) ?_ ?_;rotate_left
          ·
           intro w'
           go_simp
           with_reducible rfl
          rotate_left
          ·
           simp only [Act.put,zi,zj,zk,zG,zH]
           rfl
          refine take_ (i:=4) (N:=some 128) (v:=?_) (a':=?_) (bm_ 5 36) rfl rfl (yo HT_.out HW_.out (by kernel_rfl)) (fun _ _ _ h => h) (Or.inl ⟨by rfl,?_⟩) hHeld ?_ ?_;rotate_left
          ·
           rintro w' ⟨s0,s1,s2,s3,s4,s5,s6,s7⟩
           go_simp
           with_reducible rfl
          rotate_left
          ·
           simp only [Act.put,zi,zj,zk,zG,zH]
           rfl
          refine one_ (i:=5) (N:=some 129) (bm_ 6 36) rfl rfl (one_of HT_.out (by kernel_rfl)) (by decide) (fun K hK => ?_);refine goes_ Tryz.func26 (by kernel_rfl) rfl #[.string ((rd_T87 t177 x10_2).f0)] (by rfl) rfl rfl (by (try simp only [zt,zu,zv]);first|done|rfl|(simp only [zw,zx];rfl)|(simp only [yr,ys,zV,zW];rfl)) ?_
          with_reducible refine (F00.calls k2  ((rd_T87 t177 x10_2).f0) true _ A68.out).mono ?_
          rintro e w' ⟨rfl,⟨nd,rfl⟩⟩;refine ⟨_,rfl,?_⟩;refine hK.out _ _ ⟨hHeld.1,hHeld.2.1,hHeld.2.2.1,hHeld.2.2.2.1,hHeld.2.2.2.2.1,hHeld.2.2.2.2.2.1,hHeld.2.2.2.2.2.2.1,hHeld.2.2.2.2.2.2.2⟩ (fun hHeld => ?_);clear hK K;refine norm_ (a':=?_) ?_ ?_;rotate_left
          ·
           show Act.put _ (some 129) _=_
           simp only [Act.put,zi,zj,zk,zG,zH]
           rfl
          refine pure_ (i:=6) (N:=some 130) (v:=?_) (a':=?_) (bm_ 7 36) rfl rfl (any_of HT_.out (by kernel_rfl)) (fun _ _ _ h => h) (Or.inl ⟨by rfl,?_⟩) ?_ ?_;rotate_left
          ·
           intro w'
           go_simp
           with_reducible rfl
          rotate_left
          ·
           simp only [Act.put,zi,zj,zk,zG,zH]
           rfl
          refine pure_ (i:=7) (N:=some 131) (v:=?_) (a':=?_) (bm_ 8 36) rfl rfl (any_of HT_.out (by kernel_rfl)) (fun _ _ _ h => h) (Or.inl ⟨by rfl,?_⟩) ?_ ?_;rotate_left
          ·
           intro w'
           go_simp
           with_reducible rfl
          rotate_left
          ·
           simp only [Act.put,zi,zj,zk,zG,zH]
           rfl
          refine pure_ (i:=8) (N:=some 132) (v:=?_) (a':=?_) (bm_ 9 36) rfl rfl (any_of HT_.out (by kernel_rfl)) (fun _ _ _ h => h) (Or.inl ⟨by rfl,?_⟩) ?_ ?_;rotate_left
          ·
           intro w'
           go_simp
           with_reducible rfl
          rotate_left
          ·
           simp only [Act.put,zi,zj,zk,zG,zH]
           rfl
          refine pure_ (i:=9) (N:=some 133) (v:=?_) (a':=?_) (bm_ 10 36) rfl rfl (any_of HT_.out (by kernel_rfl)) (fun _ _ _ h => h) (Or.inl ⟨by rfl,?_⟩) ?_ ?_;rotate_left
          ·
           intro w'
           go_simp
           with_reducible rfl
          rotate_left
          ·
           simp only [Act.put,zi,zj,zk,zG,zH]
           rfl
          refine pure_ (i:=10) (N:=some 134) (v:=?_) (a':=?_) (bm_ 11 36) rfl rfl (any_of HT_.out (by kernel_rfl)) (fun _ _ _ h => h) (Or.inl ⟨by rfl,?_⟩) ?_ ?_;rotate_left
          ·
           intro w'
           go_simp
           with_reducible rfl
          rotate_left
          ·
           simp only [Act.put,zi,zj,zk,zG,zH]
           rfl
          refine pure_ (i:=11) (N:=some 135) (v:=undef) (a':=?_) (bm_ 12 36) rfl rfl (any_of HT_.out (by kernel_rfl)) (fun _ _ _ h => h) (Or.inr ⟨by rfl,rfl⟩) ?_ ?_;rotate_left
          ·
           simp only [Act.put,zi,zj,zk,zG,zH]
           rfl
          refine pure_ (i:=12) (N:=some 136) (v:=undef) (a':=?_) (bm_ 13 36) rfl rfl (any_of HT_.out (by kernel_rfl)) (fun _ _ _ h => h) (Or.inr ⟨by rfl,rfl⟩) ?_ ?_;rotate_left
          ·
           simp only [Act.put,zi,zj,zk,zG,zH]
           rfl
          refine pure_ (i:=13) (N:=some 137) (v:=undef) (a':=?_) (bm_ 14 36) rfl rfl (any_of HT_.out (by kernel_rfl)) (fun _ _ _ h => h) (Or.inr ⟨by rfl,rfl⟩) ?_ ?_;rotate_left
          ·
           simp only [Act.put,zi,zj,zk,zG,zH]
           rfl
          refine pure_ (i:=14) (N:=some 138) (v:=undef) (a':=?_) (bm_ 15 36) rfl rfl (any_of HT_.out (by kernel_rfl)) (fun _ _ _ h => h) (Or.inr ⟨by rfl,rfl⟩) ?_ ?_;rotate_left
          ·
           simp only [Act.put,zi,zj,zk,zG,zH]
           rfl
          refine pure_ (i:=15) (N:=some 139) (v:=undef) (a':=?_) (bm_ 16 36) rfl rfl (any_of HT_.out (by kernel_rfl)) (fun _ _ _ h => h) (Or.inr ⟨by rfl,rfl⟩) ?_ ?_;rotate_left
          ·
           simp only [Act.put,zi,zj,zk,zG,zH]
           rfl
          refine pure_ (i:=16) (N:=some 140) (v:=undef) (a':=?_) (bm_ 17 36) rfl rfl (any_of HT_.out (by kernel_rfl)) (fun _ _ _ h => h) (Or.inr ⟨by rfl,rfl⟩) ?_ ?_;rotate_left
          ·
           simp only [Act.put,zi,zj,zk,zG,zH]
           rfl
          refine pure_ (i:=17) (N:=some 141) (v:=undef) (a':=?_) (bm_ 18 36) rfl rfl (any_of HT_.out (by kernel_rfl)) (fun _ _ _ h => h) (Or.inr ⟨by rfl,rfl⟩) ?_ ?_;rotate_left
          ·
           simp only [Act.put,zi,zj,zk,zG,zH]
           rfl
          refine pure_ (i:=18) (N:=some 142) (v:=undef) (a':=?_) (bm_ 19 36) rfl rfl (any_of HT_.out (by kernel_rfl)) (fun _ _ _ h => h) (Or.inr ⟨by rfl,rfl⟩) ?_ ?_;rotate_left
          ·
           simp only [Act.put,zi,zj,zk,zG,zH]
           rfl
          refine pure_ (i:=19) (N:=some 143) (v:=undef) (a':=?_) (bm_ 20 36) rfl rfl (any_of HT_.out (by kernel_rfl)) (fun _ _ _ h => h) (Or.inr ⟨by rfl,rfl⟩) ?_ ?_;rotate_left
          ·
           simp only [Act.put,zi,zj,zk,zG,zH]
           rfl
          refine pure_ (i:=20) (N:=some 144) (v:=undef) (a':=?_) (bm_ 21 36) rfl rfl (any_of HT_.out (by kernel_rfl)) (fun _ _ _ h => h) (Or.inr ⟨by rfl,rfl⟩) ?_ ?_;rotate_left
          ·
           simp only [Act.put,zi,zj,zk,zG,zH]
           rfl
          refine pure_ (i:=21) (N:=some 145) (v:=undef) (a':=?_) (bm_ 22 36) rfl rfl (any_of HT_.out (by kernel_rfl)) (fun _ _ _ h => h) (Or.inr ⟨by rfl,rfl⟩) ?_ ?_;rotate_left
          ·
           simp only [Act.put,zi,zj,zk,zG,zH]
           rfl
          refine pure_ (i:=22) (N:=some 146) (v:=undef) (a':=?_) (bm_ 23 36) rfl rfl (any_of HT_.out (by kernel_rfl)) (fun _ _ _ h => h) (Or.inr ⟨by rfl,rfl⟩) ?_ ?_;rotate_left
          ·
           simp only [Act.put,zi,zj,zk,zG,zH]
           rfl
          refine pure_ (i:=23) (N:=some 147) (v:=?_) (a':=?_) (bm_ 24 36) rfl rfl (any_of HT_.out (by kernel_rfl)) (fun _ _ _ h => h) (Or.inl ⟨by rfl,?_⟩) ?_ ?_;rotate_left
          ·
           intro w'
           go_simp
           with_reducible rfl
          rotate_left
          ·
           simp only [Act.put,zi,zj,zk,zG,zH]
           rfl
          refine pure_ (i:=24) (N:=some 148) (v:=?_) (a':=?_) (bm_ 25 36) rfl rfl (any_of HT_.out (by kernel_rfl)) (fun _ _ _ h => h) (Or.inl ⟨by rfl,?_⟩) ?_ ?_;rotate_left
          ·
           intro w'
           go_simp
           with_reducible rfl
          rotate_left
          ·
           simp only [Act.put,zi,zj,zk,zG,zH]
           rfl
          refine pure_ (i:=25) (N:=some 149) (v:=?_) (a':=?_) (bm_ 26 36) rfl rfl (any_of HT_.out (by kernel_rfl)) (fun _ _ _ h => h) (Or.inl ⟨by rfl,?_⟩) ?_ ?_;rotate_left
          ·
           intro w'
           go_simp
           with_reducible rfl
          rotate_left
          ·
           simp only [Act.put,zi,zj,zk,zG,zH]
           rfl
          refine pure_ (i:=26) (N:=some 150) (v:=?_) (a':=?_) (bm_ 27 36) rfl rfl (any_of HT_.out (by kernel_rfl)) (fun _ _ _ h => h) (Or.inl ⟨by rfl,?_⟩) ?_ ?_;rotate_left
          ·
           intro w'
           go_simp
           with_reducible rfl
          rotate_left
          ·
           simp only [Act.put,zi,zj,zk,zG,zH]
           rfl
          refine pure_ (i:=27) (N:=some 151) (v:=?_) (a':=?_) (bm_ 28 36) rfl rfl (any_of HT_.out (by kernel_rfl)) (fun _ _ _ h => h) (Or.inl ⟨by rfl,?_⟩) ?_ ?_;rotate_left
          ·
           intro w'
           go_simp
           with_reducible rfl
          rotate_left
          ·
           simp only [Act.put,zi,zj,zk,zG,zH]
           rfl
          refine pure_ (i:=28) (N:=some 152) (v:=?_) (a':=?_) (bm_ 29 36) rfl rfl (any_of HT_.out (by kernel_rfl)) (fun _ _ _ h => h) (Or.inl ⟨by rfl,?_⟩) ?_ ?_;rotate_left
          ·
           intro w'
           go_simp
           with_reducible rfl
          rotate_left
          ·
           simp only [Act.put,zi,zj,zk,zG,zH]
           rfl
          refine pure_ (i:=29) (N:=some 153) (v:=?_) (a':=?_) (bm_ 30 36) rfl rfl (any_of HT_.out (by kernel_rfl)) (fun _ _ _ h => h) (Or.inl ⟨by rfl,?_⟩) ?_ ?_;rotate_left
          ·
           intro w'
           go_simp
           with_reducible rfl
          rotate_left
          ·
           simp only [Act.put,zi,zj,zk,zG,zH]
           rfl
          refine pure_ (i:=31) (N:=some 155) (v:=?_) (a':=?_) #[true,true,true,true,true,true,true,true,true,true,true,true,true,true,true,true,true,true,true,true,true,true,true,true,true,true,true,true,true,true,false,true,false,false,false,false] rfl rfl (any_of HT_.out (by kernel_rfl)) (fun _ _ _ h => h) (Or.inl ⟨by rfl,?_⟩) ?_ ?_;rotate_left
          ·
           intro w'
           go_simp
           with_reducible rfl
          rotate_left
          ·
           simp only [Act.put,zi,zj,zk,zG,zH]
           rfl
          refine pure_ (i:=32) (N:=some 156) (v:=?_) (a':=?_) #[true,true,true,true,true,true,true,true,true,true,true,true,true,true,true,true,true,true,true,true,true,true,true,true,true,true,true,true,true,true,false,true,true,false,false,false] rfl rfl (any_of HT_.out (by kernel_rfl)) (fun _ _ _ h => h) (Or.inl ⟨by rfl,?_⟩) ?_ ?_;rotate_left
          ·
           intro w'
           go_simp
           with_reducible rfl
          rotate_left
          ·
           simp only [Act.put,zi,zj,zk,zG,zH]
           rfl
          refine take_ (i:=30) (N:=some 154) (v:=?_) (a':=?_) (bm_ 33 36) rfl rfl (yo HT_.out HW_.out (by kernel_rfl)) (fun _ _ _ h => h) (Or.inl ⟨by rfl,?_⟩) hHeld ?_ ?_;rotate_left
          ·
           rintro w' ⟨s0,s1,s2,s3,s4,s5,s6,s7⟩
           go_simp
           with_reducible rfl
          rotate_left
          ·
           simp only [Act.put,zi,zj,zk,zG,zH]
           rfl
          refine one_ (i:=33) (N:=some 157) (bm_ 34 36) rfl rfl (one_of HT_.out (by kernel_rfl)) (by decide) (fun K hK => ?_);refine goes_ Tryz.func41 (by kernel_rfl) rfl #[.agg #[.int .i64 ((rd_T87 t177 x10_2).f1.f0),.int .i64 ((rd_T87 t177 x10_2).f1.f1),.string ((rd_T87 t177 x10_2).f1.f2)],.int .i64 (wrap64 (a1 - 1))] (by rfl) rfl rfl (by (try simp only [zt,zu,zv]);first|done|rfl|(simp only [zw,zx];rfl)|(simp only [yr,ys,zV,zW];rfl)) ?_
          with_reducible refine (ih k2 (by have:=HJ53.out;have:=HK2.out;omega)  ((rd_T87 t177 x10_2).f1.f0) ((rd_T87 t177 x10_2).f1.f1) ((rd_T87 t177 x10_2).f1.f2) (wrap64 (a1 - 1)) true _ A85.out).mono ?_
          rintro e w89 ⟨rfl,hb⟩;have HS0_:=(hb.cell (zl _ _ (hHeld.1))).trans (hHeld.1);have HS1_:=(hb.cell (zl _ _ (hHeld.2.1))).trans (hHeld.2.1);have HS2_:=(hb.cell (zl _ _ (hHeld.2.2.1))).trans (hHeld.2.2.1);have HS3_:=(hb.cell (zl _ _ (hHeld.2.2.2.1))).trans (hHeld.2.2.2.1);have HS4_:=(hb.cell (zl _ _ (hHeld.2.2.2.2.1))).trans (hHeld.2.2.2.2.1);have HS5_:=(hb.cell (zl _ _ (hHeld.2.2.2.2.2.1))).trans (hHeld.2.2.2.2.2.1);have HS6_:=(hb.cell (zl _ _ (hHeld.2.2.2.2.2.2.1))).trans (hHeld.2.2.2.2.2.2.1);have HS7_:=(hb.cell (zl _ _ (hHeld.2.2.2.2.2.2.2))).trans (hHeld.2.2.2.2.2.2.2);refine ⟨_,rfl,?_⟩;replace HO_8:=zh (yg (by (with_reducible repeat (first|apply zm|apply zn|apply zo));exact HO_8.out) hb);replace BK168:=zh (zD (g:=gb168) (o:=.cells #[.int .i64 a0_0,.int .i64 a0_1,.string a0_2] 49 (0,0)) (by (with_reducible repeat (first|refine ze ?_ _|refine zf ?_|refine zg ?_ _));exact BK168.out) hb);replace HB:=zh (zC (by repeat (with_reducible first|exact HB.out|apply za|apply zb|apply zc|refine zd ?_ GE168.out)) hb);(try clear hb);(try clear hb2);(try clear hk);(try clear hi);refine hK.out _ _ ⟨HS0_,HS1_,HS2_,HS3_,HS4_,HS5_,HS6_,HS7_⟩ (fun hHeld => ?_);clear hK K;refine norm_ (a':=?_) ?_ ?_;rotate_left
          ·
           show Act.put _ (some 157) _=_
           simp only [Act.put,zi,zj,zk,zG,zH]
           rfl
          refine pure_ (i:=34) (N:=some 158) (v:=?_) (a':=?_) (bm_ 35 36) rfl rfl (any_of HT_.out (by kernel_rfl)) (fun _ _ _ h => h) (Or.inl ⟨by rfl,?_⟩) ?_ ?_;rotate_left
          ·
           intro w'
           go_simp
           with_reducible rfl
          rotate_left
          ·
           simp only [Act.put,zi,zj,zk,zG,zH]
           rfl
          refine pure_ (i:=35) (N:=some 159) (v:=?_) (a':=?_) (bm_ 36 36) rfl rfl (any_of HT_.out (by kernel_rfl)) (fun _ _ _ h => h) (Or.inl ⟨by rfl,?_⟩) ?_ ?_;rotate_left
          ·
           intro w'
           go_simp
           with_reducible rfl
          rotate_left
          ·
           simp only [Act.put,zi,zj,zk,zG,zH]
           rfl
          refine done_ (done_of HT_.out (by kernel_rfl)) ?_
          try go_wp2
          go_roundg k2
          case measure => have:=HJ53.out;have:=HK2.out;omega
          case rel => exact ⟨(wrap64 (x10_2 + 1)),(by first|rfl|(simp;done)|(simp [*];done)),H',⟨by have:=HJ53.out;have:=HK2.out;omega⟩,⟨by (with_reducible repeat (first|apply zm|apply zn|apply zo));exact HO_8.out⟩,⟨by (with_reducible repeat (first|refine ze ?_ _|refine zf ?_|refine zg ?_ _));exact BK168.out⟩,⟨by repeat (with_reducible first|exact HB.out|apply za|apply zb|apply zc|refine zd ?_ GE168.out)⟩⟩
         replace c86:=yb.mpr c86;subst c86;have H1 : (some false)=some r:=by rw [if_neg (show ¬ (false=true) by decide)] at H;exact H
         clear H;have H:=H1;clear H1;obtain rfl:=zU H;obtain ⟨Ao90,co90,eo90⟩:=yk HO_8.out;subst eo90
         try go_wp2
         replace HO_8:=zh (zo HO_8.out);replace BK168:=zh (zf BK168.out);replace HB:=zh (zc HB.out);have p181 : 0≤(x10_2 : Int):=zy (by first|(with_reducible assumption)|assumption);have q181 : x10_2<(t177.length : Int):=zy (by first|(with_reducible assumption)|assumption);obtain ⟨ad181,e181,hx181_0,hx181_1,hx181_2,hx181_3⟩:=at_T87 (yh HO_8.out).2.2 x10_2 p181 q181
         cases e181
         replace p181:=eq_true p181;replace q181:=eq_true q181;have p187 : 0≤(x10_2 : Int):=zy (by first|(with_reducible assumption)|assumption);have q187 : x10_2<(t177.length : Int):=zy (by first|(with_reducible assumption)|assumption);obtain ⟨ad187,e187,hx187_0,hx187_1,hx187_2,hx187_3⟩:=at_T87 (yh HO_8.out).2.2 x10_2 p187 q187;obtain rfl : ad181=ad187:=(by injection e187);replace p187:=eq_true p187;replace q187:=eq_true q187;refine start_ (n:=36) (S:=fun w' => w'.cell? (ad181.add ((x10_2).toNat * 4))=some (.string ((rd_T87 t177 x10_2).f0))∧w'.cell? ⟨(ad181.add ((x10_2).toNat * 4)).block,(ad181.add ((x10_2).toNat * 4)).off + 1,none⟩=some (.int .i64 ((rd_T87 t177 x10_2).f1.f0))∧w'.cell? ⟨(ad181.add ((x10_2).toNat * 4)).block,(ad181.add ((x10_2).toNat * 4)).off + 2,none⟩=some (.int .i64 ((rd_T87 t177 x10_2).f1.f1))∧w'.cell? ⟨(ad181.add ((x10_2).toNat * 4)).block,(ad181.add ((x10_2).toNat * 4)).off + 3,none⟩=some (.string ((rd_T87 t177 x10_2).f1.f2))∧w'.cell? (ad181.add ((x10_2).toNat * 4))=some (.string ((rd_T87 t177 x10_2).f0))∧w'.cell? ⟨(ad181.add ((x10_2).toNat * 4)).block,(ad181.add ((x10_2).toNat * 4)).off + 1,none⟩=some (.int .i64 ((rd_T87 t177 x10_2).f1.f0))∧w'.cell? ⟨(ad181.add ((x10_2).toNat * 4)).block,(ad181.add ((x10_2).toNat * 4)).off + 2,none⟩=some (.int .i64 ((rd_T87 t177 x10_2).f1.f1))∧w'.cell? ⟨(ad181.add ((x10_2).toNat * 4)).block,(ad181.add ((x10_2).toNat * 4)).off + 3,none⟩=some (.string ((rd_T87 t177 x10_2).f1.f2))) (ds:=[]) (bm_ 0 36) (by kernel_rfl) rfl rfl ⟨hx181_0,hx181_1,hx181_2,hx181_3,hx187_0,hx187_1,hx187_2,hx187_3⟩ (fun hHeld => ?_);refine with_tabW F0.tab27 F0.bits27 (fun HT_ HW_ => ?_);generalize wr.drew=w91 at HO_8 BK168 HB hx181_0 hx181_1 hx181_2 hx181_3 hx187_0 hx187_1 hx187_2 hx187_3 hHeld ⊢;refine pure_ (i:=0) (N:=some 124) (v:=?_) (a':=?_) (bm_ 1 36) rfl rfl (any_of HT_.out (by kernel_rfl)) (fun _ _ _ h => h) (Or.inl ⟨by rfl,?_⟩) ?_ ?_;rotate_left
         ·
          intro w'
          go_simp
          with_reducible rfl
         rotate_left
         ·
          simp only [Act.put,zi,zj,zk,zG,zH]
          rfl
         refine pure_ (i:=1) (N:=some 125) (v:=?_) (a':=?_) (bm_ 2 36) rfl rfl (any_of HT_.out (by kernel_rfl)) (fun _ _ _ h => h) (Or.inl ⟨by rfl,?_⟩) ?_ ?_;rotate_left
         ·
          intro w'
          go_simp
          with_reducible rfl
         rotate_left
         ·
          simp only [Act.put,zi,zj,zk,zG,zH]
          rfl
         refine pure_ (i:=2) (N:=some 126) (v:=?_) (a':=?_) (bm_ 3 36) rfl rfl (any_of HT_.out (by kernel_rfl)) (fun _ _ _ h => h) (Or.inl ⟨by rfl,?_⟩) ?_ ?_;rotate_left
         ·
          intro w'
          go_simp
          with_reducible rfl
         rotate_left
         ·
          simp only [Act.put,zi,zj,zk,zG,zH]
          rfl
         refine pure_ (i:=3) (N:=some 127) (v:=?_) (a':=?_) (bm_ 4 36) rfl rfl (any_of HT_.out (by kernel_rfl)) (fun _ _ _ h => h) (Or.inl ⟨by rfl,?_⟩) ?_ ?_;rotate_left
         ·
          intro w'
          go_simp
          with_reducible rfl
         rotate_left
         ·
          simp only [Act.put,zi,zj,zk,zG,zH]
          rfl
         refine take_ (i:=4) (N:=some 128) (v:=?_) (a':=?_) (bm_ 5 36) rfl rfl (yo HT_.out HW_.out (by kernel_rfl)) (fun _ _ _ h => h) (Or.inl ⟨by rfl,?_⟩) hHeld ?_ ?_;rotate_left
         ·
          rintro w' ⟨s0,s1,s2,s3,s4,s5,s6,s7⟩
          go_simp
          with_reducible rfl
         rotate_left
         ·
          simp only [Act.put,zi,zj,zk,zG,zH]
          rfl
         refine one_ (i:=5) (N:=some 129) (bm_ 6 36) rfl rfl (one_of HT_.out (by kernel_rfl)) (by decide) (fun K hK => ?_);refine goes_ Tryz.func26 (by kernel_rfl) rfl #[.string ((rd_T87 t177 x10_2).f0)] (by rfl) rfl rfl (by (try simp only [zt,zu,zv]);first|done|rfl|(simp only [zw,zx];rfl)|(simp only [yr,ys,zV,zW];rfl)) ?_
         with_reducible refine (F00.calls k2  ((rd_T87 t177 x10_2).f0) true _ A68.out).mono ?_
         rintro e w' ⟨rfl,⟨nd,rfl⟩⟩;refine ⟨_,rfl,?_⟩;refine hK.out _ _ ⟨hHeld.1,hHeld.2.1,hHeld.2.2.1,hHeld.2.2.2.1,hHeld.2.2.2.2.1,hHeld.2.2.2.2.2.1,hHeld.2.2.2.2.2.2.1,hHeld.2.2.2.2.2.2.2⟩ (fun hHeld => ?_);clear hK K;refine norm_ (a':=?_) ?_ ?_;rotate_left
         ·
          show Act.put _ (some 129) _=_
          simp only [Act.put,zi,zj,zk,zG,zH]
          rfl
         refine pure_ (i:=6) (N:=some 130) (v:=?_) (a':=?_) (bm_ 7 36) rfl rfl (any_of HT_.out (by kernel_rfl)) (fun _ _ _ h => h) (Or.inl ⟨by rfl,?_⟩) ?_ ?_;rotate_left
         ·
          intro w'
          go_simp
          with_reducible rfl
         rotate_left
         ·
          simp only [Act.put,zi,zj,zk,zG,zH]
          rfl
         refine pure_ (i:=7) (N:=some 131) (v:=?_) (a':=?_) (bm_ 8 36) rfl rfl (any_of HT_.out (by kernel_rfl)) (fun _ _ _ h => h) (Or.inl ⟨by rfl,?_⟩) ?_ ?_;rotate_left
         ·
          intro w'
          go_simp
          with_reducible rfl
         rotate_left
         ·
          simp only [Act.put,zi,zj,zk,zG,zH]
          rfl
         refine pure_ (i:=8) (N:=some 132) (v:=?_) (a':=?_) (bm_ 9 36) rfl rfl (any_of HT_.out (by kernel_rfl)) (fun _ _ _ h => h) (Or.inl ⟨by rfl,?_⟩) ?_ ?_;rotate_left
         ·
          intro w'
          go_simp
          with_reducible rfl
         rotate_left
         ·
          simp only [Act.put,zi,zj,zk,zG,zH]
          rfl
         refine pure_ (i:=9) (N:=some 133) (v:=?_) (a':=?_) (bm_ 10 36) rfl rfl (any_of HT_.out (by kernel_rfl)) (fun _ _ _ h => h) (Or.inl ⟨by rfl,?_⟩) ?_ ?_;rotate_left
         ·
          intro w'
          go_simp
          with_reducible rfl
         rotate_left
         ·
          simp only [Act.put,zi,zj,zk,zG,zH]
          rfl
         refine pure_ (i:=10) (N:=some 134) (v:=?_) (a':=?_) (bm_ 11 36) rfl rfl (any_of HT_.out (by kernel_rfl)) (fun _ _ _ h => h) (Or.inl ⟨by rfl,?_⟩) ?_ ?_;rotate_left
         ·
          intro w'
          go_simp
          with_reducible rfl
         rotate_left
         ·
          simp only [Act.put,zi,zj,zk,zG,zH]
          rfl
         refine pure_ (i:=11) (N:=some 135) (v:=undef) (a':=?_) (bm_ 12 36) rfl rfl (any_of HT_.out (by kernel_rfl)) (fun _ _ _ h => h) (Or.inr ⟨by rfl,rfl⟩) ?_ ?_;rotate_left
         ·
          simp only [Act.put,zi,zj,zk,zG,zH]
          rfl
         refine pure_ (i:=12) (N:=some 136) (v:=undef) (a':=?_) (bm_ 13 36) rfl rfl (any_of HT_.out (by kernel_rfl)) (fun _ _ _ h => h) (Or.inr ⟨by rfl,rfl⟩) ?_ ?_;rotate_left
         ·
          simp only [Act.put,zi,zj,zk,zG,zH]
          rfl
         refine pure_ (i:=13) (N:=some 137) (v:=undef) (a':=?_) (bm_ 14 36) rfl rfl (any_of HT_.out (by kernel_rfl)) (fun _ _ _ h => h) (Or.inr ⟨by rfl,rfl⟩) ?_ ?_;rotate_left
         ·
          simp only [Act.put,zi,zj,zk,zG,zH]
          rfl
         refine pure_ (i:=14) (N:=some 138) (v:=undef) (a':=?_) (bm_ 15 36) rfl rfl (any_of HT_.out (by kernel_rfl)) (fun _ _ _ h => h) (Or.inr ⟨by rfl,rfl⟩) ?_ ?_;rotate_left
         ·
          simp only [Act.put,zi,zj,zk,zG,zH]
          rfl
         refine pure_ (i:=15) (N:=some 139) (v:=undef) (a':=?_) (bm_ 16 36) rfl rfl (any_of HT_.out (by kernel_rfl)) (fun _ _ _ h => h) (Or.inr ⟨by rfl,rfl⟩) ?_ ?_;rotate_left
         ·
          simp only [Act.put,zi,zj,zk,zG,zH]
          rfl
         refine pure_ (i:=16) (N:=some 140) (v:=undef) (a':=?_) (bm_ 17 36) rfl rfl (any_of HT_.out (by kernel_rfl)) (fun _ _ _ h => h) (Or.inr ⟨by rfl,rfl⟩) ?_ ?_;rotate_left
         ·
          simp only [Act.put,zi,zj,zk,zG,zH]
          rfl
         refine pure_ (i:=17) (N:=some 141) (v:=undef) (a':=?_) (bm_ 18 36) rfl rfl (any_of HT_.out (by kernel_rfl)) (fun _ _ _ h => h) (Or.inr ⟨by rfl,rfl⟩) ?_ ?_;rotate_left
         ·
          simp only [Act.put,zi,zj,zk,zG,zH]
          rfl
         refine pure_ (i:=18) (N:=some 142) (v:=undef) (a':=?_) (bm_ 19 36) rfl rfl (any_of HT_.out (by kernel_rfl)) (fun _ _ _ h => h) (Or.inr ⟨by rfl,rfl⟩) ?_ ?_;rotate_left
         ·
          simp only [Act.put,zi,zj,zk,zG,zH]
          rfl
         refine pure_ (i:=19) (N:=some 143) (v:=undef) (a':=?_) (bm_ 20 36) rfl rfl (any_of HT_.out (by kernel_rfl)) (fun _ _ _ h => h) (Or.inr ⟨by rfl,rfl⟩) ?_ ?_;rotate_left
         ·
          simp only [Act.put,zi,zj,zk,zG,zH]
          rfl
         refine pure_ (i:=20) (N:=some 144) (v:=undef) (a':=?_) (bm_ 21 36) rfl rfl (any_of HT_.out (by kernel_rfl)) (fun _ _ _ h => h) (Or.inr ⟨by rfl,rfl⟩) ?_ ?_;rotate_left
         ·
          simp only [Act.put,zi,zj,zk,zG,zH]
          rfl
         refine pure_ (i:=21) (N:=some 145) (v:=undef) (a':=?_) (bm_ 22 36) rfl rfl (any_of HT_.out (by kernel_rfl)) (fun _ _ _ h => h) (Or.inr ⟨by rfl,rfl⟩) ?_ ?_;rotate_left
         ·
          simp only [Act.put,zi,zj,zk,zG,zH]
          rfl
         refine pure_ (i:=22) (N:=some 146) (v:=undef) (a':=?_) (bm_ 23 36) rfl rfl (any_of HT_.out (by kernel_rfl)) (fun _ _ _ h => h) (Or.inr ⟨by rfl,rfl⟩) ?_ ?_;rotate_left
         ·
          simp only [Act.put,zi,zj,zk,zG,zH]
          rfl
         refine pure_ (i:=23) (N:=some 147) (v:=?_) (a':=?_) (bm_ 24 36) rfl rfl (any_of HT_.out (by kernel_rfl)) (fun _ _ _ h => h) (Or.inl ⟨by rfl,?_⟩) ?_ ?_;rotate_left
         ·
          intro w'
          go_simp
          with_reducible rfl
         rotate_left
         ·
          simp only [Act.put,zi,zj,zk,zG,zH]
          rfl
         refine pure_ (i:=24) (N:=some 148) (v:=?_) (a':=?_) (bm_ 25 36) rfl rfl (any_of HT_.out (by kernel_rfl)) (fun _ _ _ h => h) (Or.inl ⟨by rfl,?_⟩) ?_ ?_;rotate_left
         ·
          intro w'
          go_simp
          with_reducible rfl
         rotate_left
         ·
          simp only [Act.put,zi,zj,zk,zG,zH]
          rfl
         refine pure_ (i:=25) (N:=some 149) (v:=?_) (a':=?_) (bm_ 26 36) rfl rfl (any_of HT_.out (by kernel_rfl)) (fun _ _ _ h => h) (Or.inl ⟨by rfl,?_⟩) ?_ ?_;rotate_left
         ·
          intro w'
          go_simp
          with_reducible rfl
         rotate_left
         ·
          simp only [Act.put,zi,zj,zk,zG,zH]
          rfl
         refine pure_ (i:=26) (N:=some 150) (v:=?_) (a':=?_) (bm_ 27 36) rfl rfl (any_of HT_.out (by kernel_rfl)) (fun _ _ _ h => h) (Or.inl ⟨by rfl,?_⟩) ?_ ?_;rotate_left
         ·
          intro w'
          go_simp
          with_reducible rfl
         rotate_left
         ·
          simp only [Act.put,zi,zj,zk,zG,zH]
          rfl
         refine pure_ (i:=27) (N:=some 151) (v:=?_) (a':=?_) (bm_ 28 36) rfl rfl (any_of HT_.out (by kernel_rfl)) (fun _ _ _ h => h) (Or.inl ⟨by rfl,?_⟩) ?_ ?_;rotate_left
         ·
          intro w'
          go_simp
          with_reducible rfl
         rotate_left
         ·
          simp only [Act.put,zi,zj,zk,zG,zH]
          rfl
         refine pure_ (i:=28) (N:=some 152) (v:=?_) (a':=?_) (bm_ 29 36) rfl rfl (any_of HT_.out (by kernel_rfl)) (fun _ _ _ h => h) (Or.inl ⟨by rfl,?_⟩) ?_ ?_;rotate_left
         ·
          intro w'
          go_simp
          with_reducible rfl
         rotate_left
         ·
          simp only [Act.put,zi,zj,zk,zG,zH]
          rfl
         refine pure_ (i:=29) (N:=some 153) (v:=?_) (a':=?_) (bm_ 30 36) rfl rfl (any_of HT_.out (by kernel_rfl)) (fun _ _ _ h => h) (Or.inl ⟨by rfl,?_⟩) ?_ ?_;rotate_left
         ·
          intro w'
          go_simp
          with_reducible rfl
         rotate_left
         ·
          simp only [Act.put,zi,zj,zk,zG,zH]
          rfl
         refine pure_ (i:=31) (N:=some 155) (v:=?_) (a':=?_) #[true,true,true,true,true,true,true,true,true,true,true,true,true,true,true,true,true,true,true,true,true,true,true,true,true,true,true,true,true,true,false,true,false,false,false,false] rfl rfl (any_of HT_.out (by kernel_rfl)) (fun _ _ _ h => h) (Or.inl ⟨by rfl,?_⟩) ?_ ?_;rotate_left
         ·
          intro w'
          go_simp
          with_reducible rfl
         rotate_left
         ·
          simp only [Act.put,zi,zj,zk,zG,zH]
          rfl
         refine pure_ (i:=32) (N:=some 156) (v:=?_) (a':=?_) #[true,true,true,true,true,true,true,true,true,true,true,true,true,true,true,true,true,true,true,true,true,true,true,true,true,true,true,true,true,true,false,true,true,false,false,false] rfl rfl (any_of HT_.out (by kernel_rfl)) (fun _ _ _ h => h) (Or.inl ⟨by rfl,?_⟩) ?_ ?_;rotate_left
         ·
          intro w'
          go_simp
          with_reducible rfl
         rotate_left
         ·
          simp only [Act.put,zi,zj,zk,zG,zH]
          rfl
         refine take_ (i:=30) (N:=some 154) (v:=?_) (a':=?_) (bm_ 33 36) rfl rfl (yo HT_.out HW_.out (by kernel_rfl)) (fun _ _ _ h => h) (Or.inl ⟨by rfl,?_⟩) hHeld ?_ ?_;rotate_left
         ·
          rintro w' ⟨s0,s1,s2,s3,s4,s5,s6,s7⟩
          go_simp
          with_reducible rfl
         rotate_left
         ·
          simp only [Act.put,zi,zj,zk,zG,zH]
          rfl
         refine one_ (i:=33) (N:=some 157) (bm_ 34 36) rfl rfl (one_of HT_.out (by kernel_rfl)) (by decide) (fun K hK => ?_);refine goes_ Tryz.func41 (by kernel_rfl) rfl #[.agg #[.int .i64 ((rd_T87 t177 x10_2).f1.f0),.int .i64 ((rd_T87 t177 x10_2).f1.f1),.string ((rd_T87 t177 x10_2).f1.f2)],.int .i64 (wrap64 (a1 - 1))] (by rfl) rfl rfl (by (try simp only [zt,zu,zv]);first|done|rfl|(simp only [zw,zx];rfl)|(simp only [yr,ys,zV,zW];rfl)) ?_
         with_reducible refine (ih k2 (by have:=HJ53.out;have:=HK2.out;omega)  ((rd_T87 t177 x10_2).f1.f0) ((rd_T87 t177 x10_2).f1.f1) ((rd_T87 t177 x10_2).f1.f2) (wrap64 (a1 - 1)) false _ A85.out).mono ?_
         rintro e w92 ⟨rfl,hb⟩;have HS0_:=(hb.cell (zl _ _ (hHeld.1))).trans (hHeld.1);have HS1_:=(hb.cell (zl _ _ (hHeld.2.1))).trans (hHeld.2.1);have HS2_:=(hb.cell (zl _ _ (hHeld.2.2.1))).trans (hHeld.2.2.1);have HS3_:=(hb.cell (zl _ _ (hHeld.2.2.2.1))).trans (hHeld.2.2.2.1);have HS4_:=(hb.cell (zl _ _ (hHeld.2.2.2.2.1))).trans (hHeld.2.2.2.2.1);have HS5_:=(hb.cell (zl _ _ (hHeld.2.2.2.2.2.1))).trans (hHeld.2.2.2.2.2.1);have HS6_:=(hb.cell (zl _ _ (hHeld.2.2.2.2.2.2.1))).trans (hHeld.2.2.2.2.2.2.1);have HS7_:=(hb.cell (zl _ _ (hHeld.2.2.2.2.2.2.2))).trans (hHeld.2.2.2.2.2.2.2);refine ⟨_,rfl,?_⟩;replace HO_8:=zh (yg (by (with_reducible repeat (first|apply zm|apply zn|apply zo));exact HO_8.out) hb);replace BK168:=zh (zD (g:=gb168) (o:=.cells #[.int .i64 a0_0,.int .i64 a0_1,.string a0_2] 49 (0,0)) (by (with_reducible repeat (first|refine ze ?_ _|refine zf ?_|refine zg ?_ _));exact BK168.out) hb);replace HB:=zh (zC (by repeat (with_reducible first|exact HB.out|apply za|apply zb|apply zc|refine zd ?_ GE168.out)) hb);(try clear hb);(try clear hb2);(try clear hk);(try clear hi);refine hK.out _ _ ⟨HS0_,HS1_,HS2_,HS3_,HS4_,HS5_,HS6_,HS7_⟩ (fun hHeld => ?_);clear hK K;refine norm_ (a':=?_) ?_ ?_;rotate_left
         ·
          show Act.put _ (some 157) _=_
          simp only [Act.put,zi,zj,zk,zG,zH]
          rfl
         refine pure_ (i:=34) (N:=some 158) (v:=?_) (a':=?_) (bm_ 35 36) rfl rfl (any_of HT_.out (by kernel_rfl)) (fun _ _ _ h => h) (Or.inl ⟨by rfl,?_⟩) ?_ ?_;rotate_left
         ·
          intro w'
          go_simp
          with_reducible rfl
         rotate_left
         ·
          simp only [Act.put,zi,zj,zk,zG,zH]
          rfl
         refine pure_ (i:=35) (N:=some 159) (v:=?_) (a':=?_) (bm_ 36 36) rfl rfl (any_of HT_.out (by kernel_rfl)) (fun _ _ _ h => h) (Or.inl ⟨by rfl,?_⟩) ?_ ?_;rotate_left
         ·
          intro w'
          go_simp
          with_reducible rfl
         rotate_left
         ·
          simp only [Act.put,zi,zj,zk,zG,zH]
          rfl
         refine done_ (done_of HT_.out (by kernel_rfl)) ?_
         try go_wp2
         go_ret
         exact ⟨by first|rfl|(simp [yt,yu] <;> rfl)|(simp [*,yt,yu] <;> rfl),by repeat (with_reducible first|exact HB.out|apply za|apply zb|apply zc|refine zd ?_ GE168.out)⟩
        replace c69:=yb.mpr c69;subst c69;have H1 : (some false)=some r:=by rw [if_neg (show ¬ (false=true) by decide)] at H;exact H
        clear H;have H:=H1;clear H1;obtain rfl:=zU H;obtain ⟨Ao93,co93,eo93⟩:=yk HO_8.out;subst eo93
        try go_wp2
        replace HO_8:=zh (zo HO_8.out);replace BK168:=zh (zf BK168.out);replace HB:=zh (zc HB.out);have p181 : 0≤(x10_2 : Int):=zy (by first|(with_reducible assumption)|assumption);have q181 : x10_2<(t177.length : Int):=zy (by first|(with_reducible assumption)|assumption);obtain ⟨ad181,e181,hx181_0,hx181_1,hx181_2,hx181_3⟩:=at_T87 (yh HO_8.out).2.2 x10_2 p181 q181
        cases e181
        replace p181:=eq_true p181;replace q181:=eq_true q181;refine start_ (n:=36) (S:=fun w' => w'.cell? (ad181.add ((x10_2).toNat * 4))=some (.string ((rd_T87 t177 x10_2).f0))∧w'.cell? ⟨(ad181.add ((x10_2).toNat * 4)).block,(ad181.add ((x10_2).toNat * 4)).off + 1,none⟩=some (.int .i64 ((rd_T87 t177 x10_2).f1.f0))∧w'.cell? ⟨(ad181.add ((x10_2).toNat * 4)).block,(ad181.add ((x10_2).toNat * 4)).off + 2,none⟩=some (.int .i64 ((rd_T87 t177 x10_2).f1.f1))∧w'.cell? ⟨(ad181.add ((x10_2).toNat * 4)).block,(ad181.add ((x10_2).toNat * 4)).off + 3,none⟩=some (.string ((rd_T87 t177 x10_2).f1.f2))) (ds:=[]) (bm_ 0 36) (by kernel_rfl) rfl rfl ⟨hx181_0,hx181_1,hx181_2,hx181_3⟩ (fun hHeld => ?_);refine with_tabW F0.tab27 F0.bits27 (fun HT_ HW_ => ?_);generalize wr.drew=w94 at HO_8 BK168 HB hx181_0 hx181_1 hx181_2 hx181_3 hHeld ⊢;refine pure_ (i:=0) (N:=some 124) (v:=?_) (a':=?_) (bm_ 1 36) rfl rfl (any_of HT_.out (by kernel_rfl)) (fun _ _ _ h => h) (Or.inl ⟨by rfl,?_⟩) ?_ ?_;rotate_left
        ·
         intro w'
         go_simp
         with_reducible rfl
        rotate_left
        ·
         simp only [Act.put,zi,zj,zk,zG,zH]
         rfl
        refine pure_ (i:=1) (N:=some 125) (v:=?_) (a':=?_) (bm_ 2 36) rfl rfl (any_of HT_.out (by kernel_rfl)) (fun _ _ _ h => h) (Or.inl ⟨by rfl,?_⟩) ?_ ?_;rotate_left
        ·
         intro w'
         go_simp
         with_reducible rfl
        rotate_left
        ·
         simp only [Act.put,zi,zj,zk,zG,zH]
         rfl
        refine pure_ (i:=2) (N:=some 126) (v:=?_) (a':=?_) (bm_ 3 36) rfl rfl (any_of HT_.out (by kernel_rfl)) (fun _ _ _ h => h) (Or.inl ⟨by rfl,?_⟩) ?_ ?_;rotate_left
        ·
         intro w'
         go_simp
         with_reducible rfl
        rotate_left
        ·
         simp only [Act.put,zi,zj,zk,zG,zH]
         rfl
        refine pure_ (i:=3) (N:=some 127) (v:=?_) (a':=?_) (bm_ 4 36) rfl rfl (any_of HT_.out (by kernel_rfl)) (fun _ _ _ h => h) (Or.inl ⟨by rfl,?_⟩) ?_ ?_;rotate_left
        ·
         intro w'
         go_simp
         with_reducible rfl
        rotate_left
        ·
         simp only [Act.put,zi,zj,zk,zG,zH]
         rfl
        refine take_ (i:=4) (N:=some 128) (v:=?_) (a':=?_) (bm_ 5 36) rfl rfl (yo HT_.out HW_.out (by kernel_rfl)) (fun _ _ _ h => h) (Or.inl ⟨by rfl,?_⟩) hHeld ?_ ?_;rotate_left
        ·
         rintro w' ⟨s0,s1,s2,s3⟩
         go_simp
         with_reducible rfl
        rotate_left
        ·
         simp only [Act.put,zi,zj,zk,zG,zH]
         rfl
        refine one_ (i:=5) (N:=some 129) (bm_ 6 36) rfl rfl (one_of HT_.out (by kernel_rfl)) (by decide) (fun K hK => ?_);refine goes_ Tryz.func26 (by kernel_rfl) rfl #[.string ((rd_T87 t177 x10_2).f0)] (by rfl) rfl rfl (by (try simp only [zt,zu,zv]);first|done|rfl|(simp only [zw,zx];rfl)|(simp only [yr,ys,zV,zW];rfl)) ?_
        with_reducible refine (F00.calls k2  ((rd_T87 t177 x10_2).f0) false _ A68.out).mono ?_
        rintro e w' ⟨rfl,⟨nd,rfl⟩⟩;refine ⟨_,rfl,?_⟩;refine hK.out _ _ ⟨hHeld.1,hHeld.2.1,hHeld.2.2.1,hHeld.2.2.2⟩ (fun hHeld => ?_);clear hK K;refine norm_ (a':=?_) ?_ ?_;rotate_left
        ·
         show Act.put _ (some 129) _=_
         simp only [Act.put,zi,zj,zk,zG,zH]
         rfl
        refine pure_ (i:=6) (N:=some 130) (v:=?_) (a':=?_) (bm_ 7 36) rfl rfl (any_of HT_.out (by kernel_rfl)) (fun _ _ _ h => h) (Or.inl ⟨by rfl,?_⟩) ?_ ?_;rotate_left
        ·
         intro w'
         go_simp
         with_reducible rfl
        rotate_left
        ·
         simp only [Act.put,zi,zj,zk,zG,zH]
         rfl
        refine pure_ (i:=7) (N:=some 131) (v:=?_) (a':=?_) (bm_ 8 36) rfl rfl (any_of HT_.out (by kernel_rfl)) (fun _ _ _ h => h) (Or.inl ⟨by rfl,?_⟩) ?_ ?_;rotate_left
        ·
         intro w'
         go_simp
         with_reducible rfl
        rotate_left
        ·
         simp only [Act.put,zi,zj,zk,zG,zH]
         rfl
        refine pure_ (i:=8) (N:=some 132) (v:=undef) (a':=?_) (bm_ 9 36) rfl rfl (any_of HT_.out (by kernel_rfl)) (fun _ _ _ h => h) (Or.inr ⟨by rfl,rfl⟩) ?_ ?_;rotate_left
        ·
         simp only [Act.put,zi,zj,zk,zG,zH]
         rfl
        refine pure_ (i:=9) (N:=some 133) (v:=undef) (a':=?_) (bm_ 10 36) rfl rfl (any_of HT_.out (by kernel_rfl)) (fun _ _ _ h => h) (Or.inr ⟨by rfl,rfl⟩) ?_ ?_;rotate_left
        ·
         simp only [Act.put,zi,zj,zk,zG,zH]
         rfl
        refine pure_ (i:=10) (N:=some 134) (v:=undef) (a':=?_) (bm_ 11 36) rfl rfl (any_of HT_.out (by kernel_rfl)) (fun _ _ _ h => h) (Or.inr ⟨by rfl,rfl⟩) ?_ ?_;rotate_left
        ·
         simp only [Act.put,zi,zj,zk,zG,zH]
         rfl
        refine pure_ (i:=11) (N:=some 135) (v:=undef) (a':=?_) (bm_ 12 36) rfl rfl (any_of HT_.out (by kernel_rfl)) (fun _ _ _ h => h) (Or.inr ⟨by rfl,rfl⟩) ?_ ?_;rotate_left
        ·
         simp only [Act.put,zi,zj,zk,zG,zH]
         rfl
        refine pure_ (i:=12) (N:=some 136) (v:=undef) (a':=?_) (bm_ 13 36) rfl rfl (any_of HT_.out (by kernel_rfl)) (fun _ _ _ h => h) (Or.inr ⟨by rfl,rfl⟩) ?_ ?_;rotate_left
        ·
         simp only [Act.put,zi,zj,zk,zG,zH]
         rfl
        refine pure_ (i:=13) (N:=some 137) (v:=undef) (a':=?_) (bm_ 14 36) rfl rfl (any_of HT_.out (by kernel_rfl)) (fun _ _ _ h => h) (Or.inr ⟨by rfl,rfl⟩) ?_ ?_;rotate_left
        ·
         simp only [Act.put,zi,zj,zk,zG,zH]
         rfl
        refine pure_ (i:=14) (N:=some 138) (v:=undef) (a':=?_) (bm_ 15 36) rfl rfl (any_of HT_.out (by kernel_rfl)) (fun _ _ _ h => h) (Or.inr ⟨by rfl,rfl⟩) ?_ ?_;rotate_left
        ·
         simp only [Act.put,zi,zj,zk,zG,zH]
         rfl
        refine pure_ (i:=15) (N:=some 139) (v:=undef) (a':=?_) (bm_ 16 36) rfl rfl (any_of HT_.out (by kernel_rfl)) (fun _ _ _ h => h) (Or.inr ⟨by rfl,rfl⟩) ?_ ?_;rotate_left
        ·
         simp only [Act.put,zi,zj,zk,zG,zH]
         rfl
        refine pure_ (i:=16) (N:=some 140) (v:=undef) (a':=?_) (bm_ 17 36) rfl rfl (any_of HT_.out (by kernel_rfl)) (fun _ _ _ h => h) (Or.inr ⟨by rfl,rfl⟩) ?_ ?_;rotate_left
        ·
         simp only [Act.put,zi,zj,zk,zG,zH]
         rfl
        refine pure_ (i:=17) (N:=some 141) (v:=undef) (a':=?_) (bm_ 18 36) rfl rfl (any_of HT_.out (by kernel_rfl)) (fun _ _ _ h => h) (Or.inr ⟨by rfl,rfl⟩) ?_ ?_;rotate_left
        ·
         simp only [Act.put,zi,zj,zk,zG,zH]
         rfl
        refine pure_ (i:=18) (N:=some 142) (v:=undef) (a':=?_) (bm_ 19 36) rfl rfl (any_of HT_.out (by kernel_rfl)) (fun _ _ _ h => h) (Or.inr ⟨by rfl,rfl⟩) ?_ ?_;rotate_left
        ·
         simp only [Act.put,zi,zj,zk,zG,zH]
         rfl
        refine pure_ (i:=19) (N:=some 143) (v:=undef) (a':=?_) (bm_ 20 36) rfl rfl (any_of HT_.out (by kernel_rfl)) (fun _ _ _ h => h) (Or.inr ⟨by rfl,rfl⟩) ?_ ?_;rotate_left
        ·
         simp only [Act.put,zi,zj,zk,zG,zH]
         rfl
        refine pure_ (i:=20) (N:=some 144) (v:=undef) (a':=?_) (bm_ 21 36) rfl rfl (any_of HT_.out (by kernel_rfl)) (fun _ _ _ h => h) (Or.inr ⟨by rfl,rfl⟩) ?_ ?_;rotate_left
        ·
         simp only [Act.put,zi,zj,zk,zG,zH]
         rfl
        refine pure_ (i:=21) (N:=some 145) (v:=undef) (a':=?_) (bm_ 22 36) rfl rfl (any_of HT_.out (by kernel_rfl)) (fun _ _ _ h => h) (Or.inr ⟨by rfl,rfl⟩) ?_ ?_;rotate_left
        ·
         simp only [Act.put,zi,zj,zk,zG,zH]
         rfl
        refine pure_ (i:=22) (N:=some 146) (v:=undef) (a':=?_) (bm_ 23 36) rfl rfl (any_of HT_.out (by kernel_rfl)) (fun _ _ _ h => h) (Or.inr ⟨by rfl,rfl⟩) ?_ ?_;rotate_left
        ·
         simp only [Act.put,zi,zj,zk,zG,zH]
         rfl
        refine pure_ (i:=23) (N:=some 147) (v:=undef) (a':=?_) (bm_ 24 36) rfl rfl (any_of HT_.out (by kernel_rfl)) (fun _ _ _ h => h) (Or.inr ⟨by rfl,rfl⟩) ?_ ?_;rotate_left
        ·
         simp only [Act.put,zi,zj,zk,zG,zH]
         rfl
        refine pure_ (i:=24) (N:=some 148) (v:=?_) (a':=?_) (bm_ 25 36) rfl rfl (any_of HT_.out (by kernel_rfl)) (fun _ _ _ h => h) (Or.inl ⟨by rfl,?_⟩) ?_ ?_;rotate_left
        ·
         intro w'
         go_simp
         with_reducible rfl
        rotate_left
        ·
         simp only [Act.put,zi,zj,zk,zG,zH]
         rfl
        refine pure_ (i:=25) (N:=some 149) (v:=?_) (a':=?_) (bm_ 26 36) rfl rfl (any_of HT_.out (by kernel_rfl)) (fun _ _ _ h => h) (Or.inl ⟨by rfl,?_⟩) ?_ ?_;rotate_left
        ·
         intro w'
         go_simp
         with_reducible rfl
        rotate_left
        ·
         simp only [Act.put,zi,zj,zk,zG,zH]
         rfl
        refine pure_ (i:=26) (N:=some 150) (v:=undef) (a':=?_) (bm_ 27 36) rfl rfl (any_of HT_.out (by kernel_rfl)) (fun _ _ _ h => h) (Or.inr ⟨by rfl,rfl⟩) ?_ ?_;rotate_left
        ·
         simp only [Act.put,zi,zj,zk,zG,zH]
         rfl
        refine pure_ (i:=27) (N:=some 151) (v:=undef) (a':=?_) (bm_ 28 36) rfl rfl (any_of HT_.out (by kernel_rfl)) (fun _ _ _ h => h) (Or.inr ⟨by rfl,rfl⟩) ?_ ?_;rotate_left
        ·
         simp only [Act.put,zi,zj,zk,zG,zH]
         rfl
        refine pure_ (i:=28) (N:=some 152) (v:=undef) (a':=?_) (bm_ 29 36) rfl rfl (any_of HT_.out (by kernel_rfl)) (fun _ _ _ h => h) (Or.inr ⟨by rfl,rfl⟩) ?_ ?_;rotate_left
        ·
         simp only [Act.put,zi,zj,zk,zG,zH]
         rfl
        refine pure_ (i:=29) (N:=some 153) (v:=undef) (a':=?_) (bm_ 30 36) rfl rfl (any_of HT_.out (by kernel_rfl)) (fun _ _ _ h => h) (Or.inr ⟨by rfl,rfl⟩) ?_ ?_;rotate_left
        ·
         simp only [Act.put,zi,zj,zk,zG,zH]
         rfl
        refine pure_ (i:=30) (N:=some 154) (v:=undef) (a':=?_) (bm_ 31 36) rfl rfl (any_of HT_.out (by kernel_rfl)) (fun _ _ _ h => h) (Or.inr ⟨by rfl,rfl⟩) ?_ ?_;rotate_left
        ·
         simp only [Act.put,zi,zj,zk,zG,zH]
         rfl
        refine pure_ (i:=31) (N:=some 155) (v:=undef) (a':=?_) (bm_ 32 36) rfl rfl (any_of HT_.out (by kernel_rfl)) (fun _ _ _ h => h) (Or.inr ⟨by rfl,rfl⟩) ?_ ?_;rotate_left
        ·
         simp only [Act.put,zi,zj,zk,zG,zH]
         rfl
        refine pure_ (i:=32) (N:=some 156) (v:=undef) (a':=?_) (bm_ 33 36) rfl rfl (any_of HT_.out (by kernel_rfl)) (fun _ _ _ h => h) (Or.inr ⟨by rfl,rfl⟩) ?_ ?_;rotate_left
        ·
         simp only [Act.put,zi,zj,zk,zG,zH]
         rfl
        refine pure_ (i:=33) (N:=some 157) (v:=undef) (a':=?_) (bm_ 34 36) rfl rfl (any_of HT_.out (by kernel_rfl)) (fun _ _ _ h => h) (Or.inr ⟨by rfl,rfl⟩) ?_ ?_;rotate_left
        ·
         simp only [Act.put,zi,zj,zk,zG,zH]
         rfl
        refine pure_ (i:=34) (N:=some 158) (v:=undef) (a':=?_) (bm_ 35 36) rfl rfl (any_of HT_.out (by kernel_rfl)) (fun _ _ _ h => h) (Or.inr ⟨by rfl,rfl⟩) ?_ ?_;rotate_left
        ·
         simp only [Act.put,zi,zj,zk,zG,zH]
         rfl
        refine pure_ (i:=35) (N:=some 159) (v:=?_) (a':=?_) (bm_ 36 36) rfl rfl (any_of HT_.out (by kernel_rfl)) (fun _ _ _ h => h) (Or.inl ⟨by rfl,?_⟩) ?_ ?_;rotate_left
        ·
         intro w'
         go_simp
         with_reducible rfl
        rotate_left
        ·
         simp only [Act.put,zi,zj,zk,zG,zH]
         rfl
        refine done_ (done_of HT_.out (by kernel_rfl)) ?_
        try go_wp2
        go_ret
        exact ⟨by first|rfl|(simp [yt,yu] <;> rfl)|(simp [*,yt,yu] <;> rfl),by repeat (with_reducible first|exact HB.out|apply za|apply zb|apply zc|refine zd ?_ GE168.out)⟩
       rw [if_neg c67] at H;exact absurd H (by simp)
      rw [if_neg c66] at H;have c66b0 : decide (x10_2<(t177.length : Int))=false:=decide_eq_false c66;clear c66;obtain rfl:=zU H;obtain ⟨Ao95,co95,eo95⟩:=yk HO_8.out;subst eo95
      go_wp2
      go_ret
      exact ⟨by first|rfl|(simp [yt,yu] <;> rfl)|(simp [*,yt,yu] <;> rfl),by repeat (with_reducible first|exact HB.out|apply za|apply zb|apply zc|refine zd ?_ GE168.out)⟩
 rw [if_neg c52] at H;have c52b0 : (a0_0 == 5)=false:=zY.mpr c52;have c52b1 : (a0_0 != 5)=true:=zZ.mpr c52;obtain rfl:=zU H
 go_enter Tryz.func41,Tryz.ntmps41
 go_wp2_with (first|((with_reducible refine zK (N:=2) rfl ?_);(try (refine yz (by rfl) ?_;dsimp only));refine zI ?hg (N:=2) ?hd (cs:=#[.int .i64 a0_0,.int .i64 a0_1,.string a0_2]) (t:=49) ?hr ?_;(case hd => rfl);(case hg => rfl);(case hr => first|(go_simp;done)|(go_simp;rfl));intro gb168 hg w96 hbox hb;have BK168:=zh (hbox);have GW168:=zh ((by rw [hg];exact (zB (by repeat (with_reducible first|exact HB.out|apply za|apply zb|apply zc))) : w.heap.size≤gb168));have GE168:=zh ((by rw [hg];exact (zB (by repeat (with_reducible first|exact HB.out|apply za|apply zb|apply zc))) : w.heap.size≤gb168));replace HB:=zh (zC (by repeat (with_reducible first|exact HB.out|apply za|apply zb|apply zc)) hb);clear hb hbox hg;have hcz97_0 : w96.cell? ⟨gb168,0,none⟩=some (.int .i64 a0_0):=(zz BK168.out 0).trans rfl;have hcz97_1 : w96.cell? ⟨gb168,1,none⟩=some (.int .i64 a0_1):=(zz BK168.out 1).trans rfl;have hcz97_2 : w96.cell? ⟨gb168,2,none⟩=some (.string a0_2):=(zz BK168.out 2).trans rfl;have hfz97_0:=zA BK168.out 0;have hfz97_1:=zA BK168.out 1;have hfz97_2:=zA BK168.out 2))
 go_ret
 exact ⟨by first|rfl|(simp [yt,yu] <;> rfl)|(simp [*,yt,yu] <;> rfl),by repeat (with_reducible first|exact HB.out|apply za|apply zb|apply zc|refine zd ?_ GE168.out)⟩

end Go.Proofs.YthjgfjlogilleaaGreatDoor.Q
end
section
namespace Go.Proofs.YthjgfjlogilleaaGreatDoor.Q
open Go.RowKit Go.Proofs.YthjgfjlogilleaaGreatDoorW.PrintWords Go.Proofs.YthjgfjlogilleaaGreatDoorW.PrintLast Go.Proofs.YthjgfjlogilleaaGreatDoorW.PrintMore
attribute [local go_sem] max2_int min2_int max_two min_two max_three min_three max_four min_four max2_str min2_str str_geq str_gtr str_leq
set_option linter.unusedVariables false
set_option linter.unusedSimpArgs false

def F0e.f (k : Nat) (a0_0 : Int) (a0_1 : Int) (a0_2 : ByteArray) : Option (Bool):=if (a0_2.size : Int)≤65536 then ((F0.f k a0_0 a0_1 a0_2 5).bind fun t190 => (some t190)) else (some false)
theorem F0e.mono : ∀ a0 a1 a2 k,LeO (F0e.f k a0 a1 a2) (F0e.f (k + 1) a0 a1 a2):=by
 intro a0 a1 a2 k;unfold F0e.f
 repeat' first|(with_reducible first|exact F0.mono _ _ _ _ _|exact zQ _|exact zN _|refine zP ?_ ?_|refine zO ?_ (fun _ => ?_))|refine zP ?_ ?_|refine zO ?_ (fun _ => ?_)
set_option maxHeartbeats 8000000 in
set_option maxRecDepth 100000 in
theorem F0e.calls (k : Nat) (a0_0 : Int) (a0_1 : Int) (a0_2 : ByteArray) (r : Bool) (w : World) (h : F0e.f k a0_0 a0_1 a0_2=some r) :
  Calls Tryz.prog 30 #[.agg #[.int .i64 a0_0,.int .i64 a0_1,.string a0_2]] w fun e w' => e = .returned (.bool r)∧Below w.heap.size w w':=by
 have hu49:=Tryz.underlying49;have HB:=zh (Below.refl w.heap.size w);have H : (if (a0_2.size : Int)≤65536 then ((F0.f k a0_0 a0_1 a0_2 5).bind fun t190 => (some t190)) else (some false))=some r:=h;clear h
 by_cases c2 : (a0_2.size : Int)≤65536
 ·
  rw [if_pos c2] at H
  have c2b0 : decide ((a0_2.size : Int)≤65536)=true:=decide_eq_true c2;have c2b1 : decide (a0_2.size≤65536)=true:=decide_eq_true (by omega);clear c2;replace H:=zT.mp H;obtain ⟨t190,A30,H⟩:=H;replace H : (some t190)=some r:=H;have A3:=zh A30;clear A30;obtain rfl:=zU H
  go_enter Tryz.func30,Tryz.ntmps30
  go_wp2_with (first|((with_reducible refine zK (N:=1) rfl ?_);refine zI ?hg (N:=1) ?hd (cs:=#[.int .i64 a0_0,.int .i64 a0_1,.string a0_2]) (t:=49) ?hr ?_;(case hd => rfl);(case hg => rfl);(case hr => first|(go_simp;done)|(go_simp;rfl));intro gb189 hg w4 hbox hb;have BK189:=zh (hbox);have GW189:=zh ((by rw [hg];exact (zB (by repeat (with_reducible first|exact HB.out|apply za|apply zb|apply zc))) : w.heap.size≤gb189));have GE189:=zh ((by rw [hg];exact (zB (by repeat (with_reducible first|exact HB.out|apply za|apply zb|apply zc))) : w.heap.size≤gb189));replace HB:=zh (zC (by repeat (with_reducible first|exact HB.out|apply za|apply zb|apply zc)) hb);clear hb hbox hg;have hcz5_0 : w4.cell? ⟨gb189,0,none⟩=some (.int .i64 a0_0):=(zz BK189.out 0).trans rfl;have hcz5_1 : w4.cell? ⟨gb189,1,none⟩=some (.int .i64 a0_1):=(zz BK189.out 1).trans rfl;have hcz5_2 : w4.cell? ⟨gb189,2,none⟩=some (.string a0_2):=(zz BK189.out 2).trans rfl;have hfz5_0:=zA BK189.out 0;have hfz5_1:=zA BK189.out 1;have hfz5_2:=zA BK189.out 2)|(go_at_call 41;(with_reducible refine (F0.calls k  a0_0 a0_1 a0_2 5 t190 _ A3.out).mono ?_);rintro e w6 ⟨rfl,hb⟩;replace BK189:=zh (zD (g:=gb189) (o:=.cells #[.int .i64 a0_0,.int .i64 a0_1,.string a0_2] 49 (0,0)) (by (with_reducible repeat (first|refine ze ?_ _|refine zf ?_|refine zg ?_ _));exact BK189.out) hb);replace HB:=zh (zC (by repeat (with_reducible first|exact HB.out|apply za|apply zb|apply zc|refine zd ?_ GE189.out)) hb);(try clear hb);(try clear hb2);(try clear hk);(try clear hi)))
  go_ret
  exact ⟨by first|rfl|(simp [yt,yu] <;> rfl)|(simp [*,yt,yu] <;> rfl),by repeat (with_reducible first|exact HB.out|apply za|apply zb|apply zc|refine zd ?_ GE189.out)⟩
 rw [if_neg c2] at H;have c2b0 : decide ((a0_2.size : Int)≤65536)=false:=decide_eq_false c2;have c2b1 : decide (a0_2.size≤65536)=false:=decide_eq_false (by omega);clear c2;obtain rfl:=zU H
 go_enter Tryz.func30,Tryz.ntmps30
 go_wp2_with (first|((with_reducible refine zK (N:=1) rfl ?_);refine zI ?hg (N:=1) ?hd (cs:=#[.int .i64 a0_0,.int .i64 a0_1,.string a0_2]) (t:=49) ?hr ?_;(case hd => rfl);(case hg => rfl);(case hr => first|(go_simp;done)|(go_simp;rfl));intro gb189 hg w7 hbox hb;have BK189:=zh (hbox);have GW189:=zh ((by rw [hg];exact (zB (by repeat (with_reducible first|exact HB.out|apply za|apply zb|apply zc))) : w.heap.size≤gb189));have GE189:=zh ((by rw [hg];exact (zB (by repeat (with_reducible first|exact HB.out|apply za|apply zb|apply zc))) : w.heap.size≤gb189));replace HB:=zh (zC (by repeat (with_reducible first|exact HB.out|apply za|apply zb|apply zc)) hb);clear hb hbox hg;have hcz8_0 : w7.cell? ⟨gb189,0,none⟩=some (.int .i64 a0_0):=(zz BK189.out 0).trans rfl;have hcz8_1 : w7.cell? ⟨gb189,1,none⟩=some (.int .i64 a0_1):=(zz BK189.out 1).trans rfl;have hcz8_2 : w7.cell? ⟨gb189,2,none⟩=some (.string a0_2):=(zz BK189.out 2).trans rfl;have hfz8_0:=zA BK189.out 0;have hfz8_1:=zA BK189.out 1;have hfz8_2:=zA BK189.out 2))
 go_ret
 exact ⟨by first|rfl|(simp [yt,yu] <;> rfl)|(simp [*,yt,yu] <;> rfl),by repeat (with_reducible first|exact HB.out|apply za|apply zb|apply zc|refine zd ?_ GE189.out)⟩

end Go.Proofs.YthjgfjlogilleaaGreatDoor.Q
end
section
namespace Go.Proofs.YthjgfjlogilleaaGreatDoor.Q
open Go.RowKit Go.Proofs.YthjgfjlogilleaaGreatDoorW.PrintWords Go.Proofs.YthjgfjlogilleaaGreatDoorW.PrintLast Go.Proofs.YthjgfjlogilleaaGreatDoorW.PrintMore
attribute [local go_sem] max2_int min2_int max_two min_two max_three min_three max_four min_four max2_str min2_str str_geq str_gtr str_leq   -- for this text's walks alone
set_option linter.unusedVariables false
set_option linter.unusedSimpArgs false

mutual
def F3.j0 : Nat→Bool→Int→ByteArray→Int→Int→ByteArray→Option (Bool)
 | 0,_,_,_,_,_,_ => none
 | k + 1,x18,x192000,x192001,x192002,x192003,x192004 => if x18=true then (some false) else (if x192000=1 then (F3.j1 k x192000 (x192000 == 1) x192000 x192001 x192002 x192003 x192004) else (if x192000=2 then (F3.j1 k x192000 (x192000 == 2) x192000 x192001 x192002 x192003 x192004) else (if x192000=3 then (F3.j1 k x192000 (x192000 == 3) x192000 x192001 x192002 x192003 x192004) else (if x192000=4 then (F3.j1 k x192000 (x192000 == 4) x192000 x192001 x192002 x192003 x192004) else (if x192000=5 then (F3.j1 k x192000 (x192000 == 5) x192000 x192001 x192002 x192003 x192004) else (F3.j1 k x192000 (x192000 == 6) x192000 x192001 x192002 x192003 x192004))))))
def F3.j1 : Nat→Int→Bool→Int→ByteArray→Int→Int→ByteArray→Option (Bool)
 | 0,_,_,_,_,_,_,_ => none
 | k + 1,x20,x21,x192000,x192001,x192002,x192003,x192004 => if x21=true then (some true) else (if x20=7 then (some (x192002 == 4)) else (if x20=8 then (some (x192002 == 1)) else (if x20=9 then (if x192002=2 then ((F09.f x192003 0 5).bind fun t194 => (some t194)) else (some false)) else (if x20=10 then (if x192002=2 then (some (decide (x192003 ≥ 0))) else (some false)) else (some false)))))
end
def F3.f (k : Nat) (a0_0 : Int) (a0_1 : ByteArray) (a0_2 : Int) (a0_3 : Int) (a0_4 : ByteArray) : Option (Bool):=if (a0_1.size : Int) > 65536 then (F3.j0 k true a0_0 a0_1 a0_2 a0_3 a0_4) else ((F9.f k a0_1).bind fun t192 => (if t192=true then ((F0e.f k a0_2 a0_3 a0_4).bind fun t193 => (F3.j0 k (!t193) a0_0 a0_1 a0_2 a0_3 a0_4)) else (F3.j0 k true a0_0 a0_1 a0_2 a0_3 a0_4)))
theorem F3.mono_l : ∀ k,(∀ y0 y1 y2 y3 y4 y5,LeO (F3.j0 k y0 y1 y2 y3 y4 y5) (F3.j0 (k + 1) y0 y1 y2 y3 y4 y5))∧(∀ y0 y1 y2 y3 y4 y5 y6,LeO (F3.j1 k y0 y1 y2 y3 y4 y5 y6) (F3.j1 (k + 1) y0 y1 y2 y3 y4 y5 y6))
 | 0 => ⟨fun _ _ _ _ _ _ r h => by simp [F3.j0] at h,fun _ _ _ _ _ _ _ r h => by simp [F3.j1] at h⟩
 | k + 1 => by
  obtain ⟨ih0,ih1⟩:=F3.mono_l k;refine ⟨?_,?_⟩
  ·
   intro y0 y1 y2 y3 y4 y5
   unfold F3.j0
   repeat' first|(with_reducible first|exact ih0 _ _ _ _ _ _|exact ih1 _ _ _ _ _ _ _|exact F9.mono _ _|exact F0e.mono _ _ _ _|exact zQ _|exact zN _|refine zP ?_ ?_|refine zO ?_ (fun _ => ?_))|refine zP ?_ ?_|refine zO ?_ (fun _ => ?_)
  intro y0 y1 y2 y3 y4 y5 y6;unfold F3.j1
  repeat' first|(with_reducible first|exact ih0 _ _ _ _ _ _|exact ih1 _ _ _ _ _ _ _|exact F9.mono _ _|exact F0e.mono _ _ _ _|exact zQ _|exact zN _|refine zP ?_ ?_|refine zO ?_ (fun _ => ?_))|refine zP ?_ ?_|refine zO ?_ (fun _ => ?_)
theorem F3.mono : ∀ a0 a1 a2 a3 a4 k,LeO (F3.f k a0 a1 a2 a3 a4) (F3.f (k + 1) a0 a1 a2 a3 a4):=by
 intro a0 a1 a2 a3 a4 k;obtain ⟨ih0,ih1⟩:=F3.mono_l k;unfold F3.f
 repeat' first|(with_reducible first|exact ih0 _ _ _ _ _ _|exact ih1 _ _ _ _ _ _ _|exact F9.mono _ _|exact F0e.mono _ _ _ _|exact zQ _|exact zN _|refine zP ?_ ?_|refine zO ?_ (fun _ => ?_))|refine zP ?_ ?_|refine zO ?_ (fun _ => ?_)
set_option maxHeartbeats 8000000 in
set_option maxRecDepth 100000 in
theorem F3.calls (k : Nat) (a0_0 : Int) (a0_1 : ByteArray) (a0_2 : Int) (a0_3 : Int) (a0_4 : ByteArray) (r : Bool) (w : World) (h : F3.f k a0_0 a0_1 a0_2 a0_3 a0_4=some r) :
  Calls Tryz.prog 17 #[.agg #[.int .i64 a0_0,.string a0_1,.int .i64 a0_2,.int .i64 a0_3,.string a0_4]] w fun e w' => e = .returned (.bool r)∧Below w.heap.size w w':=by
 have hu51:=Tryz.underlying51;have hu49:=Tryz.underlying49;have HB:=zh (Below.refl w.heap.size w);have H : (if (a0_1.size : Int) > 65536 then (F3.j0 k true a0_0 a0_1 a0_2 a0_3 a0_4) else ((F9.f k a0_1).bind fun t192 => (if t192=true then ((F0e.f k a0_2 a0_3 a0_4).bind fun t193 => (F3.j0 k (!t193) a0_0 a0_1 a0_2 a0_3 a0_4)) else (F3.j0 k true a0_0 a0_1 a0_2 a0_3 a0_4))))=some r:=h;clear h;have HC2:=zh H;clear H
 go_enter Tryz.func17,Tryz.ntmps17
 go_upto_region 1 with (first|((with_reducible refine zK (N:=1) rfl ?_);refine zI ?hg (N:=1) ?hd (cs:=#[.int .i64 a0_0,.string a0_1,.int .i64 a0_2,.int .i64 a0_3,.string a0_4]) (t:=51) ?hr ?_;(case hd => rfl);(case hg => rfl);(case hr => first|(go_simp;done)|(go_simp;rfl));intro gb191 hg w3 hbox hb;have BK191:=zh (hbox);have GW191:=zh ((by rw [hg];exact (zB (by repeat (with_reducible first|exact HB.out|apply za|apply zb|apply zc))) : w.heap.size≤gb191));have GE191:=zh ((by rw [hg];exact (zB (by repeat (with_reducible first|exact HB.out|apply za|apply zb|apply zc))) : w.heap.size≤gb191));replace HB:=zh (zC (by repeat (with_reducible first|exact HB.out|apply za|apply zb|apply zc)) hb);clear hb hbox hg))
 (try simp only [Act.put,zi,zj,zk])
 go_cut [18] (fun v18 wc => ∃ (kq : Nat) (x18_1 : Bool),v18 = .bool x18_1∧Aside0 (F3.j0 kq x18_1 a0_0 a0_1 a0_2 a0_3 a0_4=some r)∧Aside0 (kq≤k)∧Aside0 (wc.heap[gb191]? = some (.cells #[.int .i64 a0_0,.string a0_1,.int .i64 a0_2,.int .i64 a0_3,.string a0_4] 51 (0,0)))∧Aside0 (Below w.heap.size w wc))
 case first =>
  have H:=HC2.out;clear HC2
  by_cases c4 : (a0_1.size : Int) > 65536
  ·
   rw [if_pos c4] at H
   have c4b0 : decide (65536<(a0_1.size : Int))=true:=decide_eq_true c4;have c4b1 : decide (65536<a0_1.size)=true:=decide_eq_true (by omega);clear c4;(first|rw [c4b0]|(simp only [zG,zH];rw [c4b0])|skip);have H':=zh H;clear H;have hcz5_0 : w3.cell? ⟨gb191,0,none⟩=some (.int .i64 a0_0):=(zz BK191.out 0).trans rfl;have hcz5_1 : w3.cell? ⟨gb191,1,none⟩=some (.string a0_1):=(zz BK191.out 1).trans rfl;have hcz5_2 : w3.cell? ⟨gb191,2,none⟩=some (.int .i64 a0_2):=(zz BK191.out 2).trans rfl;have hcz5_3 : w3.cell? ⟨gb191,3,none⟩=some (.int .i64 a0_3):=(zz BK191.out 3).trans rfl;have hcz5_4 : w3.cell? ⟨gb191,4,none⟩=some (.string a0_4):=(zz BK191.out 4).trans rfl;have hfz5_0:=zA BK191.out 0;have hfz5_1:=zA BK191.out 1;have hfz5_2:=zA BK191.out 2;have hfz5_3:=zA BK191.out 3;have hfz5_4:=zA BK191.out 4
   go_wp2
   go_meet
   case rel => exact ⟨_,(true),(by first|rfl|(simp;done)|(simp [*];done)),H',⟨by first|omega|exact ye _⟩,⟨by (with_reducible repeat (first|refine ze ?_ _|refine zf ?_|refine zg ?_ _));exact BK191.out⟩,⟨by repeat (with_reducible first|exact HB.out|apply za|apply zb|apply zc|refine zd ?_ GE191.out)⟩⟩
  rw [if_neg c4] at H;have c4b0 : decide (65536<(a0_1.size : Int))=false:=decide_eq_false c4;have c4b1 : decide (65536<a0_1.size)=false:=decide_eq_false (by omega);clear c4;(first|rw [c4b0]|(simp only [zG,zH];rw [c4b0])|skip);replace H:=zT.mp H;obtain ⟨t192,A60,H⟩:=H;replace H : (if t192=true then ((F0e.f k a0_2 a0_3 a0_4).bind fun t193 => (F3.j0 k (!t193) a0_0 a0_1 a0_2 a0_3 a0_4)) else (F3.j0 k true a0_0 a0_1 a0_2 a0_3 a0_4))=some r:=H;have A6:=zh A60;clear A60
  by_cases c7 : t192=true
  ·
   subst c7
   have H1 : ((F0e.f k a0_2 a0_3 a0_4).bind fun t193 => (F3.j0 k (!t193) a0_0 a0_1 a0_2 a0_3 a0_4))=some r:=by rw [if_pos rfl] at H;exact H
   clear H;have H:=H1;clear H1;replace H:=zT.mp H;obtain ⟨t193,A80,H⟩:=H;replace H : (F3.j0 k (!t193) a0_0 a0_1 a0_2 a0_3 a0_4)=some r:=H;have A8:=zh A80;clear A80;have H':=zh H;clear H;have hcz9_0 : w3.cell? ⟨gb191,0,none⟩=some (.int .i64 a0_0):=(zz BK191.out 0).trans rfl;have hcz9_1 : w3.cell? ⟨gb191,1,none⟩=some (.string a0_1):=(zz BK191.out 1).trans rfl;have hcz9_2 : w3.cell? ⟨gb191,2,none⟩=some (.int .i64 a0_2):=(zz BK191.out 2).trans rfl;have hcz9_3 : w3.cell? ⟨gb191,3,none⟩=some (.int .i64 a0_3):=(zz BK191.out 3).trans rfl;have hcz9_4 : w3.cell? ⟨gb191,4,none⟩=some (.string a0_4):=(zz BK191.out 4).trans rfl;have hfz9_0:=zA BK191.out 0;have hfz9_1:=zA BK191.out 1;have hfz9_2:=zA BK191.out 2;have hfz9_3:=zA BK191.out 3;have hfz9_4:=zA BK191.out 4
   go_wp2_with (first|(go_at_call 29;(with_reducible refine (F9.calls k  a0_1 true _ A6.out).mono ?_);rintro e w10 ⟨rfl,hb⟩;replace BK191:=zh (zD (g:=gb191) (o:=.cells #[.int .i64 a0_0,.string a0_1,.int .i64 a0_2,.int .i64 a0_3,.string a0_4] 51 (0,0)) (by (with_reducible repeat (first|refine ze ?_ _|refine zf ?_|refine zg ?_ _));exact BK191.out) hb);replace HB:=zh (zC (by repeat (with_reducible first|exact HB.out|apply za|apply zb|apply zc|refine zd ?_ GE191.out)) hb);(try clear hb);(try clear hb2);(try clear hk);(try clear hi);have hcz11_0 : w10.cell? ⟨gb191,0,none⟩=some (.int .i64 a0_0):=(zz BK191.out 0).trans rfl;have hcz11_1 : w10.cell? ⟨gb191,1,none⟩=some (.string a0_1):=(zz BK191.out 1).trans rfl;have hcz11_2 : w10.cell? ⟨gb191,2,none⟩=some (.int .i64 a0_2):=(zz BK191.out 2).trans rfl;have hcz11_3 : w10.cell? ⟨gb191,3,none⟩=some (.int .i64 a0_3):=(zz BK191.out 3).trans rfl;have hcz11_4 : w10.cell? ⟨gb191,4,none⟩=some (.string a0_4):=(zz BK191.out 4).trans rfl;have hfz11_0:=zA BK191.out 0;have hfz11_1:=zA BK191.out 1;have hfz11_2:=zA BK191.out 2;have hfz11_3:=zA BK191.out 3;have hfz11_4:=zA BK191.out 4)|(go_at_call 30;(with_reducible refine (F0e.calls k  a0_2 a0_3 a0_4 t193 _ A8.out).mono ?_);rintro e w12 ⟨rfl,hb⟩;replace BK191:=zh (zD (g:=gb191) (o:=.cells #[.int .i64 a0_0,.string a0_1,.int .i64 a0_2,.int .i64 a0_3,.string a0_4] 51 (0,0)) (by (with_reducible repeat (first|refine ze ?_ _|refine zf ?_|refine zg ?_ _));exact BK191.out) hb);replace HB:=zh (zC (by repeat (with_reducible first|exact HB.out|apply za|apply zb|apply zc|refine zd ?_ GE191.out)) hb);(try clear hb);(try clear hb2);(try clear hk);(try clear hi)))
   go_meet
   case rel => exact ⟨_,(!t193),(by first|rfl|(simp;done)|(simp [*];done)),H',⟨by first|omega|exact ye _⟩,⟨by (with_reducible repeat (first|refine ze ?_ _|refine zf ?_|refine zg ?_ _));exact BK191.out⟩,⟨by repeat (with_reducible first|exact HB.out|apply za|apply zb|apply zc|refine zd ?_ GE191.out)⟩⟩
  replace c7:=yb.mpr c7;subst c7;have H1 : (F3.j0 k true a0_0 a0_1 a0_2 a0_3 a0_4)=some r:=by rw [if_neg (show ¬ (false=true) by decide)] at H;exact H
  clear H;have H:=H1;clear H1;have H':=zh H;clear H;have hcz13_0 : w3.cell? ⟨gb191,0,none⟩=some (.int .i64 a0_0):=(zz BK191.out 0).trans rfl;have hcz13_1 : w3.cell? ⟨gb191,1,none⟩=some (.string a0_1):=(zz BK191.out 1).trans rfl;have hcz13_2 : w3.cell? ⟨gb191,2,none⟩=some (.int .i64 a0_2):=(zz BK191.out 2).trans rfl;have hcz13_3 : w3.cell? ⟨gb191,3,none⟩=some (.int .i64 a0_3):=(zz BK191.out 3).trans rfl;have hcz13_4 : w3.cell? ⟨gb191,4,none⟩=some (.string a0_4):=(zz BK191.out 4).trans rfl;have hfz13_0:=zA BK191.out 0;have hfz13_1:=zA BK191.out 1;have hfz13_2:=zA BK191.out 2;have hfz13_3:=zA BK191.out 3;have hfz13_4:=zA BK191.out 4
  go_wp2_with (first|(go_at_call 29;(with_reducible refine (F9.calls k  a0_1 false _ A6.out).mono ?_);rintro e w14 ⟨rfl,hb⟩;replace BK191:=zh (zD (g:=gb191) (o:=.cells #[.int .i64 a0_0,.string a0_1,.int .i64 a0_2,.int .i64 a0_3,.string a0_4] 51 (0,0)) (by (with_reducible repeat (first|refine ze ?_ _|refine zf ?_|refine zg ?_ _));exact BK191.out) hb);replace HB:=zh (zC (by repeat (with_reducible first|exact HB.out|apply za|apply zb|apply zc|refine zd ?_ GE191.out)) hb);(try clear hb);(try clear hb2);(try clear hk);(try clear hi)))
  go_meet
  case rel => exact ⟨_,(true),(by first|rfl|(simp;done)|(simp [*];done)),H',⟨by first|omega|exact ye _⟩,⟨by (with_reducible repeat (first|refine ze ?_ _|refine zf ?_|refine zg ?_ _));exact BK191.out⟩,⟨by repeat (with_reducible first|exact HB.out|apply za|apply zb|apply zc|refine zd ?_ GE191.out)⟩⟩
 case rest =>
  clear HC2
  try clear c1
  try clear p2
  try clear c4
  try clear c4b0
  try clear c4b1
  try clear c7
  try clear hcz11_0
  try clear hcz11_1
  try clear hcz11_2
  try clear hcz11_3
  try clear hcz11_4
  try clear hcz13_0
  try clear hcz13_1
  try clear hcz13_2
  try clear hcz13_3
  try clear hcz13_4
  try clear hcz5_0
  try clear hcz5_1
  try clear hcz5_2
  try clear hcz5_3
  try clear hcz5_4
  try clear hcz9_0
  try clear hcz9_1
  try clear hcz9_2
  try clear hcz9_3
  try clear hcz9_4
  try clear hfz11_0
  try clear hfz11_1
  try clear hfz11_2
  try clear hfz11_3
  try clear hfz11_4
  try clear hfz13_0
  try clear hfz13_1
  try clear hfz13_2
  try clear hfz13_3
  try clear hfz13_4
  try clear hfz5_0
  try clear hfz5_1
  try clear hfz5_2
  try clear hfz5_3
  try clear hfz5_4
  try clear hfz9_0
  try clear hfz9_1
  try clear hfz9_2
  try clear hfz9_3
  try clear hfz9_4
  obtain ⟨kq,x18_1,rfl,HA,HJ1,BK191,HB⟩:=hcut
  cases kq with
  | zero => exact absurd HA.out (by simp [F3.j0])
  | succ kj1 =>
   have H:=HA.out;clear HA;simp only [F3.j0] at H
   by_cases c15 : x18_1=true
   ·
    subst c15
    have H1 : (some false)=some r:=by rw [if_pos rfl] at H;exact H
    clear H;have H:=H1;clear H1;obtain rfl:=zU H
    go_wp2
    go_ret
    exact ⟨by first|rfl|(simp [yt,yu] <;> rfl)|(simp [*,yt,yu] <;> rfl),by repeat (with_reducible first|exact HB.out|apply za|apply zb|apply zc|refine zd ?_ GE191.out)⟩
   replace c15:=yb.mpr c15;subst c15;have H1 : (if a0_0=1 then (F3.j1 kj1 a0_0 (a0_0 == 1) a0_0 a0_1 a0_2 a0_3 a0_4) else (if a0_0=2 then (F3.j1 kj1 a0_0 (a0_0 == 2) a0_0 a0_1 a0_2 a0_3 a0_4) else (if a0_0=3 then (F3.j1 kj1 a0_0 (a0_0 == 3) a0_0 a0_1 a0_2 a0_3 a0_4) else (if a0_0=4 then (F3.j1 kj1 a0_0 (a0_0 == 4) a0_0 a0_1 a0_2 a0_3 a0_4) else (if a0_0=5 then (F3.j1 kj1 a0_0 (a0_0 == 5) a0_0 a0_1 a0_2 a0_3 a0_4) else (F3.j1 kj1 a0_0 (a0_0 == 6) a0_0 a0_1 a0_2 a0_3 a0_4))))))=some r:=by rw [if_neg (show ¬ (false=true) by decide)] at H;exact H
   clear H;have H:=H1;clear H1;have HC16:=zh H;clear H;have hcz17_0 : wc.cell? ⟨gb191,0,none⟩=some (.int .i64 a0_0):=(zz BK191.out 0).trans rfl;have hcz17_1 : wc.cell? ⟨gb191,1,none⟩=some (.string a0_1):=(zz BK191.out 1).trans rfl;have hcz17_2 : wc.cell? ⟨gb191,2,none⟩=some (.int .i64 a0_2):=(zz BK191.out 2).trans rfl;have hcz17_3 : wc.cell? ⟨gb191,3,none⟩=some (.int .i64 a0_3):=(zz BK191.out 3).trans rfl;have hcz17_4 : wc.cell? ⟨gb191,4,none⟩=some (.string a0_4):=(zz BK191.out 4).trans rfl;have hfz17_0:=zA BK191.out 0;have hfz17_1:=zA BK191.out 1;have hfz17_2:=zA BK191.out 2;have hfz17_3:=zA BK191.out 3;have hfz17_4:=zA BK191.out 4
   go_upto_if 21 with (fail)
   go_cut [21] (fun v21 wc => ∃ (kq : Nat) (x21_15 : Bool),v21 = .bool x21_15∧Aside0 (F3.j1 kq a0_0 x21_15 a0_0 a0_1 a0_2 a0_3 a0_4=some r)∧Aside0 (kq≤kj1)∧Aside0 (wc.heap[gb191]? = some (.cells #[.int .i64 a0_0,.string a0_1,.int .i64 a0_2,.int .i64 a0_3,.string a0_4] 51 (0,0)))∧Aside0 (Below w.heap.size w wc))
   case first =>
    have H:=HC16.out;clear HC16
    by_cases c18 : a0_0=1
    ·
     rw [if_pos c18] at H
     have c18b0 : (a0_0 == 1)=true:=ya.mpr c18;have c18b1 : (a0_0 != 1)=false:=zX.mpr c18;clear c18;(first|rw [c18b0]|(simp only [zG,zH];rw [c18b0])|skip);have H':=zh H;clear H
     go_wp2
     go_meet
     case rel => exact ⟨_,((a0_0 == 1)),(by first|rfl|(simp;done)|(simp [*];done)),H',⟨by have:=HJ1.out;first|omega|exact ye _⟩,⟨by (with_reducible repeat (first|refine ze ?_ _|refine zf ?_|refine zg ?_ _));exact BK191.out⟩,⟨by repeat (with_reducible first|exact HB.out|apply za|apply zb|apply zc|refine zd ?_ GE191.out)⟩⟩
    rw [if_neg c18] at H;have c18b0 : (a0_0 == 1)=false:=zY.mpr c18;have c18b1 : (a0_0 != 1)=true:=zZ.mpr c18;(first|rw [c18b0]|(simp only [zG,zH];rw [c18b0])|skip)
    by_cases c19 : a0_0=2
    ·
     rw [if_pos c19] at H
     have c19b0 : (a0_0 == 2)=true:=ya.mpr c19;have c19b1 : (a0_0 != 2)=false:=zX.mpr c19;clear c19;have H':=zh H;clear H
     go_wp2
     go_meet
     case rel => exact ⟨_,((a0_0 == 2)),(by first|rfl|(simp;done)|(simp [*];done)),H',⟨by have:=HJ1.out;first|omega|exact ye _⟩,⟨by (with_reducible repeat (first|refine ze ?_ _|refine zf ?_|refine zg ?_ _));exact BK191.out⟩,⟨by repeat (with_reducible first|exact HB.out|apply za|apply zb|apply zc|refine zd ?_ GE191.out)⟩⟩
    rw [if_neg c19] at H;have c19b0 : (a0_0 == 2)=false:=zY.mpr c19;have c19b1 : (a0_0 != 2)=true:=zZ.mpr c19
    by_cases c20 : a0_0=3
    ·
     rw [if_pos c20] at H
     have c20b0 : (a0_0 == 3)=true:=ya.mpr c20;have c20b1 : (a0_0 != 3)=false:=zX.mpr c20;clear c20;have H':=zh H;clear H
     go_wp2
     go_meet
     case rel => exact ⟨_,((a0_0 == 3)),(by first|rfl|(simp;done)|(simp [*];done)),H',⟨by have:=HJ1.out;first|omega|exact ye _⟩,⟨by (with_reducible repeat (first|refine ze ?_ _|refine zf ?_|refine zg ?_ _));exact BK191.out⟩,⟨by repeat (with_reducible first|exact HB.out|apply za|apply zb|apply zc|refine zd ?_ GE191.out)⟩⟩
    rw [if_neg c20] at H;have c20b0 : (a0_0 == 3)=false:=zY.mpr c20;have c20b1 : (a0_0 != 3)=true:=zZ.mpr c20
    by_cases c21 : a0_0=4
    ·
     rw [if_pos c21] at H
     have c21b0 : (a0_0 == 4)=true:=ya.mpr c21;have c21b1 : (a0_0 != 4)=false:=zX.mpr c21;clear c21;have H':=zh H;clear H
     go_wp2
     go_meet
     case rel => exact ⟨_,((a0_0 == 4)),(by first|rfl|(simp;done)|(simp [*];done)),H',⟨by have:=HJ1.out;first|omega|exact ye _⟩,⟨by (with_reducible repeat (first|refine ze ?_ _|refine zf ?_|refine zg ?_ _));exact BK191.out⟩,⟨by repeat (with_reducible first|exact HB.out|apply za|apply zb|apply zc|refine zd ?_ GE191.out)⟩⟩
    rw [if_neg c21] at H;have c21b0 : (a0_0 == 4)=false:=zY.mpr c21;have c21b1 : (a0_0 != 4)=true:=zZ.mpr c21
    by_cases c22 : a0_0=5
    ·
     rw [if_pos c22] at H
     have c22b0 : (a0_0 == 5)=true:=ya.mpr c22;have c22b1 : (a0_0 != 5)=false:=zX.mpr c22;clear c22;have H':=zh H;clear H
     go_wp2
     go_meet
     case rel => exact ⟨_,((a0_0 == 5)),(by first|rfl|(simp;done)|(simp [*];done)),H',⟨by have:=HJ1.out;first|omega|exact ye _⟩,⟨by (with_reducible repeat (first|refine ze ?_ _|refine zf ?_|refine zg ?_ _));exact BK191.out⟩,⟨by repeat (with_reducible first|exact HB.out|apply za|apply zb|apply zc|refine zd ?_ GE191.out)⟩⟩
    rw [if_neg c22] at H;have c22b0 : (a0_0 == 5)=false:=zY.mpr c22;have c22b1 : (a0_0 != 5)=true:=zZ.mpr c22;have H':=zh H;clear H
    go_wp2
    go_meet
    case rel => exact ⟨_,((a0_0 == 6)),(by first|rfl|(simp;done)|(simp [*];done)),H',⟨by have:=HJ1.out;first|omega|exact ye _⟩,⟨by (with_reducible repeat (first|refine ze ?_ _|refine zf ?_|refine zg ?_ _));exact BK191.out⟩,⟨by repeat (with_reducible first|exact HB.out|apply za|apply zb|apply zc|refine zd ?_ GE191.out)⟩⟩
   case rest =>
    clear HC16
    try clear c1
    try clear c2
    try clear p2
    try clear c4
    try clear c4b0
    try clear c4b1
    try clear c7
    try clear c15
    try clear c17
    try clear c18
    try clear c18b0
    try clear c18b1
    try clear c19
    try clear c19b0
    try clear c19b1
    try clear c20
    try clear c20b0
    try clear c20b1
    try clear c21
    try clear c21b0
    try clear c21b1
    try clear c22
    try clear c22b0
    try clear c22b1
    try clear hcz11_0
    try clear hcz11_1
    try clear hcz11_2
    try clear hcz11_3
    try clear hcz11_4
    try clear hcz13_0
    try clear hcz13_1
    try clear hcz13_2
    try clear hcz13_3
    try clear hcz13_4
    try clear hcz17_0
    try clear hcz17_1
    try clear hcz17_2
    try clear hcz17_3
    try clear hcz17_4
    try clear hcz5_0
    try clear hcz5_1
    try clear hcz5_2
    try clear hcz5_3
    try clear hcz5_4
    try clear hcz9_0
    try clear hcz9_1
    try clear hcz9_2
    try clear hcz9_3
    try clear hcz9_4
    try clear hfz11_0
    try clear hfz11_1
    try clear hfz11_2
    try clear hfz11_3
    try clear hfz11_4
    try clear hfz13_0
    try clear hfz13_1
    try clear hfz13_2
    try clear hfz13_3
    try clear hfz13_4
    try clear hfz17_0
    try clear hfz17_1
    try clear hfz17_2
    try clear hfz17_3
    try clear hfz17_4
    try clear hfz5_0
    try clear hfz5_1
    try clear hfz5_2
    try clear hfz5_3
    try clear hfz5_4
    try clear hfz9_0
    try clear hfz9_1
    try clear hfz9_2
    try clear hfz9_3
    try clear hfz9_4
    try clear p2
    obtain ⟨kq,x21_15,rfl,HA,HJ15,BK191,HB⟩:=hcut
    cases kq with
    | zero => exact absurd HA.out (by simp [F3.j1])
    | succ kj15 =>
     have H:=HA.out;clear HA;simp only [F3.j1] at H
     by_cases c23 : x21_15=true
     ·
      subst c23
      have H1 : (some true)=some r:=by rw [if_pos rfl] at H;exact H
      clear H;have H:=H1;clear H1;obtain rfl:=zU H
      go_wp2
      go_ret
      exact ⟨by first|rfl|(simp [yt,yu] <;> rfl)|(simp [*,yt,yu] <;> rfl),by repeat (with_reducible first|exact HB.out|apply za|apply zb|apply zc|refine zd ?_ GE191.out)⟩
     replace c23:=yb.mpr c23;subst c23;have H1 : (if a0_0=7 then (some (a0_2 == 4)) else (if a0_0=8 then (some (a0_2 == 1)) else (if a0_0=9 then (if a0_2=2 then ((F09.f a0_3 0 5).bind fun t194 => (some t194)) else (some false)) else (if a0_0=10 then (if a0_2=2 then (some (decide (a0_3 ≥ 0))) else (some false)) else (some false)))))=some r:=by rw [if_neg (show ¬ (false=true) by decide)] at H;exact H
     clear H;have H:=H1;clear H1
     by_cases c24 : a0_0=7
     ·
      rw [if_pos c24] at H
      have c24b0 : (a0_0 == 7)=true:=ya.mpr c24;have c24b1 : (a0_0 != 7)=false:=zX.mpr c24;clear c24;obtain rfl:=zU H;have hcz25_0 : wc.cell? ⟨gb191,0,none⟩=some (.int .i64 a0_0):=(zz BK191.out 0).trans rfl;have hcz25_1 : wc.cell? ⟨gb191,1,none⟩=some (.string a0_1):=(zz BK191.out 1).trans rfl;have hcz25_2 : wc.cell? ⟨gb191,2,none⟩=some (.int .i64 a0_2):=(zz BK191.out 2).trans rfl;have hcz25_3 : wc.cell? ⟨gb191,3,none⟩=some (.int .i64 a0_3):=(zz BK191.out 3).trans rfl;have hcz25_4 : wc.cell? ⟨gb191,4,none⟩=some (.string a0_4):=(zz BK191.out 4).trans rfl;have hfz25_0:=zA BK191.out 0;have hfz25_1:=zA BK191.out 1;have hfz25_2:=zA BK191.out 2;have hfz25_3:=zA BK191.out 3;have hfz25_4:=zA BK191.out 4
      go_wp2
      go_ret
      exact ⟨by first|rfl|(simp [yt,yu] <;> rfl)|(simp [*,yt,yu] <;> rfl),by repeat (with_reducible first|exact HB.out|apply za|apply zb|apply zc|refine zd ?_ GE191.out)⟩
     rw [if_neg c24] at H;have c24b0 : (a0_0 == 7)=false:=zY.mpr c24;have c24b1 : (a0_0 != 7)=true:=zZ.mpr c24
     by_cases c26 : a0_0=8
     ·
      rw [if_pos c26] at H
      have c26b0 : (a0_0 == 8)=true:=ya.mpr c26;have c26b1 : (a0_0 != 8)=false:=zX.mpr c26;clear c26;obtain rfl:=zU H;have hcz27_0 : wc.cell? ⟨gb191,0,none⟩=some (.int .i64 a0_0):=(zz BK191.out 0).trans rfl;have hcz27_1 : wc.cell? ⟨gb191,1,none⟩=some (.string a0_1):=(zz BK191.out 1).trans rfl;have hcz27_2 : wc.cell? ⟨gb191,2,none⟩=some (.int .i64 a0_2):=(zz BK191.out 2).trans rfl;have hcz27_3 : wc.cell? ⟨gb191,3,none⟩=some (.int .i64 a0_3):=(zz BK191.out 3).trans rfl;have hcz27_4 : wc.cell? ⟨gb191,4,none⟩=some (.string a0_4):=(zz BK191.out 4).trans rfl;have hfz27_0:=zA BK191.out 0;have hfz27_1:=zA BK191.out 1;have hfz27_2:=zA BK191.out 2;have hfz27_3:=zA BK191.out 3;have hfz27_4:=zA BK191.out 4
      go_wp2
      go_ret
      exact ⟨by first|rfl|(simp [yt,yu] <;> rfl)|(simp [*,yt,yu] <;> rfl),by repeat (with_reducible first|exact HB.out|apply za|apply zb|apply zc|refine zd ?_ GE191.out)⟩
     rw [if_neg c26] at H;have c26b0 : (a0_0 == 8)=false:=zY.mpr c26;have c26b1 : (a0_0 != 8)=true:=zZ.mpr c26
     by_cases c28 : a0_0=9
     ·
      rw [if_pos c28] at H
      have c28b0 : (a0_0 == 9)=true:=ya.mpr c28;have c28b1 : (a0_0 != 9)=false:=zX.mpr c28;clear c28
      by_cases c29 : a0_2=2
      ·
       rw [if_pos c29] at H
       have c29b0 : (a0_2 == 2)=true:=ya.mpr c29;have c29b1 : (a0_2 != 2)=false:=zX.mpr c29;clear c29;replace H:=zT.mp H;obtain ⟨t194,A300,H⟩:=H;replace H : (some t194)=some r:=H;have A30:=zh A300;clear A300;obtain rfl:=zU H;have hcz31_0 : wc.cell? ⟨gb191,0,none⟩=some (.int .i64 a0_0):=(zz BK191.out 0).trans rfl;have hcz31_1 : wc.cell? ⟨gb191,1,none⟩=some (.string a0_1):=(zz BK191.out 1).trans rfl;have hcz31_2 : wc.cell? ⟨gb191,2,none⟩=some (.int .i64 a0_2):=(zz BK191.out 2).trans rfl;have hcz31_3 : wc.cell? ⟨gb191,3,none⟩=some (.int .i64 a0_3):=(zz BK191.out 3).trans rfl;have hcz31_4 : wc.cell? ⟨gb191,4,none⟩=some (.string a0_4):=(zz BK191.out 4).trans rfl;have hfz31_0:=zA BK191.out 0;have hfz31_1:=zA BK191.out 1;have hfz31_2:=zA BK191.out 2;have hfz31_3:=zA BK191.out 3;have hfz31_4:=zA BK191.out 4
       go_wp2_with (first|(go_at_call 16;(with_reducible refine (F09.calls  a0_3 0 5 t194 _ A30.out).mono ?_);rintro e w' ⟨rfl,⟨nd,rfl⟩⟩))
       go_ret
       exact ⟨by first|rfl|(simp [yt,yu] <;> rfl)|(simp [*,yt,yu] <;> rfl),by repeat (with_reducible first|exact HB.out|apply za|apply zb|apply zc|refine zd ?_ GE191.out)⟩
      rw [if_neg c29] at H;have c29b0 : (a0_2 == 2)=false:=zY.mpr c29;have c29b1 : (a0_2 != 2)=true:=zZ.mpr c29;obtain rfl:=zU H;have hcz32_0 : wc.cell? ⟨gb191,0,none⟩=some (.int .i64 a0_0):=(zz BK191.out 0).trans rfl;have hcz32_1 : wc.cell? ⟨gb191,1,none⟩=some (.string a0_1):=(zz BK191.out 1).trans rfl;have hcz32_2 : wc.cell? ⟨gb191,2,none⟩=some (.int .i64 a0_2):=(zz BK191.out 2).trans rfl;have hcz32_3 : wc.cell? ⟨gb191,3,none⟩=some (.int .i64 a0_3):=(zz BK191.out 3).trans rfl;have hcz32_4 : wc.cell? ⟨gb191,4,none⟩=some (.string a0_4):=(zz BK191.out 4).trans rfl;have hfz32_0:=zA BK191.out 0;have hfz32_1:=zA BK191.out 1;have hfz32_2:=zA BK191.out 2;have hfz32_3:=zA BK191.out 3;have hfz32_4:=zA BK191.out 4
      go_wp2
      go_ret
      exact ⟨by first|rfl|(simp [yt,yu] <;> rfl)|(simp [*,yt,yu] <;> rfl),by repeat (with_reducible first|exact HB.out|apply za|apply zb|apply zc|refine zd ?_ GE191.out)⟩
     rw [if_neg c28] at H;have c28b0 : (a0_0 == 9)=false:=zY.mpr c28;have c28b1 : (a0_0 != 9)=true:=zZ.mpr c28
     by_cases c33 : a0_0=10
     ·
      rw [if_pos c33] at H
      have c33b0 : (a0_0 == 10)=true:=ya.mpr c33;have c33b1 : (a0_0 != 10)=false:=zX.mpr c33;clear c33
      by_cases c34 : a0_2=2
      ·
       rw [if_pos c34] at H
       have c34b0 : (a0_2 == 2)=true:=ya.mpr c34;have c34b1 : (a0_2 != 2)=false:=zX.mpr c34;clear c34;obtain rfl:=zU H;have hcz35_0 : wc.cell? ⟨gb191,0,none⟩=some (.int .i64 a0_0):=(zz BK191.out 0).trans rfl;have hcz35_1 : wc.cell? ⟨gb191,1,none⟩=some (.string a0_1):=(zz BK191.out 1).trans rfl;have hcz35_2 : wc.cell? ⟨gb191,2,none⟩=some (.int .i64 a0_2):=(zz BK191.out 2).trans rfl;have hcz35_3 : wc.cell? ⟨gb191,3,none⟩=some (.int .i64 a0_3):=(zz BK191.out 3).trans rfl;have hcz35_4 : wc.cell? ⟨gb191,4,none⟩=some (.string a0_4):=(zz BK191.out 4).trans rfl;have hfz35_0:=zA BK191.out 0;have hfz35_1:=zA BK191.out 1;have hfz35_2:=zA BK191.out 2;have hfz35_3:=zA BK191.out 3;have hfz35_4:=zA BK191.out 4
       go_wp2
       go_ret
       exact ⟨by first|rfl|(simp [yt,yu] <;> rfl)|(simp [*,yt,yu] <;> rfl),by repeat (with_reducible first|exact HB.out|apply za|apply zb|apply zc|refine zd ?_ GE191.out)⟩
      rw [if_neg c34] at H;have c34b0 : (a0_2 == 2)=false:=zY.mpr c34;have c34b1 : (a0_2 != 2)=true:=zZ.mpr c34;obtain rfl:=zU H;have hcz36_0 : wc.cell? ⟨gb191,0,none⟩=some (.int .i64 a0_0):=(zz BK191.out 0).trans rfl;have hcz36_1 : wc.cell? ⟨gb191,1,none⟩=some (.string a0_1):=(zz BK191.out 1).trans rfl;have hcz36_2 : wc.cell? ⟨gb191,2,none⟩=some (.int .i64 a0_2):=(zz BK191.out 2).trans rfl;have hcz36_3 : wc.cell? ⟨gb191,3,none⟩=some (.int .i64 a0_3):=(zz BK191.out 3).trans rfl;have hcz36_4 : wc.cell? ⟨gb191,4,none⟩=some (.string a0_4):=(zz BK191.out 4).trans rfl;have hfz36_0:=zA BK191.out 0;have hfz36_1:=zA BK191.out 1;have hfz36_2:=zA BK191.out 2;have hfz36_3:=zA BK191.out 3;have hfz36_4:=zA BK191.out 4
      go_wp2
      go_ret
      exact ⟨by first|rfl|(simp [yt,yu] <;> rfl)|(simp [*,yt,yu] <;> rfl),by repeat (with_reducible first|exact HB.out|apply za|apply zb|apply zc|refine zd ?_ GE191.out)⟩
     rw [if_neg c33] at H;have c33b0 : (a0_0 == 10)=false:=zY.mpr c33;have c33b1 : (a0_0 != 10)=true:=zZ.mpr c33;obtain rfl:=zU H
     go_wp2
     go_ret
     exact ⟨by first|rfl|(simp [yt,yu] <;> rfl)|(simp [*,yt,yu] <;> rfl),by repeat (with_reducible first|exact HB.out|apply za|apply zb|apply zc|refine zd ?_ GE191.out)⟩

end Go.Proofs.YthjgfjlogilleaaGreatDoor.Q
end
section
namespace Go.Proofs.YthjgfjlogilleaaGreatDoor.Q
open Go.RowKit Go.Proofs.YthjgfjlogilleaaGreatDoorW.PrintWords Go.Proofs.YthjgfjlogilleaaGreatDoorW.PrintLast Go.Proofs.YthjgfjlogilleaaGreatDoorW.PrintMore
attribute [local go_sem] max2_int min2_int max_two min_two max_three min_three max_four min_four max2_str min2_str str_geq str_gtr str_leq   -- for this text's walks alone
set_option linter.unusedVariables false
set_option linter.unusedSimpArgs false

mutual
def Fc.l0 : Nat→Int→List (S46)→Option (Bool)
 | 0,_,_ => none
 | k + 1,x3,x196000 => if x3<(x196000.length : Int) then (if 0≤x3 then (if (((rd_T46 x196000 x3).f0).length : Int) > 4 then (some false) else (Fc.l1 k x3 0 x196000)) else (none)) else (some true)
def Fc.l1 : Nat→Int→Int→List (S46)→Option (Bool)
 | 0,_,_,_ => none
 | k + 1,x3,x4,x196000 => if 0≤x3 then (if x3<(x196000.length : Int) then (if x4<(((rd_T46 x196000 x3).f0).length : Int) then (if 0≤x4 then ((F3.f k ((rd_T51 ((rd_T46 x196000 x3).f0) x4).f0) ((rd_T51 ((rd_T46 x196000 x3).f0) x4).f1) ((rd_T51 ((rd_T46 x196000 x3).f0) x4).f2.f0) ((rd_T51 ((rd_T46 x196000 x3).f0) x4).f2.f1) ((rd_T51 ((rd_T46 x196000 x3).f0) x4).f2.f2)).bind fun t201 => (if t201=true then (Fc.l1 k x3 (wrap64 (x4 + 1)) x196000) else (some false))) else (none)) else (Fc.l0 k (wrap64 (x3 + 1)) x196000)) else (none)) else (none)
end
def Fc.f (k : Nat) (l0_0 : List (S46)) : Option (Bool):=(F09.f (l0_0.length : Int) 1 3).bind fun t196 => (if t196=true then (Fc.l0 k 0 l0_0) else (some false))
theorem Fc.mono_l : ∀ k,(∀ y0 y1,LeO (Fc.l0 k y0 y1) (Fc.l0 (k + 1) y0 y1))∧(∀ y0 y1 y2,LeO (Fc.l1 k y0 y1 y2) (Fc.l1 (k + 1) y0 y1 y2))
 | 0 => ⟨fun _ _ r h => by simp [Fc.l0] at h,fun _ _ _ r h => by simp [Fc.l1] at h⟩
 | k + 1 => by
  obtain ⟨ih0,ih1⟩:=Fc.mono_l k;refine ⟨?_,?_⟩
  ·
   intro y0 y1
   unfold Fc.l0
   repeat' first|(with_reducible first|exact ih0 _ _|exact ih1 _ _ _|exact F3.mono _ _ _ _ _ _|exact zQ _|exact zN _|refine zP ?_ ?_|refine zO ?_ (fun _ => ?_))|refine zP ?_ ?_|refine zO ?_ (fun _ => ?_)
  intro y0 y1 y2;unfold Fc.l1
  repeat' first|(with_reducible first|exact ih0 _ _|exact ih1 _ _ _|exact F3.mono _ _ _ _ _ _|exact zQ _|exact zN _|refine zP ?_ ?_|refine zO ?_ (fun _ => ?_))|refine zP ?_ ?_|refine zO ?_ (fun _ => ?_)
theorem Fc.mono : ∀ a0 k,LeO (Fc.f k a0) (Fc.f (k + 1) a0):=by
 intro a0 k;obtain ⟨ih0,ih1⟩:=Fc.mono_l k;unfold Fc.f
 repeat' first|(with_reducible first|exact ih0 _ _|exact ih1 _ _ _|exact F3.mono _ _ _ _ _ _|exact zQ _|exact zN _|refine zP ?_ ?_|refine zO ?_ (fun _ => ?_))|refine zP ?_ ?_|refine zO ?_ (fun _ => ?_)
set_option maxHeartbeats 8000000 in
set_option maxRecDepth 100000 in
theorem Fc.calls (k : Nat) (A0_0 : Option Addr) (c0_0 : Nat) (l0_0 : List (S46)) (r : Bool) (w : World) (hr0_0 : Kd.C k46 w A0_0 l0_0.length l0_0) (hc0_0 : l0_0.length≤c0_0) (h : Fc.f k l0_0=some r) :
  Calls Tryz.prog 6 #[.agg #[.slice A0_0 l0_0.length c0_0]] w fun e w' => e = .returned (.bool r)∧Below w.heap.size w w':=by
 have hu29:=Tryz.underlying29;have hu51:=Tryz.underlying51;have HR0_0:=zh hr0_0;have HC0_0:=zh hc0_0;clear hr0_0 hc0_0;have HB:=zh (Below.refl w.heap.size w);have H : ((F09.f (l0_0.length : Int) 1 3).bind fun t196 => (if t196=true then (Fc.l0 k 0 l0_0) else (some false)))=some r:=h;clear h;replace H:=zT.mp H;obtain ⟨t196,A20,H⟩:=H;replace H : (if t196=true then (Fc.l0 k 0 l0_0) else (some false))=some r:=H;have A2:=zh A20;clear A20
 by_cases c3 : t196=true
 ·
  subst c3
  have H1 : (Fc.l0 k 0 l0_0)=some r:=by rw [if_pos rfl] at H;exact H
  clear H;have H:=H1;clear H1;have H':=zh H;clear H
  go_enter Tryz.func6,Tryz.ntmps6
  go_wp2_with (first|((with_reducible refine zK (N:=1) rfl ?_);refine zI ?hg (N:=1) ?hd (cs:=#[.slice A0_0 l0_0.length c0_0]) (t:=29) ?hr ?_;(case hd => rfl);(case hg => rfl);(case hr => first|(go_simp;done)|(go_simp;rfl));intro gb195 hg w4 hbox hb;have BK195:=zh (hbox);have GW195:=zh ((by rw [hg];exact (zB (by repeat (with_reducible first|exact HB.out|apply za|apply zb|apply zc))) : w.heap.size≤gb195));have GE195:=zh ((by rw [hg];exact (zB (by repeat (with_reducible first|exact HB.out|apply za|apply zb|apply zc))) : w.heap.size≤gb195));replace HB:=zh (zC (by repeat (with_reducible first|exact HB.out|apply za|apply zb|apply zc)) hb);clear hb hbox hg;have hcz5_0 : w4.cell? ⟨gb195,0,none⟩=some (.slice A0_0 l0_0.length c0_0):=(zz BK195.out 0).trans rfl;have hfz5_0:=zA BK195.out 0)|((with_reducible refine zJ (f:=16) rfl ?_);refine yj (some 8) rfl rfl Tryz.func16 (by kernel_rfl) rfl #[.int .i64 (l0_0.length : Int),.int .i64 1,.int .i64 3] rfl (by (try simp only [zt,zu,zv]);first|done|rfl|(simp only [zw,zx];rfl)|(simp only [yr,ys,zV,zW];rfl)) ?_;(with_reducible refine (F09.calls  (l0_0.length : Int) 1 3 true _ A2.out).mono ?_);rintro e w' ⟨rfl,⟨nd,rfl⟩⟩;refine ⟨_,rfl,?_⟩))
  go_loopg [3] k (fun kq v3 w' => ∃ (x3_1 : Int),v3 = .int .i64 x3_1∧Aside0 (Fc.l0 kq x3_1 l0_0=some r)∧Aside0 (kq≤k)∧Aside0 (w'.heap[gb195]? = some (.cells #[(.slice A0_0 l0_0.length c0_0)] 29 (0,0)))∧Aside0 (Below w.heap.size w w'))
  case atStart => exact ⟨(0),(by first|rfl|(simp;done)|(simp [*];done)),H',⟨ye _⟩,⟨by (with_reducible repeat (first|refine ze ?_ _|refine zf ?_|refine zg ?_ _));exact BK195.out⟩,⟨by repeat (with_reducible first|exact HB.out|apply za|apply zb|apply zc|refine zd ?_ GE195.out)⟩⟩
  case round =>
   clear H'
   try clear c1
   try clear p2
   try clear c3
   try clear hcz5_0
   try clear hfz5_0
   obtain ⟨x3_1,rfl,HA,HK1,BK195,HB⟩:=hrel
   cases gk with
   | zero => exact absurd HA.out (by simp [Fc.l0])
   | succ k1 =>
    have H:=HA.out;clear HA;simp only [Fc.l0] at H
    by_cases c6 : x3_1<(l0_0.length : Int)
    ·
     rw [if_pos c6] at H
     have c6b0 : decide (x3_1<(l0_0.length : Int))=true:=decide_eq_true c6;clear c6
     by_cases c7 : 0≤x3_1
     ·
      rw [if_pos c7] at H
      have c7b0 : decide (0≤x3_1)=true:=decide_eq_true c7;clear c7
      by_cases c8 : (((rd_T46 l0_0 x3_1).f0).length : Int) > 4
      ·
       rw [if_pos c8] at H
       have c8b0 : decide (4<(((rd_T46 l0_0 x3_1).f0).length : Int))=true:=decide_eq_true c8;have c8b1 : decide (4<((rd_T46 l0_0 x3_1).f0).length)=true:=decide_eq_true (by omega);clear c8;obtain rfl:=zU H;have hcz9_0 : wr.cell? ⟨gb195,0,none⟩=some (.slice A0_0 l0_0.length c0_0):=(zz BK195.out 0).trans rfl;have hfz9_0:=zA BK195.out 0;have p197 : 0≤(x3_1 : Int):=zy (by first|(with_reducible assumption)|assumption);have q197 : x3_1<(l0_0.length : Int):=zy (by first|(with_reducible assumption)|assumption);obtain ⟨ad197,A197_0,c197_0,e197,hx197_0,hl197_0,hi197_0⟩:=at_T46 HR0_0.out x3_1 p197 q197
       cases e197
       replace hx197_0:=(HB.out.cell (zl w _ hx197_0)).trans hx197_0;have HR197_0:=zh hi197_0;have HC197_0:=zh hl197_0;clear hi197_0 hl197_0;replace p197:=eq_true p197;replace q197:=eq_true q197
       go_wp2
       go_ret
       exact ⟨by first|rfl|(simp [yt,yu] <;> rfl)|(simp [*,yt,yu] <;> rfl),by repeat (with_reducible first|exact HB.out|apply za|apply zb|apply zc|refine zd ?_ GE195.out)⟩
      rw [if_neg c8] at H;have c8b0 : decide (4<(((rd_T46 l0_0 x3_1).f0).length : Int))=false:=decide_eq_false c8;have c8b1 : decide (4<((rd_T46 l0_0 x3_1).f0).length)=false:=decide_eq_false (by omega);clear c8;have H':=zh H;clear H;have hcz10_0 : wr.cell? ⟨gb195,0,none⟩=some (.slice A0_0 l0_0.length c0_0):=(zz BK195.out 0).trans rfl;have hfz10_0:=zA BK195.out 0;have p197 : 0≤(x3_1 : Int):=zy (by first|(with_reducible assumption)|assumption);have q197 : x3_1<(l0_0.length : Int):=zy (by first|(with_reducible assumption)|assumption);obtain ⟨ad197,A197_0,c197_0,e197,hx197_0,hl197_0,hi197_0⟩:=at_T46 HR0_0.out x3_1 p197 q197
      cases e197
      replace hx197_0:=(HB.out.cell (zl w _ hx197_0)).trans hx197_0;have HR197_0:=zh hi197_0;have HC197_0:=zh hl197_0;clear hi197_0 hl197_0;replace p197:=eq_true p197;replace q197:=eq_true q197
      go_wp2
      go_loopg [4] k1 (fun kq v4 w' => ∃ (x4_2 : Int),v4 = .int .i64 x4_2∧Aside0 (Fc.l1 kq x3_1 x4_2 l0_0=some r)∧Aside0 (kq≤k1)∧Aside0 (w'.heap[gb195]? = some (.cells #[(.slice (some ad197) l0_0.length c0_0)] 29 (0,0)))∧Aside0 (Below w.heap.size w w'))
      case atStart => exact ⟨(0),(by first|rfl|(simp;done)|(simp [*];done)),H',⟨ye _⟩,⟨by (with_reducible repeat (first|refine ze ?_ _|refine zf ?_|refine zg ?_ _));exact BK195.out⟩,⟨by repeat (with_reducible first|exact HB.out|apply za|apply zb|apply zc|refine zd ?_ GE195.out)⟩⟩
      case round =>
       clear H'
       try clear c1
       try clear p1
       try clear q1
       try clear hx1
       try clear p2
       try clear c3
       try clear c6
       try clear c6b0
       try clear c7
       try clear c7b0
       try clear c8
       try clear c8b0
       try clear c8b1
       try clear hcz10_0
       try clear hcz5_0
       try clear hcz9_0
       try clear hfz10_0
       try clear hfz5_0
       try clear hfz9_0
       try clear hx197_0
       try clear p197
       try clear p2
       try clear q197
       obtain ⟨x4_2,rfl,HA,HK2,BK195,HB⟩:=hrel
       cases gk with
       | zero => exact absurd HA.out (by simp [Fc.l1])
       | succ k2 =>
        have H:=HA.out;clear HA;simp only [Fc.l1] at H
        by_cases c11 : 0≤x3_1
        ·
         rw [if_pos c11] at H
         have c11b0 : decide (0≤x3_1)=true:=decide_eq_true c11;clear c11
         by_cases c12 : x3_1<(l0_0.length : Int)
         ·
          rw [if_pos c12] at H
          have c12b0 : decide (x3_1<(l0_0.length : Int))=true:=decide_eq_true c12;clear c12
          by_cases c13 : x4_2<(((rd_T46 l0_0 x3_1).f0).length : Int)
          ·
           rw [if_pos c13] at H
           have c13b0 : decide (x4_2<(((rd_T46 l0_0 x3_1).f0).length : Int))=true:=decide_eq_true c13;clear c13
           by_cases c14 : 0≤x4_2
           ·
            rw [if_pos c14] at H
            have c14b0 : decide (0≤x4_2)=true:=decide_eq_true c14;clear c14;replace H:=zT.mp H;obtain ⟨t201,A150,H⟩:=H;replace H : (if t201=true then (Fc.l1 k2 x3_1 (wrap64 (x4_2 + 1)) l0_0) else (some false))=some r:=H;have A15:=zh A150;clear A150
            by_cases c16 : t201=true
            ·
             subst c16
             have H1 : (Fc.l1 k2 x3_1 (wrap64 (x4_2 + 1)) l0_0)=some r:=by rw [if_pos rfl] at H;exact H
             clear H;have H:=H1;clear H1;have H':=zh H;clear H;have hcz17_0 : wr.cell? ⟨gb195,0,none⟩=some (.slice (some ad197) l0_0.length c0_0):=(zz BK195.out 0).trans rfl;have hfz17_0:=zA BK195.out 0;have p198 : 0≤(x3_1 : Int):=zy (by first|(with_reducible assumption)|assumption);have q198 : x3_1<(l0_0.length : Int):=zy (by first|(with_reducible assumption)|assumption);obtain ⟨ad198,A198_0,c198_0,e198,hx198_0,hl198_0,hi198_0⟩:=at_T46 HR0_0.out x3_1 p198 q198;obtain rfl : ad197=ad198:=(by injection e198);replace hx198_0:=(HB.out.cell (zl w _ hx198_0)).trans hx198_0;have HR198_0:=zh hi198_0;have HC198_0:=zh hl198_0;clear hi198_0 hl198_0;replace p198:=eq_true p198;replace q198:=eq_true q198;have p199 : 0≤(x3_1 : Int):=zy (by first|(with_reducible assumption)|assumption);have q199 : x3_1<(l0_0.length : Int):=zy (by first|(with_reducible assumption)|assumption);obtain ⟨ad199,A199_0,c199_0,e199,hx199_0,hl199_0,hi199_0⟩:=at_T46 HR0_0.out x3_1 p199 q199;obtain rfl : ad197=ad199:=(by injection e199);replace hx199_0:=(HB.out.cell (zl w _ hx199_0)).trans hx199_0;have HR199_0:=zh hi199_0;have HC199_0:=zh hl199_0;clear hi199_0 hl199_0;replace p199:=eq_true p199;replace q199:=eq_true q199;have ea_:=zU (hx198_0.symm.trans hx199_0);injection ea_ with ea_ en_ ec_;subst ea_;subst ec_;clear en_;have p200 : 0≤(x4_2 : Int):=zy (by first|(with_reducible assumption)|assumption);have q200 : x4_2<(((rd_T46 l0_0 x3_1).f0).length : Int):=zy (by first|(with_reducible assumption)|assumption);obtain ⟨ad200,e200,hx200_0,hx200_1,hx200_2,hx200_3,hx200_4⟩:=at_T51 HR199_0.out x4_2 p200 q200
             cases e200
             replace hx200_0:=(HB.out.cell (zl w _ hx200_0)).trans hx200_0;replace hx200_1:=(HB.out.cell (zl w _ hx200_1)).trans hx200_1;replace hx200_2:=(HB.out.cell (zl w _ hx200_2)).trans hx200_2;replace hx200_3:=(HB.out.cell (zl w _ hx200_3)).trans hx200_3;replace hx200_4:=(HB.out.cell (zl w _ hx200_4)).trans hx200_4;replace p200:=eq_true p200;replace q200:=eq_true q200
             go_wp2_with (first|((with_reducible refine zJ (f:=17) rfl ?_);refine yj (some 45) rfl rfl Tryz.func17 (by kernel_rfl) rfl #[.agg #[.int .i64 ((rd_T51 ((rd_T46 l0_0 x3_1).f0) x4_2).f0),.string ((rd_T51 ((rd_T46 l0_0 x3_1).f0) x4_2).f1),.int .i64 ((rd_T51 ((rd_T46 l0_0 x3_1).f0) x4_2).f2.f0),.int .i64 ((rd_T51 ((rd_T46 l0_0 x3_1).f0) x4_2).f2.f1),.string ((rd_T51 ((rd_T46 l0_0 x3_1).f0) x4_2).f2.f2)]] rfl (by (try simp only [zt,zu,zv]);first|done|rfl|(simp only [zw,zx];rfl)|(simp only [yr,ys,zV,zW];rfl)) ?_;(with_reducible refine (F3.calls k2  ((rd_T51 ((rd_T46 l0_0 x3_1).f0) x4_2).f0) ((rd_T51 ((rd_T46 l0_0 x3_1).f0) x4_2).f1) ((rd_T51 ((rd_T46 l0_0 x3_1).f0) x4_2).f2.f0) ((rd_T51 ((rd_T46 l0_0 x3_1).f0) x4_2).f2.f1) ((rd_T51 ((rd_T46 l0_0 x3_1).f0) x4_2).f2.f2) true _ A15.out).mono ?_);rintro e w18 ⟨rfl,hb⟩;refine ⟨_,rfl,?_⟩;replace BK195:=zh (zD (g:=gb195) (o:=.cells #[.slice (some ad197) l0_0.length c0_0] 29 (0,0)) (by (with_reducible repeat (first|refine ze ?_ _|refine zf ?_|refine zg ?_ _));exact BK195.out) hb);replace HB:=zh (zC (by repeat (with_reducible first|exact HB.out|apply za|apply zb|apply zc|refine zd ?_ GE195.out)) hb);(try clear hb);(try clear hb2);(try clear hk);(try clear hi)))
             go_roundg k2
             case measure => have:=HK1.out;have:=HK2.out;omega
             case rel => exact ⟨(wrap64 (x4_2 + 1)),(by first|rfl|(simp;done)|(simp [*];done)),H',⟨by have:=HK1.out;have:=HK2.out;omega⟩,⟨by (with_reducible repeat (first|refine ze ?_ _|refine zf ?_|refine zg ?_ _));exact BK195.out⟩,⟨by repeat (with_reducible first|exact HB.out|apply za|apply zb|apply zc|refine zd ?_ GE195.out)⟩⟩
            replace c16:=yb.mpr c16;subst c16;have H1 : (some false)=some r:=by rw [if_neg (show ¬ (false=true) by decide)] at H;exact H
            clear H;have H:=H1;clear H1;obtain rfl:=zU H;have hcz19_0 : wr.cell? ⟨gb195,0,none⟩=some (.slice (some ad197) l0_0.length c0_0):=(zz BK195.out 0).trans rfl;have hfz19_0:=zA BK195.out 0;have p198 : 0≤(x3_1 : Int):=zy (by first|(with_reducible assumption)|assumption);have q198 : x3_1<(l0_0.length : Int):=zy (by first|(with_reducible assumption)|assumption);obtain ⟨ad198,A198_0,c198_0,e198,hx198_0,hl198_0,hi198_0⟩:=at_T46 HR0_0.out x3_1 p198 q198;obtain rfl : ad197=ad198:=(by injection e198);replace hx198_0:=(HB.out.cell (zl w _ hx198_0)).trans hx198_0;have HR198_0:=zh hi198_0;have HC198_0:=zh hl198_0;clear hi198_0 hl198_0;replace p198:=eq_true p198;replace q198:=eq_true q198;have p199 : 0≤(x3_1 : Int):=zy (by first|(with_reducible assumption)|assumption);have q199 : x3_1<(l0_0.length : Int):=zy (by first|(with_reducible assumption)|assumption);obtain ⟨ad199,A199_0,c199_0,e199,hx199_0,hl199_0,hi199_0⟩:=at_T46 HR0_0.out x3_1 p199 q199;obtain rfl : ad197=ad199:=(by injection e199);replace hx199_0:=(HB.out.cell (zl w _ hx199_0)).trans hx199_0;have HR199_0:=zh hi199_0;have HC199_0:=zh hl199_0;clear hi199_0 hl199_0;replace p199:=eq_true p199;replace q199:=eq_true q199;have ea_:=zU (hx198_0.symm.trans hx199_0);injection ea_ with ea_ en_ ec_;subst ea_;subst ec_;clear en_;have p200 : 0≤(x4_2 : Int):=zy (by first|(with_reducible assumption)|assumption);have q200 : x4_2<(((rd_T46 l0_0 x3_1).f0).length : Int):=zy (by first|(with_reducible assumption)|assumption);obtain ⟨ad200,e200,hx200_0,hx200_1,hx200_2,hx200_3,hx200_4⟩:=at_T51 HR199_0.out x4_2 p200 q200
            cases e200
            replace hx200_0:=(HB.out.cell (zl w _ hx200_0)).trans hx200_0;replace hx200_1:=(HB.out.cell (zl w _ hx200_1)).trans hx200_1;replace hx200_2:=(HB.out.cell (zl w _ hx200_2)).trans hx200_2;replace hx200_3:=(HB.out.cell (zl w _ hx200_3)).trans hx200_3;replace hx200_4:=(HB.out.cell (zl w _ hx200_4)).trans hx200_4;replace p200:=eq_true p200;replace q200:=eq_true q200
            go_wp2_with (first|((with_reducible refine zJ (f:=17) rfl ?_);refine yj (some 45) rfl rfl Tryz.func17 (by kernel_rfl) rfl #[.agg #[.int .i64 ((rd_T51 ((rd_T46 l0_0 x3_1).f0) x4_2).f0),.string ((rd_T51 ((rd_T46 l0_0 x3_1).f0) x4_2).f1),.int .i64 ((rd_T51 ((rd_T46 l0_0 x3_1).f0) x4_2).f2.f0),.int .i64 ((rd_T51 ((rd_T46 l0_0 x3_1).f0) x4_2).f2.f1),.string ((rd_T51 ((rd_T46 l0_0 x3_1).f0) x4_2).f2.f2)]] rfl (by (try simp only [zt,zu,zv]);first|done|rfl|(simp only [zw,zx];rfl)|(simp only [yr,ys,zV,zW];rfl)) ?_;(with_reducible refine (F3.calls k2  ((rd_T51 ((rd_T46 l0_0 x3_1).f0) x4_2).f0) ((rd_T51 ((rd_T46 l0_0 x3_1).f0) x4_2).f1) ((rd_T51 ((rd_T46 l0_0 x3_1).f0) x4_2).f2.f0) ((rd_T51 ((rd_T46 l0_0 x3_1).f0) x4_2).f2.f1) ((rd_T51 ((rd_T46 l0_0 x3_1).f0) x4_2).f2.f2) false _ A15.out).mono ?_);rintro e w20 ⟨rfl,hb⟩;refine ⟨_,rfl,?_⟩;replace BK195:=zh (zD (g:=gb195) (o:=.cells #[.slice (some ad197) l0_0.length c0_0] 29 (0,0)) (by (with_reducible repeat (first|refine ze ?_ _|refine zf ?_|refine zg ?_ _));exact BK195.out) hb);replace HB:=zh (zC (by repeat (with_reducible first|exact HB.out|apply za|apply zb|apply zc|refine zd ?_ GE195.out)) hb);(try clear hb);(try clear hb2);(try clear hk);(try clear hi)))
            go_ret
            exact ⟨by first|rfl|(simp [yt,yu] <;> rfl)|(simp [*,yt,yu] <;> rfl),by repeat (with_reducible first|exact HB.out|apply za|apply zb|apply zc|refine zd ?_ GE195.out)⟩
           rw [if_neg c14] at H;exact absurd H (by simp)
          rw [if_neg c13] at H;have c13b0 : decide (x4_2<(((rd_T46 l0_0 x3_1).f0).length : Int))=false:=decide_eq_false c13;clear c13;have H':=zh H;clear H;have hcz21_0 : wr.cell? ⟨gb195,0,none⟩=some (.slice (some ad197) l0_0.length c0_0):=(zz BK195.out 0).trans rfl;have hfz21_0:=zA BK195.out 0;have p198 : 0≤(x3_1 : Int):=zy (by first|(with_reducible assumption)|assumption);have q198 : x3_1<(l0_0.length : Int):=zy (by first|(with_reducible assumption)|assumption);obtain ⟨ad198,A198_0,c198_0,e198,hx198_0,hl198_0,hi198_0⟩:=at_T46 HR0_0.out x3_1 p198 q198;obtain rfl : ad197=ad198:=(by injection e198);replace hx198_0:=(HB.out.cell (zl w _ hx198_0)).trans hx198_0;have HR198_0:=zh hi198_0;have HC198_0:=zh hl198_0;clear hi198_0 hl198_0;replace p198:=eq_true p198;replace q198:=eq_true q198
          go_wp2
          go_roundg k2
          case measure => have:=HK1.out;have:=HK2.out;omega
          case rel => exact ⟨(wrap64 (x3_1 + 1)),(by first|rfl|(simp;done)|(simp [*];done)),H',⟨by have:=HK1.out;have:=HK2.out;omega⟩,⟨by (with_reducible repeat (first|refine ze ?_ _|refine zf ?_|refine zg ?_ _));exact BK195.out⟩,⟨by repeat (with_reducible first|exact HB.out|apply za|apply zb|apply zc|refine zd ?_ GE195.out)⟩⟩
         rw [if_neg c12] at H;exact absurd H (by simp)
        rw [if_neg c11] at H;exact absurd H (by simp)
     rw [if_neg c7] at H;exact absurd H (by simp)
    rw [if_neg c6] at H;have c6b0 : decide (x3_1<(l0_0.length : Int))=false:=decide_eq_false c6;clear c6;obtain rfl:=zU H;have hcz22_0 : wr.cell? ⟨gb195,0,none⟩=some (.slice A0_0 l0_0.length c0_0):=(zz BK195.out 0).trans rfl;have hfz22_0:=zA BK195.out 0
    go_wp2
    go_ret
    exact ⟨by first|rfl|(simp [yt,yu] <;> rfl)|(simp [*,yt,yu] <;> rfl),by repeat (with_reducible first|exact HB.out|apply za|apply zb|apply zc|refine zd ?_ GE195.out)⟩
 replace c3:=yb.mpr c3;subst c3;have H1 : (some false)=some r:=by rw [if_neg (show ¬ (false=true) by decide)] at H;exact H
 clear H;have H:=H1;clear H1;obtain rfl:=zU H
 go_enter Tryz.func6,Tryz.ntmps6
 go_wp2_with (first|((with_reducible refine zK (N:=1) rfl ?_);refine zI ?hg (N:=1) ?hd (cs:=#[.slice A0_0 l0_0.length c0_0]) (t:=29) ?hr ?_;(case hd => rfl);(case hg => rfl);(case hr => first|(go_simp;done)|(go_simp;rfl));intro gb195 hg w23 hbox hb;have BK195:=zh (hbox);have GW195:=zh ((by rw [hg];exact (zB (by repeat (with_reducible first|exact HB.out|apply za|apply zb|apply zc))) : w.heap.size≤gb195));have GE195:=zh ((by rw [hg];exact (zB (by repeat (with_reducible first|exact HB.out|apply za|apply zb|apply zc))) : w.heap.size≤gb195));replace HB:=zh (zC (by repeat (with_reducible first|exact HB.out|apply za|apply zb|apply zc)) hb);clear hb hbox hg;have hcz24_0 : w23.cell? ⟨gb195,0,none⟩=some (.slice A0_0 l0_0.length c0_0):=(zz BK195.out 0).trans rfl;have hfz24_0:=zA BK195.out 0)|((with_reducible refine zJ (f:=16) rfl ?_);refine yj (some 8) rfl rfl Tryz.func16 (by kernel_rfl) rfl #[.int .i64 (l0_0.length : Int),.int .i64 1,.int .i64 3] rfl (by (try simp only [zt,zu,zv]);first|done|rfl|(simp only [zw,zx];rfl)|(simp only [yr,ys,zV,zW];rfl)) ?_;(with_reducible refine (F09.calls  (l0_0.length : Int) 1 3 false _ A2.out).mono ?_);rintro e w' ⟨rfl,⟨nd,rfl⟩⟩;refine ⟨_,rfl,?_⟩))
 go_ret
 exact ⟨by first|rfl|(simp [yt,yu] <;> rfl)|(simp [*,yt,yu] <;> rfl),by repeat (with_reducible first|exact HB.out|apply za|apply zb|apply zc|refine zd ?_ GE195.out)⟩

end Go.Proofs.YthjgfjlogilleaaGreatDoor.Q
end
section
namespace Go.Proofs.YthjgfjlogilleaaGreatDoor.Q
open Go.RowKit Go.Proofs.YthjgfjlogilleaaGreatDoorW.PrintWords Go.Proofs.YthjgfjlogilleaaGreatDoorW.PrintLast Go.Proofs.YthjgfjlogilleaaGreatDoorW.PrintMore
attribute [local go_sem] max2_int min2_int max_two min_two max_three min_three max_four min_four max2_str min2_str str_geq str_gtr str_leq
set_option linter.unusedVariables false
set_option linter.unusedSimpArgs false

def F0d.f (k : Nat) (a0_0 : ByteArray) (l0_1 : List (S46)) : Option (Bool):=(F00.f k a0_0).bind fun t412 => (if t412=true then ((Fc.f k l0_1).bind fun t413 => (some t413)) else (some false))
theorem F0d.mono : ∀ a0 a1 k,LeO (F0d.f k a0 a1) (F0d.f (k + 1) a0 a1):=by
 intro a0 a1 k;unfold F0d.f
 repeat' first|(with_reducible first|exact Fc.mono _ _|exact F00.mono _ _|exact zQ _|exact zN _|refine zP ?_ ?_|refine zO ?_ (fun _ => ?_))|refine zP ?_ ?_|refine zO ?_ (fun _ => ?_)
set_option maxHeartbeats 8000000 in
set_option maxRecDepth 100000 in
theorem F0d.calls (k : Nat) (a0_0 : ByteArray) (A0_1 : Option Addr) (c0_1 : Nat) (l0_1 : List (S46)) (r : Bool) (w : World) (hr0_1 : Kd.C k46 w A0_1 l0_1.length l0_1) (hc0_1 : l0_1.length≤c0_1) (h : F0d.f k a0_0 l0_1=some r) :
  Calls Tryz.prog 11 #[.agg #[.string a0_0,.slice A0_1 l0_1.length c0_1]] w fun e w' => e = .returned (.bool r)∧Below w.heap.size w w':=by
 have hu38:=Tryz.underlying38;have hu29:=Tryz.underlying29;have HR0_1:=zh hr0_1;have HC0_1:=zh hc0_1;clear hr0_1 hc0_1;have HB:=zh (Below.refl w.heap.size w);have H : ((F00.f k a0_0).bind fun t412 => (if t412=true then ((Fc.f k l0_1).bind fun t413 => (some t413)) else (some false)))=some r:=h;clear h;replace H:=zT.mp H;obtain ⟨t412,A20,H⟩:=H;replace H : (if t412=true then ((Fc.f k l0_1).bind fun t413 => (some t413)) else (some false))=some r:=H;have A2:=zh A20;clear A20
 by_cases c3 : t412=true
 ·
  subst c3
  have H1 : ((Fc.f k l0_1).bind fun t413 => (some t413))=some r:=by rw [if_pos rfl] at H;exact H
  clear H;have H:=H1;clear H1;replace H:=zT.mp H;obtain ⟨t413,A40,H⟩:=H;replace H : (some t413)=some r:=H;have A4:=zh A40;clear A40;obtain rfl:=zU H
  go_enter Tryz.func11,Tryz.ntmps11
  go_wp2_with (first|((with_reducible refine zK (N:=1) rfl ?_);refine zI ?hg (N:=1) ?hd (cs:=#[.string a0_0,.slice A0_1 l0_1.length c0_1]) (t:=38) ?hr ?_;(case hd => rfl);(case hg => rfl);(case hr => first|(go_simp;done)|(go_simp;rfl));intro gb411 hg w5 hbox hb;have BK411:=zh (hbox);have GW411:=zh ((by rw [hg];exact (zB (by repeat (with_reducible first|exact HB.out|apply za|apply zb|apply zc))) : w.heap.size≤gb411));have GE411:=zh ((by rw [hg];exact (zB (by repeat (with_reducible first|exact HB.out|apply za|apply zb|apply zc))) : w.heap.size≤gb411));replace HB:=zh (zC (by repeat (with_reducible first|exact HB.out|apply za|apply zb|apply zc)) hb);clear hb hbox hg;have hcz6_0 : w5.cell? ⟨gb411,0,none⟩=some (.string a0_0):=(zz BK411.out 0).trans rfl;have hcz6_1 : w5.cell? ⟨gb411,1,none⟩=some (.slice A0_1 l0_1.length c0_1):=(zz BK411.out 1).trans rfl;have hfz6_0:=zA BK411.out 0;have hfz6_1:=zA BK411.out 1)|((with_reducible refine zJ (f:=26) rfl ?_);refine yj (some 5) rfl rfl Tryz.func26 (by kernel_rfl) rfl #[.string a0_0] rfl (by (try simp only [zt,zu,zv]);first|done|rfl|(simp only [zw,zx];rfl)|(simp only [yr,ys,zV,zW];rfl)) ?_;(with_reducible refine (F00.calls k  a0_0 true _ A2.out).mono ?_);rintro e w' ⟨rfl,⟨nd,rfl⟩⟩;refine ⟨_,rfl,?_⟩)|(go_at_call 6;(with_reducible refine (Fc.calls k  _ _ l0_1 t413 _ ?side1 ?side2 A4.out).mono ?_);(case side1 => repeat (first|exact (Kd.C_below HR0_1.out (by repeat (with_reducible first|exact HB.out|apply za|apply zb|apply zc|refine zd ?_ GE411.out)))|(with_reducible refine Kd.C_alloc ?_ _)|(with_reducible refine Kd.C_drewN ?_ _)|(with_reducible refine Kd.C_drew ?_)));(case side2 => exact HC0_1.out);rintro e w7 ⟨rfl,hb⟩;replace BK411:=zh (zD (g:=gb411) (o:=.cells #[.string a0_0,.slice A0_1 l0_1.length c0_1] 38 (0,0)) (by (with_reducible repeat (first|refine ze ?_ _|refine zf ?_|refine zg ?_ _));exact BK411.out) hb);replace HB:=zh (zC (by repeat (with_reducible first|exact HB.out|apply za|apply zb|apply zc|refine zd ?_ GE411.out)) hb);(try clear hb);(try clear hb2);(try clear hk);(try clear hi)))
  go_ret
  exact ⟨by first|rfl|(simp [yt,yu] <;> rfl)|(simp [*,yt,yu] <;> rfl),by repeat (with_reducible first|exact HB.out|apply za|apply zb|apply zc|refine zd ?_ GE411.out)⟩
 replace c3:=yb.mpr c3;subst c3;have H1 : (some false)=some r:=by rw [if_neg (show ¬ (false=true) by decide)] at H;exact H
 clear H;have H:=H1;clear H1;obtain rfl:=zU H
 go_enter Tryz.func11,Tryz.ntmps11
 go_wp2_with (first|((with_reducible refine zK (N:=1) rfl ?_);refine zI ?hg (N:=1) ?hd (cs:=#[.string a0_0,.slice A0_1 l0_1.length c0_1]) (t:=38) ?hr ?_;(case hd => rfl);(case hg => rfl);(case hr => first|(go_simp;done)|(go_simp;rfl));intro gb411 hg w8 hbox hb;have BK411:=zh (hbox);have GW411:=zh ((by rw [hg];exact (zB (by repeat (with_reducible first|exact HB.out|apply za|apply zb|apply zc))) : w.heap.size≤gb411));have GE411:=zh ((by rw [hg];exact (zB (by repeat (with_reducible first|exact HB.out|apply za|apply zb|apply zc))) : w.heap.size≤gb411));replace HB:=zh (zC (by repeat (with_reducible first|exact HB.out|apply za|apply zb|apply zc)) hb);clear hb hbox hg;have hcz9_0 : w8.cell? ⟨gb411,0,none⟩=some (.string a0_0):=(zz BK411.out 0).trans rfl;have hcz9_1 : w8.cell? ⟨gb411,1,none⟩=some (.slice A0_1 l0_1.length c0_1):=(zz BK411.out 1).trans rfl;have hfz9_0:=zA BK411.out 0;have hfz9_1:=zA BK411.out 1)|((with_reducible refine zJ (f:=26) rfl ?_);refine yj (some 5) rfl rfl Tryz.func26 (by kernel_rfl) rfl #[.string a0_0] rfl (by (try simp only [zt,zu,zv]);first|done|rfl|(simp only [zw,zx];rfl)|(simp only [yr,ys,zV,zW];rfl)) ?_;(with_reducible refine (F00.calls k  a0_0 false _ A2.out).mono ?_);rintro e w' ⟨rfl,⟨nd,rfl⟩⟩;refine ⟨_,rfl,?_⟩))
 go_ret
 exact ⟨by first|rfl|(simp [yt,yu] <;> rfl)|(simp [*,yt,yu] <;> rfl),by repeat (with_reducible first|exact HB.out|apply za|apply zb|apply zc|refine zd ?_ GE411.out)⟩


def F0x.f (a0_0 : Int) (a0_1 : Int) (a0_2 : ByteArray) : Option (Int×Int×ByteArray):=some (a0_0,a0_1,a0_2)
set_option maxHeartbeats 8000000 in
set_option maxRecDepth 100000 in
theorem F0x.calls (a0_0 : Int) (a0_1 : Int) (a0_2 : ByteArray) (r1 : Int) (r2 : Int) (r3 : ByteArray) (w : World) (h : F0x.f a0_0 a0_1 a0_2=some (r1,r2,r3)) :
  Calls Tryz.prog 66 #[.agg #[.int .i64 a0_0,.int .i64 a0_1,.string a0_2]] w fun e w' => e = .returned (.agg #[.int .i64 r1,.int .i64 r2,.string r3])∧Below w.heap.size w w':=by
 have hu77:=Tryz.underlying77;have hu49:=Tryz.underlying49;have HB:=zh (Below.refl w.heap.size w);have H : (some (a0_0,a0_1,a0_2))=some (r1,r2,r3):=h;clear h;simp only [Option.some.injEq,Prod.mk.injEq] at H;obtain ⟨rfl,rfl,rfl⟩:=H
 go_enter Tryz.func66,Tryz.ntmps66
 go_wp2_with (first|((with_reducible refine zK (N:=1) rfl ?_);refine zI ?hg (N:=1) ?hd (cs:=#[.int .i64 a0_0,.int .i64 a0_1,.string a0_2]) (t:=77) ?hr ?_;(case hd => rfl);(case hg => rfl);(case hr => first|(go_simp;done)|(go_simp;rfl));intro gb202 hg w2 hbox hb;have BK202:=zh (hbox);have GW202:=zh ((by rw [hg];exact (zB (by repeat (with_reducible first|exact HB.out|apply za|apply zb|apply zc))) : w.heap.size≤gb202));have GE202:=zh ((by rw [hg];exact (zB (by repeat (with_reducible first|exact HB.out|apply za|apply zb|apply zc))) : w.heap.size≤gb202));replace HB:=zh (zC (by repeat (with_reducible first|exact HB.out|apply za|apply zb|apply zc)) hb);clear hb hbox hg)|((with_reducible refine zK (N:=2) rfl ?_);refine zI ?hg (N:=2) ?hd (cs:=#[.int .i64 0,.int .i64 0,.string (⟨#[]⟩ : ByteArray)]) (t:=49) ?hr ?_;(case hd => rfl);(case hg => rfl);(case hr => first|(go_simp;done)|(go_simp;rfl));intro gb203 hg w3 hbox hb;have BK203:=zh (hbox);have GW203:=zh ((by rw [hg];exact (zB (by repeat (with_reducible first|exact HB.out|apply za|apply zb|apply zc|refine zd ?_ GE202.out))) : w.heap.size≤gb203));have GE203:=zh ((by rw [hg];exact (zB (by repeat (with_reducible first|exact HB.out|apply za|apply zb|apply zc|refine zd ?_ GE202.out))) : w.heap.size≤gb203));replace HB:=zh (zC (by repeat (with_reducible first|exact HB.out|apply za|apply zb|apply zc|refine zd ?_ GE202.out)) hb);have NB202_203:=zh ((by rw [hg];exact yc (yi (g:=gb202) (o:=.cells #[.int .i64 a0_0,.int .i64 a0_1,.string a0_2] 77 (0,0)) (by (with_reducible repeat (first|refine ze ?_ _|refine zf ?_|refine zg ?_ _));exact BK202.out)) : gb202≠gb203));have NB203_202:=zh ((by rw [hg];exact yd (yi (g:=gb202) (o:=.cells #[.int .i64 a0_0,.int .i64 a0_1,.string a0_2] 77 (0,0)) (by (with_reducible repeat (first|refine ze ?_ _|refine zf ?_|refine zg ?_ _));exact BK202.out)) : gb203≠gb202));replace BK202:=zh (zD (g:=gb202) (o:=.cells #[.int .i64 a0_0,.int .i64 a0_1,.string a0_2] 77 (0,0)) (by (with_reducible repeat (first|refine ze ?_ _|refine zf ?_|refine zg ?_ _));exact BK202.out) hb);clear hb hbox hg)|((with_reducible refine zK (N:=3) rfl ?_);refine zI ?hg (N:=3) ?hd (cs:=#[.int .i64 0,.int .i64 0,.string (⟨#[]⟩ : ByteArray)]) (t:=49) ?hr ?_;(case hd => rfl);(case hg => rfl);(case hr => first|(go_simp;done)|(go_simp;rfl));intro gb204 hg w4 hbox hb;have BK204:=zh (hbox);have GW204:=zh ((by rw [hg];exact (zB (by repeat (with_reducible first|exact HB.out|apply za|apply zb|apply zc|refine zd ?_ GE202.out|refine zd ?_ GE203.out))) : w.heap.size≤gb204));have GE204:=zh ((by rw [hg];exact (zB (by repeat (with_reducible first|exact HB.out|apply za|apply zb|apply zc|refine zd ?_ GE202.out|refine zd ?_ GE203.out))) : w.heap.size≤gb204));replace HB:=zh (zC (by repeat (with_reducible first|exact HB.out|apply za|apply zb|apply zc|refine zd ?_ GE202.out|refine zd ?_ GE203.out)) hb);have NB202_204:=zh ((by rw [hg];exact yc (yi (g:=gb202) (o:=.cells #[.int .i64 a0_0,.int .i64 a0_1,.string a0_2] 77 (0,0)) (by (with_reducible repeat (first|refine ze ?_ _|refine zf ?_|refine zg ?_ _));exact BK202.out)) : gb202≠gb204));have NB204_202:=zh ((by rw [hg];exact yd (yi (g:=gb202) (o:=.cells #[.int .i64 a0_0,.int .i64 a0_1,.string a0_2] 77 (0,0)) (by (with_reducible repeat (first|refine ze ?_ _|refine zf ?_|refine zg ?_ _));exact BK202.out)) : gb204≠gb202));replace BK202:=zh (zD (g:=gb202) (o:=.cells #[.int .i64 a0_0,.int .i64 a0_1,.string a0_2] 77 (0,0)) (by (with_reducible repeat (first|refine ze ?_ _|refine zf ?_|refine zg ?_ _));exact BK202.out) hb);have NB203_204:=zh ((by rw [hg];exact yc (yi (g:=gb203) (o:=.cells #[.int .i64 0,.int .i64 0,.string (⟨#[]⟩ : ByteArray)] 49 (0,0)) (by (with_reducible repeat (first|refine ze ?_ _|refine zf ?_|refine zg ?_ _));exact BK203.out)) : gb203≠gb204));have NB204_203:=zh ((by rw [hg];exact yd (yi (g:=gb203) (o:=.cells #[.int .i64 0,.int .i64 0,.string (⟨#[]⟩ : ByteArray)] 49 (0,0)) (by (with_reducible repeat (first|refine ze ?_ _|refine zf ?_|refine zg ?_ _));exact BK203.out)) : gb204≠gb203));replace BK203:=zh (zD (g:=gb203) (o:=.cells #[.int .i64 0,.int .i64 0,.string (⟨#[]⟩ : ByteArray)] 49 (0,0)) (by (with_reducible repeat (first|refine ze ?_ _|refine zf ?_|refine zg ?_ _));exact BK203.out) hb);clear hb hbox hg;have hnb5:=NB202_203.out;have hnc5:=NB203_202.out;have hnb6:=NB202_204.out;have hnc6:=NB204_202.out;have hcz7_0 : w4.cell? ⟨gb202,0,none⟩=some (.int .i64 a0_0):=(zz BK202.out 0).trans rfl;have hcz7_1 : w4.cell? ⟨gb202,1,none⟩=some (.int .i64 a0_1):=(zz BK202.out 1).trans rfl;have hcz7_2 : w4.cell? ⟨gb202,2,none⟩=some (.string a0_2):=(zz BK202.out 2).trans rfl;have hfz7_0:=zA BK202.out 0;have hfz7_1:=zA BK202.out 1;have hfz7_2:=zA BK202.out 2;have hnb8:=NB204_203.out;have hnc8:=NB203_204.out;have hcz9_0 : w4.cell? ⟨gb204,0,none⟩=some (.int .i64 0):=(zz BK204.out 0).trans rfl;have hcz9_1 : w4.cell? ⟨gb204,1,none⟩=some (.int .i64 0):=(zz BK204.out 1).trans rfl;have hcz9_2 : w4.cell? ⟨gb204,2,none⟩=some (.string (⟨#[]⟩ : ByteArray)):=(zz BK204.out 2).trans rfl;have hfz9_0:=zA BK204.out 0;have hfz9_1:=zA BK204.out 1;have hfz9_2:=zA BK204.out 2;have hcz10_0 : w4.cell? ⟨gb203,0,none⟩=some (.int .i64 0):=(zz BK203.out 0).trans rfl;have hcz10_1 : w4.cell? ⟨gb203,1,none⟩=some (.int .i64 0):=(zz BK203.out 1).trans rfl;have hcz10_2 : w4.cell? ⟨gb203,2,none⟩=some (.string (⟨#[]⟩ : ByteArray)):=(zz BK203.out 2).trans rfl;have hfz10_0:=zA BK203.out 0;have hfz10_1:=zA BK203.out 1;have hfz10_2:=zA BK203.out 2))
 refine bodyPost_ret (results_cell_row rfl _ _ gb203 49 #[.int .i64 a0_0,.int .i64 a0_1,.string a0_2] (0,0) _ rfl (by (with_reducible repeat (first|refine ze ?_ _|refine zf ?_|refine zg ?_ _));refine zL (cs:=#[.int .i64 a0_0,.int .i64 a0_1,.string (⟨#[]⟩ : ByteArray)]) ?_ 2 _ rfl;(with_reducible repeat (first|refine ze ?_ _|refine zf ?_|refine zg ?_ _));refine zL (cs:=#[.int .i64 a0_0,.int .i64 0,.string (⟨#[]⟩ : ByteArray)]) ?_ 1 _ rfl;(with_reducible repeat (first|refine ze ?_ _|refine zf ?_|refine zg ?_ _));refine zL (cs:=#[.int .i64 0,.int .i64 0,.string (⟨#[]⟩ : ByteArray)]) ?_ 0 _ rfl;(with_reducible repeat (first|refine ze ?_ _|refine zf ?_|refine zg ?_ _));refine zS ?_ NB203_204.out _;(with_reducible repeat (first|refine ze ?_ _|refine zf ?_|refine zg ?_ _));refine zS ?_ NB203_204.out _;(with_reducible repeat (first|refine ze ?_ _|refine zf ?_|refine zg ?_ _));refine zS ?_ NB203_204.out _;(with_reducible repeat (first|refine ze ?_ _|refine zf ?_|refine zg ?_ _));exact BK203.out) Tryz.underlying49 rfl (by kernel_rfl)) rfl ?_;exact ⟨by first|rfl|(simp [yt,yu] <;> rfl)|(simp [*,yt,yu] <;> rfl),by repeat (with_reducible first|exact HB.out|apply za|apply zb|apply zc|refine zd ?_ GE202.out|refine zd ?_ GE203.out|refine zd ?_ GE204.out)⟩


def Fm.f (a0_0 : Int) (a0_1 : ByteArray) (a0_2 : Int) (a0_3 : Int) (a0_4 : ByteArray) : Option (Int×ByteArray×Int×Int×ByteArray):=(F0x.f a0_2 a0_3 a0_4).bind fun bt208 => (some (a0_0,a0_1,bt208.1,bt208.2.1,bt208.2.2))
set_option maxHeartbeats 8000000 in
set_option maxRecDepth 100000 in
theorem Fm.calls (a0_0 : Int) (a0_1 : ByteArray) (a0_2 : Int) (a0_3 : Int) (a0_4 : ByteArray) (r1 : Int) (r2 : ByteArray) (r3 : Int) (r4 : Int) (r5 : ByteArray) (w : World) (h : Fm.f a0_0 a0_1 a0_2 a0_3 a0_4=some (r1,r2,r3,r4,r5)) :
  Calls Tryz.prog 54 #[.agg #[.int .i64 a0_0,.string a0_1,.int .i64 a0_2,.int .i64 a0_3,.string a0_4]] w fun e w' => e = .returned (.agg #[.int .i64 r1,.string r2,.int .i64 r3,.int .i64 r4,.string r5])∧Below w.heap.size w w':=by
 have hu79:=Tryz.underlying79;have hu51:=Tryz.underlying51;have hu77:=Tryz.underlying77;have hu49:=Tryz.underlying49;have HB:=zh (Below.refl w.heap.size w);have H : ((F0x.f a0_2 a0_3 a0_4).bind fun bt208 => (some (a0_0,a0_1,bt208.1,bt208.2.1,bt208.2.2)))=some (r1,r2,r3,r4,r5):=h;clear h;replace H:=zT.mp H;obtain ⟨⟨t208,t209,t210⟩,A20,H⟩:=H;replace H : (some (a0_0,a0_1,t208,t209,t210))=some (r1,r2,r3,r4,r5):=H;have A2:=zh A20;clear A20;simp only [Option.some.injEq,Prod.mk.injEq] at H;obtain ⟨rfl,rfl,rfl,rfl,rfl⟩:=H
 go_enter Tryz.func54,Tryz.ntmps54
 go_wp2_with (first|((with_reducible refine zK (N:=1) rfl ?_);refine zI ?hg (N:=1) ?hd (cs:=#[.int .i64 a0_0,.string a0_1,.int .i64 a0_2,.int .i64 a0_3,.string a0_4]) (t:=79) ?hr ?_;(case hd => rfl);(case hg => rfl);(case hr => first|(go_simp;done)|(go_simp;rfl));intro gb205 hg w3 hbox hb;have BK205:=zh (hbox);have GW205:=zh ((by rw [hg];exact (zB (by repeat (with_reducible first|exact HB.out|apply za|apply zb|apply zc))) : w.heap.size≤gb205));have GE205:=zh ((by rw [hg];exact (zB (by repeat (with_reducible first|exact HB.out|apply za|apply zb|apply zc))) : w.heap.size≤gb205));replace HB:=zh (zC (by repeat (with_reducible first|exact HB.out|apply za|apply zb|apply zc)) hb);clear hb hbox hg)|((with_reducible refine zK (N:=2) rfl ?_);refine zI ?hg (N:=2) ?hd (cs:=#[.int .i64 0,.string (⟨#[]⟩ : ByteArray),.int .i64 0,.int .i64 0,.string (⟨#[]⟩ : ByteArray)]) (t:=51) ?hr ?_;(case hd => rfl);(case hg => rfl);(case hr => first|(go_simp;done)|(go_simp;rfl));intro gb206 hg w4 hbox hb;have BK206:=zh (hbox);have GW206:=zh ((by rw [hg];exact (zB (by repeat (with_reducible first|exact HB.out|apply za|apply zb|apply zc|refine zd ?_ GE205.out))) : w.heap.size≤gb206));have GE206:=zh ((by rw [hg];exact (zB (by repeat (with_reducible first|exact HB.out|apply za|apply zb|apply zc|refine zd ?_ GE205.out))) : w.heap.size≤gb206));replace HB:=zh (zC (by repeat (with_reducible first|exact HB.out|apply za|apply zb|apply zc|refine zd ?_ GE205.out)) hb);have NB205_206:=zh ((by rw [hg];exact yc (yi (g:=gb205) (o:=.cells #[.int .i64 a0_0,.string a0_1,.int .i64 a0_2,.int .i64 a0_3,.string a0_4] 79 (0,0)) (by (with_reducible repeat (first|refine ze ?_ _|refine zf ?_|refine zg ?_ _));exact BK205.out)) : gb205≠gb206));have NB206_205:=zh ((by rw [hg];exact yd (yi (g:=gb205) (o:=.cells #[.int .i64 a0_0,.string a0_1,.int .i64 a0_2,.int .i64 a0_3,.string a0_4] 79 (0,0)) (by (with_reducible repeat (first|refine ze ?_ _|refine zf ?_|refine zg ?_ _));exact BK205.out)) : gb206≠gb205));replace BK205:=zh (zD (g:=gb205) (o:=.cells #[.int .i64 a0_0,.string a0_1,.int .i64 a0_2,.int .i64 a0_3,.string a0_4] 79 (0,0)) (by (with_reducible repeat (first|refine ze ?_ _|refine zf ?_|refine zg ?_ _));exact BK205.out) hb);clear hb hbox hg)|((with_reducible refine zK (N:=3) rfl ?_);refine zI ?hg (N:=3) ?hd (cs:=#[.int .i64 0,.string (⟨#[]⟩ : ByteArray),.int .i64 0,.int .i64 0,.string (⟨#[]⟩ : ByteArray)]) (t:=51) ?hr ?_;(case hd => rfl);(case hg => rfl);(case hr => first|(go_simp;done)|(go_simp;rfl));intro gb207 hg w5 hbox hb;have BK207:=zh (hbox);have GW207:=zh ((by rw [hg];exact (zB (by repeat (with_reducible first|exact HB.out|apply za|apply zb|apply zc|refine zd ?_ GE205.out|refine zd ?_ GE206.out))) : w.heap.size≤gb207));have GE207:=zh ((by rw [hg];exact (zB (by repeat (with_reducible first|exact HB.out|apply za|apply zb|apply zc|refine zd ?_ GE205.out|refine zd ?_ GE206.out))) : w.heap.size≤gb207));replace HB:=zh (zC (by repeat (with_reducible first|exact HB.out|apply za|apply zb|apply zc|refine zd ?_ GE205.out|refine zd ?_ GE206.out)) hb);have NB205_207:=zh ((by rw [hg];exact yc (yi (g:=gb205) (o:=.cells #[.int .i64 a0_0,.string a0_1,.int .i64 a0_2,.int .i64 a0_3,.string a0_4] 79 (0,0)) (by (with_reducible repeat (first|refine ze ?_ _|refine zf ?_|refine zg ?_ _));exact BK205.out)) : gb205≠gb207));have NB207_205:=zh ((by rw [hg];exact yd (yi (g:=gb205) (o:=.cells #[.int .i64 a0_0,.string a0_1,.int .i64 a0_2,.int .i64 a0_3,.string a0_4] 79 (0,0)) (by (with_reducible repeat (first|refine ze ?_ _|refine zf ?_|refine zg ?_ _));exact BK205.out)) : gb207≠gb205));replace BK205:=zh (zD (g:=gb205) (o:=.cells #[.int .i64 a0_0,.string a0_1,.int .i64 a0_2,.int .i64 a0_3,.string a0_4] 79 (0,0)) (by (with_reducible repeat (first|refine ze ?_ _|refine zf ?_|refine zg ?_ _));exact BK205.out) hb);have NB206_207:=zh ((by rw [hg];exact yc (yi (g:=gb206) (o:=.cells #[.int .i64 0,.string (⟨#[]⟩ : ByteArray),.int .i64 0,.int .i64 0,.string (⟨#[]⟩ : ByteArray)] 51 (0,0)) (by (with_reducible repeat (first|refine ze ?_ _|refine zf ?_|refine zg ?_ _));exact BK206.out)) : gb206≠gb207));have NB207_206:=zh ((by rw [hg];exact yd (yi (g:=gb206) (o:=.cells #[.int .i64 0,.string (⟨#[]⟩ : ByteArray),.int .i64 0,.int .i64 0,.string (⟨#[]⟩ : ByteArray)] 51 (0,0)) (by (with_reducible repeat (first|refine ze ?_ _|refine zf ?_|refine zg ?_ _));exact BK206.out)) : gb207≠gb206));replace BK206:=zh (zD (g:=gb206) (o:=.cells #[.int .i64 0,.string (⟨#[]⟩ : ByteArray),.int .i64 0,.int .i64 0,.string (⟨#[]⟩ : ByteArray)] 51 (0,0)) (by (with_reducible repeat (first|refine ze ?_ _|refine zf ?_|refine zg ?_ _));exact BK206.out) hb);clear hb hbox hg;have hnb6:=NB205_206.out;have hnc6:=NB206_205.out;have hnb7:=NB205_207.out;have hnc7:=NB207_205.out;have hcz8_0 : w5.cell? ⟨gb205,0,none⟩=some (.int .i64 a0_0):=(zz BK205.out 0).trans rfl;have hcz8_1 : w5.cell? ⟨gb205,1,none⟩=some (.string a0_1):=(zz BK205.out 1).trans rfl;have hcz8_2 : w5.cell? ⟨gb205,2,none⟩=some (.int .i64 a0_2):=(zz BK205.out 2).trans rfl;have hcz8_3 : w5.cell? ⟨gb205,3,none⟩=some (.int .i64 a0_3):=(zz BK205.out 3).trans rfl;have hcz8_4 : w5.cell? ⟨gb205,4,none⟩=some (.string a0_4):=(zz BK205.out 4).trans rfl;have hfz8_0:=zA BK205.out 0;have hfz8_1:=zA BK205.out 1;have hfz8_2:=zA BK205.out 2;have hfz8_3:=zA BK205.out 3;have hfz8_4:=zA BK205.out 4;have hnb9:=NB207_206.out;have hnc9:=NB206_207.out;have hcz10_0 : w5.cell? ⟨gb207,0,none⟩=some (.int .i64 0):=(zz BK207.out 0).trans rfl;have hcz10_1 : w5.cell? ⟨gb207,1,none⟩=some (.string (⟨#[]⟩ : ByteArray)):=(zz BK207.out 1).trans rfl;have hcz10_2 : w5.cell? ⟨gb207,2,none⟩=some (.int .i64 0):=(zz BK207.out 2).trans rfl;have hcz10_3 : w5.cell? ⟨gb207,3,none⟩=some (.int .i64 0):=(zz BK207.out 3).trans rfl;have hcz10_4 : w5.cell? ⟨gb207,4,none⟩=some (.string (⟨#[]⟩ : ByteArray)):=(zz BK207.out 4).trans rfl;have hfz10_0:=zA BK207.out 0;have hfz10_1:=zA BK207.out 1;have hfz10_2:=zA BK207.out 2;have hfz10_3:=zA BK207.out 3;have hfz10_4:=zA BK207.out 4)|((with_reducible refine zJ (f:=66) rfl ?_);refine yj (some 12) rfl rfl Tryz.func66 (by kernel_rfl) rfl #[.agg #[.int .i64 a0_2,.int .i64 a0_3,.string a0_4]] rfl (by (try simp only [zt,zu,zv]);first|done|rfl|(simp only [zw,zx];rfl)|(simp only [yr,ys,zV,zW];rfl)) ?_;(with_reducible refine (F0x.calls  a0_2 a0_3 a0_4 t208 t209 t210 _ A2.out).mono ?_);rintro e w11 ⟨rfl,hb⟩;refine ⟨_,rfl,?_⟩;replace BK205:=zh (zD (g:=gb205) (o:=.cells #[.int .i64 a0_0,.string a0_1,.int .i64 a0_2,.int .i64 a0_3,.string a0_4] 79 (0,0)) (by (with_reducible repeat (first|refine ze ?_ _|refine zf ?_|refine zg ?_ _));refine zS ?_ NB205_207.out _;(with_reducible repeat (first|refine ze ?_ _|refine zf ?_|refine zg ?_ _));refine zS ?_ NB205_207.out _;(with_reducible repeat (first|refine ze ?_ _|refine zf ?_|refine zg ?_ _));exact BK205.out) hb);replace BK206:=zh (zD (g:=gb206) (o:=.cells #[.int .i64 0,.string (⟨#[]⟩ : ByteArray),.int .i64 0,.int .i64 0,.string (⟨#[]⟩ : ByteArray)] 51 (0,0)) (by (with_reducible repeat (first|refine ze ?_ _|refine zf ?_|refine zg ?_ _));refine zS ?_ NB206_207.out _;(with_reducible repeat (first|refine ze ?_ _|refine zf ?_|refine zg ?_ _));refine zS ?_ NB206_207.out _;(with_reducible repeat (first|refine ze ?_ _|refine zf ?_|refine zg ?_ _));exact BK206.out) hb);replace BK207:=zh (zD (g:=gb207) (o:=.cells #[.int .i64 a0_0,.string a0_1,.int .i64 0,.int .i64 0,.string (⟨#[]⟩ : ByteArray)] 51 (0,0)) (by (with_reducible repeat (first|refine ze ?_ _|refine zf ?_|refine zg ?_ _));refine zL (cs:=#[.int .i64 a0_0,.string (⟨#[]⟩ : ByteArray),.int .i64 0,.int .i64 0,.string (⟨#[]⟩ : ByteArray)]) ?_ 1 _ rfl;(with_reducible repeat (first|refine ze ?_ _|refine zf ?_|refine zg ?_ _));refine zL (cs:=#[.int .i64 0,.string (⟨#[]⟩ : ByteArray),.int .i64 0,.int .i64 0,.string (⟨#[]⟩ : ByteArray)]) ?_ 0 _ rfl;(with_reducible repeat (first|refine ze ?_ _|refine zf ?_|refine zg ?_ _));exact BK207.out) hb);replace HB:=zh (zC (by repeat (with_reducible first|exact HB.out|apply za|apply zb|apply zc|refine zd ?_ GE205.out|refine zd ?_ GE206.out|refine zd ?_ GE207.out)) hb);(try clear hb);(try clear hb2);(try clear hk);(try clear hi);have hcz12_0 : w11.cell? ⟨gb207,0,none⟩=some (.int .i64 a0_0):=(zz BK207.out 0).trans rfl;have hcz12_1 : w11.cell? ⟨gb207,1,none⟩=some (.string a0_1):=(zz BK207.out 1).trans rfl;have hcz12_2 : w11.cell? ⟨gb207,2,none⟩=some (.int .i64 0):=(zz BK207.out 2).trans rfl;have hcz12_3 : w11.cell? ⟨gb207,3,none⟩=some (.int .i64 0):=(zz BK207.out 3).trans rfl;have hcz12_4 : w11.cell? ⟨gb207,4,none⟩=some (.string (⟨#[]⟩ : ByteArray)):=(zz BK207.out 4).trans rfl;have hfz12_0:=zA BK207.out 0;have hfz12_1:=zA BK207.out 1;have hfz12_2:=zA BK207.out 2;have hfz12_3:=zA BK207.out 3;have hfz12_4:=zA BK207.out 4;have hcz13_0 : w11.cell? ⟨gb206,0,none⟩=some (.int .i64 0):=(zz BK206.out 0).trans rfl;have hcz13_1 : w11.cell? ⟨gb206,1,none⟩=some (.string (⟨#[]⟩ : ByteArray)):=(zz BK206.out 1).trans rfl;have hcz13_2 : w11.cell? ⟨gb206,2,none⟩=some (.int .i64 0):=(zz BK206.out 2).trans rfl;have hcz13_3 : w11.cell? ⟨gb206,3,none⟩=some (.int .i64 0):=(zz BK206.out 3).trans rfl;have hcz13_4 : w11.cell? ⟨gb206,4,none⟩=some (.string (⟨#[]⟩ : ByteArray)):=(zz BK206.out 4).trans rfl;have hfz13_0:=zA BK206.out 0;have hfz13_1:=zA BK206.out 1;have hfz13_2:=zA BK206.out 2;have hfz13_3:=zA BK206.out 3;have hfz13_4:=zA BK206.out 4))
 refine bodyPost_ret (results_cell_row rfl _ _ gb206 51 #[.int .i64 a0_0,.string a0_1,.int .i64 t208,.int .i64 t209,.string t210] (0,0) _ rfl (by (with_reducible repeat (first|refine ze ?_ _|refine zf ?_|refine zg ?_ _));refine zL (cs:=#[.int .i64 a0_0,.string a0_1,.int .i64 t208,.int .i64 t209,.string (⟨#[]⟩ : ByteArray)]) ?_ 4 _ rfl;(with_reducible repeat (first|refine ze ?_ _|refine zf ?_|refine zg ?_ _));refine zL (cs:=#[.int .i64 a0_0,.string a0_1,.int .i64 t208,.int .i64 0,.string (⟨#[]⟩ : ByteArray)]) ?_ 3 _ rfl;(with_reducible repeat (first|refine ze ?_ _|refine zf ?_|refine zg ?_ _));refine zL (cs:=#[.int .i64 a0_0,.string a0_1,.int .i64 0,.int .i64 0,.string (⟨#[]⟩ : ByteArray)]) ?_ 2 _ rfl;(with_reducible repeat (first|refine ze ?_ _|refine zf ?_|refine zg ?_ _));refine zL (cs:=#[.int .i64 a0_0,.string (⟨#[]⟩ : ByteArray),.int .i64 0,.int .i64 0,.string (⟨#[]⟩ : ByteArray)]) ?_ 1 _ rfl;(with_reducible repeat (first|refine ze ?_ _|refine zf ?_|refine zg ?_ _));refine zL (cs:=#[.int .i64 0,.string (⟨#[]⟩ : ByteArray),.int .i64 0,.int .i64 0,.string (⟨#[]⟩ : ByteArray)]) ?_ 0 _ rfl;(with_reducible repeat (first|refine ze ?_ _|refine zf ?_|refine zg ?_ _));refine zS ?_ NB206_207.out _;(with_reducible repeat (first|refine ze ?_ _|refine zf ?_|refine zg ?_ _));refine zS ?_ NB206_207.out _;(with_reducible repeat (first|refine ze ?_ _|refine zf ?_|refine zg ?_ _));refine zS ?_ NB206_207.out _;(with_reducible repeat (first|refine ze ?_ _|refine zf ?_|refine zg ?_ _));exact BK206.out) Tryz.underlying51 rfl (by kernel_rfl)) rfl ?_;exact ⟨by first|rfl|(simp [yt,yu] <;> rfl)|(simp [*,yt,yu] <;> rfl),by repeat (with_reducible first|exact HB.out|apply za|apply zb|apply zc|refine zd ?_ GE205.out|refine zd ?_ GE206.out|refine zd ?_ GE207.out)⟩


def Fw.l0 : Nat→List (S79)→List (S51)→Int→Option ((List (S51)))
 | 0,_,_,_ => none
 | k + 1,x0,x3,x4 => if x4<(x0.length : Int) then (if 0≤x4 then ((Fm.f ((rd_T79 x0 x4).f0) ((rd_T79 x0 x4).f1) ((rd_T79 x0 x4).f2.f0) ((rd_T79 x0 x4).f2.f1) ((rd_T79 x0 x4).f2.f2)).bind fun bt215 => (if x4<(x3.length : Int) then (Fw.l0 k x0 (x3.set (x4 : Int).toNat (⟨bt215.1,bt215.2.1,(⟨bt215.2.2.1,bt215.2.2.2.1,bt215.2.2.2.2⟩ : S49)⟩ : S51)) (wrap64 (x4 + 1))) else (none))) else (none)) else (some x3)
def Fw.f (k : Nat) (l0 : List (S79)) : Option ((List (S51))):=if 0≤(l0.length : Int) then (if ((l0.length : Int) : Int).toNat≤5026338869833 then (Fw.l0 k l0 (List.replicate ((l0.length : Int) : Int).toNat z51) 0) else (none)) else (none)
theorem Fw.mono_l : ∀ k,(∀ y0 y1 y2,LeO (Fw.l0 k y0 y1 y2) (Fw.l0 (k + 1) y0 y1 y2))
 | 0 => fun _ _ _ r h => by simp [Fw.l0] at h
 | k + 1 => by
  have ih0:=Fw.mono_l k;intro y0 y1 y2;unfold Fw.l0
  repeat' first|(with_reducible first|exact ih0 _ _ _|exact zQ _|exact zN _|refine zP ?_ ?_|refine zO ?_ (fun _ => ?_))|refine zP ?_ ?_|refine zO ?_ (fun _ => ?_)
theorem Fw.mono : ∀ a0 k,LeO (Fw.f k a0) (Fw.f (k + 1) a0):=by
 intro a0 k;have ih0:=Fw.mono_l k;unfold Fw.f
 repeat' first|(with_reducible first|exact ih0 _ _ _|exact zQ _|exact zN _|refine zP ?_ ?_|refine zO ?_ (fun _ => ?_))|refine zP ?_ ?_|refine zO ?_ (fun _ => ?_)
set_option maxHeartbeats 8000000 in
set_option maxRecDepth 100000 in
theorem Fw.calls (k : Nat) (A0 : Option Addr) (c0 : Nat) (l0 : List (S79)) (r : List (S51)) (w : World) (hr0 : Kd.C k79 w A0 l0.length l0) (hc0 : l0.length≤c0) (h : Fw.f k l0=some r) :
  Calls Tryz.prog 42 #[.slice A0 l0.length c0] w fun e w' => ∃ v0_ : Value,e = .returned (v0_)∧Kd.R k51 51 w' w.heap.size (fun _ => True) v0_ r∧Below w.heap.size w w':=by
 have hu79:=Tryz.underlying79;have hu51:=Tryz.underlying51;have HR0:=zh hr0;have HC0:=zh hc0;clear hr0 hc0;have HB:=zh (Below.refl w.heap.size w);have H : (if 0≤(l0.length : Int) then (if ((l0.length : Int) : Int).toNat≤5026338869833 then (Fw.l0 k l0 (List.replicate ((l0.length : Int) : Int).toNat z51) 0) else (none)) else (none))=some r:=h;clear h
 by_cases c2 : 0≤(l0.length : Int)
 ·
  rw [if_pos c2] at H
  have c2b0:=eq_true c2;have c2b1 : decide (0≤(l0.length : Int))=true:=decide_eq_true c2;clear c2
  by_cases c3 : ((l0.length : Int) : Int).toNat≤5026338869833
  ·
   rw [if_pos c3] at H
   have c3b0:=eq_true c3;have c3b1 : decide (((l0.length : Int) : Int).toNat≤5026338869833)=true:=decide_eq_true c3;clear c3;obtain ⟨y211,hy211⟩ : ∃ y_ : List (S51),y_=(List.replicate ((l0.length : Int) : Int).toNat z51):=⟨_,rfl⟩;replace H : (Fw.l0 k l0 y211 0)=some r:=by first|(rw [hy211];with_reducible exact H)|(have H2_:=(Option.bind_some _ _).symm.trans H;rw [hy211];with_reducible exact H2_)|(have H2_:=(Option.bind_some _ _).symm.trans H;with_reducible exact H2_)|with_reducible exact H|(rw [hy211];exact H)|exact H
   have Ny211:=zh hy211;clear hy211;have H':=zh H;clear H
   go_enter Tryz.func42,Tryz.ntmps42
   go_wp2_with (first|((with_reducible refine zK (N:=7) rfl ?_);refine Kd.R_make k51 _ 51 rfl (N:=7) rfl 44 _ _ rfl (l0.length : Int) rfl rfl Tryz.underlying44 (.agg #[(.int .i64 0),(.string ⟨#[]⟩),(.int .i64 0),(.int .i64 0),(.string ⟨#[]⟩)]) 56 info51 rfl (by decide) (by omega) z51 (ok:=fun _ => True) (okp:=fun _ => True) (k51_mkM _ _ _ z51 ) (fun _ hk => hk) trivial (zy (by first|(with_reducible assumption)|assumption)) (Nat.le_trans (Nat.mul_le_mul_right _ (zy (by first|(with_reducible assumption)|assumption) : (l0.length : Int).toNat≤5026338869833)) (by omega)) (Below.refl _ _) (ye _) ?_;intro v212 w4 ho5 hb hg_ hnew_;clear hg_ hnew_;(first|rw [← Ny211.out] at ho5|(simp only [Int.reduceToNat] at ho5;rw [← Ny211.out] at ho5));have HO213:=zh (yy ho5 (zB (by repeat (with_reducible first|exact HB.out|apply za|apply zb|apply zc))));replace HB:=zh (zC (by repeat (with_reducible first|exact HB.out|apply za|apply zb|apply zc)) hb);clear hb ho5))
   go_loopg [4] k (fun kq v4 w' => ∃ (x3_1 : List (S51)) (x4_1 : Int),v4 = .int .i64 x4_1∧Aside0 (Fw.l0 kq l0 x3_1 x4_1=some r)∧Aside0 (kq≤k)∧Aside0 (Kd.R k51 51 w' w.heap.size (fun _ => True) v212 x3_1)∧Aside0 (Below w.heap.size w w'))
   case atStart => exact ⟨(y211),(0),(by first|rfl|(simp;done)|(simp [*];done)),H',⟨ye _⟩,⟨by (with_reducible repeat (first|apply zm|apply zn|apply zo));exact HO213.out⟩,⟨by repeat (with_reducible first|exact HB.out|apply za|apply zb|apply zc)⟩⟩
   case round =>
    clear H'
    try clear c2
    try clear c2b0
    try clear c2b1
    try clear p2
    try clear c3
    try clear c3b0
    try clear c3b1
    try clear c4
    obtain ⟨x3_1,x4_1,rfl,HA,HK1,HO_3,HB⟩:=hrel
    cases gk with
    | zero => exact absurd HA.out (by simp [Fw.l0])
    | succ k1 =>
     have H:=HA.out;clear HA;simp only [Fw.l0] at H
     by_cases c6 : x4_1<(l0.length : Int)
     ·
      rw [if_pos c6] at H
      have c6b0 : decide (x4_1<(l0.length : Int))=true:=decide_eq_true c6;clear c6
      by_cases c7 : 0≤x4_1
      ·
       rw [if_pos c7] at H
       have c7b0 : decide (0≤x4_1)=true:=decide_eq_true c7;clear c7;replace H:=zT.mp H;obtain ⟨⟨t215,t216,t217,t218,t219⟩,A80,H⟩:=H;replace H : (if x4_1<(x3_1.length : Int) then (Fw.l0 k1 l0 (x3_1.set (x4_1 : Int).toNat (⟨t215,t216,(⟨t217,t218,t219⟩ : S49)⟩ : S51)) (wrap64 (x4_1 + 1))) else (none))=some r:=H;have A8:=zh A80;clear A80
       by_cases c9 : x4_1<(x3_1.length : Int)
       ·
        rw [if_pos c9] at H
        have c9b0 : decide (x4_1<(x3_1.length : Int))=true:=decide_eq_true c9;clear c9;obtain ⟨y220,hy220⟩ : ∃ y_ : List (S51),y_=(x3_1.set (x4_1 : Int).toNat (⟨t215,t216,(⟨t217,t218,t219⟩ : S49)⟩ : S51)):=⟨_,rfl⟩;replace H : (Fw.l0 k1 l0 y220 (wrap64 (x4_1 + 1)))=some r:=by first|(rw [hy220];with_reducible exact H)|(have H2_:=(Option.bind_some _ _).symm.trans H;rw [hy220];with_reducible exact H2_)|(have H2_:=(Option.bind_some _ _).symm.trans H;with_reducible exact H2_)|with_reducible exact H|(rw [hy220];exact H)|exact H
        have Ny220:=zh hy220;clear hy220;have H':=zh H;clear H;have p214 : 0≤(x4_1 : Int):=zy (by first|(with_reducible assumption)|assumption);have q214 : x4_1<(l0.length : Int):=zy (by first|(with_reducible assumption)|assumption);obtain ⟨ad214,e214,hx214_0,hx214_1,hx214_2,hx214_3,hx214_4⟩:=at_T79 HR0.out x4_1 p214 q214
        cases e214
        replace hx214_0:=(HB.out.cell (zl w _ hx214_0)).trans hx214_0;replace hx214_1:=(HB.out.cell (zl w _ hx214_1)).trans hx214_1;replace hx214_2:=(HB.out.cell (zl w _ hx214_2)).trans hx214_2;replace hx214_3:=(HB.out.cell (zl w _ hx214_3)).trans hx214_3;replace hx214_4:=(HB.out.cell (zl w _ hx214_4)).trans hx214_4;replace p214:=eq_true p214;replace q214:=eq_true q214
        go_wp2_with (first|((with_reducible refine zJ (f:=54) rfl ?_);refine yj (some 20) rfl rfl Tryz.func54 (by kernel_rfl) rfl #[.agg #[.int .i64 ((rd_T79 l0 x4_1).f0),.string ((rd_T79 l0 x4_1).f1),.int .i64 ((rd_T79 l0 x4_1).f2.f0),.int .i64 ((rd_T79 l0 x4_1).f2.f1),.string ((rd_T79 l0 x4_1).f2.f2)]] rfl (by (try simp only [zt,zu,zv]);first|done|rfl|(simp only [zw,zx];rfl)|(simp only [yr,ys,zV,zW];rfl)) ?_;(with_reducible refine (Fm.calls  ((rd_T79 l0 x4_1).f0) ((rd_T79 l0 x4_1).f1) ((rd_T79 l0 x4_1).f2.f0) ((rd_T79 l0 x4_1).f2.f1) ((rd_T79 l0 x4_1).f2.f2) t215 t216 t217 t218 t219 _ A8.out).mono ?_);rintro e w11 ⟨rfl,hb⟩;refine ⟨_,rfl,?_⟩;replace HO_3:=zh (yg (by (with_reducible repeat (first|apply zm|apply zn|apply zo));exact HO_3.out) hb);replace HB:=zh (zC (by repeat (with_reducible first|exact HB.out|apply za|apply zb|apply zc)) hb);(try clear hb);(try clear hb2);(try clear hk);(try clear hi);have p10 : 0≤(x4_1 : Int):=zy (by first|(with_reducible assumption)|assumption);have q10 : (x4_1 : Int)<((x3_1.length : Int) : Int):=zy (by first|(with_reducible assumption)|assumption);obtain ⟨go10,co10,eo10,gb10,gl10,cl10,HG10⟩:=Kd.R_form HO_3.out (by omega);(first|cases eo10|(injection eo10 with ea_ en_ ec_;(first|subst ea_|(injection ea_ with ea_;subst ea_));subst ec_;clear en_));have GB10:=zh gb10;have GG10:=zh HG10;clear gb10 gl10 HG10;obtain ⟨ce10,hcl10,hM10,hcc10,hfr10⟩:=Kd.R_elem HO_3.out z51 (x4_1 : Int) p10 q10;obtain rfl:=k51_openM hM10;have hx10_0 : w11.cell? ⟨go10,(x4_1 : Int).toNat * 5,none⟩=some (.int .i64 ((rd_T51 x3_1 x4_1).f0)):=hcc10 0 _ rfl;have hx10_1 : w11.cell? ⟨go10,(x4_1 : Int).toNat * 5 + 1,none⟩=some (.string ((rd_T51 x3_1 x4_1).f1)):=hcc10 1 _ rfl;have hx10_2 : w11.cell? ⟨go10,(x4_1 : Int).toNat * 5 + 2,none⟩=some (.int .i64 ((rd_T51 x3_1 x4_1).f2.f0)):=hcc10 2 _ rfl;have hx10_3 : w11.cell? ⟨go10,(x4_1 : Int).toNat * 5 + 3,none⟩=some (.int .i64 ((rd_T51 x3_1 x4_1).f2.f1)):=hcc10 3 _ rfl;have hx10_4 : w11.cell? ⟨go10,(x4_1 : Int).toNat * 5 + 4,none⟩=some (.string ((rd_T51 x3_1 x4_1).f2.f2)):=hcc10 4 _ rfl;have hf10_0 : w11.frozen? ⟨go10,(x4_1 : Int).toNat * 5,none⟩=false:=hfr10 0;have hf10_1 : w11.frozen? ⟨go10,(x4_1 : Int).toNat * 5 + 1,none⟩=false:=hfr10 1;have hf10_2 : w11.frozen? ⟨go10,(x4_1 : Int).toNat * 5 + 2,none⟩=false:=hfr10 2;have hf10_3 : w11.frozen? ⟨go10,(x4_1 : Int).toNat * 5 + 3,none⟩=false:=hfr10 3;have hf10_4 : w11.frozen? ⟨go10,(x4_1 : Int).toNat * 5 + 4,none⟩=false:=hfr10 4;clear hcl10 hcc10 hfr10 hM10;replace p10:=eq_true p10;replace q10:=eq_true q10;have HX12:=zh (show Kd.R k51 51 w11 w.heap.size (fun _ => True) (.slice (some ⟨go10,0,none⟩) x3_1.length co10) x3_1 from (by (with_reducible repeat (first|apply zm|apply zn|apply zo));exact HO_3.out));obtain ⟨ce12,hcl12,hM12,hcc12,hfr12⟩:=Kd.R_elem HX12.out z51 (x4_1 : Int) (zy (by first|(with_reducible assumption)|assumption)) (by have h_ : (x4_1 : Int)<((x3_1.length : Int) : Int):=zy (by first|(with_reducible assumption)|assumption);first|exact h_|(have e_:=(yh HO_3.out).1;omega)|simpa using h_);obtain rfl:=k51_openM hM12;have HP12:=Kd.R_seg HX12.out (x4_1 : Int) (zy (by first|(with_reducible assumption)|assumption)) (by have h_ : (x4_1 : Int)<((x3_1.length : Int) : Int):=zy (by first|(with_reducible assumption)|assumption);first|exact h_|(have e_:=(yh HO_3.out).1;omega)|simpa using h_) (seg:=[.int .i64 t215,.string t216,.int .i64 t217,.int .i64 t218,.string t219]) (j:=0) hcl12 hcc12 (show 5≤5 from by decide) (x':=(⟨t215,t216,(⟨t217,t218,t219⟩ : S49)⟩ : S51)) (k51_mkM _ _ _ (⟨t215,t216,(⟨t217,t218,t219⟩ : S49)⟩ : S51) ) (fun _ hk => hk);have hx12_0:=hcc12 0 _ rfl;(try simp only [show (k51).sz=5 from rfl,Nat.mul_one,Nat.add_zero] at hx12_0);have hf12_0:=hfr12 0;(try simp only [show (k51).sz=5 from rfl,Nat.mul_one,Nat.add_zero] at hf12_0);have hx12_1:=hcc12 1 _ rfl;(try simp only [show (k51).sz=5 from rfl,Nat.mul_one,Nat.add_zero] at hx12_1);have hf12_1:=hfr12 1;(try simp only [show (k51).sz=5 from rfl,Nat.mul_one,Nat.add_zero] at hf12_1);have hx12_2:=hcc12 2 _ rfl;(try simp only [show (k51).sz=5 from rfl,Nat.mul_one,Nat.add_zero] at hx12_2);have hf12_2:=hfr12 2;(try simp only [show (k51).sz=5 from rfl,Nat.mul_one,Nat.add_zero] at hf12_2);have hx12_3:=hcc12 3 _ rfl;(try simp only [show (k51).sz=5 from rfl,Nat.mul_one,Nat.add_zero] at hx12_3);have hf12_3:=hfr12 3;(try simp only [show (k51).sz=5 from rfl,Nat.mul_one,Nat.add_zero] at hf12_3);have hx12_4:=hcc12 4 _ rfl;(try simp only [show (k51).sz=5 from rfl,Nat.mul_one,Nat.add_zero] at hx12_4);have hf12_4:=hfr12 4;(try simp only [show (k51).sz=5 from rfl,Nat.mul_one,Nat.add_zero] at hf12_4);clear hcl12 hcc12 hfr12 hM12)|((with_reducible refine gate_store (t:=51) (p:=21) rfl ?_);refine store_event (t:=51) (p:=21) (v:=?vo_w13) (w1:=(((((w11.setCell ⟨go10,(x4_1 : Int).toNat * 5,none⟩ (.int .i64 t215)).setCell ⟨go10,(x4_1 : Int).toNat * 5 + 1,none⟩ (.string t216)).setCell ⟨go10,(x4_1 : Int).toNat * 5 + 2,none⟩ (.int .i64 t217)).setCell ⟨go10,(x4_1 : Int).toNat * 5 + 3,none⟩ (.int .i64 t218)).setCell ⟨go10,(x4_1 : Int).toNat * 5 + 4,none⟩ (.string t219))) ?hg ?ho ?hn ?hr ?_;(case ho => rfl);(case hg => rfl);(case hn => rfl);(case hr => first|(go_simp;done)|(go_simp;rfl));intro w13 hw;have hg : w11.grownBy w13 (some go10):=(by rw [hw];exact HP12.2);have hp_ : Kd.R k51 51 w13 w.heap.size (fun _ => True) (.slice (some ⟨go10,0,none⟩) x3_1.length co10) y220:=(by rw [hw,Ny220.out];exact HP12.1);clear HP12;replace HO_3:=zh (hp_);replace HB:=zh ((by rw [hw];exact zd (zd (zd (zd (zd (HB.out) GB10.out) GB10.out) GB10.out) GB10.out) GB10.out : Below w.heap.size w w13));clear hg hw hp_))
        go_roundg k1
        case measure => have:=HK1.out;omega
        case rel => exact ⟨(y220),(wrap64 (x4_1 + 1)),(by first|rfl|(simp;done)|(simp [*];done)),H',⟨by have:=HK1.out;omega⟩,⟨by (with_reducible repeat (first|apply zm|apply zn|apply zo));exact HO_3.out⟩,⟨by repeat (with_reducible first|exact HB.out|apply za|apply zb|apply zc)⟩⟩
       rw [if_neg c9] at H;exact absurd H (by simp)
      rw [if_neg c7] at H;exact absurd H (by simp)
     rw [if_neg c6] at H;have c6b0 : decide (x4_1<(l0.length : Int))=false:=decide_eq_false c6;clear c6;obtain rfl:=zU H
     go_wp2
     go_ret
     exact ⟨_,by first|rfl|(simp [yt,yu] <;> rfl)|(simp [*,yt,yu] <;> rfl),by (with_reducible repeat (first|apply zm|apply zn|apply zo));exact HO_3.out,by repeat (with_reducible first|exact HB.out|apply za|apply zb|apply zc)⟩
  rw [if_neg c3] at H;exact absurd H (by simp)
 rw [if_neg c2] at H;exact absurd H (by simp)

end Go.Proofs.YthjgfjlogilleaaGreatDoor.Q
end

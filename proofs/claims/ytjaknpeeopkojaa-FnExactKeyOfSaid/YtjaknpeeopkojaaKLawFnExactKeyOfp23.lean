/- Texts of this claim, merged by a program of this session. -/
import Derived.Test.YtjaknpeeopkojaaKLawFnExactKeyOfp22
section
namespace Go.Proofs.Ytjaknpeeopkojaa.Q
open Go.RowKit Go.Proofs.YtjaknpeeopkojaaW.PrintWords Go.Proofs.YtjaknpeeopkojaaW.PrintLast Go.Proofs.YtjaknpeeopkojaaW.PrintMore
attribute [local go_sem] max2_int min2_int max_two min_two max_three min_three max_four min_four max2_str min2_str str_geq str_gtr str_leq   -- for this text's walks alone
set_option linter.unusedVariables false
set_option linter.unusedSimpArgs false

mutual
def F0.j0 : Nat→Int→List (S27)→Bool→Option (Bool)
 | 0,_,_,_ => none
 | k + 1,x1,x5,x78 => if x78=true then (some false) else (F0.l0 k x1 x5 0)
def F0.l0 : Nat→Int→List (S27)→Int→Option (Bool)
 | 0,_,_,_ => none
 | k + 1,x1,x5,x7 => if x7<(x5.length : Int) then (if 0≤x7 then ((F0.f k ((rd_T27 x5 x7).f0) ((rd_T27 x5 x7).f1) ((rd_T27 x5 x7).f2) (wrap64 (x1 - 1))).bind fun t152 => (if t152=true then (F0.l0 k x1 x5 (wrap64 (x7 + 1))) else (some false))) else (none)) else (some true)
def F0.j2 : Nat→Int→List (S54)→Bool→Option (Bool)
 | 0,_,_,_ => none
 | k + 1,x1,x8,x117 => if x117=true then (some false) else (F0.l1 k x1 x8 0)
def F0.l1 : Nat→Int→List (S54)→Int→Option (Bool)
 | 0,_,_,_ => none
 | k + 1,x1,x8,x10 => if x10<(x8.length : Int) then (if 0≤x10 then ((Fp.f k ((rd_T54 x8 x10).f0)).bind fun t158 => (if t158=true then (if x10 > 0 then (if 0≤(wrap64 (x10 - 1)) then (if (wrap64 (x10 - 1))<(x8.length : Int) then (if ((Op.bytesLess (((rd_T54 x8 (wrap64 (x10 - 1))).f0).toList) (((rd_T54 x8 x10).f0).toList))=true) then ((F0.f k ((rd_T54 x8 x10).f1.f0) ((rd_T54 x8 x10).f1.f1) ((rd_T54 x8 x10).f1.f2) (wrap64 (x1 - 1))).bind fun t162 => (if t162=true then (F0.l1 k x1 x8 (wrap64 (x10 + 1))) else (some false))) else (some false)) else (none)) else (none)) else ((F0.f k ((rd_T54 x8 x10).f1.f0) ((rd_T54 x8 x10).f1.f1) ((rd_T54 x8 x10).f1.f2) (wrap64 (x1 - 1))).bind fun t164 => (if t164=true then (F0.l1 k x1 x8 (wrap64 (x10 + 1))) else (some false)))) else (some false))) else (none)) else (some true)
def F0.f : Nat→Int→Int→ByteArray→Int→Option (Bool)
 | 0,_,_,_,_ => none
 | k + 1,a0_0,a0_1,a0_2,a1 => if a0_0=0 then (if a0_1=0 then (some (a0_2.toList == ([] : List UInt8))) else (some false)) else (if a0_0=1 then ((F02.f a0_1 0 1).bind fun t145 => (if t145=true then (some (a0_2.toList == ([] : List UInt8))) else (some false))) else (if a0_0=2 then ((F02.f a0_1 (-1000000000000) 1000000000000).bind fun t146 => (if t146=true then (some (a0_2.toList == ([] : List UInt8))) else (some false))) else (if a0_0=3 then (if a0_1=0 then (some (decide ((a0_2.size : Int)≤300))) else (some false)) else (if a0_0=4 then ((Fd.f k a0_2).bind fun bt147 => (if a0_1=0 then (if bt147.2=true then (if (a0_2.size : Int) > 300 then (F0.j0 k a1 bt147.1 true) else (F0.j0 k a1 bt147.1 (a1 == 0))) else (F0.j0 k a1 bt147.1 true)) else (F0.j0 k a1 bt147.1 true))) else (if a0_0=5 then ((Fc.f k a0_2).bind fun bt153 => (if a0_1=0 then (if bt153.2=true then (if (a0_2.size : Int) > 300 then (F0.j2 k a1 bt153.1 true) else (F0.j2 k a1 bt153.1 (a1 == 0))) else (F0.j2 k a1 bt153.1 true)) else (F0.j2 k a1 bt153.1 true))) else (some false))))))
end
theorem F0.mono_l : ∀ k,(∀ y0 y1 y2 y3,LeO (F0.f k y0 y1 y2 y3) (F0.f (k + 1) y0 y1 y2 y3))∧(∀ y0 y1 y2,LeO (F0.j0 k y0 y1 y2) (F0.j0 (k + 1) y0 y1 y2))∧(∀ y0 y1 y2,LeO (F0.l0 k y0 y1 y2) (F0.l0 (k + 1) y0 y1 y2))∧(∀ y0 y1 y2,LeO (F0.j2 k y0 y1 y2) (F0.j2 (k + 1) y0 y1 y2))∧(∀ y0 y1 y2,LeO (F0.l1 k y0 y1 y2) (F0.l1 (k + 1) y0 y1 y2))
 | 0 => ⟨fun _ _ _ _ r h => by simp [F0.f] at h,fun _ _ _ r h => by simp [F0.j0] at h,fun _ _ _ r h => by simp [F0.l0] at h,fun _ _ _ r h => by simp [F0.j2] at h,fun _ _ _ r h => by simp [F0.l1] at h⟩
 | k + 1 => by
  obtain ⟨ih0,ih1,ih2,ih3,ih4⟩:=F0.mono_l k;refine ⟨?_,?_,?_,?_,?_⟩
  ·
   intro y0 y1 y2 y3
   unfold F0.f
   repeat' first|(with_reducible first|exact ih0 _ _ _ _|exact ih1 _ _ _|exact ih2 _ _ _|exact ih3 _ _ _|exact ih4 _ _ _|exact Fp.mono _ _|exact Fc.mono _ _|exact Fd.mono _ _|exact zQ _|exact zN _|refine zP ?_ ?_|refine zO ?_ (fun _ => ?_))|refine zP ?_ ?_|refine zO ?_ (fun _ => ?_)
  ·
   intro y0 y1 y2
   unfold F0.j0
   repeat' first|(with_reducible first|exact ih0 _ _ _ _|exact ih1 _ _ _|exact ih2 _ _ _|exact ih3 _ _ _|exact ih4 _ _ _|exact Fp.mono _ _|exact Fc.mono _ _|exact Fd.mono _ _|exact zQ _|exact zN _|refine zP ?_ ?_|refine zO ?_ (fun _ => ?_))|refine zP ?_ ?_|refine zO ?_ (fun _ => ?_)
  ·
   intro y0 y1 y2
   unfold F0.l0
   repeat' first|(with_reducible first|exact ih0 _ _ _ _|exact ih1 _ _ _|exact ih2 _ _ _|exact ih3 _ _ _|exact ih4 _ _ _|exact Fp.mono _ _|exact Fc.mono _ _|exact Fd.mono _ _|exact zQ _|exact zN _|refine zP ?_ ?_|refine zO ?_ (fun _ => ?_))|refine zP ?_ ?_|refine zO ?_ (fun _ => ?_)
  ·
   intro y0 y1 y2
   unfold F0.j2
   repeat' first|(with_reducible first|exact ih0 _ _ _ _|exact ih1 _ _ _|exact ih2 _ _ _|exact ih3 _ _ _|exact ih4 _ _ _|exact Fp.mono _ _|exact Fc.mono _ _|exact Fd.mono _ _|exact zQ _|exact zN _|refine zP ?_ ?_|refine zO ?_ (fun _ => ?_))|refine zP ?_ ?_|refine zO ?_ (fun _ => ?_)
  intro y0 y1 y2;unfold F0.l1
  repeat' first|(with_reducible first|exact ih0 _ _ _ _|exact ih1 _ _ _|exact ih2 _ _ _|exact ih3 _ _ _|exact ih4 _ _ _|exact Fp.mono _ _|exact Fc.mono _ _|exact Fd.mono _ _|exact zQ _|exact zN _|refine zP ?_ ?_|refine zO ?_ (fun _ => ?_))|refine zP ?_ ?_|refine zO ?_ (fun _ => ?_)
theorem F0.mono : ∀ a0 a1 a2 a3 k,LeO (F0.f k a0 a1 a2 a3) (F0.f (k + 1) a0 a1 a2 a3):=by
 intro a0 a1 a2 a3 k;obtain ⟨ih0,ih1,ih2,ih3,ih4⟩:=F0.mono_l k;exact ih0 a0 a1 a2 a3
def F0.T27 : Bool×List (List Nat×List Nat):=(true,[([],[]),([],[]),([0,1],[0,1]),([2],[2]),([3],[3]),([4],[4]),([5],[5]),([6,5],[6]),([7],[7]),([8,7],[7,8]),([9,7,7],[7,9]),([10],[10]),([10],[10]),([12,10],[10,12]),([11,13,10],[10,11,13]),([14,10],[10,14]),([15,10],[10,15]),([10],[10]),([10],[10]),([17,18,10],[10,17,18]),([19,10],[10,19]),([20,10],[10,20]),([16,21,10],[10,16,21]),([10,22,7],[7,10,22]),([7,23],[7,23]),([24,10],[24]),([25],[25]),([25],[25]),([26,27,25],[25,26,27]),([28,25],[25,28]),([29,25],[25,29]),([25],[25]),([31,25],[25,31]),([30,32,25,25],[25,30,32]),([33,25],[25,33]),([25,34],[25,34])])
def F0.B27 : List Nat:=[0,0,3,7,15,31,63,127,255,511,1023,2047,2047,6143,16383,32767,65535,2047,2047,395263,919551,1968127,4194303,8388607,16777215,33554431,67108863,67108863,268435455,536870911,1073741823,67108863,2214592511,8589934591,17179869183,34359738367]
theorem F0.tab27 : rtab .any (opsOf Try.f41 27)=F0.T27:=by kernel_rfl
theorem F0.bits27 : waitsOk F0.T27.2 F0.B27=true:=by kernel_rfl
set_option maxHeartbeats 8000000 in
set_option maxRecDepth 100000 in
theorem F0.calls (k : Nat) : ∀ (a0_0 : Int) (a0_1 : Int) (a0_2 : ByteArray) (a1 : Int) (r : Bool) (w : World) (h : F0.f k a0_0 a0_1 a0_2 a1=some r),
  Calls Try.prog 41 #[.agg #[.int .i64 a0_0,.int .i64 a0_1,.string a0_2],.int .i64 a1] w fun e w' => e = .returned (.bool r)∧Below w.heap.size w w':=by
 induction k using Nat.strongRecOn with
 | _ k ih =>
 intro a0_0 a0_1 a0_2 a1 r w h
 cases k with
 | zero => exact absurd h (by simp [F0.f])
 | succ k =>
 simp only [F0.f] at h;have hu27:=Try.underlying27;have HB:=zh (Below.refl w.heap.size w);have H : (if a0_0=0 then (if a0_1=0 then (some (a0_2.toList == ([] : List UInt8))) else (some false)) else (if a0_0=1 then ((F02.f a0_1 0 1).bind fun t145 => (if t145=true then (some (a0_2.toList == ([] : List UInt8))) else (some false))) else (if a0_0=2 then ((F02.f a0_1 (-1000000000000) 1000000000000).bind fun t146 => (if t146=true then (some (a0_2.toList == ([] : List UInt8))) else (some false))) else (if a0_0=3 then (if a0_1=0 then (some (decide ((a0_2.size : Int)≤300))) else (some false)) else (if a0_0=4 then ((Fd.f k a0_2).bind fun bt147 => (if a0_1=0 then (if bt147.2=true then (if (a0_2.size : Int) > 300 then (F0.j0 k a1 bt147.1 true) else (F0.j0 k a1 bt147.1 (a1 == 0))) else (F0.j0 k a1 bt147.1 true)) else (F0.j0 k a1 bt147.1 true))) else (if a0_0=5 then ((Fc.f k a0_2).bind fun bt153 => (if a0_1=0 then (if bt153.2=true then (if (a0_2.size : Int) > 300 then (F0.j2 k a1 bt153.1 true) else (F0.j2 k a1 bt153.1 (a1 == 0))) else (F0.j2 k a1 bt153.1 true)) else (F0.j2 k a1 bt153.1 true))) else (some false)))))))=some r:=h;clear h
 by_cases c3 : a0_0=0
 ·
  rw [if_pos c3] at H
  have c3b0 : (a0_0 == 0)=true:=ya.mpr c3;have c3b1 : (a0_0 != 0)=false:=zX.mpr c3;clear c3
  by_cases c4 : a0_1=0
  ·
   rw [if_pos c4] at H
   have c4b0 : (a0_1 == 0)=true:=ya.mpr c4;have c4b1 : (a0_1 != 0)=false:=zX.mpr c4;clear c4;obtain rfl:=zU H
   go_enter Try.func41,Try.ntmps41
   go_wp2_with (first|((with_reducible refine zK (N:=2) rfl ?_);(try (refine yz (by rfl) ?_;dsimp only));refine zI ?hg (N:=2) ?hd (cs:=#[.int .i64 a0_0,.int .i64 a0_1,.string a0_2]) (t:=27) ?hr ?_;(case hd => rfl);(case hg => rfl);(case hr => first|(go_simp;done)|(go_simp;rfl));intro gb144 hg w5 hbox hb;have BK144:=zh (hbox);have GW144:=zh ((by rw [hg];exact (zB (by repeat (with_reducible first|exact HB.out|apply za|apply zb|apply zc))) : w.heap.size≤gb144));have GE144:=zh ((by rw [hg];exact (zB (by repeat (with_reducible first|exact HB.out|apply za|apply zb|apply zc))) : w.heap.size≤gb144));replace HB:=zh (zC (by repeat (with_reducible first|exact HB.out|apply za|apply zb|apply zc)) hb);clear hb hbox hg;have hcz6_0 : w5.cell? ⟨gb144,0,none⟩=some (.int .i64 a0_0):=(zz BK144.out 0).trans rfl;have hcz6_1 : w5.cell? ⟨gb144,1,none⟩=some (.int .i64 a0_1):=(zz BK144.out 1).trans rfl;have hcz6_2 : w5.cell? ⟨gb144,2,none⟩=some (.string a0_2):=(zz BK144.out 2).trans rfl;have hfz6_0:=zA BK144.out 0;have hfz6_1:=zA BK144.out 1;have hfz6_2:=zA BK144.out 2))
   go_ret
   exact ⟨by first|rfl|(simp [yt,yu] <;> rfl)|(simp [*,yt,yu] <;> rfl),by repeat (with_reducible first|exact HB.out|apply za|apply zb|apply zc|refine zd ?_ GE144.out)⟩
  rw [if_neg c4] at H;have c4b0 : (a0_1 == 0)=false:=zY.mpr c4;have c4b1 : (a0_1 != 0)=true:=zZ.mpr c4;obtain rfl:=zU H
  go_enter Try.func41,Try.ntmps41
  go_wp2_with (first|((with_reducible refine zK (N:=2) rfl ?_);(try (refine yz (by rfl) ?_;dsimp only));refine zI ?hg (N:=2) ?hd (cs:=#[.int .i64 a0_0,.int .i64 a0_1,.string a0_2]) (t:=27) ?hr ?_;(case hd => rfl);(case hg => rfl);(case hr => first|(go_simp;done)|(go_simp;rfl));intro gb144 hg w7 hbox hb;have BK144:=zh (hbox);have GW144:=zh ((by rw [hg];exact (zB (by repeat (with_reducible first|exact HB.out|apply za|apply zb|apply zc))) : w.heap.size≤gb144));have GE144:=zh ((by rw [hg];exact (zB (by repeat (with_reducible first|exact HB.out|apply za|apply zb|apply zc))) : w.heap.size≤gb144));replace HB:=zh (zC (by repeat (with_reducible first|exact HB.out|apply za|apply zb|apply zc)) hb);clear hb hbox hg;have hcz8_0 : w7.cell? ⟨gb144,0,none⟩=some (.int .i64 a0_0):=(zz BK144.out 0).trans rfl;have hcz8_1 : w7.cell? ⟨gb144,1,none⟩=some (.int .i64 a0_1):=(zz BK144.out 1).trans rfl;have hcz8_2 : w7.cell? ⟨gb144,2,none⟩=some (.string a0_2):=(zz BK144.out 2).trans rfl;have hfz8_0:=zA BK144.out 0;have hfz8_1:=zA BK144.out 1;have hfz8_2:=zA BK144.out 2))
  go_ret
  exact ⟨by first|rfl|(simp [yt,yu] <;> rfl)|(simp [*,yt,yu] <;> rfl),by repeat (with_reducible first|exact HB.out|apply za|apply zb|apply zc|refine zd ?_ GE144.out)⟩
 rw [if_neg c3] at H;have c3b0 : (a0_0 == 0)=false:=zY.mpr c3;have c3b1 : (a0_0 != 0)=true:=zZ.mpr c3
 by_cases c9 : a0_0=1
 ·
  rw [if_pos c9] at H
  have c9b0 : (a0_0 == 1)=true:=ya.mpr c9;have c9b1 : (a0_0 != 1)=false:=zX.mpr c9;clear c9;replace H:=zT.mp H;obtain ⟨t145,A100,H⟩:=H;replace H : (if t145=true then (some (a0_2.toList == ([] : List UInt8))) else (some false))=some r:=H;have A10:=zh A100;clear A100
  by_cases c11 : t145=true
  ·
   subst c11
   have H1 : (some (a0_2.toList == ([] : List UInt8)))=some r:=by rw [if_pos rfl] at H;exact H
   clear H;have H:=H1;clear H1;obtain rfl:=zU H
   go_enter Try.func41,Try.ntmps41
   go_wp2_with (first|((with_reducible refine zK (N:=2) rfl ?_);(try (refine yz (by rfl) ?_;dsimp only));refine zI ?hg (N:=2) ?hd (cs:=#[.int .i64 a0_0,.int .i64 a0_1,.string a0_2]) (t:=27) ?hr ?_;(case hd => rfl);(case hg => rfl);(case hr => first|(go_simp;done)|(go_simp;rfl));intro gb144 hg w12 hbox hb;have BK144:=zh (hbox);have GW144:=zh ((by rw [hg];exact (zB (by repeat (with_reducible first|exact HB.out|apply za|apply zb|apply zc))) : w.heap.size≤gb144));have GE144:=zh ((by rw [hg];exact (zB (by repeat (with_reducible first|exact HB.out|apply za|apply zb|apply zc))) : w.heap.size≤gb144));replace HB:=zh (zC (by repeat (with_reducible first|exact HB.out|apply za|apply zb|apply zc)) hb);clear hb hbox hg;have hcz13_0 : w12.cell? ⟨gb144,0,none⟩=some (.int .i64 a0_0):=(zz BK144.out 0).trans rfl;have hcz13_1 : w12.cell? ⟨gb144,1,none⟩=some (.int .i64 a0_1):=(zz BK144.out 1).trans rfl;have hcz13_2 : w12.cell? ⟨gb144,2,none⟩=some (.string a0_2):=(zz BK144.out 2).trans rfl;have hfz13_0:=zA BK144.out 0;have hfz13_1:=zA BK144.out 1;have hfz13_2:=zA BK144.out 2)|((with_reducible refine zJ (f:=64) rfl ?_);refine yj (some 27) rfl rfl Try.func64 (by kernel_rfl) rfl #[.int .i64 a0_1,.int .i64 0,.int .i64 1] rfl (by (try simp only [zt,zu,zv]);first|done|rfl|(simp only [zw,zx];rfl)|(simp only [yr,ys,zV,zW];rfl)) ?_;(with_reducible refine (F02.calls  a0_1 0 1 true _ A10.out).mono ?_);rintro e w' ⟨rfl,⟨nd,rfl⟩⟩;refine ⟨_,rfl,?_⟩))
   go_ret
   exact ⟨by first|rfl|(simp [yt,yu] <;> rfl)|(simp [*,yt,yu] <;> rfl),by repeat (with_reducible first|exact HB.out|apply za|apply zb|apply zc|refine zd ?_ GE144.out)⟩
  replace c11:=yb.mpr c11;subst c11;have H1 : (some false)=some r:=by rw [if_neg (show ¬ (false=true) by decide)] at H;exact H
  clear H;have H:=H1;clear H1;obtain rfl:=zU H
  go_enter Try.func41,Try.ntmps41
  go_wp2_with (first|((with_reducible refine zK (N:=2) rfl ?_);(try (refine yz (by rfl) ?_;dsimp only));refine zI ?hg (N:=2) ?hd (cs:=#[.int .i64 a0_0,.int .i64 a0_1,.string a0_2]) (t:=27) ?hr ?_;(case hd => rfl);(case hg => rfl);(case hr => first|(go_simp;done)|(go_simp;rfl));intro gb144 hg w14 hbox hb;have BK144:=zh (hbox);have GW144:=zh ((by rw [hg];exact (zB (by repeat (with_reducible first|exact HB.out|apply za|apply zb|apply zc))) : w.heap.size≤gb144));have GE144:=zh ((by rw [hg];exact (zB (by repeat (with_reducible first|exact HB.out|apply za|apply zb|apply zc))) : w.heap.size≤gb144));replace HB:=zh (zC (by repeat (with_reducible first|exact HB.out|apply za|apply zb|apply zc)) hb);clear hb hbox hg;have hcz15_0 : w14.cell? ⟨gb144,0,none⟩=some (.int .i64 a0_0):=(zz BK144.out 0).trans rfl;have hcz15_1 : w14.cell? ⟨gb144,1,none⟩=some (.int .i64 a0_1):=(zz BK144.out 1).trans rfl;have hcz15_2 : w14.cell? ⟨gb144,2,none⟩=some (.string a0_2):=(zz BK144.out 2).trans rfl;have hfz15_0:=zA BK144.out 0;have hfz15_1:=zA BK144.out 1;have hfz15_2:=zA BK144.out 2)|((with_reducible refine zJ (f:=64) rfl ?_);refine yj (some 27) rfl rfl Try.func64 (by kernel_rfl) rfl #[.int .i64 a0_1,.int .i64 0,.int .i64 1] rfl (by (try simp only [zt,zu,zv]);first|done|rfl|(simp only [zw,zx];rfl)|(simp only [yr,ys,zV,zW];rfl)) ?_;(with_reducible refine (F02.calls  a0_1 0 1 false _ A10.out).mono ?_);rintro e w' ⟨rfl,⟨nd,rfl⟩⟩;refine ⟨_,rfl,?_⟩))
  go_ret
  exact ⟨by first|rfl|(simp [yt,yu] <;> rfl)|(simp [*,yt,yu] <;> rfl),by repeat (with_reducible first|exact HB.out|apply za|apply zb|apply zc|refine zd ?_ GE144.out)⟩
 rw [if_neg c9] at H;have c9b0 : (a0_0 == 1)=false:=zY.mpr c9;have c9b1 : (a0_0 != 1)=true:=zZ.mpr c9
 by_cases c16 : a0_0=2
 ·
  rw [if_pos c16] at H
  have c16b0 : (a0_0 == 2)=true:=ya.mpr c16;have c16b1 : (a0_0 != 2)=false:=zX.mpr c16;clear c16;replace H:=zT.mp H;obtain ⟨t146,A170,H⟩:=H;replace H : (if t146=true then (some (a0_2.toList == ([] : List UInt8))) else (some false))=some r:=H;have A17:=zh A170;clear A170
  by_cases c18 : t146=true
  ·
   subst c18
   have H1 : (some (a0_2.toList == ([] : List UInt8)))=some r:=by rw [if_pos rfl] at H;exact H
   clear H;have H:=H1;clear H1;obtain rfl:=zU H
   go_enter Try.func41,Try.ntmps41
   go_wp2_with (first|((with_reducible refine zK (N:=2) rfl ?_);(try (refine yz (by rfl) ?_;dsimp only));refine zI ?hg (N:=2) ?hd (cs:=#[.int .i64 a0_0,.int .i64 a0_1,.string a0_2]) (t:=27) ?hr ?_;(case hd => rfl);(case hg => rfl);(case hr => first|(go_simp;done)|(go_simp;rfl));intro gb144 hg w19 hbox hb;have BK144:=zh (hbox);have GW144:=zh ((by rw [hg];exact (zB (by repeat (with_reducible first|exact HB.out|apply za|apply zb|apply zc))) : w.heap.size≤gb144));have GE144:=zh ((by rw [hg];exact (zB (by repeat (with_reducible first|exact HB.out|apply za|apply zb|apply zc))) : w.heap.size≤gb144));replace HB:=zh (zC (by repeat (with_reducible first|exact HB.out|apply za|apply zb|apply zc)) hb);clear hb hbox hg;have hcz20_0 : w19.cell? ⟨gb144,0,none⟩=some (.int .i64 a0_0):=(zz BK144.out 0).trans rfl;have hcz20_1 : w19.cell? ⟨gb144,1,none⟩=some (.int .i64 a0_1):=(zz BK144.out 1).trans rfl;have hcz20_2 : w19.cell? ⟨gb144,2,none⟩=some (.string a0_2):=(zz BK144.out 2).trans rfl;have hfz20_0:=zA BK144.out 0;have hfz20_1:=zA BK144.out 1;have hfz20_2:=zA BK144.out 2)|((with_reducible refine zJ (f:=64) rfl ?_);refine yj (some 37) rfl rfl Try.func64 (by kernel_rfl) rfl #[.int .i64 a0_1,.int .i64 (-1000000000000),.int .i64 1000000000000] rfl (by (try simp only [zt,zu,zv]);first|done|rfl|(simp only [zw,zx];rfl)|(simp only [yr,ys,zV,zW];rfl)) ?_;(with_reducible refine (F02.calls  a0_1 (-1000000000000) 1000000000000 true _ A17.out).mono ?_);rintro e w' ⟨rfl,⟨nd,rfl⟩⟩;refine ⟨_,rfl,?_⟩))
   go_ret
   exact ⟨by first|rfl|(simp [yt,yu] <;> rfl)|(simp [*,yt,yu] <;> rfl),by repeat (with_reducible first|exact HB.out|apply za|apply zb|apply zc|refine zd ?_ GE144.out)⟩
  replace c18:=yb.mpr c18;subst c18;have H1 : (some false)=some r:=by rw [if_neg (show ¬ (false=true) by decide)] at H;exact H
  clear H;have H:=H1;clear H1;obtain rfl:=zU H
  go_enter Try.func41,Try.ntmps41
  go_wp2_with (first|((with_reducible refine zK (N:=2) rfl ?_);(try (refine yz (by rfl) ?_;dsimp only));refine zI ?hg (N:=2) ?hd (cs:=#[.int .i64 a0_0,.int .i64 a0_1,.string a0_2]) (t:=27) ?hr ?_;(case hd => rfl);(case hg => rfl);(case hr => first|(go_simp;done)|(go_simp;rfl));intro gb144 hg w21 hbox hb;have BK144:=zh (hbox);have GW144:=zh ((by rw [hg];exact (zB (by repeat (with_reducible first|exact HB.out|apply za|apply zb|apply zc))) : w.heap.size≤gb144));have GE144:=zh ((by rw [hg];exact (zB (by repeat (with_reducible first|exact HB.out|apply za|apply zb|apply zc))) : w.heap.size≤gb144));replace HB:=zh (zC (by repeat (with_reducible first|exact HB.out|apply za|apply zb|apply zc)) hb);clear hb hbox hg;have hcz22_0 : w21.cell? ⟨gb144,0,none⟩=some (.int .i64 a0_0):=(zz BK144.out 0).trans rfl;have hcz22_1 : w21.cell? ⟨gb144,1,none⟩=some (.int .i64 a0_1):=(zz BK144.out 1).trans rfl;have hcz22_2 : w21.cell? ⟨gb144,2,none⟩=some (.string a0_2):=(zz BK144.out 2).trans rfl;have hfz22_0:=zA BK144.out 0;have hfz22_1:=zA BK144.out 1;have hfz22_2:=zA BK144.out 2)|((with_reducible refine zJ (f:=64) rfl ?_);refine yj (some 37) rfl rfl Try.func64 (by kernel_rfl) rfl #[.int .i64 a0_1,.int .i64 (-1000000000000),.int .i64 1000000000000] rfl (by (try simp only [zt,zu,zv]);first|done|rfl|(simp only [zw,zx];rfl)|(simp only [yr,ys,zV,zW];rfl)) ?_;(with_reducible refine (F02.calls  a0_1 (-1000000000000) 1000000000000 false _ A17.out).mono ?_);rintro e w' ⟨rfl,⟨nd,rfl⟩⟩;refine ⟨_,rfl,?_⟩))
  go_ret
  exact ⟨by first|rfl|(simp [yt,yu] <;> rfl)|(simp [*,yt,yu] <;> rfl),by repeat (with_reducible first|exact HB.out|apply za|apply zb|apply zc|refine zd ?_ GE144.out)⟩
 rw [if_neg c16] at H;have c16b0 : (a0_0 == 2)=false:=zY.mpr c16;have c16b1 : (a0_0 != 2)=true:=zZ.mpr c16
 by_cases c23 : a0_0=3
 ·
  rw [if_pos c23] at H
  have c23b0 : (a0_0 == 3)=true:=ya.mpr c23;have c23b1 : (a0_0 != 3)=false:=zX.mpr c23;clear c23
  by_cases c24 : a0_1=0
  ·
   rw [if_pos c24] at H
   have c24b0 : (a0_1 == 0)=true:=ya.mpr c24;have c24b1 : (a0_1 != 0)=false:=zX.mpr c24;clear c24;obtain rfl:=zU H
   go_enter Try.func41,Try.ntmps41
   go_wp2_with (first|((with_reducible refine zK (N:=2) rfl ?_);(try (refine yz (by rfl) ?_;dsimp only));refine zI ?hg (N:=2) ?hd (cs:=#[.int .i64 a0_0,.int .i64 a0_1,.string a0_2]) (t:=27) ?hr ?_;(case hd => rfl);(case hg => rfl);(case hr => first|(go_simp;done)|(go_simp;rfl));intro gb144 hg w25 hbox hb;have BK144:=zh (hbox);have GW144:=zh ((by rw [hg];exact (zB (by repeat (with_reducible first|exact HB.out|apply za|apply zb|apply zc))) : w.heap.size≤gb144));have GE144:=zh ((by rw [hg];exact (zB (by repeat (with_reducible first|exact HB.out|apply za|apply zb|apply zc))) : w.heap.size≤gb144));replace HB:=zh (zC (by repeat (with_reducible first|exact HB.out|apply za|apply zb|apply zc)) hb);clear hb hbox hg;have hcz26_0 : w25.cell? ⟨gb144,0,none⟩=some (.int .i64 a0_0):=(zz BK144.out 0).trans rfl;have hcz26_1 : w25.cell? ⟨gb144,1,none⟩=some (.int .i64 a0_1):=(zz BK144.out 1).trans rfl;have hcz26_2 : w25.cell? ⟨gb144,2,none⟩=some (.string a0_2):=(zz BK144.out 2).trans rfl;have hfz26_0:=zA BK144.out 0;have hfz26_1:=zA BK144.out 1;have hfz26_2:=zA BK144.out 2))
   go_ret
   exact ⟨by first|rfl|(simp [yt,yu] <;> rfl)|(simp [*,yt,yu] <;> rfl),by repeat (with_reducible first|exact HB.out|apply za|apply zb|apply zc|refine zd ?_ GE144.out)⟩
  rw [if_neg c24] at H;have c24b0 : (a0_1 == 0)=false:=zY.mpr c24;have c24b1 : (a0_1 != 0)=true:=zZ.mpr c24;obtain rfl:=zU H
  go_enter Try.func41,Try.ntmps41
  go_wp2_with (first|((with_reducible refine zK (N:=2) rfl ?_);(try (refine yz (by rfl) ?_;dsimp only));refine zI ?hg (N:=2) ?hd (cs:=#[.int .i64 a0_0,.int .i64 a0_1,.string a0_2]) (t:=27) ?hr ?_;(case hd => rfl);(case hg => rfl);(case hr => first|(go_simp;done)|(go_simp;rfl));intro gb144 hg w27 hbox hb;have BK144:=zh (hbox);have GW144:=zh ((by rw [hg];exact (zB (by repeat (with_reducible first|exact HB.out|apply za|apply zb|apply zc))) : w.heap.size≤gb144));have GE144:=zh ((by rw [hg];exact (zB (by repeat (with_reducible first|exact HB.out|apply za|apply zb|apply zc))) : w.heap.size≤gb144));replace HB:=zh (zC (by repeat (with_reducible first|exact HB.out|apply za|apply zb|apply zc)) hb);clear hb hbox hg;have hcz28_0 : w27.cell? ⟨gb144,0,none⟩=some (.int .i64 a0_0):=(zz BK144.out 0).trans rfl;have hcz28_1 : w27.cell? ⟨gb144,1,none⟩=some (.int .i64 a0_1):=(zz BK144.out 1).trans rfl;have hcz28_2 : w27.cell? ⟨gb144,2,none⟩=some (.string a0_2):=(zz BK144.out 2).trans rfl;have hfz28_0:=zA BK144.out 0;have hfz28_1:=zA BK144.out 1;have hfz28_2:=zA BK144.out 2))
  go_ret
  exact ⟨by first|rfl|(simp [yt,yu] <;> rfl)|(simp [*,yt,yu] <;> rfl),by repeat (with_reducible first|exact HB.out|apply za|apply zb|apply zc|refine zd ?_ GE144.out)⟩
 rw [if_neg c23] at H;have c23b0 : (a0_0 == 3)=false:=zY.mpr c23;have c23b1 : (a0_0 != 3)=true:=zZ.mpr c23
 by_cases c29 : a0_0=4
 ·
  rw [if_pos c29] at H
  have c29b0 : (a0_0 == 4)=true:=ya.mpr c29;have c29b1 : (a0_0 != 4)=false:=zX.mpr c29;clear c29;replace H:=zT.mp H;obtain ⟨⟨t147,t148⟩,A300,H⟩:=H;replace H : (if a0_1=0 then (if t148=true then (if (a0_2.size : Int) > 300 then (F0.j0 k a1 t147 true) else (F0.j0 k a1 t147 (a1 == 0))) else (F0.j0 k a1 t147 true)) else (F0.j0 k a1 t147 true))=some r:=H;have A30:=zh A300;clear A300;have HC31:=zh H;clear H
  go_enter Try.func41,Try.ntmps41
  go_upto_region 12 with (first|((with_reducible refine zK (N:=2) rfl ?_);(try (refine yz (by rfl) ?_;dsimp only));refine zI ?hg (N:=2) ?hd (cs:=#[.int .i64 a0_0,.int .i64 a0_1,.string a0_2]) (t:=27) ?hr ?_;(case hd => rfl);(case hg => rfl);(case hr => first|(go_simp;done)|(go_simp;rfl));intro gb144 hg w32 hbox hb;have BK144:=zh (hbox);have GW144:=zh ((by rw [hg];exact (zB (by repeat (with_reducible first|exact HB.out|apply za|apply zb|apply zc))) : w.heap.size≤gb144));have GE144:=zh ((by rw [hg];exact (zB (by repeat (with_reducible first|exact HB.out|apply za|apply zb|apply zc))) : w.heap.size≤gb144));replace HB:=zh (zC (by repeat (with_reducible first|exact HB.out|apply za|apply zb|apply zc)) hb);clear hb hbox hg;have hcz33_0 : w32.cell? ⟨gb144,0,none⟩=some (.int .i64 a0_0):=(zz BK144.out 0).trans rfl;have hcz33_1 : w32.cell? ⟨gb144,1,none⟩=some (.int .i64 a0_1):=(zz BK144.out 1).trans rfl;have hcz33_2 : w32.cell? ⟨gb144,2,none⟩=some (.string a0_2):=(zz BK144.out 2).trans rfl;have hfz33_0:=zA BK144.out 0;have hfz33_1:=zA BK144.out 1;have hfz33_2:=zA BK144.out 2)|((with_reducible refine zJ (f:=65) rfl ?_);refine yj (some 59) rfl rfl Try.func65 (by kernel_rfl) rfl #[.string a0_2] rfl (by (try simp only [zt,zu,zv]);first|done|rfl|(simp only [zw,zx];rfl)|(simp only [yr,ys,zV,zW];rfl)) ?_;(with_reducible refine (Fd.calls k  a0_2 t147 t148 _ A30.out).mono ?_);rintro e w34 ⟨v149,rfl,ho0,hb⟩;refine ⟨_,rfl,?_⟩;have HO150:=zh (yy (Kd.R_newB ho0 (g:=gb144) (o:=.cells #[.int .i64 a0_0,.int .i64 a0_1,.string a0_2] 27 (0,0)) (by (with_reducible repeat (first|refine ze ?_ _|refine zf ?_|refine zg ?_ _));exact BK144.out)) (zB (by repeat (with_reducible first|exact HB.out|apply za|apply zb|apply zc|refine zd ?_ GE144.out))));replace BK144:=zh (zD (g:=gb144) (o:=.cells #[.int .i64 a0_0,.int .i64 a0_1,.string a0_2] 27 (0,0)) (by (with_reducible repeat (first|refine ze ?_ _|refine zf ?_|refine zg ?_ _));exact BK144.out) hb);replace HB:=zh (zC (by repeat (with_reducible first|exact HB.out|apply za|apply zb|apply zc|refine zd ?_ GE144.out)) hb);(try clear hb);(try clear hb2);(try clear hk);(try clear hi);(try clear ho0)))
  (try simp only [Act.put,zi,zj,zk])
  go_cut [78] (fun v78 wc => ∃ (kq : Nat) (x78_30 : Bool),v78 = .bool x78_30∧Aside0 (F0.j0 kq a1 t147 x78_30=some r)∧Aside0 (kq≤k)∧Aside0 (Kd.R k27 27 wc w.heap.size (fun k_ => k_≠gb144) v149 t147)∧Aside0 (wc.heap[gb144]? = some (.cells #[.int .i64 a0_0,.int .i64 a0_1,.string a0_2] 27 (0,0)))∧Aside0 (Below w.heap.size w wc))
  case first =>
   have H:=HC31.out;clear HC31
   by_cases c35 : a0_1=0
   ·
    rw [if_pos c35] at H
    have c35b0 : (a0_1 == 0)=true:=ya.mpr c35;have c35b1 : (a0_1 != 0)=false:=zX.mpr c35;clear c35;(first|rw [c35b0]|(simp only [zG,zH];rw [c35b0])|skip)
    by_cases c36 : t148=true
    ·
     subst c36
     have H1 : (if (a0_2.size : Int) > 300 then (F0.j0 k a1 t147 true) else (F0.j0 k a1 t147 (a1 == 0)))=some r:=by rw [if_pos rfl] at H;exact H
     clear H;have H:=H1;clear H1
     by_cases c37 : (a0_2.size : Int) > 300
     ·
      rw [if_pos c37] at H
      have c37b0 : decide (300<(a0_2.size : Int))=true:=decide_eq_true c37;have c37b1 : decide (300<a0_2.size)=true:=decide_eq_true (by omega);clear c37;have H':=zh H;clear H;have hcz38_0 : w34.cell? ⟨gb144,0,none⟩=some (.int .i64 a0_0):=(zz BK144.out 0).trans rfl;have hcz38_1 : w34.cell? ⟨gb144,1,none⟩=some (.int .i64 a0_1):=(zz BK144.out 1).trans rfl;have hcz38_2 : w34.cell? ⟨gb144,2,none⟩=some (.string a0_2):=(zz BK144.out 2).trans rfl;have hfz38_0:=zA BK144.out 0;have hfz38_1:=zA BK144.out 1;have hfz38_2:=zA BK144.out 2
      go_wp2
      go_meet
      case rel => exact ⟨_,(true),(by first|rfl|(simp;done)|(simp [*];done)),H',⟨by first|omega|exact ye _⟩,⟨by (with_reducible repeat (first|apply zm|apply zn|apply zo));exact zM HO150.out (fun _ hk => hk.2)⟩,⟨by (with_reducible repeat (first|refine ze ?_ _|refine zf ?_|refine zg ?_ _));exact BK144.out⟩,⟨by repeat (with_reducible first|exact HB.out|apply za|apply zb|apply zc|refine zd ?_ GE144.out)⟩⟩
     rw [if_neg c37] at H;have c37b0 : decide (300<(a0_2.size : Int))=false:=decide_eq_false c37;have c37b1 : decide (300<a0_2.size)=false:=decide_eq_false (by omega);clear c37;have H':=zh H;clear H;have hcz39_0 : w34.cell? ⟨gb144,0,none⟩=some (.int .i64 a0_0):=(zz BK144.out 0).trans rfl;have hcz39_1 : w34.cell? ⟨gb144,1,none⟩=some (.int .i64 a0_1):=(zz BK144.out 1).trans rfl;have hcz39_2 : w34.cell? ⟨gb144,2,none⟩=some (.string a0_2):=(zz BK144.out 2).trans rfl;have hfz39_0:=zA BK144.out 0;have hfz39_1:=zA BK144.out 1;have hfz39_2:=zA BK144.out 2
     go_wp2
     go_meet
     case rel => exact ⟨_,((a1 == 0)),(by first|rfl|(simp;done)|(simp [*];done)),H',⟨by first|omega|exact ye _⟩,⟨by (with_reducible repeat (first|apply zm|apply zn|apply zo));exact zM HO150.out (fun _ hk => hk.2)⟩,⟨by (with_reducible repeat (first|refine ze ?_ _|refine zf ?_|refine zg ?_ _));exact BK144.out⟩,⟨by repeat (with_reducible first|exact HB.out|apply za|apply zb|apply zc|refine zd ?_ GE144.out)⟩⟩
    replace c36:=yb.mpr c36;subst c36;have H1 : (F0.j0 k a1 t147 true)=some r:=by rw [if_neg (show ¬ (false=true) by decide)] at H;exact H
    clear H;have H:=H1;clear H1;have H':=zh H;clear H;have hcz40_0 : w34.cell? ⟨gb144,0,none⟩=some (.int .i64 a0_0):=(zz BK144.out 0).trans rfl;have hcz40_1 : w34.cell? ⟨gb144,1,none⟩=some (.int .i64 a0_1):=(zz BK144.out 1).trans rfl;have hcz40_2 : w34.cell? ⟨gb144,2,none⟩=some (.string a0_2):=(zz BK144.out 2).trans rfl;have hfz40_0:=zA BK144.out 0;have hfz40_1:=zA BK144.out 1;have hfz40_2:=zA BK144.out 2
    go_wp2
    go_meet
    case rel => exact ⟨_,(true),(by first|rfl|(simp;done)|(simp [*];done)),H',⟨by first|omega|exact ye _⟩,⟨by (with_reducible repeat (first|apply zm|apply zn|apply zo));exact zM HO150.out (fun _ hk => hk.2)⟩,⟨by (with_reducible repeat (first|refine ze ?_ _|refine zf ?_|refine zg ?_ _));exact BK144.out⟩,⟨by repeat (with_reducible first|exact HB.out|apply za|apply zb|apply zc|refine zd ?_ GE144.out)⟩⟩
   rw [if_neg c35] at H;have c35b0 : (a0_1 == 0)=false:=zY.mpr c35;have c35b1 : (a0_1 != 0)=true:=zZ.mpr c35;(first|rw [c35b0]|(simp only [zG,zH];rw [c35b0])|skip);have H':=zh H;clear H;have hcz41_0 : w34.cell? ⟨gb144,0,none⟩=some (.int .i64 a0_0):=(zz BK144.out 0).trans rfl;have hcz41_1 : w34.cell? ⟨gb144,1,none⟩=some (.int .i64 a0_1):=(zz BK144.out 1).trans rfl;have hcz41_2 : w34.cell? ⟨gb144,2,none⟩=some (.string a0_2):=(zz BK144.out 2).trans rfl;have hfz41_0:=zA BK144.out 0;have hfz41_1:=zA BK144.out 1;have hfz41_2:=zA BK144.out 2
   go_wp2
   go_meet
   case rel => exact ⟨_,(true),(by first|rfl|(simp;done)|(simp [*];done)),H',⟨by first|omega|exact ye _⟩,⟨by (with_reducible repeat (first|apply zm|apply zn|apply zo));exact zM HO150.out (fun _ hk => hk.2)⟩,⟨by (with_reducible repeat (first|refine ze ?_ _|refine zf ?_|refine zg ?_ _));exact BK144.out⟩,⟨by repeat (with_reducible first|exact HB.out|apply za|apply zb|apply zc|refine zd ?_ GE144.out)⟩⟩
  case rest =>
   clear HC31
   try clear c1
   try clear c2
   try clear p2
   try clear c3
   try clear c3b0
   try clear c3b1
   try clear c4
   try clear c4b0
   try clear c4b1
   try clear c6
   try clear c9
   try clear c9b0
   try clear c9b1
   try clear c11
   try clear c16
   try clear c16b0
   try clear c16b1
   try clear c18
   try clear c23
   try clear c23b0
   try clear c23b1
   try clear c24
   try clear c24b0
   try clear c24b1
   try clear c29
   try clear c29b0
   try clear c29b1
   try clear c35
   try clear c35b0
   try clear c35b1
   try clear c36
   try clear c37
   try clear c37b0
   try clear c37b1
   try clear c41
   try clear hcz13_0
   try clear hcz13_1
   try clear hcz13_2
   try clear hcz15_0
   try clear hcz15_1
   try clear hcz15_2
   try clear hcz20_0
   try clear hcz20_1
   try clear hcz20_2
   try clear hcz22_0
   try clear hcz22_1
   try clear hcz22_2
   try clear hcz26_0
   try clear hcz26_1
   try clear hcz26_2
   try clear hcz28_0
   try clear hcz28_1
   try clear hcz28_2
   try clear hcz33_0
   try clear hcz33_1
   try clear hcz33_2
   try clear hcz38_0
   try clear hcz38_1
   try clear hcz38_2
   try clear hcz39_0
   try clear hcz39_1
   try clear hcz39_2
   try clear hcz40_0
   try clear hcz40_1
   try clear hcz40_2
   try clear hcz41_0
   try clear hcz41_1
   try clear hcz41_2
   try clear hcz6_0
   try clear hcz6_1
   try clear hcz6_2
   try clear hcz8_0
   try clear hcz8_1
   try clear hcz8_2
   try clear hfz13_0
   try clear hfz13_1
   try clear hfz13_2
   try clear hfz15_0
   try clear hfz15_1
   try clear hfz15_2
   try clear hfz20_0
   try clear hfz20_1
   try clear hfz20_2
   try clear hfz22_0
   try clear hfz22_1
   try clear hfz22_2
   try clear hfz26_0
   try clear hfz26_1
   try clear hfz26_2
   try clear hfz28_0
   try clear hfz28_1
   try clear hfz28_2
   try clear hfz33_0
   try clear hfz33_1
   try clear hfz33_2
   try clear hfz38_0
   try clear hfz38_1
   try clear hfz38_2
   try clear hfz39_0
   try clear hfz39_1
   try clear hfz39_2
   try clear hfz40_0
   try clear hfz40_1
   try clear hfz40_2
   try clear hfz41_0
   try clear hfz41_1
   try clear hfz41_2
   try clear hfz6_0
   try clear hfz6_1
   try clear hfz6_2
   try clear hfz8_0
   try clear hfz8_1
   try clear hfz8_2
   obtain ⟨kq,x78_30,rfl,HA,HJ30,HO_5,BK144,HB⟩:=hcut
   cases kq with
   | zero => exact absurd HA.out (by simp [F0.j0])
   | succ kj30 =>
    have H:=HA.out;clear HA;simp only [F0.j0] at H
    by_cases c42 : x78_30=true
    ·
     subst c42
     have H1 : (some false)=some r:=by rw [if_pos rfl] at H;exact H
     clear H;have H:=H1;clear H1;obtain rfl:=zU H
     go_wp2
     go_ret
     exact ⟨by first|rfl|(simp [yt,yu] <;> rfl)|(simp [*,yt,yu] <;> rfl),by repeat (with_reducible first|exact HB.out|apply za|apply zb|apply zc|refine zd ?_ GE144.out)⟩
    replace c42:=yb.mpr c42;subst c42;have H1 : (F0.l0 kj30 a1 t147 0)=some r:=by rw [if_neg (show ¬ (false=true) by decide)] at H;exact H
    clear H;have H:=H1;clear H1;have H':=zh H;clear H
    go_wp2
    go_loopg [7] kj30 (fun kq v7 w' => ∃ (x7_2 : Int),v7 = .int .i64 x7_2∧Aside0 (F0.l0 kq a1 t147 x7_2=some r)∧Aside0 (kq≤kj30)∧Aside0 (Kd.R k27 27 w' w.heap.size (fun k_ => k_≠gb144) v149 t147)∧Aside0 (w'.heap[gb144]? = some (.cells #[.int .i64 a0_0,.int .i64 a0_1,.string a0_2] 27 (0,0)))∧Aside0 (Below w.heap.size w w'))
    case atStart => exact ⟨(0),(by first|rfl|(simp;done)|(simp [*];done)),H',⟨ye _⟩,⟨by (with_reducible repeat (first|apply zm|apply zn|apply zo));exact HO_5.out⟩,⟨by (with_reducible repeat (first|refine ze ?_ _|refine zf ?_|refine zg ?_ _));exact BK144.out⟩,⟨by repeat (with_reducible first|exact HB.out|apply za|apply zb|apply zc|refine zd ?_ GE144.out)⟩⟩
    case round =>
     clear H'
     try clear c1
     try clear c2
     try clear p2
     try clear c3
     try clear c3b0
     try clear c3b1
     try clear c4
     try clear c4b0
     try clear c4b1
     try clear c6
     try clear c9
     try clear c9b0
     try clear c9b1
     try clear c11
     try clear c16
     try clear c16b0
     try clear c16b1
     try clear c18
     try clear c23
     try clear c23b0
     try clear c23b1
     try clear c24
     try clear c24b0
     try clear c24b1
     try clear c29
     try clear c29b0
     try clear c29b1
     try clear c35
     try clear c35b0
     try clear c35b1
     try clear c36
     try clear c37
     try clear c37b0
     try clear c37b1
     try clear c41
     try clear c42
     try clear hcz13_0
     try clear hcz13_1
     try clear hcz13_2
     try clear hcz15_0
     try clear hcz15_1
     try clear hcz15_2
     try clear hcz20_0
     try clear hcz20_1
     try clear hcz20_2
     try clear hcz22_0
     try clear hcz22_1
     try clear hcz22_2
     try clear hcz26_0
     try clear hcz26_1
     try clear hcz26_2
     try clear hcz28_0
     try clear hcz28_1
     try clear hcz28_2
     try clear hcz33_0
     try clear hcz33_1
     try clear hcz33_2
     try clear hcz38_0
     try clear hcz38_1
     try clear hcz38_2
     try clear hcz39_0
     try clear hcz39_1
     try clear hcz39_2
     try clear hcz40_0
     try clear hcz40_1
     try clear hcz40_2
     try clear hcz41_0
     try clear hcz41_1
     try clear hcz41_2
     try clear hcz6_0
     try clear hcz6_1
     try clear hcz6_2
     try clear hcz8_0
     try clear hcz8_1
     try clear hcz8_2
     try clear hfz13_0
     try clear hfz13_1
     try clear hfz13_2
     try clear hfz15_0
     try clear hfz15_1
     try clear hfz15_2
     try clear hfz20_0
     try clear hfz20_1
     try clear hfz20_2
     try clear hfz22_0
     try clear hfz22_1
     try clear hfz22_2
     try clear hfz26_0
     try clear hfz26_1
     try clear hfz26_2
     try clear hfz28_0
     try clear hfz28_1
     try clear hfz28_2
     try clear hfz33_0
     try clear hfz33_1
     try clear hfz33_2
     try clear hfz38_0
     try clear hfz38_1
     try clear hfz38_2
     try clear hfz39_0
     try clear hfz39_1
     try clear hfz39_2
     try clear hfz40_0
     try clear hfz40_1
     try clear hfz40_2
     try clear hfz41_0
     try clear hfz41_1
     try clear hfz41_2
     try clear hfz6_0
     try clear hfz6_1
     try clear hfz6_2
     try clear hfz8_0
     try clear hfz8_1
     try clear hfz8_2
     try clear p2
     obtain ⟨x7_2,rfl,HA,HK2,HO_5,BK144,HB⟩:=hrel
     cases gk with
     | zero => exact absurd HA.out (by simp [F0.l0])
     | succ k2 =>
      have H:=HA.out;clear HA;simp only [F0.l0] at H
      by_cases c43 : x7_2<(t147.length : Int)
      ·
       rw [if_pos c43] at H
       have c43b0 : decide (x7_2<(t147.length : Int))=true:=decide_eq_true c43;clear c43
       by_cases c44 : 0≤x7_2
       ·
        rw [if_pos c44] at H
        have c44b0 : decide (0≤x7_2)=true:=decide_eq_true c44;clear c44;replace H:=zT.mp H;obtain ⟨t152,A450,H⟩:=H;replace H : (if t152=true then (F0.l0 k2 a1 t147 (wrap64 (x7_2 + 1))) else (some false))=some r:=H;have A45:=zh A450;clear A450
        by_cases c46 : t152=true
        ·
         subst c46
         have H1 : (F0.l0 k2 a1 t147 (wrap64 (x7_2 + 1)))=some r:=by rw [if_pos rfl] at H;exact H
         clear H;have H:=H1;clear H1;have H':=zh H;clear H;obtain ⟨Ao47,co47,eo47⟩:=yk HO_5.out;subst eo47;have p151 : 0≤(x7_2 : Int):=zy (by first|(with_reducible assumption)|assumption);have q151 : x7_2<(t147.length : Int):=zy (by first|(with_reducible assumption)|assumption);obtain ⟨ad151,e151,hx151_0,hx151_1,hx151_2⟩:=at_T27 (yh HO_5.out).2.2 x7_2 p151 q151
         cases e151
         replace p151:=eq_true p151;replace q151:=eq_true q151
         go_wp2_with (first|((with_reducible refine zJ (f:=41) rfl ?_);refine yj (some 91) rfl rfl Try.func41 (by kernel_rfl) rfl #[.agg #[.int .i64 ((rd_T27 t147 x7_2).f0),.int .i64 ((rd_T27 t147 x7_2).f1),.string ((rd_T27 t147 x7_2).f2)],.int .i64 (wrap64 (a1 - 1))] rfl (by (try simp only [zt,zu,zv]);first|done|rfl|(simp only [zw,zx];rfl)|(simp only [yr,ys,zV,zW];rfl)) ?_;(with_reducible refine (ih k2 (by have:=HJ30.out;have:=HK2.out;omega)  ((rd_T27 t147 x7_2).f0) ((rd_T27 t147 x7_2).f1) ((rd_T27 t147 x7_2).f2) (wrap64 (a1 - 1)) true _ A45.out).mono ?_);rintro e w48 ⟨rfl,hb⟩;refine ⟨_,rfl,?_⟩;replace HO_5:=zh (yg (by (with_reducible repeat (first|apply zm|apply zn|apply zo));exact HO_5.out) hb);replace BK144:=zh (zD (g:=gb144) (o:=.cells #[.int .i64 a0_0,.int .i64 a0_1,.string a0_2] 27 (0,0)) (by (with_reducible repeat (first|refine ze ?_ _|refine zf ?_|refine zg ?_ _));exact BK144.out) hb);replace HB:=zh (zC (by repeat (with_reducible first|exact HB.out|apply za|apply zb|apply zc|refine zd ?_ GE144.out)) hb);(try clear hb);(try clear hb2);(try clear hk);(try clear hi)))
         go_roundg k2
         case measure => have:=HJ30.out;have:=HK2.out;omega
         case rel => exact ⟨(wrap64 (x7_2 + 1)),(by first|rfl|(simp;done)|(simp [*];done)),H',⟨by have:=HJ30.out;have:=HK2.out;omega⟩,⟨by (with_reducible repeat (first|apply zm|apply zn|apply zo));exact HO_5.out⟩,⟨by (with_reducible repeat (first|refine ze ?_ _|refine zf ?_|refine zg ?_ _));exact BK144.out⟩,⟨by repeat (with_reducible first|exact HB.out|apply za|apply zb|apply zc|refine zd ?_ GE144.out)⟩⟩
        replace c46:=yb.mpr c46;subst c46;have H1 : (some false)=some r:=by rw [if_neg (show ¬ (false=true) by decide)] at H;exact H
        clear H;have H:=H1;clear H1;obtain rfl:=zU H;obtain ⟨Ao49,co49,eo49⟩:=yk HO_5.out;subst eo49;have p151 : 0≤(x7_2 : Int):=zy (by first|(with_reducible assumption)|assumption);have q151 : x7_2<(t147.length : Int):=zy (by first|(with_reducible assumption)|assumption);obtain ⟨ad151,e151,hx151_0,hx151_1,hx151_2⟩:=at_T27 (yh HO_5.out).2.2 x7_2 p151 q151
        cases e151
        replace p151:=eq_true p151;replace q151:=eq_true q151
        go_wp2_with (first|((with_reducible refine zJ (f:=41) rfl ?_);refine yj (some 91) rfl rfl Try.func41 (by kernel_rfl) rfl #[.agg #[.int .i64 ((rd_T27 t147 x7_2).f0),.int .i64 ((rd_T27 t147 x7_2).f1),.string ((rd_T27 t147 x7_2).f2)],.int .i64 (wrap64 (a1 - 1))] rfl (by (try simp only [zt,zu,zv]);first|done|rfl|(simp only [zw,zx];rfl)|(simp only [yr,ys,zV,zW];rfl)) ?_;(with_reducible refine (ih k2 (by have:=HJ30.out;have:=HK2.out;omega)  ((rd_T27 t147 x7_2).f0) ((rd_T27 t147 x7_2).f1) ((rd_T27 t147 x7_2).f2) (wrap64 (a1 - 1)) false _ A45.out).mono ?_);rintro e w50 ⟨rfl,hb⟩;refine ⟨_,rfl,?_⟩;replace HO_5:=zh (yg (by (with_reducible repeat (first|apply zm|apply zn|apply zo));exact HO_5.out) hb);replace BK144:=zh (zD (g:=gb144) (o:=.cells #[.int .i64 a0_0,.int .i64 a0_1,.string a0_2] 27 (0,0)) (by (with_reducible repeat (first|refine ze ?_ _|refine zf ?_|refine zg ?_ _));exact BK144.out) hb);replace HB:=zh (zC (by repeat (with_reducible first|exact HB.out|apply za|apply zb|apply zc|refine zd ?_ GE144.out)) hb);(try clear hb);(try clear hb2);(try clear hk);(try clear hi)))
        go_ret
        exact ⟨by first|rfl|(simp [yt,yu] <;> rfl)|(simp [*,yt,yu] <;> rfl),by repeat (with_reducible first|exact HB.out|apply za|apply zb|apply zc|refine zd ?_ GE144.out)⟩
       rw [if_neg c44] at H;exact absurd H (by simp)
      rw [if_neg c43] at H;have c43b0 : decide (x7_2<(t147.length : Int))=false:=decide_eq_false c43;clear c43;obtain rfl:=zU H;obtain ⟨Ao51,co51,eo51⟩:=yk HO_5.out;subst eo51
      go_wp2
      go_ret
      exact ⟨by first|rfl|(simp [yt,yu] <;> rfl)|(simp [*,yt,yu] <;> rfl),by repeat (with_reducible first|exact HB.out|apply za|apply zb|apply zc|refine zd ?_ GE144.out)⟩
 rw [if_neg c29] at H;have c29b0 : (a0_0 == 4)=false:=zY.mpr c29;have c29b1 : (a0_0 != 4)=true:=zZ.mpr c29
 by_cases c52 : a0_0=5
 ·
  rw [if_pos c52] at H
  have c52b0 : (a0_0 == 5)=true:=ya.mpr c52;have c52b1 : (a0_0 != 5)=false:=zX.mpr c52;clear c52;replace H:=zT.mp H;obtain ⟨⟨t153,t154⟩,A530,H⟩:=H;replace H : (if a0_1=0 then (if t154=true then (if (a0_2.size : Int) > 300 then (F0.j2 k a1 t153 true) else (F0.j2 k a1 t153 (a1 == 0))) else (F0.j2 k a1 t153 true)) else (F0.j2 k a1 t153 true))=some r:=H;have A53:=zh A530;clear A530;have HC54:=zh H;clear H
  go_enter Try.func41,Try.ntmps41
  go_upto_region 22 with (first|((with_reducible refine zK (N:=2) rfl ?_);(try (refine yz (by rfl) ?_;dsimp only));refine zI ?hg (N:=2) ?hd (cs:=#[.int .i64 a0_0,.int .i64 a0_1,.string a0_2]) (t:=27) ?hr ?_;(case hd => rfl);(case hg => rfl);(case hr => first|(go_simp;done)|(go_simp;rfl));intro gb144 hg w55 hbox hb;have BK144:=zh (hbox);have GW144:=zh ((by rw [hg];exact (zB (by repeat (with_reducible first|exact HB.out|apply za|apply zb|apply zc))) : w.heap.size≤gb144));have GE144:=zh ((by rw [hg];exact (zB (by repeat (with_reducible first|exact HB.out|apply za|apply zb|apply zc))) : w.heap.size≤gb144));replace HB:=zh (zC (by repeat (with_reducible first|exact HB.out|apply za|apply zb|apply zc)) hb);clear hb hbox hg;have hcz56_0 : w55.cell? ⟨gb144,0,none⟩=some (.int .i64 a0_0):=(zz BK144.out 0).trans rfl;have hcz56_1 : w55.cell? ⟨gb144,1,none⟩=some (.int .i64 a0_1):=(zz BK144.out 1).trans rfl;have hcz56_2 : w55.cell? ⟨gb144,2,none⟩=some (.string a0_2):=(zz BK144.out 2).trans rfl;have hfz56_0:=zA BK144.out 0;have hfz56_1:=zA BK144.out 1;have hfz56_2:=zA BK144.out 2)|((with_reducible refine zJ (f:=48) rfl ?_);refine yj (some 98) rfl rfl Try.func48 (by kernel_rfl) rfl #[.string a0_2] rfl (by (try simp only [zt,zu,zv]);first|done|rfl|(simp only [zw,zx];rfl)|(simp only [yr,ys,zV,zW];rfl)) ?_;(with_reducible refine (Fc.calls k  a0_2 t153 t154 _ A53.out).mono ?_);rintro e w57 ⟨v155,rfl,ho0,hb⟩;refine ⟨_,rfl,?_⟩;have HO156:=zh (yy ho0 (zB (by repeat (with_reducible first|exact HB.out|apply za|apply zb|apply zc|refine zd ?_ GE144.out))));replace BK144:=zh (zD (g:=gb144) (o:=.cells #[.int .i64 a0_0,.int .i64 a0_1,.string a0_2] 27 (0,0)) (by (with_reducible repeat (first|refine ze ?_ _|refine zf ?_|refine zg ?_ _));exact BK144.out) hb);replace HB:=zh (zC (by repeat (with_reducible first|exact HB.out|apply za|apply zb|apply zc|refine zd ?_ GE144.out)) hb);(try clear hb);(try clear hb2);(try clear hk);(try clear hi);(try clear ho0)))
  (try simp only [Act.put,zi,zj,zk])
  go_cut [117] (fun v117 wc => ∃ (kq : Nat) (x117_53 : Bool),v117 = .bool x117_53∧Aside0 (F0.j2 kq a1 t153 x117_53=some r)∧Aside0 (kq≤k)∧Aside0 (Kd.R k54 54 wc w.heap.size (fun _ => True) v155 t153)∧Aside0 (wc.heap[gb144]? = some (.cells #[.int .i64 a0_0,.int .i64 a0_1,.string a0_2] 27 (0,0)))∧Aside0 (Below w.heap.size w wc))
  case first =>
   have H:=HC54.out;clear HC54
   by_cases c58 : a0_1=0
   ·
    rw [if_pos c58] at H
    have c58b0 : (a0_1 == 0)=true:=ya.mpr c58;have c58b1 : (a0_1 != 0)=false:=zX.mpr c58;clear c58;(first|rw [c58b0]|(simp only [zG,zH];rw [c58b0])|skip)
    by_cases c59 : t154=true
    ·
     subst c59
     have H1 : (if (a0_2.size : Int) > 300 then (F0.j2 k a1 t153 true) else (F0.j2 k a1 t153 (a1 == 0)))=some r:=by rw [if_pos rfl] at H;exact H
     clear H;have H:=H1;clear H1
     by_cases c60 : (a0_2.size : Int) > 300
     ·
      rw [if_pos c60] at H
      have c60b0 : decide (300<(a0_2.size : Int))=true:=decide_eq_true c60;have c60b1 : decide (300<a0_2.size)=true:=decide_eq_true (by omega);clear c60;have H':=zh H;clear H;have hcz61_0 : w57.cell? ⟨gb144,0,none⟩=some (.int .i64 a0_0):=(zz BK144.out 0).trans rfl;have hcz61_1 : w57.cell? ⟨gb144,1,none⟩=some (.int .i64 a0_1):=(zz BK144.out 1).trans rfl;have hcz61_2 : w57.cell? ⟨gb144,2,none⟩=some (.string a0_2):=(zz BK144.out 2).trans rfl;have hfz61_0:=zA BK144.out 0;have hfz61_1:=zA BK144.out 1;have hfz61_2:=zA BK144.out 2
      go_wp2
      go_meet
      case rel => exact ⟨_,(true),(by first|rfl|(simp;done)|(simp [*];done)),H',⟨by first|omega|exact ye _⟩,⟨by (with_reducible repeat (first|apply zm|apply zn|apply zo));exact HO156.out⟩,⟨by (with_reducible repeat (first|refine ze ?_ _|refine zf ?_|refine zg ?_ _));exact BK144.out⟩,⟨by repeat (with_reducible first|exact HB.out|apply za|apply zb|apply zc|refine zd ?_ GE144.out)⟩⟩
     rw [if_neg c60] at H;have c60b0 : decide (300<(a0_2.size : Int))=false:=decide_eq_false c60;have c60b1 : decide (300<a0_2.size)=false:=decide_eq_false (by omega);clear c60;have H':=zh H;clear H;have hcz62_0 : w57.cell? ⟨gb144,0,none⟩=some (.int .i64 a0_0):=(zz BK144.out 0).trans rfl;have hcz62_1 : w57.cell? ⟨gb144,1,none⟩=some (.int .i64 a0_1):=(zz BK144.out 1).trans rfl;have hcz62_2 : w57.cell? ⟨gb144,2,none⟩=some (.string a0_2):=(zz BK144.out 2).trans rfl;have hfz62_0:=zA BK144.out 0;have hfz62_1:=zA BK144.out 1;have hfz62_2:=zA BK144.out 2
     go_wp2
     go_meet
     case rel => exact ⟨_,((a1 == 0)),(by first|rfl|(simp;done)|(simp [*];done)),H',⟨by first|omega|exact ye _⟩,⟨by (with_reducible repeat (first|apply zm|apply zn|apply zo));exact HO156.out⟩,⟨by (with_reducible repeat (first|refine ze ?_ _|refine zf ?_|refine zg ?_ _));exact BK144.out⟩,⟨by repeat (with_reducible first|exact HB.out|apply za|apply zb|apply zc|refine zd ?_ GE144.out)⟩⟩
    replace c59:=yb.mpr c59;subst c59;have H1 : (F0.j2 k a1 t153 true)=some r:=by rw [if_neg (show ¬ (false=true) by decide)] at H;exact H
    clear H;have H:=H1;clear H1;have H':=zh H;clear H;have hcz63_0 : w57.cell? ⟨gb144,0,none⟩=some (.int .i64 a0_0):=(zz BK144.out 0).trans rfl;have hcz63_1 : w57.cell? ⟨gb144,1,none⟩=some (.int .i64 a0_1):=(zz BK144.out 1).trans rfl;have hcz63_2 : w57.cell? ⟨gb144,2,none⟩=some (.string a0_2):=(zz BK144.out 2).trans rfl;have hfz63_0:=zA BK144.out 0;have hfz63_1:=zA BK144.out 1;have hfz63_2:=zA BK144.out 2
    go_wp2
    go_meet
    case rel => exact ⟨_,(true),(by first|rfl|(simp;done)|(simp [*];done)),H',⟨by first|omega|exact ye _⟩,⟨by (with_reducible repeat (first|apply zm|apply zn|apply zo));exact HO156.out⟩,⟨by (with_reducible repeat (first|refine ze ?_ _|refine zf ?_|refine zg ?_ _));exact BK144.out⟩,⟨by repeat (with_reducible first|exact HB.out|apply za|apply zb|apply zc|refine zd ?_ GE144.out)⟩⟩
   rw [if_neg c58] at H;have c58b0 : (a0_1 == 0)=false:=zY.mpr c58;have c58b1 : (a0_1 != 0)=true:=zZ.mpr c58;(first|rw [c58b0]|(simp only [zG,zH];rw [c58b0])|skip);have H':=zh H;clear H;have hcz64_0 : w57.cell? ⟨gb144,0,none⟩=some (.int .i64 a0_0):=(zz BK144.out 0).trans rfl;have hcz64_1 : w57.cell? ⟨gb144,1,none⟩=some (.int .i64 a0_1):=(zz BK144.out 1).trans rfl;have hcz64_2 : w57.cell? ⟨gb144,2,none⟩=some (.string a0_2):=(zz BK144.out 2).trans rfl;have hfz64_0:=zA BK144.out 0;have hfz64_1:=zA BK144.out 1;have hfz64_2:=zA BK144.out 2
   go_wp2
   go_meet
   case rel => exact ⟨_,(true),(by first|rfl|(simp;done)|(simp [*];done)),H',⟨by first|omega|exact ye _⟩,⟨by (with_reducible repeat (first|apply zm|apply zn|apply zo));exact HO156.out⟩,⟨by (with_reducible repeat (first|refine ze ?_ _|refine zf ?_|refine zg ?_ _));exact BK144.out⟩,⟨by repeat (with_reducible first|exact HB.out|apply za|apply zb|apply zc|refine zd ?_ GE144.out)⟩⟩
  case rest =>
   clear HC54
   try clear c1
   try clear p1
   try clear q1
   try clear hx1
   try clear c2
   try clear p2
   try clear c3
   try clear c3b0
   try clear c3b1
   try clear c4
   try clear c4b0
   try clear c4b1
   try clear c5
   try clear c6
   try clear p6
   try clear c9
   try clear c9b0
   try clear c9b1
   try clear c11
   try clear p15
   try clear q15
   try clear hx15
   try clear c16
   try clear c16b0
   try clear c16b1
   try clear c18
   try clear c23
   try clear c23b0
   try clear c23b1
   try clear c24
   try clear c24b0
   try clear c24b1
   try clear c29
   try clear c29b0
   try clear c29b1
   try clear c35
   try clear c35b0
   try clear c35b1
   try clear c36
   try clear c37
   try clear c37b0
   try clear c37b1
   try clear c41
   try clear c42
   try clear c43
   try clear c43b0
   try clear c44
   try clear c44b0
   try clear c46
   try clear c48
   try clear c52
   try clear c52b0
   try clear c52b1
   try clear c58
   try clear c58b0
   try clear c58b1
   try clear c59
   try clear c60
   try clear c60b0
   try clear c60b1
   try clear c64
   try clear p64
   try clear hcz13_0
   try clear hcz13_1
   try clear hcz13_2
   try clear hcz15_0
   try clear hcz15_1
   try clear hcz15_2
   try clear hcz20_0
   try clear hcz20_1
   try clear hcz20_2
   try clear hcz22_0
   try clear hcz22_1
   try clear hcz22_2
   try clear hcz26_0
   try clear hcz26_1
   try clear hcz26_2
   try clear hcz28_0
   try clear hcz28_1
   try clear hcz28_2
   try clear hcz33_0
   try clear hcz33_1
   try clear hcz33_2
   try clear hcz38_0
   try clear hcz38_1
   try clear hcz38_2
   try clear hcz39_0
   try clear hcz39_1
   try clear hcz39_2
   try clear hcz40_0
   try clear hcz40_1
   try clear hcz40_2
   try clear hcz41_0
   try clear hcz41_1
   try clear hcz41_2
   try clear hcz56_0
   try clear hcz56_1
   try clear hcz56_2
   try clear hcz61_0
   try clear hcz61_1
   try clear hcz61_2
   try clear hcz62_0
   try clear hcz62_1
   try clear hcz62_2
   try clear hcz63_0
   try clear hcz63_1
   try clear hcz63_2
   try clear hcz64_0
   try clear hcz64_1
   try clear hcz64_2
   try clear hcz6_0
   try clear hcz6_1
   try clear hcz6_2
   try clear hcz8_0
   try clear hcz8_1
   try clear hcz8_2
   try clear hfz13_0
   try clear hfz13_1
   try clear hfz13_2
   try clear hfz15_0
   try clear hfz15_1
   try clear hfz15_2
   try clear hfz20_0
   try clear hfz20_1
   try clear hfz20_2
   try clear hfz22_0
   try clear hfz22_1
   try clear hfz22_2
   try clear hfz26_0
   try clear hfz26_1
   try clear hfz26_2
   try clear hfz28_0
   try clear hfz28_1
   try clear hfz28_2
   try clear hfz33_0
   try clear hfz33_1
   try clear hfz33_2
   try clear hfz38_0
   try clear hfz38_1
   try clear hfz38_2
   try clear hfz39_0
   try clear hfz39_1
   try clear hfz39_2
   try clear hfz40_0
   try clear hfz40_1
   try clear hfz40_2
   try clear hfz41_0
   try clear hfz41_1
   try clear hfz41_2
   try clear hfz56_0
   try clear hfz56_1
   try clear hfz56_2
   try clear hfz61_0
   try clear hfz61_1
   try clear hfz61_2
   try clear hfz62_0
   try clear hfz62_1
   try clear hfz62_2
   try clear hfz63_0
   try clear hfz63_1
   try clear hfz63_2
   try clear hfz64_0
   try clear hfz64_1
   try clear hfz64_2
   try clear hfz6_0
   try clear hfz6_1
   try clear hfz6_2
   try clear hfz8_0
   try clear hfz8_1
   try clear hfz8_2
   try clear hx151_0
   try clear hx151_1
   try clear hx151_2
   try clear p151
   try clear p2
   try clear q151
   obtain ⟨kq,x117_53,rfl,HA,HJ53,HO_8,BK144,HB⟩:=hcut
   cases kq with
   | zero => exact absurd HA.out (by simp [F0.j2])
   | succ kj53 =>
    have H:=HA.out;clear HA;simp only [F0.j2] at H
    by_cases c65 : x117_53=true
    ·
     subst c65
     have H1 : (some false)=some r:=by rw [if_pos rfl] at H;exact H
     clear H;have H:=H1;clear H1;obtain rfl:=zU H
     go_wp2
     go_ret
     exact ⟨by first|rfl|(simp [yt,yu] <;> rfl)|(simp [*,yt,yu] <;> rfl),by repeat (with_reducible first|exact HB.out|apply za|apply zb|apply zc|refine zd ?_ GE144.out)⟩
    replace c65:=yb.mpr c65;subst c65;have H1 : (F0.l1 kj53 a1 t153 0)=some r:=by rw [if_neg (show ¬ (false=true) by decide)] at H;exact H
    clear H;have H:=H1;clear H1;have H':=zh H;clear H
    go_wp2
    go_loopg [10] kj53 (fun kq v10 w' => ∃ (x10_2 : Int),v10 = .int .i64 x10_2∧Aside0 (F0.l1 kq a1 t153 x10_2=some r)∧Aside0 (kq≤kj53)∧Aside0 (Kd.R k54 54 w' w.heap.size (fun _ => True) v155 t153)∧Aside0 (w'.heap[gb144]? = some (.cells #[.int .i64 a0_0,.int .i64 a0_1,.string a0_2] 27 (0,0)))∧Aside0 (Below w.heap.size w w'))
    case atStart => exact ⟨(0),(by first|rfl|(simp;done)|(simp [*];done)),H',⟨ye _⟩,⟨by (with_reducible repeat (first|apply zm|apply zn|apply zo));exact HO_8.out⟩,⟨by (with_reducible repeat (first|refine ze ?_ _|refine zf ?_|refine zg ?_ _));exact BK144.out⟩,⟨by repeat (with_reducible first|exact HB.out|apply za|apply zb|apply zc|refine zd ?_ GE144.out)⟩⟩
    case round =>
     clear H'
     try clear c1
     try clear p1
     try clear q1
     try clear hx1
     try clear c2
     try clear p2
     try clear c3
     try clear c3b0
     try clear c3b1
     try clear c4
     try clear c4b0
     try clear c4b1
     try clear c5
     try clear c6
     try clear p6
     try clear c9
     try clear c9b0
     try clear c9b1
     try clear c11
     try clear p15
     try clear q15
     try clear hx15
     try clear c16
     try clear c16b0
     try clear c16b1
     try clear c18
     try clear c23
     try clear c23b0
     try clear c23b1
     try clear c24
     try clear c24b0
     try clear c24b1
     try clear c29
     try clear c29b0
     try clear c29b1
     try clear c35
     try clear c35b0
     try clear c35b1
     try clear c36
     try clear c37
     try clear c37b0
     try clear c37b1
     try clear c41
     try clear c42
     try clear c43
     try clear c43b0
     try clear c44
     try clear c44b0
     try clear c46
     try clear c48
     try clear c52
     try clear c52b0
     try clear c52b1
     try clear c58
     try clear c58b0
     try clear c58b1
     try clear c59
     try clear c60
     try clear c60b0
     try clear c60b1
     try clear c64
     try clear p64
     try clear c65
     try clear hcz13_0
     try clear hcz13_1
     try clear hcz13_2
     try clear hcz15_0
     try clear hcz15_1
     try clear hcz15_2
     try clear hcz20_0
     try clear hcz20_1
     try clear hcz20_2
     try clear hcz22_0
     try clear hcz22_1
     try clear hcz22_2
     try clear hcz26_0
     try clear hcz26_1
     try clear hcz26_2
     try clear hcz28_0
     try clear hcz28_1
     try clear hcz28_2
     try clear hcz33_0
     try clear hcz33_1
     try clear hcz33_2
     try clear hcz38_0
     try clear hcz38_1
     try clear hcz38_2
     try clear hcz39_0
     try clear hcz39_1
     try clear hcz39_2
     try clear hcz40_0
     try clear hcz40_1
     try clear hcz40_2
     try clear hcz41_0
     try clear hcz41_1
     try clear hcz41_2
     try clear hcz56_0
     try clear hcz56_1
     try clear hcz56_2
     try clear hcz61_0
     try clear hcz61_1
     try clear hcz61_2
     try clear hcz62_0
     try clear hcz62_1
     try clear hcz62_2
     try clear hcz63_0
     try clear hcz63_1
     try clear hcz63_2
     try clear hcz64_0
     try clear hcz64_1
     try clear hcz64_2
     try clear hcz6_0
     try clear hcz6_1
     try clear hcz6_2
     try clear hcz8_0
     try clear hcz8_1
     try clear hcz8_2
     try clear hfz13_0
     try clear hfz13_1
     try clear hfz13_2
     try clear hfz15_0
     try clear hfz15_1
     try clear hfz15_2
     try clear hfz20_0
     try clear hfz20_1
     try clear hfz20_2
     try clear hfz22_0
     try clear hfz22_1
     try clear hfz22_2
     try clear hfz26_0
     try clear hfz26_1
     try clear hfz26_2
     try clear hfz28_0
     try clear hfz28_1
     try clear hfz28_2
     try clear hfz33_0
     try clear hfz33_1
     try clear hfz33_2
     try clear hfz38_0
     try clear hfz38_1
     try clear hfz38_2
     try clear hfz39_0
     try clear hfz39_1
     try clear hfz39_2
     try clear hfz40_0
     try clear hfz40_1
     try clear hfz40_2
     try clear hfz41_0
     try clear hfz41_1
     try clear hfz41_2
     try clear hfz56_0
     try clear hfz56_1
     try clear hfz56_2
     try clear hfz61_0
     try clear hfz61_1
     try clear hfz61_2
     try clear hfz62_0
     try clear hfz62_1
     try clear hfz62_2
     try clear hfz63_0
     try clear hfz63_1
     try clear hfz63_2
     try clear hfz64_0
     try clear hfz64_1
     try clear hfz64_2
     try clear hfz6_0
     try clear hfz6_1
     try clear hfz6_2
     try clear hfz8_0
     try clear hfz8_1
     try clear hfz8_2
     try clear hx151_0
     try clear hx151_1
     try clear hx151_2
     try clear p1
     try clear p15
     try clear p151
     try clear p2
     try clear p6
     try clear p64
     try clear q1
     try clear q15
     try clear q151
     obtain ⟨x10_2,rfl,HA,HK2,HO_8,BK144,HB⟩:=hrel
     cases gk with
     | zero => exact absurd HA.out (by simp [F0.l1])
     | succ k2 =>
      have H:=HA.out;clear HA;simp only [F0.l1] at H
      by_cases c66 : x10_2<(t153.length : Int)
      ·
       rw [if_pos c66] at H
       have c66b0 : decide (x10_2<(t153.length : Int))=true:=decide_eq_true c66;clear c66
       by_cases c67 : 0≤x10_2
       ·
        rw [if_pos c67] at H
        have c67b0 : decide (0≤x10_2)=true:=decide_eq_true c67;clear c67;replace H:=zT.mp H;obtain ⟨t158,A680,H⟩:=H;replace H : (if t158=true then (if x10_2 > 0 then (if 0≤(wrap64 (x10_2 - 1)) then (if (wrap64 (x10_2 - 1))<(t153.length : Int) then (if ((Op.bytesLess (((rd_T54 t153 (wrap64 (x10_2 - 1))).f0).toList) (((rd_T54 t153 x10_2).f0).toList))=true) then ((F0.f k2 ((rd_T54 t153 x10_2).f1.f0) ((rd_T54 t153 x10_2).f1.f1) ((rd_T54 t153 x10_2).f1.f2) (wrap64 (a1 - 1))).bind fun t162 => (if t162=true then (F0.l1 k2 a1 t153 (wrap64 (x10_2 + 1))) else (some false))) else (some false)) else (none)) else (none)) else ((F0.f k2 ((rd_T54 t153 x10_2).f1.f0) ((rd_T54 t153 x10_2).f1.f1) ((rd_T54 t153 x10_2).f1.f2) (wrap64 (a1 - 1))).bind fun t164 => (if t164=true then (F0.l1 k2 a1 t153 (wrap64 (x10_2 + 1))) else (some false)))) else (some false))=some r:=H;have A68:=zh A680;clear A680
        by_cases c69 : t158=true
        ·
         subst c69
         have H1 : (if x10_2 > 0 then (if 0≤(wrap64 (x10_2 - 1)) then (if (wrap64 (x10_2 - 1))<(t153.length : Int) then (if ((Op.bytesLess (((rd_T54 t153 (wrap64 (x10_2 - 1))).f0).toList) (((rd_T54 t153 x10_2).f0).toList))=true) then ((F0.f k2 ((rd_T54 t153 x10_2).f1.f0) ((rd_T54 t153 x10_2).f1.f1) ((rd_T54 t153 x10_2).f1.f2) (wrap64 (a1 - 1))).bind fun t162 => (if t162=true then (F0.l1 k2 a1 t153 (wrap64 (x10_2 + 1))) else (some false))) else (some false)) else (none)) else (none)) else ((F0.f k2 ((rd_T54 t153 x10_2).f1.f0) ((rd_T54 t153 x10_2).f1.f1) ((rd_T54 t153 x10_2).f1.f2) (wrap64 (a1 - 1))).bind fun t164 => (if t164=true then (F0.l1 k2 a1 t153 (wrap64 (x10_2 + 1))) else (some false))))=some r:=by rw [if_pos rfl] at H;exact H
         clear H;have H:=H1;clear H1
         by_cases c70 : x10_2 > 0
         ·
          rw [if_pos c70] at H
          have c70b0 : decide (0<x10_2)=true:=decide_eq_true c70;clear c70;obtain ⟨ji71,hji71⟩ : ∃ j_ : Int,(wrap64 (x10_2 - 1))=j_:=⟨_,rfl⟩;replace H : (if 0≤(ji71) then (if (ji71)<(t153.length : Int) then (if ((Op.bytesLess (((rd_T54 t153 (ji71)).f0).toList) (((rd_T54 t153 x10_2).f0).toList))=true) then ((F0.f k2 ((rd_T54 t153 x10_2).f1.f0) ((rd_T54 t153 x10_2).f1.f1) ((rd_T54 t153 x10_2).f1.f2) (wrap64 (a1 - 1))).bind fun t162 => (if t162=true then (F0.l1 k2 a1 t153 (wrap64 (x10_2 + 1))) else (some false))) else (some false)) else (none)) else (none))=some r:=by first|(rw [hji71] at H;exact H)|(simp only [hji71] at H ⊢;exact H)
          (try rw [hji71] at A68);have hji71w : (IntKind.i64.wrap (x10_2 - 1))=ji71:=(zG _).trans hji71
          by_cases c72 : 0≤(ji71)
          ·
           rw [if_pos c72] at H
           have c72b0 : decide (0≤(ji71))=true:=decide_eq_true c72;clear c72
           by_cases c73 : (ji71)<(t153.length : Int)
           ·
            rw [if_pos c73] at H
            have c73b0 : decide ((ji71)<(t153.length : Int))=true:=decide_eq_true c73;clear c73
            by_cases c74 : ((Op.bytesLess (((rd_T54 t153 (ji71)).f0).toList) (((rd_T54 t153 x10_2).f0).toList))=true)
            ·
             rw [if_pos c74] at H
             have c74b0 : (Op.bytesLess (((rd_T54 t153 (ji71)).f0).toList) (((rd_T54 t153 x10_2).f0).toList))=true:=c74;clear c74;replace H:=zT.mp H;obtain ⟨t162,A750,H⟩:=H;replace H : (if t162=true then (F0.l1 k2 a1 t153 (wrap64 (x10_2 + 1))) else (some false))=some r:=H;have A75:=zh A750;clear A750
             by_cases c76 : t162=true
             ·
              subst c76
              have H1 : (F0.l1 k2 a1 t153 (wrap64 (x10_2 + 1)))=some r:=by rw [if_pos rfl] at H;exact H
              clear H;have H:=H1;clear H1;have H':=zh H;clear H;obtain ⟨Ao77,co77,eo77⟩:=yk HO_8.out;subst eo77
              try go_wp2
              replace HO_8:=zh (zo HO_8.out);replace BK144:=zh (zf BK144.out);replace HB:=zh (zc HB.out);have p157 : 0≤(x10_2 : Int):=zy (by first|(with_reducible assumption)|assumption);have q157 : x10_2<(t153.length : Int):=zy (by first|(with_reducible assumption)|assumption);obtain ⟨ad157,e157,hx157_0,hx157_1,hx157_2,hx157_3⟩:=at_T54 (yh HO_8.out).2.2 x10_2 p157 q157
              cases e157
              replace p157:=eq_true p157;replace q157:=eq_true q157;have p159 : 0≤((ji71) : Int):=zy (by first|(with_reducible assumption)|assumption);have q159 : (ji71)<(t153.length : Int):=zy (by first|(with_reducible assumption)|assumption);obtain ⟨ad159,e159,hx159_0,hx159_1,hx159_2,hx159_3⟩:=at_T54 (yh HO_8.out).2.2 (ji71) p159 q159;obtain rfl : ad157=ad159:=(by injection e159);replace p159:=eq_true p159;replace q159:=eq_true q159;have p160 : 0≤(x10_2 : Int):=zy (by first|(with_reducible assumption)|assumption);have q160 : x10_2<(t153.length : Int):=zy (by first|(with_reducible assumption)|assumption);obtain ⟨ad160,e160,hx160_0,hx160_1,hx160_2,hx160_3⟩:=at_T54 (yh HO_8.out).2.2 x10_2 p160 q160;obtain rfl : ad157=ad160:=(by injection e160);replace p160:=eq_true p160;replace q160:=eq_true q160;have p161 : 0≤(x10_2 : Int):=zy (by first|(with_reducible assumption)|assumption);have q161 : x10_2<(t153.length : Int):=zy (by first|(with_reducible assumption)|assumption);obtain ⟨ad161,e161,hx161_0,hx161_1,hx161_2,hx161_3⟩:=at_T54 (yh HO_8.out).2.2 x10_2 p161 q161;obtain rfl : ad157=ad161:=(by injection e161);replace p161:=eq_true p161;replace q161:=eq_true q161;refine start_ (n:=36) (S:=fun w' => w'.cell? (ad157.add ((x10_2).toNat * 4))=some (.string ((rd_T54 t153 x10_2).f0))∧w'.cell? ⟨(ad157.add ((x10_2).toNat * 4)).block,(ad157.add ((x10_2).toNat * 4)).off + 1,none⟩=some (.int .i64 ((rd_T54 t153 x10_2).f1.f0))∧w'.cell? ⟨(ad157.add ((x10_2).toNat * 4)).block,(ad157.add ((x10_2).toNat * 4)).off + 2,none⟩=some (.int .i64 ((rd_T54 t153 x10_2).f1.f1))∧w'.cell? ⟨(ad157.add ((x10_2).toNat * 4)).block,(ad157.add ((x10_2).toNat * 4)).off + 3,none⟩=some (.string ((rd_T54 t153 x10_2).f1.f2))∧w'.cell? (ad157.add (((ji71)).toNat * 4))=some (.string ((rd_T54 t153 (ji71)).f0))∧w'.cell? ⟨(ad157.add (((ji71)).toNat * 4)).block,(ad157.add (((ji71)).toNat * 4)).off + 1,none⟩=some (.int .i64 ((rd_T54 t153 (ji71)).f1.f0))∧w'.cell? ⟨(ad157.add (((ji71)).toNat * 4)).block,(ad157.add (((ji71)).toNat * 4)).off + 2,none⟩=some (.int .i64 ((rd_T54 t153 (ji71)).f1.f1))∧w'.cell? ⟨(ad157.add (((ji71)).toNat * 4)).block,(ad157.add (((ji71)).toNat * 4)).off + 3,none⟩=some (.string ((rd_T54 t153 (ji71)).f1.f2))∧w'.cell? (ad157.add ((x10_2).toNat * 4))=some (.string ((rd_T54 t153 x10_2).f0))∧w'.cell? ⟨(ad157.add ((x10_2).toNat * 4)).block,(ad157.add ((x10_2).toNat * 4)).off + 1,none⟩=some (.int .i64 ((rd_T54 t153 x10_2).f1.f0))∧w'.cell? ⟨(ad157.add ((x10_2).toNat * 4)).block,(ad157.add ((x10_2).toNat * 4)).off + 2,none⟩=some (.int .i64 ((rd_T54 t153 x10_2).f1.f1))∧w'.cell? ⟨(ad157.add ((x10_2).toNat * 4)).block,(ad157.add ((x10_2).toNat * 4)).off + 3,none⟩=some (.string ((rd_T54 t153 x10_2).f1.f2))∧w'.cell? (ad157.add ((x10_2).toNat * 4))=some (.string ((rd_T54 t153 x10_2).f0))∧w'.cell? ⟨(ad157.add ((x10_2).toNat * 4)).block,(ad157.add ((x10_2).toNat * 4)).off + 1,none⟩=some (.int .i64 ((rd_T54 t153 x10_2).f1.f0))∧w'.cell? ⟨(ad157.add ((x10_2).toNat * 4)).block,(ad157.add ((x10_2).toNat * 4)).off + 2,none⟩=some (.int .i64 ((rd_T54 t153 x10_2).f1.f1))∧w'.cell? ⟨(ad157.add ((x10_2).toNat * 4)).block,(ad157.add ((x10_2).toNat * 4)).off + 3,none⟩=some (.string ((rd_T54 t153 x10_2).f1.f2))) (ds:=[]) (bm_ 0 36) (by kernel_rfl) rfl rfl ⟨hx157_0,hx157_1,hx157_2,hx157_3,hx159_0,hx159_1,hx159_2,hx159_3,hx160_0,hx160_1,hx160_2,hx160_3,hx161_0,hx161_1,hx161_2,hx161_3⟩ (fun hHeld => ?_);refine with_tabW F0.tab27 F0.bits27 (fun HT_ HW_ => ?_);generalize wr.drew=w78 at HO_8 BK144 HB hx157_0 hx157_1 hx157_2 hx157_3 hx159_0 hx159_1 hx159_2 hx159_3 hx160_0 hx160_1 hx160_2 hx160_3 hx161_0 hx161_1 hx161_2 hx161_3 hHeld ⊢;refine pure_ (i:=0) (N:=some 124) (v:=?_) (a':=?_) (bm_ 1 36) rfl rfl (any_of HT_.out (by kernel_rfl)) (fun _ _ _ h => h) (Or.inl ⟨by rfl,?_⟩) ?_ ?_;rotate_left
              ·
               intro w'
               go_simp
               with_reducible rfl
              rotate_left
              ·
               simp only [Act.put,zi,zj,zk,zG,zH]
               rfl
              refine pure_ (i:=1) (N:=some 125) (v:=?_) (a':=?_) (bm_ 2 36) rfl rfl (any_of HT_.out (by kernel_rfl)) (fun _ _ _ h => h) (Or.inl ⟨by rfl,?_⟩) ?_ ?_;rotate_left
              ·
               intro w'
               go_simp
               with_reducible rfl
              rotate_left
              ·
               simp only [Act.put,zi,zj,zk,zG,zH]
               rfl
              refine pure_ (i:=2) (N:=some 126) (v:=?_) (a':=?_) (bm_ 3 36) rfl rfl (any_of HT_.out (by kernel_rfl)) (fun _ _ _ h => h) (Or.inl ⟨by rfl,?_⟩) ?_ ?_;rotate_left
              ·
               intro w'
               go_simp
               with_reducible rfl
              rotate_left
              ·
               simp only [Act.put,zi,zj,zk,zG,zH]
               rfl
              refine pure_ (i:=3) (N:=some 127) (v:=?_) (a':=?_) (bm_ 4 36) rfl rfl (any_of HT_.out (by kernel_rfl)) (fun _ _ _ h => h) (Or.inl ⟨by rfl,?_⟩) ?_ ?_;rotate_left
              ·
               intro w'
               go_simp
               with_reducible rfl
              rotate_left
              ·
               simp only [Act.put,zi,zj,zk,zG,zH]
               rfl
              refine take_ (i:=4) (N:=some 128) (v:=?_) (a':=?_) (bm_ 5 36) rfl rfl (yo HT_.out HW_.out (by kernel_rfl)) (fun _ _ _ h => h) (Or.inl ⟨by rfl,?_⟩) hHeld ?_ ?_;rotate_left
              ·
               rintro w' ⟨s0,s1,s2,s3,s4,s5,s6,s7,s8,s9,s10,s11,s12,s13,s14,s15⟩
               go_simp
               with_reducible rfl
              rotate_left
              ·
               simp only [Act.put,zi,zj,zk,zG,zH]
               rfl
              refine one_ (i:=5) (N:=some 129) (bm_ 6 36) rfl rfl (one_of HT_.out (by kernel_rfl)) (by decide) (fun K hK => ?_);refine goes_ Try.func26 (by kernel_rfl) rfl #[.string ((rd_T54 t153 x10_2).f0)] (by rfl) rfl rfl (by (try simp only [zt,zu,zv]);first|done|rfl|(simp only [zw,zx];rfl)|(simp only [yr,ys,zV,zW];rfl)) ?_
              with_reducible refine (Fp.calls k2  ((rd_T54 t153 x10_2).f0) true _ A68.out).mono ?_
              rintro e w' ⟨rfl,⟨nd,rfl⟩⟩;refine ⟨_,rfl,?_⟩;refine hK.out _ _ ⟨hHeld.1,hHeld.2.1,hHeld.2.2.1,hHeld.2.2.2.1,hHeld.2.2.2.2.1,hHeld.2.2.2.2.2.1,hHeld.2.2.2.2.2.2.1,hHeld.2.2.2.2.2.2.2.1,hHeld.2.2.2.2.2.2.2.2.1,hHeld.2.2.2.2.2.2.2.2.2.1,hHeld.2.2.2.2.2.2.2.2.2.2.1,hHeld.2.2.2.2.2.2.2.2.2.2.2.1,hHeld.2.2.2.2.2.2.2.2.2.2.2.2.1,hHeld.2.2.2.2.2.2.2.2.2.2.2.2.2.1,hHeld.2.2.2.2.2.2.2.2.2.2.2.2.2.2.1,hHeld.2.2.2.2.2.2.2.2.2.2.2.2.2.2.2⟩ (fun hHeld => ?_);clear hK K;refine norm_ (a':=?_) ?_ ?_;rotate_left
              ·
               show Act.put _ (some 129) _=_
               simp only [Act.put,zi,zj,zk,zG,zH]
               rfl
              refine pure_ (i:=6) (N:=some 130) (v:=?_) (a':=?_) (bm_ 7 36) rfl rfl (any_of HT_.out (by kernel_rfl)) (fun _ _ _ h => h) (Or.inl ⟨by rfl,?_⟩) ?_ ?_;rotate_left
              ·
               intro w'
               go_simp
               with_reducible rfl
              rotate_left
              ·
               simp only [Act.put,zi,zj,zk,zG,zH]
               rfl
              refine pure_ (i:=7) (N:=some 131) (v:=?_) (a':=?_) (bm_ 8 36) rfl rfl (any_of HT_.out (by kernel_rfl)) (fun _ _ _ h => h) (Or.inl ⟨by rfl,?_⟩) ?_ ?_;rotate_left
              ·
               intro w'
               go_simp
               with_reducible rfl
              rotate_left
              ·
               simp only [Act.put,zi,zj,zk,zG,zH]
               rfl
              refine pure_ (i:=8) (N:=some 132) (v:=?_) (a':=?_) (bm_ 9 36) rfl rfl (any_of HT_.out (by kernel_rfl)) (fun _ _ _ h => h) (Or.inl ⟨by rfl,?_⟩) ?_ ?_;rotate_left
              ·
               intro w'
               go_simp
               with_reducible rfl
              rotate_left
              ·
               simp only [Act.put,zi,zj,zk,zG,zH]
               rfl
              refine pure_ (i:=9) (N:=some 133) (v:=?_) (a':=?_) (bm_ 10 36) rfl rfl (any_of HT_.out (by kernel_rfl)) (fun _ _ _ h => h) (Or.inl ⟨by rfl,?_⟩) ?_ ?_;rotate_left
              ·
               intro w'
               go_simp
               with_reducible rfl
              rotate_left
              ·
               simp only [Act.put,zi,zj,zk,zG,zH]
               rfl
              refine pure_ (i:=10) (N:=some 134) (v:=?_) (a':=?_) (bm_ 11 36) rfl rfl (any_of HT_.out (by kernel_rfl)) (fun _ _ _ h => h) (Or.inl ⟨by rfl,?_⟩) ?_ ?_;rotate_left
              ·
               intro w'
               go_simp
               with_reducible rfl
              rotate_left
              ·
               simp only [Act.put,zi,zj,zk,zG,zH]
               rfl
              refine pure_ (i:=11) (N:=some 135) (v:=?_) (a':=?_) (bm_ 12 36) rfl rfl (any_of HT_.out (by kernel_rfl)) (fun _ _ _ h => h) (Or.inl ⟨by rfl,?_⟩) ?_ ?_;rotate_left
              ·
               intro w'
               go_simp
               with_reducible rfl
              rotate_left
              ·
               simp only [Act.put,zi,zj,zk,zG,zH]
               rfl
              refine pure_ (i:=12) (N:=some 136) (v:=?_) (a':=?_) (bm_ 13 36) rfl rfl (any_of HT_.out (by kernel_rfl)) (fun _ _ _ h => h) (Or.inl ⟨by rfl,?_⟩) ?_ ?_;rotate_left
              ·
               intro w'
               go_simp
               with_reducible rfl
              rotate_left
              ·
               simp only [Act.put,zi,zj,zk,zG,zH]
               rfl
              refine pure_ (i:=13) (N:=some 137) (v:=?_) (a':=?_) (bm_ 14 36) rfl rfl (any_of HT_.out (by kernel_rfl)) (fun _ _ _ h => h) (Or.inl ⟨by rfl,?_⟩) ?_ ?_;rotate_left
              ·
               intro w'
               go_simp
               with_reducible rfl
              rotate_left
              ·
               simp only [Act.put,zi,zj,zk,zG,zH]
               rfl
              refine pure_ (i:=14) (N:=some 138) (v:=?_) (a':=?_) (bm_ 15 36) rfl rfl (any_of HT_.out (by kernel_rfl)) (fun _ _ _ h => h) (Or.inl ⟨by rfl,?_⟩) ?_ ?_;rotate_left
              ·
               intro w'
               go_simp
               with_reducible rfl
              rotate_left
              ·
               simp only [Act.put,zi,zj,zk,zG,zH]
               rfl
              refine pure_ (i:=15) (N:=some 139) (v:=?_) (a':=?_) (bm_ 16 36) rfl rfl (any_of HT_.out (by kernel_rfl)) (fun _ _ _ h => h) (Or.inl ⟨by rfl,?_⟩) ?_ ?_;rotate_left
              ·
               intro w'
               go_simp
               with_reducible rfl
              rotate_left
              ·
               simp only [Act.put,zi,zj,zk,zG,zH]
               rfl
              refine pure_ (i:=17) (N:=some 141) (v:=?_) (a':=?_) #[true,true,true,true,true,true,true,true,true,true,true,true,true,true,true,true,false,true,false,false,false,false,false,false,false,false,false,false,false,false,false,false,false,false,false,false] rfl rfl (any_of HT_.out (by kernel_rfl)) (fun _ _ _ h => h) (Or.inl ⟨by rfl,?_⟩) ?_ ?_;rotate_left
              ·
               intro w'
               go_simp
               with_reducible rfl
              rotate_left
              ·
               simp only [Act.put,zi,zj,zk,zG,zH]
               rfl
              refine pure_ (i:=18) (N:=some 142) (v:=?_) (a':=?_) #[true,true,true,true,true,true,true,true,true,true,true,true,true,true,true,true,false,true,true,false,false,false,false,false,false,false,false,false,false,false,false,false,false,false,false,false] rfl rfl (any_of HT_.out (by kernel_rfl)) (fun _ _ _ h => h) (Or.inl ⟨by rfl,?_⟩) ?_ ?_;rotate_left
              ·
               intro w'
               go_simp
               with_reducible rfl
              rotate_left
              ·
               simp only [Act.put,zi,zj,zk,zG,zH]
               rfl
              refine pure_ (i:=19) (N:=some 143) (v:=?_) (a':=?_) #[true,true,true,true,true,true,true,true,true,true,true,true,true,true,true,true,false,true,true,true,false,false,false,false,false,false,false,false,false,false,false,false,false,false,false,false] rfl rfl (any_of HT_.out (by kernel_rfl)) (fun _ _ _ h => h) (Or.inl ⟨by rfl,?_⟩) ?_ ?_;rotate_left
              ·
               intro w'
               go_simp
               with_reducible rfl
              rotate_left
              ·
               simp only [Act.put,zi,zj,zk,zG,zH]
               rfl
              refine pure_ (i:=20) (N:=some 144) (v:=?_) (a':=?_) #[true,true,true,true,true,true,true,true,true,true,true,true,true,true,true,true,false,true,true,true,true,false,false,false,false,false,false,false,false,false,false,false,false,false,false,false] rfl rfl (any_of HT_.out (by kernel_rfl)) (fun _ _ _ h => h) (Or.inl ⟨by rfl,?_⟩) ?_ ?_;rotate_left
              ·
               intro w'
               go_simp
               with_reducible rfl
              rotate_left
              ·
               simp only [Act.put,zi,zj,zk,zG,zH]
               rfl
              refine take_ (i:=16) (N:=some 140) (v:=?_) (a':=?_) (bm_ 21 36) rfl rfl (yo HT_.out HW_.out (by kernel_rfl)) (fun _ _ _ h => h) (Or.inl ⟨by rfl,?_⟩) hHeld ?_ ?_;rotate_left
              ·
               rintro w' ⟨s0,s1,s2,s3,s4,s5,s6,s7,s8,s9,s10,s11,s12,s13,s14,s15⟩
               go_simp
               with_reducible rfl
              rotate_left
              ·
               simp only [Act.put,zi,zj,zk,zG,zH]
               rfl
              refine take_ (i:=21) (N:=some 145) (v:=?_) (a':=?_) (bm_ 22 36) rfl rfl (yo HT_.out HW_.out (by kernel_rfl)) (fun _ _ _ h => h) (Or.inl ⟨by rfl,?_⟩) hHeld ?_ ?_;rotate_left
              ·
               rintro w' ⟨s0,s1,s2,s3,s4,s5,s6,s7,s8,s9,s10,s11,s12,s13,s14,s15⟩
               go_simp
               with_reducible rfl
              rotate_left
              ·
               simp only [Act.put,zi,zj,zk,zG,zH]
               rfl
              refine pure_ (i:=22) (N:=some 146) (v:=?_) (a':=?_) (bm_ 23 36) rfl rfl (any_of HT_.out (by kernel_rfl)) (fun _ _ _ h => h) (Or.inl ⟨by rfl,?_⟩) ?_ ?_;rotate_left
              ·
               intro w'
               go_simp
               with_reducible rfl
              rotate_left
              ·
               simp only [Act.put,zi,zj,zk,zG,zH]
               rfl
              refine pure_ (i:=23) (N:=some 147) (v:=?_) (a':=?_) (bm_ 24 36) rfl rfl (any_of HT_.out (by kernel_rfl)) (fun _ _ _ h => h) (Or.inl ⟨by rfl,?_⟩) ?_ ?_;rotate_left
              ·
               intro w'
               go_simp
               with_reducible rfl
              rotate_left
              ·
               simp only [Act.put,zi,zj,zk,zG,zH]
               rfl
              refine pure_ (i:=24) (N:=some 148) (v:=?_) (a':=?_) (bm_ 25 36) rfl rfl (any_of HT_.out (by kernel_rfl)) (fun _ _ _ h => h) (Or.inl ⟨by rfl,?_⟩) ?_ ?_;rotate_left
              ·
               intro w'
               go_simp
               with_reducible rfl
              rotate_left
              ·
               simp only [Act.put,zi,zj,zk,zG,zH]
               rfl
              refine pure_ (i:=25) (N:=some 149) (v:=?_) (a':=?_) (bm_ 26 36) rfl rfl (any_of HT_.out (by kernel_rfl)) (fun _ _ _ h => h) (Or.inl ⟨by rfl,?_⟩) ?_ ?_;rotate_left
              ·
               intro w'
               go_simp
               with_reducible rfl
              rotate_left
              ·
               simp only [Act.put,zi,zj,zk,zG,zH]
               rfl
              refine pure_ (i:=26) (N:=some 150) (v:=?_) (a':=?_) (bm_ 27 36) rfl rfl (any_of HT_.out (by kernel_rfl)) (fun _ _ _ h => h) (Or.inl ⟨by rfl,?_⟩) ?_ ?_;rotate_left
              ·
               intro w'
               go_simp
               with_reducible rfl
              rotate_left
              ·
               simp only [Act.put,zi,zj,zk,zG,zH]
               rfl
              refine pure_ (i:=27) (N:=some 151) (v:=?_) (a':=?_) (bm_ 28 36) rfl rfl (any_of HT_.out (by kernel_rfl)) (fun _ _ _ h => h) (Or.inl ⟨by rfl,?_⟩) ?_ ?_;rotate_left
              ·
               intro w'
               go_simp
               with_reducible rfl
              rotate_left
              ·
               simp only [Act.put,zi,zj,zk,zG,zH]
               rfl
              refine pure_ (i:=28) (N:=some 152) (v:=?_) (a':=?_) (bm_ 29 36) rfl rfl (any_of HT_.out (by kernel_rfl)) (fun _ _ _ h => h) (Or.inl ⟨by rfl,?_⟩) ?_ ?_;rotate_left
              ·
               intro w'
               go_simp
               with_reducible rfl
              rotate_left
              ·
               simp only [Act.put,zi,zj,zk,zG,zH]
               rfl
              refine pure_ (i:=29) (N:=some 153) (v:=?_) (a':=?_) (bm_ 30 36) rfl rfl (any_of HT_.out (by kernel_rfl)) (fun _ _ _ h => h) (Or.inl ⟨by rfl,?_⟩) ?_ ?_;rotate_left
              ·
               intro w'
               go_simp
               with_reducible rfl
              rotate_left
              ·
               simp only [Act.put,zi,zj,zk,zG,zH]
               rfl
              refine pure_ (i:=31) (N:=some 155) (v:=?_) (a':=?_) #[true,true,true,true,true,true,true,true,true,true,true,true,true,true,true,true,true,true,true,true,true,true,true,true,true,true,true,true,true,true,false,true,false,false,false,false] rfl rfl (any_of HT_.out (by kernel_rfl)) (fun _ _ _ h => h) (Or.inl ⟨by rfl,?_⟩) ?_ ?_;rotate_left
              ·
               intro w'
               go_simp
               with_reducible rfl
              rotate_left
              ·
               simp only [Act.put,zi,zj,zk,zG,zH]
               rfl
              refine pure_ (i:=32) (N:=some 156) (v:=?_) (a':=?_) #[true,true,true,true,true,true,true,true,true,true,true,true,true,true,true,true,true,true,true,true,true,true,true,true,true,true,true,true,true,true,false,true,true,false,false,false] rfl rfl (any_of HT_.out (by kernel_rfl)) (fun _ _ _ h => h) (Or.inl ⟨by rfl,?_⟩) ?_ ?_;rotate_left
              ·
               intro w'
               go_simp
               with_reducible rfl
              rotate_left
              ·
               simp only [Act.put,zi,zj,zk,zG,zH]
               rfl
              refine take_ (i:=30) (N:=some 154) (v:=?_) (a':=?_) (bm_ 33 36) rfl rfl (yo HT_.out HW_.out (by kernel_rfl)) (fun _ _ _ h => h) (Or.inl ⟨by rfl,?_⟩) hHeld ?_ ?_;rotate_left
              ·
               rintro w' ⟨s0,s1,s2,s3,s4,s5,s6,s7,s8,s9,s10,s11,s12,s13,s14,s15⟩
               go_simp
               with_reducible rfl
              rotate_left
              ·
               simp only [Act.put,zi,zj,zk,zG,zH]
               rfl
              refine one_ (i:=33) (N:=some 157) (bm_ 34 36) rfl rfl (one_of HT_.out (by kernel_rfl)) (by decide) (fun K hK => ?_);refine goes_ Try.func41 (by kernel_rfl) rfl #[.agg #[.int .i64 ((rd_T54 t153 x10_2).f1.f0),.int .i64 ((rd_T54 t153 x10_2).f1.f1),.string ((rd_T54 t153 x10_2).f1.f2)],.int .i64 (wrap64 (a1 - 1))] (by rfl) rfl rfl (by (try simp only [zt,zu,zv]);first|done|rfl|(simp only [zw,zx];rfl)|(simp only [yr,ys,zV,zW];rfl)) ?_
              with_reducible refine (ih k2 (by have:=HJ53.out;have:=HK2.out;omega)  ((rd_T54 t153 x10_2).f1.f0) ((rd_T54 t153 x10_2).f1.f1) ((rd_T54 t153 x10_2).f1.f2) (wrap64 (a1 - 1)) true _ A75.out).mono ?_
              rintro e w79 ⟨rfl,hb⟩;have HS0_:=(hb.cell (zl _ _ (hHeld.1))).trans (hHeld.1);have HS1_:=(hb.cell (zl _ _ (hHeld.2.1))).trans (hHeld.2.1);have HS2_:=(hb.cell (zl _ _ (hHeld.2.2.1))).trans (hHeld.2.2.1);have HS3_:=(hb.cell (zl _ _ (hHeld.2.2.2.1))).trans (hHeld.2.2.2.1);have HS4_:=(hb.cell (zl _ _ (hHeld.2.2.2.2.1))).trans (hHeld.2.2.2.2.1);have HS5_:=(hb.cell (zl _ _ (hHeld.2.2.2.2.2.1))).trans (hHeld.2.2.2.2.2.1);have HS6_:=(hb.cell (zl _ _ (hHeld.2.2.2.2.2.2.1))).trans (hHeld.2.2.2.2.2.2.1);have HS7_:=(hb.cell (zl _ _ (hHeld.2.2.2.2.2.2.2.1))).trans (hHeld.2.2.2.2.2.2.2.1);have HS8_:=(hb.cell (zl _ _ (hHeld.2.2.2.2.2.2.2.2.1))).trans (hHeld.2.2.2.2.2.2.2.2.1);have HS9_:=(hb.cell (zl _ _ (hHeld.2.2.2.2.2.2.2.2.2.1))).trans (hHeld.2.2.2.2.2.2.2.2.2.1);have HS10_:=(hb.cell (zl _ _ (hHeld.2.2.2.2.2.2.2.2.2.2.1))).trans (hHeld.2.2.2.2.2.2.2.2.2.2.1);have HS11_:=(hb.cell (zl _ _ (hHeld.2.2.2.2.2.2.2.2.2.2.2.1))).trans (hHeld.2.2.2.2.2.2.2.2.2.2.2.1);have HS12_:=(hb.cell (zl _ _ (hHeld.2.2.2.2.2.2.2.2.2.2.2.2.1))).trans (hHeld.2.2.2.2.2.2.2.2.2.2.2.2.1);have HS13_:=(hb.cell (zl _ _ (hHeld.2.2.2.2.2.2.2.2.2.2.2.2.2.1))).trans (hHeld.2.2.2.2.2.2.2.2.2.2.2.2.2.1);have HS14_:=(hb.cell (zl _ _ (hHeld.2.2.2.2.2.2.2.2.2.2.2.2.2.2.1))).trans (hHeld.2.2.2.2.2.2.2.2.2.2.2.2.2.2.1);have HS15_:=(hb.cell (zl _ _ (hHeld.2.2.2.2.2.2.2.2.2.2.2.2.2.2.2))).trans (hHeld.2.2.2.2.2.2.2.2.2.2.2.2.2.2.2);refine ⟨_,rfl,?_⟩;replace HO_8:=zh (yg (by (with_reducible repeat (first|apply zm|apply zn|apply zo));exact HO_8.out) hb);replace BK144:=zh (zD (g:=gb144) (o:=.cells #[.int .i64 a0_0,.int .i64 a0_1,.string a0_2] 27 (0,0)) (by (with_reducible repeat (first|refine ze ?_ _|refine zf ?_|refine zg ?_ _));exact BK144.out) hb);replace HB:=zh (zC (by repeat (with_reducible first|exact HB.out|apply za|apply zb|apply zc|refine zd ?_ GE144.out)) hb);(try clear hb);(try clear hb2);(try clear hk);(try clear hi);refine hK.out _ _ ⟨HS0_,HS1_,HS2_,HS3_,HS4_,HS5_,HS6_,HS7_,HS8_,HS9_,HS10_,HS11_,HS12_,HS13_,HS14_,HS15_⟩ (fun hHeld => ?_);clear hK K;refine norm_ (a':=?_) ?_ ?_;rotate_left
              ·
               show Act.put _ (some 157) _=_
               simp only [Act.put,zi,zj,zk,zG,zH]
               rfl
              refine pure_ (i:=34) (N:=some 158) (v:=?_) (a':=?_) (bm_ 35 36) rfl rfl (any_of HT_.out (by kernel_rfl)) (fun _ _ _ h => h) (Or.inl ⟨by rfl,?_⟩) ?_ ?_;rotate_left
              ·
               intro w'
               go_simp
               with_reducible rfl
              rotate_left
              ·
               simp only [Act.put,zi,zj,zk,zG,zH]
               rfl
              refine pure_ (i:=35) (N:=some 159) (v:=?_) (a':=?_) (bm_ 36 36) rfl rfl (any_of HT_.out (by kernel_rfl)) (fun _ _ _ h => h) (Or.inl ⟨by rfl,?_⟩) ?_ ?_;rotate_left
              ·
               intro w'
               go_simp
               with_reducible rfl
              rotate_left
              ·
               simp only [Act.put,zi,zj,zk,zG,zH]
               rfl
              refine done_ (done_of HT_.out (by kernel_rfl)) ?_
              try go_wp2
              go_roundg k2
              case measure => have:=HJ53.out;have:=HK2.out;omega
              case rel => exact ⟨(wrap64 (x10_2 + 1)),(by first|rfl|(simp;done)|(simp [*];done)),H',⟨by have:=HJ53.out;have:=HK2.out;omega⟩,⟨by (with_reducible repeat (first|apply zm|apply zn|apply zo));exact HO_8.out⟩,⟨by (with_reducible repeat (first|refine ze ?_ _|refine zf ?_|refine zg ?_ _));exact BK144.out⟩,⟨by repeat (with_reducible first|exact HB.out|apply za|apply zb|apply zc|refine zd ?_ GE144.out)⟩⟩
             replace c76:=yb.mpr c76;subst c76;have H1 : (some false)=some r:=by rw [if_neg (show ¬ (false=true) by decide)] at H;exact H
             clear H;have H:=H1;clear H1;obtain rfl:=zU H;obtain ⟨Ao80,co80,eo80⟩:=yk HO_8.out;subst eo80
             try go_wp2
             replace HO_8:=zh (zo HO_8.out);replace BK144:=zh (zf BK144.out);replace HB:=zh (zc HB.out);have p157 : 0≤(x10_2 : Int):=zy (by first|(with_reducible assumption)|assumption);have q157 : x10_2<(t153.length : Int):=zy (by first|(with_reducible assumption)|assumption);obtain ⟨ad157,e157,hx157_0,hx157_1,hx157_2,hx157_3⟩:=at_T54 (yh HO_8.out).2.2 x10_2 p157 q157
             cases e157
             replace p157:=eq_true p157;replace q157:=eq_true q157;have p159 : 0≤((ji71) : Int):=zy (by first|(with_reducible assumption)|assumption);have q159 : (ji71)<(t153.length : Int):=zy (by first|(with_reducible assumption)|assumption);obtain ⟨ad159,e159,hx159_0,hx159_1,hx159_2,hx159_3⟩:=at_T54 (yh HO_8.out).2.2 (ji71) p159 q159;obtain rfl : ad157=ad159:=(by injection e159);replace p159:=eq_true p159;replace q159:=eq_true q159;have p160 : 0≤(x10_2 : Int):=zy (by first|(with_reducible assumption)|assumption);have q160 : x10_2<(t153.length : Int):=zy (by first|(with_reducible assumption)|assumption);obtain ⟨ad160,e160,hx160_0,hx160_1,hx160_2,hx160_3⟩:=at_T54 (yh HO_8.out).2.2 x10_2 p160 q160;obtain rfl : ad157=ad160:=(by injection e160);replace p160:=eq_true p160;replace q160:=eq_true q160;have p161 : 0≤(x10_2 : Int):=zy (by first|(with_reducible assumption)|assumption);have q161 : x10_2<(t153.length : Int):=zy (by first|(with_reducible assumption)|assumption);obtain ⟨ad161,e161,hx161_0,hx161_1,hx161_2,hx161_3⟩:=at_T54 (yh HO_8.out).2.2 x10_2 p161 q161;obtain rfl : ad157=ad161:=(by injection e161);replace p161:=eq_true p161;replace q161:=eq_true q161;refine start_ (n:=36) (S:=fun w' => w'.cell? (ad157.add ((x10_2).toNat * 4))=some (.string ((rd_T54 t153 x10_2).f0))∧w'.cell? ⟨(ad157.add ((x10_2).toNat * 4)).block,(ad157.add ((x10_2).toNat * 4)).off + 1,none⟩=some (.int .i64 ((rd_T54 t153 x10_2).f1.f0))∧w'.cell? ⟨(ad157.add ((x10_2).toNat * 4)).block,(ad157.add ((x10_2).toNat * 4)).off + 2,none⟩=some (.int .i64 ((rd_T54 t153 x10_2).f1.f1))∧w'.cell? ⟨(ad157.add ((x10_2).toNat * 4)).block,(ad157.add ((x10_2).toNat * 4)).off + 3,none⟩=some (.string ((rd_T54 t153 x10_2).f1.f2))∧w'.cell? (ad157.add (((ji71)).toNat * 4))=some (.string ((rd_T54 t153 (ji71)).f0))∧w'.cell? ⟨(ad157.add (((ji71)).toNat * 4)).block,(ad157.add (((ji71)).toNat * 4)).off + 1,none⟩=some (.int .i64 ((rd_T54 t153 (ji71)).f1.f0))∧w'.cell? ⟨(ad157.add (((ji71)).toNat * 4)).block,(ad157.add (((ji71)).toNat * 4)).off + 2,none⟩=some (.int .i64 ((rd_T54 t153 (ji71)).f1.f1))∧w'.cell? ⟨(ad157.add (((ji71)).toNat * 4)).block,(ad157.add (((ji71)).toNat * 4)).off + 3,none⟩=some (.string ((rd_T54 t153 (ji71)).f1.f2))∧w'.cell? (ad157.add ((x10_2).toNat * 4))=some (.string ((rd_T54 t153 x10_2).f0))∧w'.cell? ⟨(ad157.add ((x10_2).toNat * 4)).block,(ad157.add ((x10_2).toNat * 4)).off + 1,none⟩=some (.int .i64 ((rd_T54 t153 x10_2).f1.f0))∧w'.cell? ⟨(ad157.add ((x10_2).toNat * 4)).block,(ad157.add ((x10_2).toNat * 4)).off + 2,none⟩=some (.int .i64 ((rd_T54 t153 x10_2).f1.f1))∧w'.cell? ⟨(ad157.add ((x10_2).toNat * 4)).block,(ad157.add ((x10_2).toNat * 4)).off + 3,none⟩=some (.string ((rd_T54 t153 x10_2).f1.f2))∧w'.cell? (ad157.add ((x10_2).toNat * 4))=some (.string ((rd_T54 t153 x10_2).f0))∧w'.cell? ⟨(ad157.add ((x10_2).toNat * 4)).block,(ad157.add ((x10_2).toNat * 4)).off + 1,none⟩=some (.int .i64 ((rd_T54 t153 x10_2).f1.f0))∧w'.cell? ⟨(ad157.add ((x10_2).toNat * 4)).block,(ad157.add ((x10_2).toNat * 4)).off + 2,none⟩=some (.int .i64 ((rd_T54 t153 x10_2).f1.f1))∧w'.cell? ⟨(ad157.add ((x10_2).toNat * 4)).block,(ad157.add ((x10_2).toNat * 4)).off + 3,none⟩=some (.string ((rd_T54 t153 x10_2).f1.f2))) (ds:=[]) (bm_ 0 36) (by kernel_rfl) rfl rfl ⟨hx157_0,hx157_1,hx157_2,hx157_3,hx159_0,hx159_1,hx159_2,hx159_3,hx160_0,hx160_1,hx160_2,hx160_3,hx161_0,hx161_1,hx161_2,hx161_3⟩ (fun hHeld => ?_);refine with_tabW F0.tab27 F0.bits27 (fun HT_ HW_ => ?_);generalize wr.drew=w81 at HO_8 BK144 HB hx157_0 hx157_1 hx157_2 hx157_3 hx159_0 hx159_1 hx159_2 hx159_3 hx160_0 hx160_1 hx160_2 hx160_3 hx161_0 hx161_1 hx161_2 hx161_3 hHeld ⊢;refine pure_ (i:=0) (N:=some 124) (v:=?_) (a':=?_) (bm_ 1 36) rfl rfl (any_of HT_.out (by kernel_rfl)) (fun _ _ _ h => h) (Or.inl ⟨by rfl,?_⟩) ?_ ?_;rotate_left
             ·
              intro w'
              go_simp
              with_reducible rfl
             rotate_left
             ·
              simp only [Act.put,zi,zj,zk,zG,zH]
              rfl
             refine pure_ (i:=1) (N:=some 125) (v:=?_) (a':=?_) (bm_ 2 36) rfl rfl (any_of HT_.out (by kernel_rfl)) (fun _ _ _ h => h) (Or.inl ⟨by rfl,?_⟩) ?_ ?_;rotate_left
             ·
              intro w'
              go_simp
              with_reducible rfl
             rotate_left
             ·
              simp only [Act.put,zi,zj,zk,zG,zH]
              rfl
             refine pure_ (i:=2) (N:=some 126) (v:=?_) (a':=?_) (bm_ 3 36) rfl rfl (any_of HT_.out (by kernel_rfl)) (fun _ _ _ h => h) (Or.inl ⟨by rfl,?_⟩) ?_ ?_;rotate_left
             ·
              intro w'
              go_simp
              with_reducible rfl
             rotate_left
             ·
              simp only [Act.put,zi,zj,zk,zG,zH]
              rfl
             refine pure_ (i:=3) (N:=some 127) (v:=?_) (a':=?_) (bm_ 4 36) rfl rfl (any_of HT_.out (by kernel_rfl)) (fun _ _ _ h => h) (Or.inl ⟨by rfl,?_⟩) ?_ ?_;rotate_left
             ·
              intro w'
              go_simp
              with_reducible rfl
             rotate_left
             ·
              simp only [Act.put,zi,zj,zk,zG,zH]
              rfl
             refine take_ (i:=4) (N:=some 128) (v:=?_) (a':=?_) (bm_ 5 36) rfl rfl (yo HT_.out HW_.out (by kernel_rfl)) (fun _ _ _ h => h) (Or.inl ⟨by rfl,?_⟩) hHeld ?_ ?_;rotate_left
             ·
              rintro w' ⟨s0,s1,s2,s3,s4,s5,s6,s7,s8,s9,s10,s11,s12,s13,s14,s15⟩
              go_simp
              with_reducible rfl
             rotate_left
             ·
              simp only [Act.put,zi,zj,zk,zG,zH]
              rfl
             refine one_ (i:=5) (N:=some 129) (bm_ 6 36) rfl rfl (one_of HT_.out (by kernel_rfl)) (by decide) (fun K hK => ?_);refine goes_ Try.func26 (by kernel_rfl) rfl #[.string ((rd_T54 t153 x10_2).f0)] (by rfl) rfl rfl (by (try simp only [zt,zu,zv]);first|done|rfl|(simp only [zw,zx];rfl)|(simp only [yr,ys,zV,zW];rfl)) ?_
             with_reducible refine (Fp.calls k2  ((rd_T54 t153 x10_2).f0) true _ A68.out).mono ?_
             rintro e w' ⟨rfl,⟨nd,rfl⟩⟩;refine ⟨_,rfl,?_⟩;refine hK.out _ _ ⟨hHeld.1,hHeld.2.1,hHeld.2.2.1,hHeld.2.2.2.1,hHeld.2.2.2.2.1,hHeld.2.2.2.2.2.1,hHeld.2.2.2.2.2.2.1,hHeld.2.2.2.2.2.2.2.1,hHeld.2.2.2.2.2.2.2.2.1,hHeld.2.2.2.2.2.2.2.2.2.1,hHeld.2.2.2.2.2.2.2.2.2.2.1,hHeld.2.2.2.2.2.2.2.2.2.2.2.1,hHeld.2.2.2.2.2.2.2.2.2.2.2.2.1,hHeld.2.2.2.2.2.2.2.2.2.2.2.2.2.1,hHeld.2.2.2.2.2.2.2.2.2.2.2.2.2.2.1,hHeld.2.2.2.2.2.2.2.2.2.2.2.2.2.2.2⟩ (fun hHeld => ?_);clear hK K;refine norm_ (a':=?_) ?_ ?_;rotate_left
             ·
              show Act.put _ (some 129) _=_
              simp only [Act.put,zi,zj,zk,zG,zH]
              rfl
             refine pure_ (i:=6) (N:=some 130) (v:=?_) (a':=?_) (bm_ 7 36) rfl rfl (any_of HT_.out (by kernel_rfl)) (fun _ _ _ h => h) (Or.inl ⟨by rfl,?_⟩) ?_ ?_;rotate_left
             ·
              intro w'
              go_simp
              with_reducible rfl
             rotate_left
             ·
              simp only [Act.put,zi,zj,zk,zG,zH]
              rfl
             refine pure_ (i:=7) (N:=some 131) (v:=?_) (a':=?_) (bm_ 8 36) rfl rfl (any_of HT_.out (by kernel_rfl)) (fun _ _ _ h => h) (Or.inl ⟨by rfl,?_⟩) ?_ ?_;rotate_left
             ·
              intro w'
              go_simp
              with_reducible rfl
             rotate_left
             ·
              simp only [Act.put,zi,zj,zk,zG,zH]
              rfl
             refine pure_ (i:=8) (N:=some 132) (v:=?_) (a':=?_) (bm_ 9 36) rfl rfl (any_of HT_.out (by kernel_rfl)) (fun _ _ _ h => h) (Or.inl ⟨by rfl,?_⟩) ?_ ?_;rotate_left
             ·
              intro w'
              go_simp
              with_reducible rfl
             rotate_left
             ·
              simp only [Act.put,zi,zj,zk,zG,zH]
              rfl
             refine pure_ (i:=9) (N:=some 133) (v:=?_) (a':=?_) (bm_ 10 36) rfl rfl (any_of HT_.out (by kernel_rfl)) (fun _ _ _ h => h) (Or.inl ⟨by rfl,?_⟩) ?_ ?_;rotate_left
             ·
              intro w'
              go_simp
              with_reducible rfl
             rotate_left
             ·
              simp only [Act.put,zi,zj,zk,zG,zH]
              rfl
             refine pure_ (i:=10) (N:=some 134) (v:=?_) (a':=?_) (bm_ 11 36) rfl rfl (any_of HT_.out (by kernel_rfl)) (fun _ _ _ h => h) (Or.inl ⟨by rfl,?_⟩) ?_ ?_;rotate_left
             ·
              intro w'
              go_simp
              with_reducible rfl
             rotate_left
             ·
              simp only [Act.put,zi,zj,zk,zG,zH]
              rfl
             refine pure_ (i:=11) (N:=some 135) (v:=?_) (a':=?_) (bm_ 12 36) rfl rfl (any_of HT_.out (by kernel_rfl)) (fun _ _ _ h => h) (Or.inl ⟨by rfl,?_⟩) ?_ ?_;rotate_left
             ·
              intro w'
              go_simp
              with_reducible rfl
             rotate_left
             ·
              simp only [Act.put,zi,zj,zk,zG,zH]
              rfl
             refine pure_ (i:=12) (N:=some 136) (v:=?_) (a':=?_) (bm_ 13 36) rfl rfl (any_of HT_.out (by kernel_rfl)) (fun _ _ _ h => h) (Or.inl ⟨by rfl,?_⟩) ?_ ?_;rotate_left
             ·
              intro w'
              go_simp
              with_reducible rfl
             rotate_left
             ·
              simp only [Act.put,zi,zj,zk,zG,zH]
              rfl
             refine pure_ (i:=13) (N:=some 137) (v:=?_) (a':=?_) (bm_ 14 36) rfl rfl (any_of HT_.out (by kernel_rfl)) (fun _ _ _ h => h) (Or.inl ⟨by rfl,?_⟩) ?_ ?_;rotate_left
             ·
              intro w'
              go_simp
              with_reducible rfl
             rotate_left
             ·
              simp only [Act.put,zi,zj,zk,zG,zH]
              rfl
             refine pure_ (i:=14) (N:=some 138) (v:=?_) (a':=?_) (bm_ 15 36) rfl rfl (any_of HT_.out (by kernel_rfl)) (fun _ _ _ h => h) (Or.inl ⟨by rfl,?_⟩) ?_ ?_;rotate_left
             ·
              intro w'
              go_simp
              with_reducible rfl
             rotate_left
             ·
              simp only [Act.put,zi,zj,zk,zG,zH]
              rfl
             refine pure_ (i:=15) (N:=some 139) (v:=?_) (a':=?_) (bm_ 16 36) rfl rfl (any_of HT_.out (by kernel_rfl)) (fun _ _ _ h => h) (Or.inl ⟨by rfl,?_⟩) ?_ ?_;rotate_left
             ·
              intro w'
              go_simp
              with_reducible rfl
             rotate_left
             ·
              simp only [Act.put,zi,zj,zk,zG,zH]
              rfl
             refine pure_ (i:=17) (N:=some 141) (v:=?_) (a':=?_) #[true,true,true,true,true,true,true,true,true,true,true,true,true,true,true,true,false,true,false,false,false,false,false,false,false,false,false,false,false,false,false,false,false,false,false,false] rfl rfl (any_of HT_.out (by kernel_rfl)) (fun _ _ _ h => h) (Or.inl ⟨by rfl,?_⟩) ?_ ?_;rotate_left
             ·
              intro w'
              go_simp
              with_reducible rfl
             rotate_left
             ·
              simp only [Act.put,zi,zj,zk,zG,zH]
              rfl
             refine pure_ (i:=18) (N:=some 142) (v:=?_) (a':=?_) #[true,true,true,true,true,true,true,true,true,true,true,true,true,true,true,true,false,true,true,false,false,false,false,false,false,false,false,false,false,false,false,false,false,false,false,false] rfl rfl (any_of HT_.out (by kernel_rfl)) (fun _ _ _ h => h) (Or.inl ⟨by rfl,?_⟩) ?_ ?_;rotate_left
             ·
              intro w'
              go_simp
              with_reducible rfl
             rotate_left
             ·
              simp only [Act.put,zi,zj,zk,zG,zH]
              rfl
             refine pure_ (i:=19) (N:=some 143) (v:=?_) (a':=?_) #[true,true,true,true,true,true,true,true,true,true,true,true,true,true,true,true,false,true,true,true,false,false,false,false,false,false,false,false,false,false,false,false,false,false,false,false] rfl rfl (any_of HT_.out (by kernel_rfl)) (fun _ _ _ h => h) (Or.inl ⟨by rfl,?_⟩) ?_ ?_;rotate_left
             ·
              intro w'
              go_simp
              with_reducible rfl
             rotate_left
             ·
              simp only [Act.put,zi,zj,zk,zG,zH]
              rfl
             refine pure_ (i:=20) (N:=some 144) (v:=?_) (a':=?_) #[true,true,true,true,true,true,true,true,true,true,true,true,true,true,true,true,false,true,true,true,true,false,false,false,false,false,false,false,false,false,false,false,false,false,false,false] rfl rfl (any_of HT_.out (by kernel_rfl)) (fun _ _ _ h => h) (Or.inl ⟨by rfl,?_⟩) ?_ ?_;rotate_left
             ·
              intro w'
              go_simp
              with_reducible rfl
             rotate_left
             ·
              simp only [Act.put,zi,zj,zk,zG,zH]
              rfl
             refine take_ (i:=16) (N:=some 140) (v:=?_) (a':=?_) (bm_ 21 36) rfl rfl (yo HT_.out HW_.out (by kernel_rfl)) (fun _ _ _ h => h) (Or.inl ⟨by rfl,?_⟩) hHeld ?_ ?_;rotate_left
             ·
              rintro w' ⟨s0,s1,s2,s3,s4,s5,s6,s7,s8,s9,s10,s11,s12,s13,s14,s15⟩
              go_simp
              with_reducible rfl
             rotate_left
             ·
              simp only [Act.put,zi,zj,zk,zG,zH]
              rfl
             refine take_ (i:=21) (N:=some 145) (v:=?_) (a':=?_) (bm_ 22 36) rfl rfl (yo HT_.out HW_.out (by kernel_rfl)) (fun _ _ _ h => h) (Or.inl ⟨by rfl,?_⟩) hHeld ?_ ?_;rotate_left
             ·
              rintro w' ⟨s0,s1,s2,s3,s4,s5,s6,s7,s8,s9,s10,s11,s12,s13,s14,s15⟩
              go_simp
              with_reducible rfl
             rotate_left
             ·
              simp only [Act.put,zi,zj,zk,zG,zH]
              rfl
             refine pure_ (i:=22) (N:=some 146) (v:=?_) (a':=?_) (bm_ 23 36) rfl rfl (any_of HT_.out (by kernel_rfl)) (fun _ _ _ h => h) (Or.inl ⟨by rfl,?_⟩) ?_ ?_;rotate_left
             ·
              intro w'
              go_simp
              with_reducible rfl
             rotate_left
             ·
              simp only [Act.put,zi,zj,zk,zG,zH]
              rfl
             refine pure_ (i:=23) (N:=some 147) (v:=?_) (a':=?_) (bm_ 24 36) rfl rfl (any_of HT_.out (by kernel_rfl)) (fun _ _ _ h => h) (Or.inl ⟨by rfl,?_⟩) ?_ ?_;rotate_left
             ·
              intro w'
              go_simp
              with_reducible rfl
             rotate_left
             ·
              simp only [Act.put,zi,zj,zk,zG,zH]
              rfl
             refine pure_ (i:=24) (N:=some 148) (v:=?_) (a':=?_) (bm_ 25 36) rfl rfl (any_of HT_.out (by kernel_rfl)) (fun _ _ _ h => h) (Or.inl ⟨by rfl,?_⟩) ?_ ?_;rotate_left
             ·
              intro w'
              go_simp
              with_reducible rfl
             rotate_left
             ·
              simp only [Act.put,zi,zj,zk,zG,zH]
              rfl
             refine pure_ (i:=25) (N:=some 149) (v:=?_) (a':=?_) (bm_ 26 36) rfl rfl (any_of HT_.out (by kernel_rfl)) (fun _ _ _ h => h) (Or.inl ⟨by rfl,?_⟩) ?_ ?_;rotate_left
             ·
              intro w'
              go_simp
              with_reducible rfl
             rotate_left
             ·
              simp only [Act.put,zi,zj,zk,zG,zH]
              rfl
             refine pure_ (i:=26) (N:=some 150) (v:=?_) (a':=?_) (bm_ 27 36) rfl rfl (any_of HT_.out (by kernel_rfl)) (fun _ _ _ h => h) (Or.inl ⟨by rfl,?_⟩) ?_ ?_;rotate_left
             ·
              intro w'
              go_simp
              with_reducible rfl
             rotate_left
             ·
              simp only [Act.put,zi,zj,zk,zG,zH]
              rfl
             refine pure_ (i:=27) (N:=some 151) (v:=?_) (a':=?_) (bm_ 28 36) rfl rfl (any_of HT_.out (by kernel_rfl)) (fun _ _ _ h => h) (Or.inl ⟨by rfl,?_⟩) ?_ ?_;rotate_left
             ·
              intro w'
              go_simp
              with_reducible rfl
             rotate_left
             ·
              simp only [Act.put,zi,zj,zk,zG,zH]
              rfl
             refine pure_ (i:=28) (N:=some 152) (v:=?_) (a':=?_) (bm_ 29 36) rfl rfl (any_of HT_.out (by kernel_rfl)) (fun _ _ _ h => h) (Or.inl ⟨by rfl,?_⟩) ?_ ?_;rotate_left
             ·
              intro w'
              go_simp
              with_reducible rfl
             rotate_left
             ·
              simp only [Act.put,zi,zj,zk,zG,zH]
              rfl
             refine pure_ (i:=29) (N:=some 153) (v:=?_) (a':=?_) (bm_ 30 36) rfl rfl (any_of HT_.out (by kernel_rfl)) (fun _ _ _ h => h) (Or.inl ⟨by rfl,?_⟩) ?_ ?_;rotate_left
             ·
              intro w'
              go_simp
              with_reducible rfl
             rotate_left
             ·
              simp only [Act.put,zi,zj,zk,zG,zH]
              rfl
             refine pure_ (i:=31) (N:=some 155) (v:=?_) (a':=?_) #[true,true,true,true,true,true,true,true,true,true,true,true,true,true,true,true,true,true,true,true,true,true,true,true,true,true,true,true,true,true,false,true,false,false,false,false] rfl rfl (any_of HT_.out (by kernel_rfl)) (fun _ _ _ h => h) (Or.inl ⟨by rfl,?_⟩) ?_ ?_;rotate_left
             ·
              intro w'
              go_simp
              with_reducible rfl
             rotate_left
             ·
              simp only [Act.put,zi,zj,zk,zG,zH]
              rfl
             refine pure_ (i:=32) (N:=some 156) (v:=?_) (a':=?_) #[true,true,true,true,true,true,true,true,true,true,true,true,true,true,true,true,true,true,true,true,true,true,true,true,true,true,true,true,true,true,false,true,true,false,false,false] rfl rfl (any_of HT_.out (by kernel_rfl)) (fun _ _ _ h => h) (Or.inl ⟨by rfl,?_⟩) ?_ ?_;rotate_left
             ·
              intro w'
              go_simp
              with_reducible rfl
             rotate_left
             ·
              simp only [Act.put,zi,zj,zk,zG,zH]
              rfl
             refine take_ (i:=30) (N:=some 154) (v:=?_) (a':=?_) (bm_ 33 36) rfl rfl (yo HT_.out HW_.out (by kernel_rfl)) (fun _ _ _ h => h) (Or.inl ⟨by rfl,?_⟩) hHeld ?_ ?_;rotate_left
             ·
              rintro w' ⟨s0,s1,s2,s3,s4,s5,s6,s7,s8,s9,s10,s11,s12,s13,s14,s15⟩
              go_simp
              with_reducible rfl
             rotate_left
             ·
              simp only [Act.put,zi,zj,zk,zG,zH]
              rfl
             refine one_ (i:=33) (N:=some 157) (bm_ 34 36) rfl rfl (one_of HT_.out (by kernel_rfl)) (by decide) (fun K hK => ?_);refine goes_ Try.func41 (by kernel_rfl) rfl #[.agg #[.int .i64 ((rd_T54 t153 x10_2).f1.f0),.int .i64 ((rd_T54 t153 x10_2).f1.f1),.string ((rd_T54 t153 x10_2).f1.f2)],.int .i64 (wrap64 (a1 - 1))] (by rfl) rfl rfl (by (try simp only [zt,zu,zv]);first|done|rfl|(simp only [zw,zx];rfl)|(simp only [yr,ys,zV,zW];rfl)) ?_
             with_reducible refine (ih k2 (by have:=HJ53.out;have:=HK2.out;omega)  ((rd_T54 t153 x10_2).f1.f0) ((rd_T54 t153 x10_2).f1.f1) ((rd_T54 t153 x10_2).f1.f2) (wrap64 (a1 - 1)) false _ A75.out).mono ?_
             rintro e w82 ⟨rfl,hb⟩;have HS0_:=(hb.cell (zl _ _ (hHeld.1))).trans (hHeld.1);have HS1_:=(hb.cell (zl _ _ (hHeld.2.1))).trans (hHeld.2.1);have HS2_:=(hb.cell (zl _ _ (hHeld.2.2.1))).trans (hHeld.2.2.1);have HS3_:=(hb.cell (zl _ _ (hHeld.2.2.2.1))).trans (hHeld.2.2.2.1);have HS4_:=(hb.cell (zl _ _ (hHeld.2.2.2.2.1))).trans (hHeld.2.2.2.2.1);have HS5_:=(hb.cell (zl _ _ (hHeld.2.2.2.2.2.1))).trans (hHeld.2.2.2.2.2.1);have HS6_:=(hb.cell (zl _ _ (hHeld.2.2.2.2.2.2.1))).trans (hHeld.2.2.2.2.2.2.1);have HS7_:=(hb.cell (zl _ _ (hHeld.2.2.2.2.2.2.2.1))).trans (hHeld.2.2.2.2.2.2.2.1);have HS8_:=(hb.cell (zl _ _ (hHeld.2.2.2.2.2.2.2.2.1))).trans (hHeld.2.2.2.2.2.2.2.2.1);have HS9_:=(hb.cell (zl _ _ (hHeld.2.2.2.2.2.2.2.2.2.1))).trans (hHeld.2.2.2.2.2.2.2.2.2.1);have HS10_:=(hb.cell (zl _ _ (hHeld.2.2.2.2.2.2.2.2.2.2.1))).trans (hHeld.2.2.2.2.2.2.2.2.2.2.1);have HS11_:=(hb.cell (zl _ _ (hHeld.2.2.2.2.2.2.2.2.2.2.2.1))).trans (hHeld.2.2.2.2.2.2.2.2.2.2.2.1);have HS12_:=(hb.cell (zl _ _ (hHeld.2.2.2.2.2.2.2.2.2.2.2.2.1))).trans (hHeld.2.2.2.2.2.2.2.2.2.2.2.2.1);have HS13_:=(hb.cell (zl _ _ (hHeld.2.2.2.2.2.2.2.2.2.2.2.2.2.1))).trans (hHeld.2.2.2.2.2.2.2.2.2.2.2.2.2.1);have HS14_:=(hb.cell (zl _ _ (hHeld.2.2.2.2.2.2.2.2.2.2.2.2.2.2.1))).trans (hHeld.2.2.2.2.2.2.2.2.2.2.2.2.2.2.1);have HS15_:=(hb.cell (zl _ _ (hHeld.2.2.2.2.2.2.2.2.2.2.2.2.2.2.2))).trans (hHeld.2.2.2.2.2.2.2.2.2.2.2.2.2.2.2);refine ⟨_,rfl,?_⟩;replace HO_8:=zh (yg (by (with_reducible repeat (first|apply zm|apply zn|apply zo));exact HO_8.out) hb);replace BK144:=zh (zD (g:=gb144) (o:=.cells #[.int .i64 a0_0,.int .i64 a0_1,.string a0_2] 27 (0,0)) (by (with_reducible repeat (first|refine ze ?_ _|refine zf ?_|refine zg ?_ _));exact BK144.out) hb);replace HB:=zh (zC (by repeat (with_reducible first|exact HB.out|apply za|apply zb|apply zc|refine zd ?_ GE144.out)) hb);(try clear hb);(try clear hb2);(try clear hk);(try clear hi);refine hK.out _ _ ⟨HS0_,HS1_,HS2_,HS3_,HS4_,HS5_,HS6_,HS7_,HS8_,HS9_,HS10_,HS11_,HS12_,HS13_,HS14_,HS15_⟩ (fun hHeld => ?_);clear hK K;refine norm_ (a':=?_) ?_ ?_;rotate_left
             ·
              show Act.put _ (some 157) _=_
              simp only [Act.put,zi,zj,zk,zG,zH]
              rfl
             refine pure_ (i:=34) (N:=some 158) (v:=?_) (a':=?_) (bm_ 35 36) rfl rfl (any_of HT_.out (by kernel_rfl)) (fun _ _ _ h => h) (Or.inl ⟨by rfl,?_⟩) ?_ ?_;rotate_left
             ·
              intro w'
              go_simp
              with_reducible rfl
             rotate_left
             ·
              simp only [Act.put,zi,zj,zk,zG,zH]
              rfl
             refine pure_ (i:=35) (N:=some 159) (v:=?_) (a':=?_) (bm_ 36 36) rfl rfl (any_of HT_.out (by kernel_rfl)) (fun _ _ _ h => h) (Or.inl ⟨by rfl,?_⟩) ?_ ?_;rotate_left
             ·
              intro w'
              go_simp
              with_reducible rfl
             rotate_left
             ·
              simp only [Act.put,zi,zj,zk,zG,zH]
              rfl
             refine done_ (done_of HT_.out (by kernel_rfl)) ?_
             try go_wp2
             go_ret
             exact ⟨by first|rfl|(simp [yt,yu] <;> rfl)|(simp only [← hji71];first|rfl|(simp [yt,yu] <;> rfl))|(simp [*,yt,yu] <;> rfl),by repeat (with_reducible first|exact HB.out|apply za|apply zb|apply zc|refine zd ?_ GE144.out)⟩
            rw [if_neg c74] at H;have c74b0 : (Op.bytesLess (((rd_T54 t153 (ji71)).f0).toList) (((rd_T54 t153 x10_2).f0).toList))=false:=by simpa using c74
            clear c74;obtain rfl:=zU H;obtain ⟨Ao83,co83,eo83⟩:=yk HO_8.out;subst eo83
            try go_wp2
            replace HO_8:=zh (zo HO_8.out);replace BK144:=zh (zf BK144.out);replace HB:=zh (zc HB.out);have p157 : 0≤(x10_2 : Int):=zy (by first|(with_reducible assumption)|assumption);have q157 : x10_2<(t153.length : Int):=zy (by first|(with_reducible assumption)|assumption);obtain ⟨ad157,e157,hx157_0,hx157_1,hx157_2,hx157_3⟩:=at_T54 (yh HO_8.out).2.2 x10_2 p157 q157
            cases e157
            replace p157:=eq_true p157;replace q157:=eq_true q157;have p159 : 0≤((ji71) : Int):=zy (by first|(with_reducible assumption)|assumption);have q159 : (ji71)<(t153.length : Int):=zy (by first|(with_reducible assumption)|assumption);obtain ⟨ad159,e159,hx159_0,hx159_1,hx159_2,hx159_3⟩:=at_T54 (yh HO_8.out).2.2 (ji71) p159 q159;obtain rfl : ad157=ad159:=(by injection e159);replace p159:=eq_true p159;replace q159:=eq_true q159;have p160 : 0≤(x10_2 : Int):=zy (by first|(with_reducible assumption)|assumption);have q160 : x10_2<(t153.length : Int):=zy (by first|(with_reducible assumption)|assumption);obtain ⟨ad160,e160,hx160_0,hx160_1,hx160_2,hx160_3⟩:=at_T54 (yh HO_8.out).2.2 x10_2 p160 q160;obtain rfl : ad157=ad160:=(by injection e160);replace p160:=eq_true p160;replace q160:=eq_true q160;refine start_ (n:=36) (S:=fun w' => w'.cell? (ad157.add ((x10_2).toNat * 4))=some (.string ((rd_T54 t153 x10_2).f0))∧w'.cell? ⟨(ad157.add ((x10_2).toNat * 4)).block,(ad157.add ((x10_2).toNat * 4)).off + 1,none⟩=some (.int .i64 ((rd_T54 t153 x10_2).f1.f0))∧w'.cell? ⟨(ad157.add ((x10_2).toNat * 4)).block,(ad157.add ((x10_2).toNat * 4)).off + 2,none⟩=some (.int .i64 ((rd_T54 t153 x10_2).f1.f1))∧w'.cell? ⟨(ad157.add ((x10_2).toNat * 4)).block,(ad157.add ((x10_2).toNat * 4)).off + 3,none⟩=some (.string ((rd_T54 t153 x10_2).f1.f2))∧w'.cell? (ad157.add (((ji71)).toNat * 4))=some (.string ((rd_T54 t153 (ji71)).f0))∧w'.cell? ⟨(ad157.add (((ji71)).toNat * 4)).block,(ad157.add (((ji71)).toNat * 4)).off + 1,none⟩=some (.int .i64 ((rd_T54 t153 (ji71)).f1.f0))∧w'.cell? ⟨(ad157.add (((ji71)).toNat * 4)).block,(ad157.add (((ji71)).toNat * 4)).off + 2,none⟩=some (.int .i64 ((rd_T54 t153 (ji71)).f1.f1))∧w'.cell? ⟨(ad157.add (((ji71)).toNat * 4)).block,(ad157.add (((ji71)).toNat * 4)).off + 3,none⟩=some (.string ((rd_T54 t153 (ji71)).f1.f2))∧w'.cell? (ad157.add ((x10_2).toNat * 4))=some (.string ((rd_T54 t153 x10_2).f0))∧w'.cell? ⟨(ad157.add ((x10_2).toNat * 4)).block,(ad157.add ((x10_2).toNat * 4)).off + 1,none⟩=some (.int .i64 ((rd_T54 t153 x10_2).f1.f0))∧w'.cell? ⟨(ad157.add ((x10_2).toNat * 4)).block,(ad157.add ((x10_2).toNat * 4)).off + 2,none⟩=some (.int .i64 ((rd_T54 t153 x10_2).f1.f1))∧w'.cell? ⟨(ad157.add ((x10_2).toNat * 4)).block,(ad157.add ((x10_2).toNat * 4)).off + 3,none⟩=some (.string ((rd_T54 t153 x10_2).f1.f2))) (ds:=[]) (bm_ 0 36) (by kernel_rfl) rfl rfl ⟨hx157_0,hx157_1,hx157_2,hx157_3,hx159_0,hx159_1,hx159_2,hx159_3,hx160_0,hx160_1,hx160_2,hx160_3⟩ (fun hHeld => ?_);refine with_tabW F0.tab27 F0.bits27 (fun HT_ HW_ => ?_);generalize wr.drew=w84 at HO_8 BK144 HB hx157_0 hx157_1 hx157_2 hx157_3 hx159_0 hx159_1 hx159_2 hx159_3 hx160_0 hx160_1 hx160_2 hx160_3 hHeld ⊢;refine pure_ (i:=0) (N:=some 124) (v:=?_) (a':=?_) (bm_ 1 36) rfl rfl (any_of HT_.out (by kernel_rfl)) (fun _ _ _ h => h) (Or.inl ⟨by rfl,?_⟩) ?_ ?_;rotate_left
            ·
             intro w'
             go_simp
             with_reducible rfl
            rotate_left
            ·
             simp only [Act.put,zi,zj,zk,zG,zH]
             rfl
            refine pure_ (i:=1) (N:=some 125) (v:=?_) (a':=?_) (bm_ 2 36) rfl rfl (any_of HT_.out (by kernel_rfl)) (fun _ _ _ h => h) (Or.inl ⟨by rfl,?_⟩) ?_ ?_;rotate_left
            ·
             intro w'
             go_simp
             with_reducible rfl
            rotate_left
            ·
             simp only [Act.put,zi,zj,zk,zG,zH]
             rfl
            refine pure_ (i:=2) (N:=some 126) (v:=?_) (a':=?_) (bm_ 3 36) rfl rfl (any_of HT_.out (by kernel_rfl)) (fun _ _ _ h => h) (Or.inl ⟨by rfl,?_⟩) ?_ ?_;rotate_left
            ·
             intro w'
             go_simp
             with_reducible rfl
            rotate_left
            ·
             simp only [Act.put,zi,zj,zk,zG,zH]
             rfl
            refine pure_ (i:=3) (N:=some 127) (v:=?_) (a':=?_) (bm_ 4 36) rfl rfl (any_of HT_.out (by kernel_rfl)) (fun _ _ _ h => h) (Or.inl ⟨by rfl,?_⟩) ?_ ?_;rotate_left
            ·
             intro w'
             go_simp
             with_reducible rfl
            rotate_left
            ·
             simp only [Act.put,zi,zj,zk,zG,zH]
             rfl
            refine take_ (i:=4) (N:=some 128) (v:=?_) (a':=?_) (bm_ 5 36) rfl rfl (yo HT_.out HW_.out (by kernel_rfl)) (fun _ _ _ h => h) (Or.inl ⟨by rfl,?_⟩) hHeld ?_ ?_;rotate_left
            ·
             rintro w' ⟨s0,s1,s2,s3,s4,s5,s6,s7,s8,s9,s10,s11⟩
             go_simp
             with_reducible rfl
            rotate_left
            ·
             simp only [Act.put,zi,zj,zk,zG,zH]
             rfl
            refine one_ (i:=5) (N:=some 129) (bm_ 6 36) rfl rfl (one_of HT_.out (by kernel_rfl)) (by decide) (fun K hK => ?_);refine goes_ Try.func26 (by kernel_rfl) rfl #[.string ((rd_T54 t153 x10_2).f0)] (by rfl) rfl rfl (by (try simp only [zt,zu,zv]);first|done|rfl|(simp only [zw,zx];rfl)|(simp only [yr,ys,zV,zW];rfl)) ?_
            with_reducible refine (Fp.calls k2  ((rd_T54 t153 x10_2).f0) true _ A68.out).mono ?_
            rintro e w' ⟨rfl,⟨nd,rfl⟩⟩;refine ⟨_,rfl,?_⟩;refine hK.out _ _ ⟨hHeld.1,hHeld.2.1,hHeld.2.2.1,hHeld.2.2.2.1,hHeld.2.2.2.2.1,hHeld.2.2.2.2.2.1,hHeld.2.2.2.2.2.2.1,hHeld.2.2.2.2.2.2.2.1,hHeld.2.2.2.2.2.2.2.2.1,hHeld.2.2.2.2.2.2.2.2.2.1,hHeld.2.2.2.2.2.2.2.2.2.2.1,hHeld.2.2.2.2.2.2.2.2.2.2.2⟩ (fun hHeld => ?_);clear hK K;refine norm_ (a':=?_) ?_ ?_;rotate_left
            ·
             show Act.put _ (some 129) _=_
             simp only [Act.put,zi,zj,zk,zG,zH]
             rfl
            refine pure_ (i:=6) (N:=some 130) (v:=?_) (a':=?_) (bm_ 7 36) rfl rfl (any_of HT_.out (by kernel_rfl)) (fun _ _ _ h => h) (Or.inl ⟨by rfl,?_⟩) ?_ ?_;rotate_left
            ·
             intro w'
             go_simp
             with_reducible rfl
            rotate_left
            ·
             simp only [Act.put,zi,zj,zk,zG,zH]
             rfl
            refine pure_ (i:=7) (N:=some 131) (v:=?_) (a':=?_) (bm_ 8 36) rfl rfl (any_of HT_.out (by kernel_rfl)) (fun _ _ _ h => h) (Or.inl ⟨by rfl,?_⟩) ?_ ?_;rotate_left
            ·
             intro w'
             go_simp
             with_reducible rfl
            rotate_left
            ·
             simp only [Act.put,zi,zj,zk,zG,zH]
             rfl
            refine pure_ (i:=8) (N:=some 132) (v:=?_) (a':=?_) (bm_ 9 36) rfl rfl (any_of HT_.out (by kernel_rfl)) (fun _ _ _ h => h) (Or.inl ⟨by rfl,?_⟩) ?_ ?_;rotate_left
            ·
             intro w'
             go_simp
             with_reducible rfl
            rotate_left
            ·
             simp only [Act.put,zi,zj,zk,zG,zH]
             rfl
            refine pure_ (i:=9) (N:=some 133) (v:=?_) (a':=?_) (bm_ 10 36) rfl rfl (any_of HT_.out (by kernel_rfl)) (fun _ _ _ h => h) (Or.inl ⟨by rfl,?_⟩) ?_ ?_;rotate_left
            ·
             intro w'
             go_simp
             with_reducible rfl
            rotate_left
            ·
             simp only [Act.put,zi,zj,zk,zG,zH]
             rfl
            refine pure_ (i:=10) (N:=some 134) (v:=?_) (a':=?_) (bm_ 11 36) rfl rfl (any_of HT_.out (by kernel_rfl)) (fun _ _ _ h => h) (Or.inl ⟨by rfl,?_⟩) ?_ ?_;rotate_left
            ·
             intro w'
             go_simp
             with_reducible rfl
            rotate_left
            ·
             simp only [Act.put,zi,zj,zk,zG,zH]
             rfl
            refine pure_ (i:=11) (N:=some 135) (v:=?_) (a':=?_) (bm_ 12 36) rfl rfl (any_of HT_.out (by kernel_rfl)) (fun _ _ _ h => h) (Or.inl ⟨by rfl,?_⟩) ?_ ?_;rotate_left
            ·
             intro w'
             go_simp
             with_reducible rfl
            rotate_left
            ·
             simp only [Act.put,zi,zj,zk,zG,zH]
             rfl
            refine pure_ (i:=12) (N:=some 136) (v:=?_) (a':=?_) (bm_ 13 36) rfl rfl (any_of HT_.out (by kernel_rfl)) (fun _ _ _ h => h) (Or.inl ⟨by rfl,?_⟩) ?_ ?_;rotate_left
            ·
             intro w'
             go_simp
             with_reducible rfl
            rotate_left
            ·
             simp only [Act.put,zi,zj,zk,zG,zH]
             rfl
            refine pure_ (i:=13) (N:=some 137) (v:=?_) (a':=?_) (bm_ 14 36) rfl rfl (any_of HT_.out (by kernel_rfl)) (fun _ _ _ h => h) (Or.inl ⟨by rfl,?_⟩) ?_ ?_;rotate_left
            ·
             intro w'
             go_simp
             with_reducible rfl
            rotate_left
            ·
             simp only [Act.put,zi,zj,zk,zG,zH]
             rfl
            refine pure_ (i:=14) (N:=some 138) (v:=?_) (a':=?_) (bm_ 15 36) rfl rfl (any_of HT_.out (by kernel_rfl)) (fun _ _ _ h => h) (Or.inl ⟨by rfl,?_⟩) ?_ ?_;rotate_left
            ·
             intro w'
             go_simp
             with_reducible rfl
            rotate_left
            ·
             simp only [Act.put,zi,zj,zk,zG,zH]
             rfl
            refine pure_ (i:=15) (N:=some 139) (v:=?_) (a':=?_) (bm_ 16 36) rfl rfl (any_of HT_.out (by kernel_rfl)) (fun _ _ _ h => h) (Or.inl ⟨by rfl,?_⟩) ?_ ?_;rotate_left
            ·
             intro w'
             go_simp
             with_reducible rfl
            rotate_left
            ·
             simp only [Act.put,zi,zj,zk,zG,zH]
             rfl
            refine pure_ (i:=17) (N:=some 141) (v:=?_) (a':=?_) #[true,true,true,true,true,true,true,true,true,true,true,true,true,true,true,true,false,true,false,false,false,false,false,false,false,false,false,false,false,false,false,false,false,false,false,false] rfl rfl (any_of HT_.out (by kernel_rfl)) (fun _ _ _ h => h) (Or.inl ⟨by rfl,?_⟩) ?_ ?_;rotate_left
            ·
             intro w'
             go_simp
             with_reducible rfl
            rotate_left
            ·
             simp only [Act.put,zi,zj,zk,zG,zH]
             rfl
            refine pure_ (i:=18) (N:=some 142) (v:=?_) (a':=?_) #[true,true,true,true,true,true,true,true,true,true,true,true,true,true,true,true,false,true,true,false,false,false,false,false,false,false,false,false,false,false,false,false,false,false,false,false] rfl rfl (any_of HT_.out (by kernel_rfl)) (fun _ _ _ h => h) (Or.inl ⟨by rfl,?_⟩) ?_ ?_;rotate_left
            ·
             intro w'
             go_simp
             with_reducible rfl
            rotate_left
            ·
             simp only [Act.put,zi,zj,zk,zG,zH]
             rfl
            refine pure_ (i:=19) (N:=some 143) (v:=?_) (a':=?_) #[true,true,true,true,true,true,true,true,true,true,true,true,true,true,true,true,false,true,true,true,false,false,false,false,false,false,false,false,false,false,false,false,false,false,false,false] rfl rfl (any_of HT_.out (by kernel_rfl)) (fun _ _ _ h => h) (Or.inl ⟨by rfl,?_⟩) ?_ ?_;rotate_left
            ·
             intro w'
             go_simp
             with_reducible rfl
            rotate_left
            ·
             simp only [Act.put,zi,zj,zk,zG,zH]
             rfl
            refine pure_ (i:=20) (N:=some 144) (v:=?_) (a':=?_) #[true,true,true,true,true,true,true,true,true,true,true,true,true,true,true,true,false,true,true,true,true,false,false,false,false,false,false,false,false,false,false,false,false,false,false,false] rfl rfl (any_of HT_.out (by kernel_rfl)) (fun _ _ _ h => h) (Or.inl ⟨by rfl,?_⟩) ?_ ?_;rotate_left
            ·
             intro w'
             go_simp
             with_reducible rfl
            rotate_left
            ·
             simp only [Act.put,zi,zj,zk,zG,zH]
             rfl
            refine take_ (i:=16) (N:=some 140) (v:=?_) (a':=?_) (bm_ 21 36) rfl rfl (yo HT_.out HW_.out (by kernel_rfl)) (fun _ _ _ h => h) (Or.inl ⟨by rfl,?_⟩) hHeld ?_ ?_;rotate_left
            ·
             rintro w' ⟨s0,s1,s2,s3,s4,s5,s6,s7,s8,s9,s10,s11⟩
             go_simp
             with_reducible rfl
            rotate_left
            ·
             simp only [Act.put,zi,zj,zk,zG,zH]
             rfl
            refine take_ (i:=21) (N:=some 145) (v:=?_) (a':=?_) (bm_ 22 36) rfl rfl (yo HT_.out HW_.out (by kernel_rfl)) (fun _ _ _ h => h) (Or.inl ⟨by rfl,?_⟩) hHeld ?_ ?_;rotate_left
            ·
             rintro w' ⟨s0,s1,s2,s3,s4,s5,s6,s7,s8,s9,s10,s11⟩
             go_simp
             with_reducible rfl
            rotate_left
            ·
             simp only [Act.put,zi,zj,zk,zG,zH]
             rfl
            refine pure_ (i:=22) (N:=some 146) (v:=?_) (a':=?_) (bm_ 23 36) rfl rfl (any_of HT_.out (by kernel_rfl)) (fun _ _ _ h => h) (Or.inl ⟨by rfl,?_⟩) ?_ ?_;rotate_left
            ·
             intro w'
             go_simp
             with_reducible rfl
            rotate_left
            ·
             simp only [Act.put,zi,zj,zk,zG,zH]
             rfl
            refine pure_ (i:=23) (N:=some 147) (v:=?_) (a':=?_) (bm_ 24 36) rfl rfl (any_of HT_.out (by kernel_rfl)) (fun _ _ _ h => h) (Or.inl ⟨by rfl,?_⟩) ?_ ?_;rotate_left
            ·
             intro w'
             go_simp
             with_reducible rfl
            rotate_left
            ·
             simp only [Act.put,zi,zj,zk,zG,zH]
             rfl
            refine pure_ (i:=24) (N:=some 148) (v:=?_) (a':=?_) (bm_ 25 36) rfl rfl (any_of HT_.out (by kernel_rfl)) (fun _ _ _ h => h) (Or.inl ⟨by rfl,?_⟩) ?_ ?_;rotate_left
            ·
             intro w'
             go_simp
             with_reducible rfl
            rotate_left
            ·
             simp only [Act.put,zi,zj,zk,zG,zH]
             rfl
            refine pure_ (i:=25) (N:=some 149) (v:=?_) (a':=?_) (bm_ 26 36) rfl rfl (any_of HT_.out (by kernel_rfl)) (fun _ _ _ h => h) (Or.inl ⟨by rfl,?_⟩) ?_ ?_;rotate_left
            ·
             intro w'
             go_simp
             with_reducible rfl
            rotate_left
            ·
             simp only [Act.put,zi,zj,zk,zG,zH]
             rfl
            refine pure_ (i:=26) (N:=some 150) (v:=undef) (a':=?_) (bm_ 27 36) rfl rfl (any_of HT_.out (by kernel_rfl)) (fun _ _ _ h => h) (Or.inr ⟨by rfl,rfl⟩) ?_ ?_;rotate_left
            ·
             simp only [Act.put,zi,zj,zk,zG,zH]
             rfl
            refine pure_ (i:=27) (N:=some 151) (v:=undef) (a':=?_) (bm_ 28 36) rfl rfl (any_of HT_.out (by kernel_rfl)) (fun _ _ _ h => h) (Or.inr ⟨by rfl,rfl⟩) ?_ ?_;rotate_left
            ·
             simp only [Act.put,zi,zj,zk,zG,zH]
             rfl
            refine pure_ (i:=28) (N:=some 152) (v:=undef) (a':=?_) (bm_ 29 36) rfl rfl (any_of HT_.out (by kernel_rfl)) (fun _ _ _ h => h) (Or.inr ⟨by rfl,rfl⟩) ?_ ?_;rotate_left
            ·
             simp only [Act.put,zi,zj,zk,zG,zH]
             rfl
            refine pure_ (i:=29) (N:=some 153) (v:=undef) (a':=?_) (bm_ 30 36) rfl rfl (any_of HT_.out (by kernel_rfl)) (fun _ _ _ h => h) (Or.inr ⟨by rfl,rfl⟩) ?_ ?_;rotate_left
            ·
             simp only [Act.put,zi,zj,zk,zG,zH]
             rfl
            refine pure_ (i:=30) (N:=some 154) (v:=undef) (a':=?_) (bm_ 31 36) rfl rfl (any_of HT_.out (by kernel_rfl)) (fun _ _ _ h => h) (Or.inr ⟨by rfl,rfl⟩) ?_ ?_;rotate_left
            ·
             simp only [Act.put,zi,zj,zk,zG,zH]
             rfl
            refine pure_ (i:=31) (N:=some 155) (v:=undef) (a':=?_) (bm_ 32 36) rfl rfl (any_of HT_.out (by kernel_rfl)) (fun _ _ _ h => h) (Or.inr ⟨by rfl,rfl⟩) ?_ ?_;rotate_left
            ·
             simp only [Act.put,zi,zj,zk,zG,zH]
             rfl
            refine pure_ (i:=32) (N:=some 156) (v:=undef) (a':=?_) (bm_ 33 36) rfl rfl (any_of HT_.out (by kernel_rfl)) (fun _ _ _ h => h) (Or.inr ⟨by rfl,rfl⟩) ?_ ?_;rotate_left
            ·
             simp only [Act.put,zi,zj,zk,zG,zH]
             rfl
            refine pure_ (i:=33) (N:=some 157) (v:=undef) (a':=?_) (bm_ 34 36) rfl rfl (any_of HT_.out (by kernel_rfl)) (fun _ _ _ h => h) (Or.inr ⟨by rfl,rfl⟩) ?_ ?_;rotate_left
            ·
             simp only [Act.put,zi,zj,zk,zG,zH]
             rfl
            refine pure_ (i:=34) (N:=some 158) (v:=undef) (a':=?_) (bm_ 35 36) rfl rfl (any_of HT_.out (by kernel_rfl)) (fun _ _ _ h => h) (Or.inr ⟨by rfl,rfl⟩) ?_ ?_;rotate_left
            ·
             simp only [Act.put,zi,zj,zk,zG,zH]
             rfl
            refine pure_ (i:=35) (N:=some 159) (v:=?_) (a':=?_) (bm_ 36 36) rfl rfl (any_of HT_.out (by kernel_rfl)) (fun _ _ _ h => h) (Or.inl ⟨by rfl,?_⟩) ?_ ?_;rotate_left
            ·
             intro w'
             go_simp
             with_reducible rfl
            rotate_left
            ·
             simp only [Act.put,zi,zj,zk,zG,zH]
             rfl
            refine done_ (done_of HT_.out (by kernel_rfl)) ?_
            try go_wp2
            go_ret
            exact ⟨by first|rfl|(simp [yt,yu] <;> rfl)|(simp only [← hji71];first|rfl|(simp [yt,yu] <;> rfl))|(simp [*,yt,yu] <;> rfl),by repeat (with_reducible first|exact HB.out|apply za|apply zb|apply zc|refine zd ?_ GE144.out)⟩
           rw [if_neg c73] at H;exact absurd H (by simp)
          rw [if_neg c72] at H;exact absurd H (by simp)
         rw [if_neg c70] at H;have c70b0 : decide (0<x10_2)=false:=decide_eq_false c70;clear c70;replace H:=zT.mp H;obtain ⟨t164,A850,H⟩:=H;replace H : (if t164=true then (F0.l1 k2 a1 t153 (wrap64 (x10_2 + 1))) else (some false))=some r:=H;have A85:=zh A850;clear A850
         by_cases c86 : t164=true
         ·
          subst c86
          have H1 : (F0.l1 k2 a1 t153 (wrap64 (x10_2 + 1)))=some r:=by rw [if_pos rfl] at H;exact H
          clear H;have H:=H1;clear H1;have H':=zh H;clear H;obtain ⟨Ao87,co87,eo87⟩:=yk HO_8.out;subst eo87
          try go_wp2
          replace HO_8:=zh (zo HO_8.out);replace BK144:=zh (zf BK144.out);replace HB:=zh (zc HB.out);have p157 : 0≤(x10_2 : Int):=zy (by first|(with_reducible assumption)|assumption);have q157 : x10_2<(t153.length : Int):=zy (by first|(with_reducible assumption)|assumption);obtain ⟨ad157,e157,hx157_0,hx157_1,hx157_2,hx157_3⟩:=at_T54 (yh HO_8.out).2.2 x10_2 p157 q157
          cases e157
          replace p157:=eq_true p157;replace q157:=eq_true q157;have p163 : 0≤(x10_2 : Int):=zy (by first|(with_reducible assumption)|assumption);have q163 : x10_2<(t153.length : Int):=zy (by first|(with_reducible assumption)|assumption);obtain ⟨ad163,e163,hx163_0,hx163_1,hx163_2,hx163_3⟩:=at_T54 (yh HO_8.out).2.2 x10_2 p163 q163;obtain rfl : ad157=ad163:=(by injection e163);replace p163:=eq_true p163;replace q163:=eq_true q163;refine start_ (n:=36) (S:=fun w' => w'.cell? (ad157.add ((x10_2).toNat * 4))=some (.string ((rd_T54 t153 x10_2).f0))∧w'.cell? ⟨(ad157.add ((x10_2).toNat * 4)).block,(ad157.add ((x10_2).toNat * 4)).off + 1,none⟩=some (.int .i64 ((rd_T54 t153 x10_2).f1.f0))∧w'.cell? ⟨(ad157.add ((x10_2).toNat * 4)).block,(ad157.add ((x10_2).toNat * 4)).off + 2,none⟩=some (.int .i64 ((rd_T54 t153 x10_2).f1.f1))∧w'.cell? ⟨(ad157.add ((x10_2).toNat * 4)).block,(ad157.add ((x10_2).toNat * 4)).off + 3,none⟩=some (.string ((rd_T54 t153 x10_2).f1.f2))∧w'.cell? (ad157.add ((x10_2).toNat * 4))=some (.string ((rd_T54 t153 x10_2).f0))∧w'.cell? ⟨(ad157.add ((x10_2).toNat * 4)).block,(ad157.add ((x10_2).toNat * 4)).off + 1,none⟩=some (.int .i64 ((rd_T54 t153 x10_2).f1.f0))∧w'.cell? ⟨(ad157.add ((x10_2).toNat * 4)).block,(ad157.add ((x10_2).toNat * 4)).off + 2,none⟩=some (.int .i64 ((rd_T54 t153 x10_2).f1.f1))∧w'.cell? ⟨(ad157.add ((x10_2).toNat * 4)).block,(ad157.add ((x10_2).toNat * 4)).off + 3,none⟩=some (.string ((rd_T54 t153 x10_2).f1.f2))) (ds:=[]) (bm_ 0 36) (by kernel_rfl) rfl rfl ⟨hx157_0,hx157_1,hx157_2,hx157_3,hx163_0,hx163_1,hx163_2,hx163_3⟩ (fun hHeld => ?_);refine with_tabW F0.tab27 F0.bits27 (fun HT_ HW_ => ?_);generalize wr.drew=w88 at HO_8 BK144 HB hx157_0 hx157_1 hx157_2 hx157_3 hx163_0 hx163_1 hx163_2 hx163_3 hHeld ⊢;refine pure_ (i:=0) (N:=some 124) (v:=?_) (a':=?_) (bm_ 1 36) rfl rfl (any_of HT_.out (by kernel_rfl)) (fun _ _ _ h => h) (Or.inl ⟨by rfl,?_⟩) ?_ ?_;rotate_left
          ·
           intro w'
           go_simp
           with_reducible rfl
          rotate_left
          ·
           simp only [Act.put,zi,zj,zk,zG,zH]
           rfl
          refine pure_ (i:=1) (N:=some 125) (v:=?_) (a':=?_) (bm_ 2 36) rfl rfl (any_of HT_.out (by kernel_rfl)) (fun _ _ _ h => h) (Or.inl ⟨by rfl,?_⟩) ?_ ?_;rotate_left
          ·
           intro w'
           go_simp
           with_reducible rfl
          rotate_left
          ·
           simp only [Act.put,zi,zj,zk,zG,zH]
           rfl
          refine pure_ (i:=2) (N:=some 126) (v:=?_) (a':=?_) (bm_ 3 36) rfl rfl (any_of HT_.out (by kernel_rfl)) (fun _ _ _ h => h) (Or.inl ⟨by rfl,?_⟩) ?_ ?_;rotate_left
          ·
           intro w'
           go_simp
           with_reducible rfl
          rotate_left
          ·
           simp only [Act.put,zi,zj,zk,zG,zH]
           rfl
          refine pure_ (i:=3) (N:=some 127) (v:=?_) (a':=?_) (bm_ 4 36) rfl rfl (any_of HT_.out (by kernel_rfl)) (fun _ _ _ h => h) (Or.inl ⟨by rfl,?_⟩) ?_ ?_;rotate_left
          ·
           intro w'
           go_simp
           with_reducible rfl
          rotate_left
          ·
           simp only [Act.put,zi,zj,zk,zG,zH]
           rfl
          refine take_ (i:=4) (N:=some 128) (v:=?_) (a':=?_) (bm_ 5 36) rfl rfl (yo HT_.out HW_.out (by kernel_rfl)) (fun _ _ _ h => h) (Or.inl ⟨by rfl,?_⟩) hHeld ?_ ?_;rotate_left
          ·
           rintro w' ⟨s0,s1,s2,s3,s4,s5,s6,s7⟩
           go_simp
           with_reducible rfl
          rotate_left
          ·
           simp only [Act.put,zi,zj,zk,zG,zH]
           rfl
          refine one_ (i:=5) (N:=some 129) (bm_ 6 36) rfl rfl (one_of HT_.out (by kernel_rfl)) (by decide) (fun K hK => ?_);refine goes_ Try.func26 (by kernel_rfl) rfl #[.string ((rd_T54 t153 x10_2).f0)] (by rfl) rfl rfl (by (try simp only [zt,zu,zv]);first|done|rfl|(simp only [zw,zx];rfl)|(simp only [yr,ys,zV,zW];rfl)) ?_
          with_reducible refine (Fp.calls k2  ((rd_T54 t153 x10_2).f0) true _ A68.out).mono ?_
          rintro e w' ⟨rfl,⟨nd,rfl⟩⟩;refine ⟨_,rfl,?_⟩;refine hK.out _ _ ⟨hHeld.1,hHeld.2.1,hHeld.2.2.1,hHeld.2.2.2.1,hHeld.2.2.2.2.1,hHeld.2.2.2.2.2.1,hHeld.2.2.2.2.2.2.1,hHeld.2.2.2.2.2.2.2⟩ (fun hHeld => ?_);clear hK K;refine norm_ (a':=?_) ?_ ?_;rotate_left
          ·
           show Act.put _ (some 129) _=_
           simp only [Act.put,zi,zj,zk,zG,zH]
           rfl
          refine pure_ (i:=6) (N:=some 130) (v:=?_) (a':=?_) (bm_ 7 36) rfl rfl (any_of HT_.out (by kernel_rfl)) (fun _ _ _ h => h) (Or.inl ⟨by rfl,?_⟩) ?_ ?_;rotate_left
          ·
           intro w'
           go_simp
           with_reducible rfl
          rotate_left
          ·
           simp only [Act.put,zi,zj,zk,zG,zH]
           rfl
          refine pure_ (i:=7) (N:=some 131) (v:=?_) (a':=?_) (bm_ 8 36) rfl rfl (any_of HT_.out (by kernel_rfl)) (fun _ _ _ h => h) (Or.inl ⟨by rfl,?_⟩) ?_ ?_;rotate_left
          ·
           intro w'
           go_simp
           with_reducible rfl
          rotate_left
          ·
           simp only [Act.put,zi,zj,zk,zG,zH]
           rfl
          refine pure_ (i:=8) (N:=some 132) (v:=?_) (a':=?_) (bm_ 9 36) rfl rfl (any_of HT_.out (by kernel_rfl)) (fun _ _ _ h => h) (Or.inl ⟨by rfl,?_⟩) ?_ ?_;rotate_left
          ·
           intro w'
           go_simp
           with_reducible rfl
          rotate_left
          ·
           simp only [Act.put,zi,zj,zk,zG,zH]
           rfl
          refine pure_ (i:=9) (N:=some 133) (v:=?_) (a':=?_) (bm_ 10 36) rfl rfl (any_of HT_.out (by kernel_rfl)) (fun _ _ _ h => h) (Or.inl ⟨by rfl,?_⟩) ?_ ?_;rotate_left
          ·
           intro w'
           go_simp
           with_reducible rfl
          rotate_left
          ·
           simp only [Act.put,zi,zj,zk,zG,zH]
           rfl
          refine pure_ (i:=10) (N:=some 134) (v:=?_) (a':=?_) (bm_ 11 36) rfl rfl (any_of HT_.out (by kernel_rfl)) (fun _ _ _ h => h) (Or.inl ⟨by rfl,?_⟩) ?_ ?_;rotate_left
          ·
           intro w'
           go_simp
           with_reducible rfl
          rotate_left
          ·
           simp only [Act.put,zi,zj,zk,zG,zH]
           rfl
          refine pure_ (i:=11) (N:=some 135) (v:=undef) (a':=?_) (bm_ 12 36) rfl rfl (any_of HT_.out (by kernel_rfl)) (fun _ _ _ h => h) (Or.inr ⟨by rfl,rfl⟩) ?_ ?_;rotate_left
          ·
           simp only [Act.put,zi,zj,zk,zG,zH]
           rfl
          refine pure_ (i:=12) (N:=some 136) (v:=undef) (a':=?_) (bm_ 13 36) rfl rfl (any_of HT_.out (by kernel_rfl)) (fun _ _ _ h => h) (Or.inr ⟨by rfl,rfl⟩) ?_ ?_;rotate_left
          ·
           simp only [Act.put,zi,zj,zk,zG,zH]
           rfl
          refine pure_ (i:=13) (N:=some 137) (v:=undef) (a':=?_) (bm_ 14 36) rfl rfl (any_of HT_.out (by kernel_rfl)) (fun _ _ _ h => h) (Or.inr ⟨by rfl,rfl⟩) ?_ ?_;rotate_left
          ·
           simp only [Act.put,zi,zj,zk,zG,zH]
           rfl
          refine pure_ (i:=14) (N:=some 138) (v:=undef) (a':=?_) (bm_ 15 36) rfl rfl (any_of HT_.out (by kernel_rfl)) (fun _ _ _ h => h) (Or.inr ⟨by rfl,rfl⟩) ?_ ?_;rotate_left
          ·
           simp only [Act.put,zi,zj,zk,zG,zH]
           rfl
          refine pure_ (i:=15) (N:=some 139) (v:=undef) (a':=?_) (bm_ 16 36) rfl rfl (any_of HT_.out (by kernel_rfl)) (fun _ _ _ h => h) (Or.inr ⟨by rfl,rfl⟩) ?_ ?_;rotate_left
          ·
           simp only [Act.put,zi,zj,zk,zG,zH]
           rfl
          refine pure_ (i:=16) (N:=some 140) (v:=undef) (a':=?_) (bm_ 17 36) rfl rfl (any_of HT_.out (by kernel_rfl)) (fun _ _ _ h => h) (Or.inr ⟨by rfl,rfl⟩) ?_ ?_;rotate_left
          ·
           simp only [Act.put,zi,zj,zk,zG,zH]
           rfl
          refine pure_ (i:=17) (N:=some 141) (v:=undef) (a':=?_) (bm_ 18 36) rfl rfl (any_of HT_.out (by kernel_rfl)) (fun _ _ _ h => h) (Or.inr ⟨by rfl,rfl⟩) ?_ ?_;rotate_left
          ·
           simp only [Act.put,zi,zj,zk,zG,zH]
           rfl
          refine pure_ (i:=18) (N:=some 142) (v:=undef) (a':=?_) (bm_ 19 36) rfl rfl (any_of HT_.out (by kernel_rfl)) (fun _ _ _ h => h) (Or.inr ⟨by rfl,rfl⟩) ?_ ?_;rotate_left
          ·
           simp only [Act.put,zi,zj,zk,zG,zH]
           rfl
          refine pure_ (i:=19) (N:=some 143) (v:=undef) (a':=?_) (bm_ 20 36) rfl rfl (any_of HT_.out (by kernel_rfl)) (fun _ _ _ h => h) (Or.inr ⟨by rfl,rfl⟩) ?_ ?_;rotate_left
          ·
           simp only [Act.put,zi,zj,zk,zG,zH]
           rfl
          refine pure_ (i:=20) (N:=some 144) (v:=undef) (a':=?_) (bm_ 21 36) rfl rfl (any_of HT_.out (by kernel_rfl)) (fun _ _ _ h => h) (Or.inr ⟨by rfl,rfl⟩) ?_ ?_;rotate_left
          ·
           simp only [Act.put,zi,zj,zk,zG,zH]
           rfl
          refine pure_ (i:=21) (N:=some 145) (v:=undef) (a':=?_) (bm_ 22 36) rfl rfl (any_of HT_.out (by kernel_rfl)) (fun _ _ _ h => h) (Or.inr ⟨by rfl,rfl⟩) ?_ ?_;rotate_left
          ·
           simp only [Act.put,zi,zj,zk,zG,zH]
           rfl
          refine pure_ (i:=22) (N:=some 146) (v:=undef) (a':=?_) (bm_ 23 36) rfl rfl (any_of HT_.out (by kernel_rfl)) (fun _ _ _ h => h) (Or.inr ⟨by rfl,rfl⟩) ?_ ?_;rotate_left
          ·
           simp only [Act.put,zi,zj,zk,zG,zH]
           rfl
          refine pure_ (i:=23) (N:=some 147) (v:=?_) (a':=?_) (bm_ 24 36) rfl rfl (any_of HT_.out (by kernel_rfl)) (fun _ _ _ h => h) (Or.inl ⟨by rfl,?_⟩) ?_ ?_;rotate_left
          ·
           intro w'
           go_simp
           with_reducible rfl
          rotate_left
          ·
           simp only [Act.put,zi,zj,zk,zG,zH]
           rfl
          refine pure_ (i:=24) (N:=some 148) (v:=?_) (a':=?_) (bm_ 25 36) rfl rfl (any_of HT_.out (by kernel_rfl)) (fun _ _ _ h => h) (Or.inl ⟨by rfl,?_⟩) ?_ ?_;rotate_left
          ·
           intro w'
           go_simp
           with_reducible rfl
          rotate_left
          ·
           simp only [Act.put,zi,zj,zk,zG,zH]
           rfl
          refine pure_ (i:=25) (N:=some 149) (v:=?_) (a':=?_) (bm_ 26 36) rfl rfl (any_of HT_.out (by kernel_rfl)) (fun _ _ _ h => h) (Or.inl ⟨by rfl,?_⟩) ?_ ?_;rotate_left
          ·
           intro w'
           go_simp
           with_reducible rfl
          rotate_left
          ·
           simp only [Act.put,zi,zj,zk,zG,zH]
           rfl
          refine pure_ (i:=26) (N:=some 150) (v:=?_) (a':=?_) (bm_ 27 36) rfl rfl (any_of HT_.out (by kernel_rfl)) (fun _ _ _ h => h) (Or.inl ⟨by rfl,?_⟩) ?_ ?_;rotate_left
          ·
           intro w'
           go_simp
           with_reducible rfl
          rotate_left
          ·
           simp only [Act.put,zi,zj,zk,zG,zH]
           rfl
          refine pure_ (i:=27) (N:=some 151) (v:=?_) (a':=?_) (bm_ 28 36) rfl rfl (any_of HT_.out (by kernel_rfl)) (fun _ _ _ h => h) (Or.inl ⟨by rfl,?_⟩) ?_ ?_;rotate_left
          ·
           intro w'
           go_simp
           with_reducible rfl
          rotate_left
          ·
           simp only [Act.put,zi,zj,zk,zG,zH]
           rfl
          refine pure_ (i:=28) (N:=some 152) (v:=?_) (a':=?_) (bm_ 29 36) rfl rfl (any_of HT_.out (by kernel_rfl)) (fun _ _ _ h => h) (Or.inl ⟨by rfl,?_⟩) ?_ ?_;rotate_left
          ·
           intro w'
           go_simp
           with_reducible rfl
          rotate_left
          ·
           simp only [Act.put,zi,zj,zk,zG,zH]
           rfl
          refine pure_ (i:=29) (N:=some 153) (v:=?_) (a':=?_) (bm_ 30 36) rfl rfl (any_of HT_.out (by kernel_rfl)) (fun _ _ _ h => h) (Or.inl ⟨by rfl,?_⟩) ?_ ?_;rotate_left
          ·
           intro w'
           go_simp
           with_reducible rfl
          rotate_left
          ·
           simp only [Act.put,zi,zj,zk,zG,zH]
           rfl
          refine pure_ (i:=31) (N:=some 155) (v:=?_) (a':=?_) #[true,true,true,true,true,true,true,true,true,true,true,true,true,true,true,true,true,true,true,true,true,true,true,true,true,true,true,true,true,true,false,true,false,false,false,false] rfl rfl (any_of HT_.out (by kernel_rfl)) (fun _ _ _ h => h) (Or.inl ⟨by rfl,?_⟩) ?_ ?_;rotate_left
          ·
           intro w'
           go_simp
           with_reducible rfl
          rotate_left
          ·
           simp only [Act.put,zi,zj,zk,zG,zH]
           rfl
          refine pure_ (i:=32) (N:=some 156) (v:=?_) (a':=?_) #[true,true,true,true,true,true,true,true,true,true,true,true,true,true,true,true,true,true,true,true,true,true,true,true,true,true,true,true,true,true,false,true,true,false,false,false] rfl rfl (any_of HT_.out (by kernel_rfl)) (fun _ _ _ h => h) (Or.inl ⟨by rfl,?_⟩) ?_ ?_;rotate_left
          ·
           intro w'
           go_simp
           with_reducible rfl
          rotate_left
          ·
           simp only [Act.put,zi,zj,zk,zG,zH]
           rfl
          refine take_ (i:=30) (N:=some 154) (v:=?_) (a':=?_) (bm_ 33 36) rfl rfl (yo HT_.out HW_.out (by kernel_rfl)) (fun _ _ _ h => h) (Or.inl ⟨by rfl,?_⟩) hHeld ?_ ?_;rotate_left
          ·
           rintro w' ⟨s0,s1,s2,s3,s4,s5,s6,s7⟩
           go_simp
           with_reducible rfl
          rotate_left
          ·
           simp only [Act.put,zi,zj,zk,zG,zH]
           rfl
          refine one_ (i:=33) (N:=some 157) (bm_ 34 36) rfl rfl (one_of HT_.out (by kernel_rfl)) (by decide) (fun K hK => ?_);refine goes_ Try.func41 (by kernel_rfl) rfl #[.agg #[.int .i64 ((rd_T54 t153 x10_2).f1.f0),.int .i64 ((rd_T54 t153 x10_2).f1.f1),.string ((rd_T54 t153 x10_2).f1.f2)],.int .i64 (wrap64 (a1 - 1))] (by rfl) rfl rfl (by (try simp only [zt,zu,zv]);first|done|rfl|(simp only [zw,zx];rfl)|(simp only [yr,ys,zV,zW];rfl)) ?_
          with_reducible refine (ih k2 (by have:=HJ53.out;have:=HK2.out;omega)  ((rd_T54 t153 x10_2).f1.f0) ((rd_T54 t153 x10_2).f1.f1) ((rd_T54 t153 x10_2).f1.f2) (wrap64 (a1 - 1)) true _ A85.out).mono ?_
          rintro e w89 ⟨rfl,hb⟩;have HS0_:=(hb.cell (zl _ _ (hHeld.1))).trans (hHeld.1);have HS1_:=(hb.cell (zl _ _ (hHeld.2.1))).trans (hHeld.2.1);have HS2_:=(hb.cell (zl _ _ (hHeld.2.2.1))).trans (hHeld.2.2.1);have HS3_:=(hb.cell (zl _ _ (hHeld.2.2.2.1))).trans (hHeld.2.2.2.1);have HS4_:=(hb.cell (zl _ _ (hHeld.2.2.2.2.1))).trans (hHeld.2.2.2.2.1);have HS5_:=(hb.cell (zl _ _ (hHeld.2.2.2.2.2.1))).trans (hHeld.2.2.2.2.2.1);have HS6_:=(hb.cell (zl _ _ (hHeld.2.2.2.2.2.2.1))).trans (hHeld.2.2.2.2.2.2.1);have HS7_:=(hb.cell (zl _ _ (hHeld.2.2.2.2.2.2.2))).trans (hHeld.2.2.2.2.2.2.2);refine ⟨_,rfl,?_⟩;replace HO_8:=zh (yg (by (with_reducible repeat (first|apply zm|apply zn|apply zo));exact HO_8.out) hb);replace BK144:=zh (zD (g:=gb144) (o:=.cells #[.int .i64 a0_0,.int .i64 a0_1,.string a0_2] 27 (0,0)) (by (with_reducible repeat (first|refine ze ?_ _|refine zf ?_|refine zg ?_ _));exact BK144.out) hb);replace HB:=zh (zC (by repeat (with_reducible first|exact HB.out|apply za|apply zb|apply zc|refine zd ?_ GE144.out)) hb);(try clear hb);(try clear hb2);(try clear hk);(try clear hi);refine hK.out _ _ ⟨HS0_,HS1_,HS2_,HS3_,HS4_,HS5_,HS6_,HS7_⟩ (fun hHeld => ?_);clear hK K;refine norm_ (a':=?_) ?_ ?_;rotate_left
          ·
           show Act.put _ (some 157) _=_
           simp only [Act.put,zi,zj,zk,zG,zH]
           rfl
          refine pure_ (i:=34) (N:=some 158) (v:=?_) (a':=?_) (bm_ 35 36) rfl rfl (any_of HT_.out (by kernel_rfl)) (fun _ _ _ h => h) (Or.inl ⟨by rfl,?_⟩) ?_ ?_;rotate_left
          ·
           intro w'
           go_simp
           with_reducible rfl
          rotate_left
          ·
           simp only [Act.put,zi,zj,zk,zG,zH]
           rfl
          refine pure_ (i:=35) (N:=some 159) (v:=?_) (a':=?_) (bm_ 36 36) rfl rfl (any_of HT_.out (by kernel_rfl)) (fun _ _ _ h => h) (Or.inl ⟨by rfl,?_⟩) ?_ ?_;rotate_left
          ·
           intro w'
           go_simp
           with_reducible rfl
          rotate_left
          ·
           simp only [Act.put,zi,zj,zk,zG,zH]
           rfl
          refine done_ (done_of HT_.out (by kernel_rfl)) ?_
          try go_wp2
          go_roundg k2
          case measure => have:=HJ53.out;have:=HK2.out;omega
          case rel => exact ⟨(wrap64 (x10_2 + 1)),(by first|rfl|(simp;done)|(simp [*];done)),H',⟨by have:=HJ53.out;have:=HK2.out;omega⟩,⟨by (with_reducible repeat (first|apply zm|apply zn|apply zo));exact HO_8.out⟩,⟨by (with_reducible repeat (first|refine ze ?_ _|refine zf ?_|refine zg ?_ _));exact BK144.out⟩,⟨by repeat (with_reducible first|exact HB.out|apply za|apply zb|apply zc|refine zd ?_ GE144.out)⟩⟩
         replace c86:=yb.mpr c86;subst c86;have H1 : (some false)=some r:=by rw [if_neg (show ¬ (false=true) by decide)] at H;exact H
         clear H;have H:=H1;clear H1;obtain rfl:=zU H;obtain ⟨Ao90,co90,eo90⟩:=yk HO_8.out;subst eo90
         try go_wp2
         replace HO_8:=zh (zo HO_8.out);replace BK144:=zh (zf BK144.out);replace HB:=zh (zc HB.out);have p157 : 0≤(x10_2 : Int):=zy (by first|(with_reducible assumption)|assumption);have q157 : x10_2<(t153.length : Int):=zy (by first|(with_reducible assumption)|assumption);obtain ⟨ad157,e157,hx157_0,hx157_1,hx157_2,hx157_3⟩:=at_T54 (yh HO_8.out).2.2 x10_2 p157 q157
         cases e157
         replace p157:=eq_true p157;replace q157:=eq_true q157;have p163 : 0≤(x10_2 : Int):=zy (by first|(with_reducible assumption)|assumption);have q163 : x10_2<(t153.length : Int):=zy (by first|(with_reducible assumption)|assumption);obtain ⟨ad163,e163,hx163_0,hx163_1,hx163_2,hx163_3⟩:=at_T54 (yh HO_8.out).2.2 x10_2 p163 q163;obtain rfl : ad157=ad163:=(by injection e163);replace p163:=eq_true p163;replace q163:=eq_true q163;refine start_ (n:=36) (S:=fun w' => w'.cell? (ad157.add ((x10_2).toNat * 4))=some (.string ((rd_T54 t153 x10_2).f0))∧w'.cell? ⟨(ad157.add ((x10_2).toNat * 4)).block,(ad157.add ((x10_2).toNat * 4)).off + 1,none⟩=some (.int .i64 ((rd_T54 t153 x10_2).f1.f0))∧w'.cell? ⟨(ad157.add ((x10_2).toNat * 4)).block,(ad157.add ((x10_2).toNat * 4)).off + 2,none⟩=some (.int .i64 ((rd_T54 t153 x10_2).f1.f1))∧w'.cell? ⟨(ad157.add ((x10_2).toNat * 4)).block,(ad157.add ((x10_2).toNat * 4)).off + 3,none⟩=some (.string ((rd_T54 t153 x10_2).f1.f2))∧w'.cell? (ad157.add ((x10_2).toNat * 4))=some (.string ((rd_T54 t153 x10_2).f0))∧w'.cell? ⟨(ad157.add ((x10_2).toNat * 4)).block,(ad157.add ((x10_2).toNat * 4)).off + 1,none⟩=some (.int .i64 ((rd_T54 t153 x10_2).f1.f0))∧w'.cell? ⟨(ad157.add ((x10_2).toNat * 4)).block,(ad157.add ((x10_2).toNat * 4)).off + 2,none⟩=some (.int .i64 ((rd_T54 t153 x10_2).f1.f1))∧w'.cell? ⟨(ad157.add ((x10_2).toNat * 4)).block,(ad157.add ((x10_2).toNat * 4)).off + 3,none⟩=some (.string ((rd_T54 t153 x10_2).f1.f2))) (ds:=[]) (bm_ 0 36) (by kernel_rfl) rfl rfl ⟨hx157_0,hx157_1,hx157_2,hx157_3,hx163_0,hx163_1,hx163_2,hx163_3⟩ (fun hHeld => ?_);refine with_tabW F0.tab27 F0.bits27 (fun HT_ HW_ => ?_);generalize wr.drew=w91 at HO_8 BK144 HB hx157_0 hx157_1 hx157_2 hx157_3 hx163_0 hx163_1 hx163_2 hx163_3 hHeld ⊢;refine pure_ (i:=0) (N:=some 124) (v:=?_) (a':=?_) (bm_ 1 36) rfl rfl (any_of HT_.out (by kernel_rfl)) (fun _ _ _ h => h) (Or.inl ⟨by rfl,?_⟩) ?_ ?_;rotate_left
         ·
          intro w'
          go_simp
          with_reducible rfl
         rotate_left
         ·
          simp only [Act.put,zi,zj,zk,zG,zH]
          rfl
         refine pure_ (i:=1) (N:=some 125) (v:=?_) (a':=?_) (bm_ 2 36) rfl rfl (any_of HT_.out (by kernel_rfl)) (fun _ _ _ h => h) (Or.inl ⟨by rfl,?_⟩) ?_ ?_;rotate_left
         ·
          intro w'
          go_simp
          with_reducible rfl
         rotate_left
         ·
          simp only [Act.put,zi,zj,zk,zG,zH]
          rfl
         refine pure_ (i:=2) (N:=some 126) (v:=?_) (a':=?_) (bm_ 3 36) rfl rfl (any_of HT_.out (by kernel_rfl)) (fun _ _ _ h => h) (Or.inl ⟨by rfl,?_⟩) ?_ ?_;rotate_left
         ·
          intro w'
          go_simp
          with_reducible rfl
         rotate_left
         ·
          simp only [Act.put,zi,zj,zk,zG,zH]
          rfl
         refine pure_ (i:=3) (N:=some 127) (v:=?_) (a':=?_) (bm_ 4 36) rfl rfl (any_of HT_.out (by kernel_rfl)) (fun _ _ _ h => h) (Or.inl ⟨by rfl,?_⟩) ?_ ?_;rotate_left
         ·
          intro w'
          go_simp
          with_reducible rfl
         rotate_left
         ·
          simp only [Act.put,zi,zj,zk,zG,zH]
          rfl
         refine take_ (i:=4) (N:=some 128) (v:=?_) (a':=?_) (bm_ 5 36) rfl rfl (yo HT_.out HW_.out (by kernel_rfl)) (fun _ _ _ h => h) (Or.inl ⟨by rfl,?_⟩) hHeld ?_ ?_;rotate_left
         ·
          rintro w' ⟨s0,s1,s2,s3,s4,s5,s6,s7⟩
          go_simp
          with_reducible rfl
         rotate_left
         ·
          simp only [Act.put,zi,zj,zk,zG,zH]
          rfl
         refine one_ (i:=5) (N:=some 129) (bm_ 6 36) rfl rfl (one_of HT_.out (by kernel_rfl)) (by decide) (fun K hK => ?_);refine goes_ Try.func26 (by kernel_rfl) rfl #[.string ((rd_T54 t153 x10_2).f0)] (by rfl) rfl rfl (by (try simp only [zt,zu,zv]);first|done|rfl|(simp only [zw,zx];rfl)|(simp only [yr,ys,zV,zW];rfl)) ?_
         with_reducible refine (Fp.calls k2  ((rd_T54 t153 x10_2).f0) true _ A68.out).mono ?_
         rintro e w' ⟨rfl,⟨nd,rfl⟩⟩;refine ⟨_,rfl,?_⟩;refine hK.out _ _ ⟨hHeld.1,hHeld.2.1,hHeld.2.2.1,hHeld.2.2.2.1,hHeld.2.2.2.2.1,hHeld.2.2.2.2.2.1,hHeld.2.2.2.2.2.2.1,hHeld.2.2.2.2.2.2.2⟩ (fun hHeld => ?_);clear hK K;refine norm_ (a':=?_) ?_ ?_;rotate_left
         ·
          show Act.put _ (some 129) _=_
          simp only [Act.put,zi,zj,zk,zG,zH]
          rfl
         refine pure_ (i:=6) (N:=some 130) (v:=?_) (a':=?_) (bm_ 7 36) rfl rfl (any_of HT_.out (by kernel_rfl)) (fun _ _ _ h => h) (Or.inl ⟨by rfl,?_⟩) ?_ ?_;rotate_left
         ·
          intro w'
          go_simp
          with_reducible rfl
         rotate_left
         ·
          simp only [Act.put,zi,zj,zk,zG,zH]
          rfl
         refine pure_ (i:=7) (N:=some 131) (v:=?_) (a':=?_) (bm_ 8 36) rfl rfl (any_of HT_.out (by kernel_rfl)) (fun _ _ _ h => h) (Or.inl ⟨by rfl,?_⟩) ?_ ?_;rotate_left
         ·
          intro w'
          go_simp
          with_reducible rfl
         rotate_left
         ·
          simp only [Act.put,zi,zj,zk,zG,zH]
          rfl
         refine pure_ (i:=8) (N:=some 132) (v:=?_) (a':=?_) (bm_ 9 36) rfl rfl (any_of HT_.out (by kernel_rfl)) (fun _ _ _ h => h) (Or.inl ⟨by rfl,?_⟩) ?_ ?_;rotate_left
         ·
          intro w'
          go_simp
          with_reducible rfl
         rotate_left
         ·
          simp only [Act.put,zi,zj,zk,zG,zH]
          rfl
         refine pure_ (i:=9) (N:=some 133) (v:=?_) (a':=?_) (bm_ 10 36) rfl rfl (any_of HT_.out (by kernel_rfl)) (fun _ _ _ h => h) (Or.inl ⟨by rfl,?_⟩) ?_ ?_;rotate_left
         ·
          intro w'
          go_simp
          with_reducible rfl
         rotate_left
         ·
          simp only [Act.put,zi,zj,zk,zG,zH]
          rfl
         refine pure_ (i:=10) (N:=some 134) (v:=?_) (a':=?_) (bm_ 11 36) rfl rfl (any_of HT_.out (by kernel_rfl)) (fun _ _ _ h => h) (Or.inl ⟨by rfl,?_⟩) ?_ ?_;rotate_left
         ·
          intro w'
          go_simp
          with_reducible rfl
         rotate_left
         ·
          simp only [Act.put,zi,zj,zk,zG,zH]
          rfl
         refine pure_ (i:=11) (N:=some 135) (v:=undef) (a':=?_) (bm_ 12 36) rfl rfl (any_of HT_.out (by kernel_rfl)) (fun _ _ _ h => h) (Or.inr ⟨by rfl,rfl⟩) ?_ ?_;rotate_left
         ·
          simp only [Act.put,zi,zj,zk,zG,zH]
          rfl
         refine pure_ (i:=12) (N:=some 136) (v:=undef) (a':=?_) (bm_ 13 36) rfl rfl (any_of HT_.out (by kernel_rfl)) (fun _ _ _ h => h) (Or.inr ⟨by rfl,rfl⟩) ?_ ?_;rotate_left
         ·
          simp only [Act.put,zi,zj,zk,zG,zH]
          rfl
         refine pure_ (i:=13) (N:=some 137) (v:=undef) (a':=?_) (bm_ 14 36) rfl rfl (any_of HT_.out (by kernel_rfl)) (fun _ _ _ h => h) (Or.inr ⟨by rfl,rfl⟩) ?_ ?_;rotate_left
         ·
          simp only [Act.put,zi,zj,zk,zG,zH]
          rfl
         refine pure_ (i:=14) (N:=some 138) (v:=undef) (a':=?_) (bm_ 15 36) rfl rfl (any_of HT_.out (by kernel_rfl)) (fun _ _ _ h => h) (Or.inr ⟨by rfl,rfl⟩) ?_ ?_;rotate_left
         ·
          simp only [Act.put,zi,zj,zk,zG,zH]
          rfl
         refine pure_ (i:=15) (N:=some 139) (v:=undef) (a':=?_) (bm_ 16 36) rfl rfl (any_of HT_.out (by kernel_rfl)) (fun _ _ _ h => h) (Or.inr ⟨by rfl,rfl⟩) ?_ ?_;rotate_left
         ·
          simp only [Act.put,zi,zj,zk,zG,zH]
          rfl
         refine pure_ (i:=16) (N:=some 140) (v:=undef) (a':=?_) (bm_ 17 36) rfl rfl (any_of HT_.out (by kernel_rfl)) (fun _ _ _ h => h) (Or.inr ⟨by rfl,rfl⟩) ?_ ?_;rotate_left
         ·
          simp only [Act.put,zi,zj,zk,zG,zH]
          rfl
         refine pure_ (i:=17) (N:=some 141) (v:=undef) (a':=?_) (bm_ 18 36) rfl rfl (any_of HT_.out (by kernel_rfl)) (fun _ _ _ h => h) (Or.inr ⟨by rfl,rfl⟩) ?_ ?_;rotate_left
         ·
          simp only [Act.put,zi,zj,zk,zG,zH]
          rfl
         refine pure_ (i:=18) (N:=some 142) (v:=undef) (a':=?_) (bm_ 19 36) rfl rfl (any_of HT_.out (by kernel_rfl)) (fun _ _ _ h => h) (Or.inr ⟨by rfl,rfl⟩) ?_ ?_;rotate_left
         ·
          simp only [Act.put,zi,zj,zk,zG,zH]
          rfl
         refine pure_ (i:=19) (N:=some 143) (v:=undef) (a':=?_) (bm_ 20 36) rfl rfl (any_of HT_.out (by kernel_rfl)) (fun _ _ _ h => h) (Or.inr ⟨by rfl,rfl⟩) ?_ ?_;rotate_left
         ·
          simp only [Act.put,zi,zj,zk,zG,zH]
          rfl
         refine pure_ (i:=20) (N:=some 144) (v:=undef) (a':=?_) (bm_ 21 36) rfl rfl (any_of HT_.out (by kernel_rfl)) (fun _ _ _ h => h) (Or.inr ⟨by rfl,rfl⟩) ?_ ?_;rotate_left
         ·
          simp only [Act.put,zi,zj,zk,zG,zH]
          rfl
         refine pure_ (i:=21) (N:=some 145) (v:=undef) (a':=?_) (bm_ 22 36) rfl rfl (any_of HT_.out (by kernel_rfl)) (fun _ _ _ h => h) (Or.inr ⟨by rfl,rfl⟩) ?_ ?_;rotate_left
         ·
          simp only [Act.put,zi,zj,zk,zG,zH]
          rfl
         refine pure_ (i:=22) (N:=some 146) (v:=undef) (a':=?_) (bm_ 23 36) rfl rfl (any_of HT_.out (by kernel_rfl)) (fun _ _ _ h => h) (Or.inr ⟨by rfl,rfl⟩) ?_ ?_;rotate_left
         ·
          simp only [Act.put,zi,zj,zk,zG,zH]
          rfl
         refine pure_ (i:=23) (N:=some 147) (v:=?_) (a':=?_) (bm_ 24 36) rfl rfl (any_of HT_.out (by kernel_rfl)) (fun _ _ _ h => h) (Or.inl ⟨by rfl,?_⟩) ?_ ?_;rotate_left
         ·
          intro w'
          go_simp
          with_reducible rfl
         rotate_left
         ·
          simp only [Act.put,zi,zj,zk,zG,zH]
          rfl
         refine pure_ (i:=24) (N:=some 148) (v:=?_) (a':=?_) (bm_ 25 36) rfl rfl (any_of HT_.out (by kernel_rfl)) (fun _ _ _ h => h) (Or.inl ⟨by rfl,?_⟩) ?_ ?_;rotate_left
         ·
          intro w'
          go_simp
          with_reducible rfl
         rotate_left
         ·
          simp only [Act.put,zi,zj,zk,zG,zH]
          rfl
         refine pure_ (i:=25) (N:=some 149) (v:=?_) (a':=?_) (bm_ 26 36) rfl rfl (any_of HT_.out (by kernel_rfl)) (fun _ _ _ h => h) (Or.inl ⟨by rfl,?_⟩) ?_ ?_;rotate_left
         ·
          intro w'
          go_simp
          with_reducible rfl
         rotate_left
         ·
          simp only [Act.put,zi,zj,zk,zG,zH]
          rfl
         refine pure_ (i:=26) (N:=some 150) (v:=?_) (a':=?_) (bm_ 27 36) rfl rfl (any_of HT_.out (by kernel_rfl)) (fun _ _ _ h => h) (Or.inl ⟨by rfl,?_⟩) ?_ ?_;rotate_left
         ·
          intro w'
          go_simp
          with_reducible rfl
         rotate_left
         ·
          simp only [Act.put,zi,zj,zk,zG,zH]
          rfl
         refine pure_ (i:=27) (N:=some 151) (v:=?_) (a':=?_) (bm_ 28 36) rfl rfl (any_of HT_.out (by kernel_rfl)) (fun _ _ _ h => h) (Or.inl ⟨by rfl,?_⟩) ?_ ?_;rotate_left
         ·
          intro w'
          go_simp
          with_reducible rfl
         rotate_left
         ·
          simp only [Act.put,zi,zj,zk,zG,zH]
          rfl
         refine pure_ (i:=28) (N:=some 152) (v:=?_) (a':=?_) (bm_ 29 36) rfl rfl (any_of HT_.out (by kernel_rfl)) (fun _ _ _ h => h) (Or.inl ⟨by rfl,?_⟩) ?_ ?_;rotate_left
         ·
          intro w'
          go_simp
          with_reducible rfl
         rotate_left
         ·
          simp only [Act.put,zi,zj,zk,zG,zH]
          rfl
         refine pure_ (i:=29) (N:=some 153) (v:=?_) (a':=?_) (bm_ 30 36) rfl rfl (any_of HT_.out (by kernel_rfl)) (fun _ _ _ h => h) (Or.inl ⟨by rfl,?_⟩) ?_ ?_;rotate_left
         ·
          intro w'
          go_simp
          with_reducible rfl
         rotate_left
         ·
          simp only [Act.put,zi,zj,zk,zG,zH]
          rfl
         refine pure_ (i:=31) (N:=some 155) (v:=?_) (a':=?_) #[true,true,true,true,true,true,true,true,true,true,true,true,true,true,true,true,true,true,true,true,true,true,true,true,true,true,true,true,true,true,false,true,false,false,false,false] rfl rfl (any_of HT_.out (by kernel_rfl)) (fun _ _ _ h => h) (Or.inl ⟨by rfl,?_⟩) ?_ ?_;rotate_left
         ·
          intro w'
          go_simp
          with_reducible rfl
         rotate_left
         ·
          simp only [Act.put,zi,zj,zk,zG,zH]
          rfl
         refine pure_ (i:=32) (N:=some 156) (v:=?_) (a':=?_) #[true,true,true,true,true,true,true,true,true,true,true,true,true,true,true,true,true,true,true,true,true,true,true,true,true,true,true,true,true,true,false,true,true,false,false,false] rfl rfl (any_of HT_.out (by kernel_rfl)) (fun _ _ _ h => h) (Or.inl ⟨by rfl,?_⟩) ?_ ?_;rotate_left
         ·
          intro w'
          go_simp
          with_reducible rfl
         rotate_left
         ·
          simp only [Act.put,zi,zj,zk,zG,zH]
          rfl
         refine take_ (i:=30) (N:=some 154) (v:=?_) (a':=?_) (bm_ 33 36) rfl rfl (yo HT_.out HW_.out (by kernel_rfl)) (fun _ _ _ h => h) (Or.inl ⟨by rfl,?_⟩) hHeld ?_ ?_;rotate_left
         ·
          rintro w' ⟨s0,s1,s2,s3,s4,s5,s6,s7⟩
          go_simp
          with_reducible rfl
         rotate_left
         ·
          simp only [Act.put,zi,zj,zk,zG,zH]
          rfl
         refine one_ (i:=33) (N:=some 157) (bm_ 34 36) rfl rfl (one_of HT_.out (by kernel_rfl)) (by decide) (fun K hK => ?_);refine goes_ Try.func41 (by kernel_rfl) rfl #[.agg #[.int .i64 ((rd_T54 t153 x10_2).f1.f0),.int .i64 ((rd_T54 t153 x10_2).f1.f1),.string ((rd_T54 t153 x10_2).f1.f2)],.int .i64 (wrap64 (a1 - 1))] (by rfl) rfl rfl (by (try simp only [zt,zu,zv]);first|done|rfl|(simp only [zw,zx];rfl)|(simp only [yr,ys,zV,zW];rfl)) ?_
         with_reducible refine (ih k2 (by have:=HJ53.out;have:=HK2.out;omega)  ((rd_T54 t153 x10_2).f1.f0) ((rd_T54 t153 x10_2).f1.f1) ((rd_T54 t153 x10_2).f1.f2) (wrap64 (a1 - 1)) false _ A85.out).mono ?_
         rintro e w92 ⟨rfl,hb⟩;have HS0_:=(hb.cell (zl _ _ (hHeld.1))).trans (hHeld.1);have HS1_:=(hb.cell (zl _ _ (hHeld.2.1))).trans (hHeld.2.1);have HS2_:=(hb.cell (zl _ _ (hHeld.2.2.1))).trans (hHeld.2.2.1);have HS3_:=(hb.cell (zl _ _ (hHeld.2.2.2.1))).trans (hHeld.2.2.2.1);have HS4_:=(hb.cell (zl _ _ (hHeld.2.2.2.2.1))).trans (hHeld.2.2.2.2.1);have HS5_:=(hb.cell (zl _ _ (hHeld.2.2.2.2.2.1))).trans (hHeld.2.2.2.2.2.1);have HS6_:=(hb.cell (zl _ _ (hHeld.2.2.2.2.2.2.1))).trans (hHeld.2.2.2.2.2.2.1);have HS7_:=(hb.cell (zl _ _ (hHeld.2.2.2.2.2.2.2))).trans (hHeld.2.2.2.2.2.2.2);refine ⟨_,rfl,?_⟩;replace HO_8:=zh (yg (by (with_reducible repeat (first|apply zm|apply zn|apply zo));exact HO_8.out) hb);replace BK144:=zh (zD (g:=gb144) (o:=.cells #[.int .i64 a0_0,.int .i64 a0_1,.string a0_2] 27 (0,0)) (by (with_reducible repeat (first|refine ze ?_ _|refine zf ?_|refine zg ?_ _));exact BK144.out) hb);replace HB:=zh (zC (by repeat (with_reducible first|exact HB.out|apply za|apply zb|apply zc|refine zd ?_ GE144.out)) hb);(try clear hb);(try clear hb2);(try clear hk);(try clear hi);refine hK.out _ _ ⟨HS0_,HS1_,HS2_,HS3_,HS4_,HS5_,HS6_,HS7_⟩ (fun hHeld => ?_);clear hK K;refine norm_ (a':=?_) ?_ ?_;rotate_left
         ·
          show Act.put _ (some 157) _=_
          simp only [Act.put,zi,zj,zk,zG,zH]
          rfl
         refine pure_ (i:=34) (N:=some 158) (v:=?_) (a':=?_) (bm_ 35 36) rfl rfl (any_of HT_.out (by kernel_rfl)) (fun _ _ _ h => h) (Or.inl ⟨by rfl,?_⟩) ?_ ?_;rotate_left
         ·
          intro w'
          go_simp
          with_reducible rfl
         rotate_left
         ·
          simp only [Act.put,zi,zj,zk,zG,zH]
          rfl
         refine pure_ (i:=35) (N:=some 159) (v:=?_) (a':=?_) (bm_ 36 36) rfl rfl (any_of HT_.out (by kernel_rfl)) (fun _ _ _ h => h) (Or.inl ⟨by rfl,?_⟩) ?_ ?_;rotate_left
         ·
          intro w'
          go_simp
          with_reducible rfl
         rotate_left
         ·
          simp only [Act.put,zi,zj,zk,zG,zH]
          rfl
         refine done_ (done_of HT_.out (by kernel_rfl)) ?_
         try go_wp2
         go_ret
         exact ⟨by first|rfl|(simp [yt,yu] <;> rfl)|(simp [*,yt,yu] <;> rfl),by repeat (with_reducible first|exact HB.out|apply za|apply zb|apply zc|refine zd ?_ GE144.out)⟩
        replace c69:=yb.mpr c69;subst c69;have H1 : (some false)=some r:=by rw [if_neg (show ¬ (false=true) by decide)] at H;exact H
        clear H;have H:=H1;clear H1;obtain rfl:=zU H;obtain ⟨Ao93,co93,eo93⟩:=yk HO_8.out;subst eo93
        try go_wp2
        replace HO_8:=zh (zo HO_8.out);replace BK144:=zh (zf BK144.out);replace HB:=zh (zc HB.out);have p157 : 0≤(x10_2 : Int):=zy (by first|(with_reducible assumption)|assumption);have q157 : x10_2<(t153.length : Int):=zy (by first|(with_reducible assumption)|assumption);obtain ⟨ad157,e157,hx157_0,hx157_1,hx157_2,hx157_3⟩:=at_T54 (yh HO_8.out).2.2 x10_2 p157 q157
        cases e157
        replace p157:=eq_true p157;replace q157:=eq_true q157;refine start_ (n:=36) (S:=fun w' => w'.cell? (ad157.add ((x10_2).toNat * 4))=some (.string ((rd_T54 t153 x10_2).f0))∧w'.cell? ⟨(ad157.add ((x10_2).toNat * 4)).block,(ad157.add ((x10_2).toNat * 4)).off + 1,none⟩=some (.int .i64 ((rd_T54 t153 x10_2).f1.f0))∧w'.cell? ⟨(ad157.add ((x10_2).toNat * 4)).block,(ad157.add ((x10_2).toNat * 4)).off + 2,none⟩=some (.int .i64 ((rd_T54 t153 x10_2).f1.f1))∧w'.cell? ⟨(ad157.add ((x10_2).toNat * 4)).block,(ad157.add ((x10_2).toNat * 4)).off + 3,none⟩=some (.string ((rd_T54 t153 x10_2).f1.f2))) (ds:=[]) (bm_ 0 36) (by kernel_rfl) rfl rfl ⟨hx157_0,hx157_1,hx157_2,hx157_3⟩ (fun hHeld => ?_);refine with_tabW F0.tab27 F0.bits27 (fun HT_ HW_ => ?_);generalize wr.drew=w94 at HO_8 BK144 HB hx157_0 hx157_1 hx157_2 hx157_3 hHeld ⊢;refine pure_ (i:=0) (N:=some 124) (v:=?_) (a':=?_) (bm_ 1 36) rfl rfl (any_of HT_.out (by kernel_rfl)) (fun _ _ _ h => h) (Or.inl ⟨by rfl,?_⟩) ?_ ?_;rotate_left
        ·
         intro w'
         go_simp
         with_reducible rfl
        rotate_left
        ·
         simp only [Act.put,zi,zj,zk,zG,zH]
         rfl
        refine pure_ (i:=1) (N:=some 125) (v:=?_) (a':=?_) (bm_ 2 36) rfl rfl (any_of HT_.out (by kernel_rfl)) (fun _ _ _ h => h) (Or.inl ⟨by rfl,?_⟩) ?_ ?_;rotate_left
        ·
         intro w'
         go_simp
         with_reducible rfl
        rotate_left
        ·
         simp only [Act.put,zi,zj,zk,zG,zH]
         rfl
        refine pure_ (i:=2) (N:=some 126) (v:=?_) (a':=?_) (bm_ 3 36) rfl rfl (any_of HT_.out (by kernel_rfl)) (fun _ _ _ h => h) (Or.inl ⟨by rfl,?_⟩) ?_ ?_;rotate_left
        ·
         intro w'
         go_simp
         with_reducible rfl
        rotate_left
        ·
         simp only [Act.put,zi,zj,zk,zG,zH]
         rfl
        refine pure_ (i:=3) (N:=some 127) (v:=?_) (a':=?_) (bm_ 4 36) rfl rfl (any_of HT_.out (by kernel_rfl)) (fun _ _ _ h => h) (Or.inl ⟨by rfl,?_⟩) ?_ ?_;rotate_left
        ·
         intro w'
         go_simp
         with_reducible rfl
        rotate_left
        ·
         simp only [Act.put,zi,zj,zk,zG,zH]
         rfl
        refine take_ (i:=4) (N:=some 128) (v:=?_) (a':=?_) (bm_ 5 36) rfl rfl (yo HT_.out HW_.out (by kernel_rfl)) (fun _ _ _ h => h) (Or.inl ⟨by rfl,?_⟩) hHeld ?_ ?_;rotate_left
        ·
         rintro w' ⟨s0,s1,s2,s3⟩
         go_simp
         with_reducible rfl
        rotate_left
        ·
         simp only [Act.put,zi,zj,zk,zG,zH]
         rfl
        refine one_ (i:=5) (N:=some 129) (bm_ 6 36) rfl rfl (one_of HT_.out (by kernel_rfl)) (by decide) (fun K hK => ?_);refine goes_ Try.func26 (by kernel_rfl) rfl #[.string ((rd_T54 t153 x10_2).f0)] (by rfl) rfl rfl (by (try simp only [zt,zu,zv]);first|done|rfl|(simp only [zw,zx];rfl)|(simp only [yr,ys,zV,zW];rfl)) ?_
        with_reducible refine (Fp.calls k2  ((rd_T54 t153 x10_2).f0) false _ A68.out).mono ?_
        rintro e w' ⟨rfl,⟨nd,rfl⟩⟩;refine ⟨_,rfl,?_⟩;refine hK.out _ _ ⟨hHeld.1,hHeld.2.1,hHeld.2.2.1,hHeld.2.2.2⟩ (fun hHeld => ?_);clear hK K;refine norm_ (a':=?_) ?_ ?_;rotate_left
        ·
         show Act.put _ (some 129) _=_
         simp only [Act.put,zi,zj,zk,zG,zH]
         rfl
        refine pure_ (i:=6) (N:=some 130) (v:=?_) (a':=?_) (bm_ 7 36) rfl rfl (any_of HT_.out (by kernel_rfl)) (fun _ _ _ h => h) (Or.inl ⟨by rfl,?_⟩) ?_ ?_;rotate_left
        ·
         intro w'
         go_simp
         with_reducible rfl
        rotate_left
        ·
         simp only [Act.put,zi,zj,zk,zG,zH]
         rfl
        refine pure_ (i:=7) (N:=some 131) (v:=?_) (a':=?_) (bm_ 8 36) rfl rfl (any_of HT_.out (by kernel_rfl)) (fun _ _ _ h => h) (Or.inl ⟨by rfl,?_⟩) ?_ ?_;rotate_left
        ·
         intro w'
         go_simp
         with_reducible rfl
        rotate_left
        ·
         simp only [Act.put,zi,zj,zk,zG,zH]
         rfl
        refine pure_ (i:=8) (N:=some 132) (v:=undef) (a':=?_) (bm_ 9 36) rfl rfl (any_of HT_.out (by kernel_rfl)) (fun _ _ _ h => h) (Or.inr ⟨by rfl,rfl⟩) ?_ ?_;rotate_left
        ·
         simp only [Act.put,zi,zj,zk,zG,zH]
         rfl
        refine pure_ (i:=9) (N:=some 133) (v:=undef) (a':=?_) (bm_ 10 36) rfl rfl (any_of HT_.out (by kernel_rfl)) (fun _ _ _ h => h) (Or.inr ⟨by rfl,rfl⟩) ?_ ?_;rotate_left
        ·
         simp only [Act.put,zi,zj,zk,zG,zH]
         rfl
        refine pure_ (i:=10) (N:=some 134) (v:=undef) (a':=?_) (bm_ 11 36) rfl rfl (any_of HT_.out (by kernel_rfl)) (fun _ _ _ h => h) (Or.inr ⟨by rfl,rfl⟩) ?_ ?_;rotate_left
        ·
         simp only [Act.put,zi,zj,zk,zG,zH]
         rfl
        refine pure_ (i:=11) (N:=some 135) (v:=undef) (a':=?_) (bm_ 12 36) rfl rfl (any_of HT_.out (by kernel_rfl)) (fun _ _ _ h => h) (Or.inr ⟨by rfl,rfl⟩) ?_ ?_;rotate_left
        ·
         simp only [Act.put,zi,zj,zk,zG,zH]
         rfl
        refine pure_ (i:=12) (N:=some 136) (v:=undef) (a':=?_) (bm_ 13 36) rfl rfl (any_of HT_.out (by kernel_rfl)) (fun _ _ _ h => h) (Or.inr ⟨by rfl,rfl⟩) ?_ ?_;rotate_left
        ·
         simp only [Act.put,zi,zj,zk,zG,zH]
         rfl
        refine pure_ (i:=13) (N:=some 137) (v:=undef) (a':=?_) (bm_ 14 36) rfl rfl (any_of HT_.out (by kernel_rfl)) (fun _ _ _ h => h) (Or.inr ⟨by rfl,rfl⟩) ?_ ?_;rotate_left
        ·
         simp only [Act.put,zi,zj,zk,zG,zH]
         rfl
        refine pure_ (i:=14) (N:=some 138) (v:=undef) (a':=?_) (bm_ 15 36) rfl rfl (any_of HT_.out (by kernel_rfl)) (fun _ _ _ h => h) (Or.inr ⟨by rfl,rfl⟩) ?_ ?_;rotate_left
        ·
         simp only [Act.put,zi,zj,zk,zG,zH]
         rfl
        refine pure_ (i:=15) (N:=some 139) (v:=undef) (a':=?_) (bm_ 16 36) rfl rfl (any_of HT_.out (by kernel_rfl)) (fun _ _ _ h => h) (Or.inr ⟨by rfl,rfl⟩) ?_ ?_;rotate_left
        ·
         simp only [Act.put,zi,zj,zk,zG,zH]
         rfl
        refine pure_ (i:=16) (N:=some 140) (v:=undef) (a':=?_) (bm_ 17 36) rfl rfl (any_of HT_.out (by kernel_rfl)) (fun _ _ _ h => h) (Or.inr ⟨by rfl,rfl⟩) ?_ ?_;rotate_left
        ·
         simp only [Act.put,zi,zj,zk,zG,zH]
         rfl
        refine pure_ (i:=17) (N:=some 141) (v:=undef) (a':=?_) (bm_ 18 36) rfl rfl (any_of HT_.out (by kernel_rfl)) (fun _ _ _ h => h) (Or.inr ⟨by rfl,rfl⟩) ?_ ?_;rotate_left
        ·
         simp only [Act.put,zi,zj,zk,zG,zH]
         rfl
        refine pure_ (i:=18) (N:=some 142) (v:=undef) (a':=?_) (bm_ 19 36) rfl rfl (any_of HT_.out (by kernel_rfl)) (fun _ _ _ h => h) (Or.inr ⟨by rfl,rfl⟩) ?_ ?_;rotate_left
        ·
         simp only [Act.put,zi,zj,zk,zG,zH]
         rfl
        refine pure_ (i:=19) (N:=some 143) (v:=undef) (a':=?_) (bm_ 20 36) rfl rfl (any_of HT_.out (by kernel_rfl)) (fun _ _ _ h => h) (Or.inr ⟨by rfl,rfl⟩) ?_ ?_;rotate_left
        ·
         simp only [Act.put,zi,zj,zk,zG,zH]
         rfl
        refine pure_ (i:=20) (N:=some 144) (v:=undef) (a':=?_) (bm_ 21 36) rfl rfl (any_of HT_.out (by kernel_rfl)) (fun _ _ _ h => h) (Or.inr ⟨by rfl,rfl⟩) ?_ ?_;rotate_left
        ·
         simp only [Act.put,zi,zj,zk,zG,zH]
         rfl
        refine pure_ (i:=21) (N:=some 145) (v:=undef) (a':=?_) (bm_ 22 36) rfl rfl (any_of HT_.out (by kernel_rfl)) (fun _ _ _ h => h) (Or.inr ⟨by rfl,rfl⟩) ?_ ?_;rotate_left
        ·
         simp only [Act.put,zi,zj,zk,zG,zH]
         rfl
        refine pure_ (i:=22) (N:=some 146) (v:=undef) (a':=?_) (bm_ 23 36) rfl rfl (any_of HT_.out (by kernel_rfl)) (fun _ _ _ h => h) (Or.inr ⟨by rfl,rfl⟩) ?_ ?_;rotate_left
        ·
         simp only [Act.put,zi,zj,zk,zG,zH]
         rfl
        refine pure_ (i:=23) (N:=some 147) (v:=undef) (a':=?_) (bm_ 24 36) rfl rfl (any_of HT_.out (by kernel_rfl)) (fun _ _ _ h => h) (Or.inr ⟨by rfl,rfl⟩) ?_ ?_;rotate_left
        ·
         simp only [Act.put,zi,zj,zk,zG,zH]
         rfl
        refine pure_ (i:=24) (N:=some 148) (v:=?_) (a':=?_) (bm_ 25 36) rfl rfl (any_of HT_.out (by kernel_rfl)) (fun _ _ _ h => h) (Or.inl ⟨by rfl,?_⟩) ?_ ?_;rotate_left
        ·
         intro w'
         go_simp
         with_reducible rfl
        rotate_left
        ·
         simp only [Act.put,zi,zj,zk,zG,zH]
         rfl
        refine pure_ (i:=25) (N:=some 149) (v:=?_) (a':=?_) (bm_ 26 36) rfl rfl (any_of HT_.out (by kernel_rfl)) (fun _ _ _ h => h) (Or.inl ⟨by rfl,?_⟩) ?_ ?_;rotate_left
        ·
         intro w'
         go_simp
         with_reducible rfl
        rotate_left
        ·
         simp only [Act.put,zi,zj,zk,zG,zH]
         rfl
        refine pure_ (i:=26) (N:=some 150) (v:=undef) (a':=?_) (bm_ 27 36) rfl rfl (any_of HT_.out (by kernel_rfl)) (fun _ _ _ h => h) (Or.inr ⟨by rfl,rfl⟩) ?_ ?_;rotate_left
        ·
         simp only [Act.put,zi,zj,zk,zG,zH]
         rfl
        refine pure_ (i:=27) (N:=some 151) (v:=undef) (a':=?_) (bm_ 28 36) rfl rfl (any_of HT_.out (by kernel_rfl)) (fun _ _ _ h => h) (Or.inr ⟨by rfl,rfl⟩) ?_ ?_;rotate_left
        ·
         simp only [Act.put,zi,zj,zk,zG,zH]
         rfl
        refine pure_ (i:=28) (N:=some 152) (v:=undef) (a':=?_) (bm_ 29 36) rfl rfl (any_of HT_.out (by kernel_rfl)) (fun _ _ _ h => h) (Or.inr ⟨by rfl,rfl⟩) ?_ ?_;rotate_left
        ·
         simp only [Act.put,zi,zj,zk,zG,zH]
         rfl
        refine pure_ (i:=29) (N:=some 153) (v:=undef) (a':=?_) (bm_ 30 36) rfl rfl (any_of HT_.out (by kernel_rfl)) (fun _ _ _ h => h) (Or.inr ⟨by rfl,rfl⟩) ?_ ?_;rotate_left
        ·
         simp only [Act.put,zi,zj,zk,zG,zH]
         rfl
        refine pure_ (i:=30) (N:=some 154) (v:=undef) (a':=?_) (bm_ 31 36) rfl rfl (any_of HT_.out (by kernel_rfl)) (fun _ _ _ h => h) (Or.inr ⟨by rfl,rfl⟩) ?_ ?_;rotate_left
        ·
         simp only [Act.put,zi,zj,zk,zG,zH]
         rfl
        refine pure_ (i:=31) (N:=some 155) (v:=undef) (a':=?_) (bm_ 32 36) rfl rfl (any_of HT_.out (by kernel_rfl)) (fun _ _ _ h => h) (Or.inr ⟨by rfl,rfl⟩) ?_ ?_;rotate_left
        ·
         simp only [Act.put,zi,zj,zk,zG,zH]
         rfl
        refine pure_ (i:=32) (N:=some 156) (v:=undef) (a':=?_) (bm_ 33 36) rfl rfl (any_of HT_.out (by kernel_rfl)) (fun _ _ _ h => h) (Or.inr ⟨by rfl,rfl⟩) ?_ ?_;rotate_left
        ·
         simp only [Act.put,zi,zj,zk,zG,zH]
         rfl
        refine pure_ (i:=33) (N:=some 157) (v:=undef) (a':=?_) (bm_ 34 36) rfl rfl (any_of HT_.out (by kernel_rfl)) (fun _ _ _ h => h) (Or.inr ⟨by rfl,rfl⟩) ?_ ?_;rotate_left
        ·
         simp only [Act.put,zi,zj,zk,zG,zH]
         rfl
        refine pure_ (i:=34) (N:=some 158) (v:=undef) (a':=?_) (bm_ 35 36) rfl rfl (any_of HT_.out (by kernel_rfl)) (fun _ _ _ h => h) (Or.inr ⟨by rfl,rfl⟩) ?_ ?_;rotate_left
        ·
         simp only [Act.put,zi,zj,zk,zG,zH]
         rfl
        refine pure_ (i:=35) (N:=some 159) (v:=?_) (a':=?_) (bm_ 36 36) rfl rfl (any_of HT_.out (by kernel_rfl)) (fun _ _ _ h => h) (Or.inl ⟨by rfl,?_⟩) ?_ ?_;rotate_left
        ·
         intro w'
         go_simp
         with_reducible rfl
        rotate_left
        ·
         simp only [Act.put,zi,zj,zk,zG,zH]
         rfl
        refine done_ (done_of HT_.out (by kernel_rfl)) ?_
        try go_wp2
        go_ret
        exact ⟨by first|rfl|(simp [yt,yu] <;> rfl)|(simp [*,yt,yu] <;> rfl),by repeat (with_reducible first|exact HB.out|apply za|apply zb|apply zc|refine zd ?_ GE144.out)⟩
       rw [if_neg c67] at H;exact absurd H (by simp)
      rw [if_neg c66] at H;have c66b0 : decide (x10_2<(t153.length : Int))=false:=decide_eq_false c66;clear c66;obtain rfl:=zU H;obtain ⟨Ao95,co95,eo95⟩:=yk HO_8.out;subst eo95
      go_wp2
      go_ret
      exact ⟨by first|rfl|(simp [yt,yu] <;> rfl)|(simp [*,yt,yu] <;> rfl),by repeat (with_reducible first|exact HB.out|apply za|apply zb|apply zc|refine zd ?_ GE144.out)⟩
 rw [if_neg c52] at H;have c52b0 : (a0_0 == 5)=false:=zY.mpr c52;have c52b1 : (a0_0 != 5)=true:=zZ.mpr c52;obtain rfl:=zU H
 go_enter Try.func41,Try.ntmps41
 go_wp2_with (first|((with_reducible refine zK (N:=2) rfl ?_);(try (refine yz (by rfl) ?_;dsimp only));refine zI ?hg (N:=2) ?hd (cs:=#[.int .i64 a0_0,.int .i64 a0_1,.string a0_2]) (t:=27) ?hr ?_;(case hd => rfl);(case hg => rfl);(case hr => first|(go_simp;done)|(go_simp;rfl));intro gb144 hg w96 hbox hb;have BK144:=zh (hbox);have GW144:=zh ((by rw [hg];exact (zB (by repeat (with_reducible first|exact HB.out|apply za|apply zb|apply zc))) : w.heap.size≤gb144));have GE144:=zh ((by rw [hg];exact (zB (by repeat (with_reducible first|exact HB.out|apply za|apply zb|apply zc))) : w.heap.size≤gb144));replace HB:=zh (zC (by repeat (with_reducible first|exact HB.out|apply za|apply zb|apply zc)) hb);clear hb hbox hg;have hcz97_0 : w96.cell? ⟨gb144,0,none⟩=some (.int .i64 a0_0):=(zz BK144.out 0).trans rfl;have hcz97_1 : w96.cell? ⟨gb144,1,none⟩=some (.int .i64 a0_1):=(zz BK144.out 1).trans rfl;have hcz97_2 : w96.cell? ⟨gb144,2,none⟩=some (.string a0_2):=(zz BK144.out 2).trans rfl;have hfz97_0:=zA BK144.out 0;have hfz97_1:=zA BK144.out 1;have hfz97_2:=zA BK144.out 2))
 go_ret
 exact ⟨by first|rfl|(simp [yt,yu] <;> rfl)|(simp [*,yt,yu] <;> rfl),by repeat (with_reducible first|exact HB.out|apply za|apply zb|apply zc|refine zd ?_ GE144.out)⟩

end Go.Proofs.Ytjaknpeeopkojaa.Q
end
section
namespace Go.Proofs.Ytjaknpeeopkojaa.Q
open Go.RowKit Go.Proofs.YtjaknpeeopkojaaW.PrintWords Go.Proofs.YtjaknpeeopkojaaW.PrintLast Go.Proofs.YtjaknpeeopkojaaW.PrintMore
attribute [local go_sem] max2_int min2_int max_two min_two max_three min_three max_four min_four max2_str min2_str str_geq str_gtr str_leq
set_option linter.unusedVariables false
set_option linter.unusedSimpArgs false

def Fy.f (k : Nat) (a0_0 : Int) (a0_1 : Int) (a0_2 : ByteArray) : Option (Bool):=if (a0_2.size : Int)≤65536 then ((F0.f k a0_0 a0_1 a0_2 5).bind fun t166 => (some t166)) else (some false)
theorem Fy.mono : ∀ a0 a1 a2 k,LeO (Fy.f k a0 a1 a2) (Fy.f (k + 1) a0 a1 a2):=by
 intro a0 a1 a2 k;unfold Fy.f
 repeat' first|(with_reducible first|exact F0.mono _ _ _ _ _|exact zQ _|exact zN _|refine zP ?_ ?_|refine zO ?_ (fun _ => ?_))|refine zP ?_ ?_|refine zO ?_ (fun _ => ?_)
set_option maxHeartbeats 8000000 in
set_option maxRecDepth 100000 in
theorem Fy.calls (k : Nat) (a0_0 : Int) (a0_1 : Int) (a0_2 : ByteArray) (r : Bool) (w : World) (h : Fy.f k a0_0 a0_1 a0_2=some r) :
  Calls Try.prog 21 #[.agg #[.int .i64 a0_0,.int .i64 a0_1,.string a0_2]] w fun e w' => e = .returned (.bool r)∧Below w.heap.size w w':=by
 have hu27:=Try.underlying27;have HB:=zh (Below.refl w.heap.size w);have H : (if (a0_2.size : Int)≤65536 then ((F0.f k a0_0 a0_1 a0_2 5).bind fun t166 => (some t166)) else (some false))=some r:=h;clear h
 by_cases c2 : (a0_2.size : Int)≤65536
 ·
  rw [if_pos c2] at H
  have c2b0 : decide ((a0_2.size : Int)≤65536)=true:=decide_eq_true c2;have c2b1 : decide (a0_2.size≤65536)=true:=decide_eq_true (by omega);clear c2;replace H:=zT.mp H;obtain ⟨t166,A30,H⟩:=H;replace H : (some t166)=some r:=H;have A3:=zh A30;clear A30;obtain rfl:=zU H
  go_enter Try.func21,Try.ntmps21
  go_wp2_with (first|((with_reducible refine zK (N:=1) rfl ?_);refine zI ?hg (N:=1) ?hd (cs:=#[.int .i64 a0_0,.int .i64 a0_1,.string a0_2]) (t:=27) ?hr ?_;(case hd => rfl);(case hg => rfl);(case hr => first|(go_simp;done)|(go_simp;rfl));intro gb165 hg w4 hbox hb;have BK165:=zh (hbox);have GW165:=zh ((by rw [hg];exact (zB (by repeat (with_reducible first|exact HB.out|apply za|apply zb|apply zc))) : w.heap.size≤gb165));have GE165:=zh ((by rw [hg];exact (zB (by repeat (with_reducible first|exact HB.out|apply za|apply zb|apply zc))) : w.heap.size≤gb165));replace HB:=zh (zC (by repeat (with_reducible first|exact HB.out|apply za|apply zb|apply zc)) hb);clear hb hbox hg;have hcz5_0 : w4.cell? ⟨gb165,0,none⟩=some (.int .i64 a0_0):=(zz BK165.out 0).trans rfl;have hcz5_1 : w4.cell? ⟨gb165,1,none⟩=some (.int .i64 a0_1):=(zz BK165.out 1).trans rfl;have hcz5_2 : w4.cell? ⟨gb165,2,none⟩=some (.string a0_2):=(zz BK165.out 2).trans rfl;have hfz5_0:=zA BK165.out 0;have hfz5_1:=zA BK165.out 1;have hfz5_2:=zA BK165.out 2)|(go_at_call 41;(with_reducible refine (F0.calls k  a0_0 a0_1 a0_2 5 t166 _ A3.out).mono ?_);rintro e w6 ⟨rfl,hb⟩;replace BK165:=zh (zD (g:=gb165) (o:=.cells #[.int .i64 a0_0,.int .i64 a0_1,.string a0_2] 27 (0,0)) (by (with_reducible repeat (first|refine ze ?_ _|refine zf ?_|refine zg ?_ _));exact BK165.out) hb);replace HB:=zh (zC (by repeat (with_reducible first|exact HB.out|apply za|apply zb|apply zc|refine zd ?_ GE165.out)) hb);(try clear hb);(try clear hb2);(try clear hk);(try clear hi)))
  go_ret
  exact ⟨by first|rfl|(simp [yt,yu] <;> rfl)|(simp [*,yt,yu] <;> rfl),by repeat (with_reducible first|exact HB.out|apply za|apply zb|apply zc|refine zd ?_ GE165.out)⟩
 rw [if_neg c2] at H;have c2b0 : decide ((a0_2.size : Int)≤65536)=false:=decide_eq_false c2;have c2b1 : decide (a0_2.size≤65536)=false:=decide_eq_false (by omega);clear c2;obtain rfl:=zU H
 go_enter Try.func21,Try.ntmps21
 go_wp2_with (first|((with_reducible refine zK (N:=1) rfl ?_);refine zI ?hg (N:=1) ?hd (cs:=#[.int .i64 a0_0,.int .i64 a0_1,.string a0_2]) (t:=27) ?hr ?_;(case hd => rfl);(case hg => rfl);(case hr => first|(go_simp;done)|(go_simp;rfl));intro gb165 hg w7 hbox hb;have BK165:=zh (hbox);have GW165:=zh ((by rw [hg];exact (zB (by repeat (with_reducible first|exact HB.out|apply za|apply zb|apply zc))) : w.heap.size≤gb165));have GE165:=zh ((by rw [hg];exact (zB (by repeat (with_reducible first|exact HB.out|apply za|apply zb|apply zc))) : w.heap.size≤gb165));replace HB:=zh (zC (by repeat (with_reducible first|exact HB.out|apply za|apply zb|apply zc)) hb);clear hb hbox hg;have hcz8_0 : w7.cell? ⟨gb165,0,none⟩=some (.int .i64 a0_0):=(zz BK165.out 0).trans rfl;have hcz8_1 : w7.cell? ⟨gb165,1,none⟩=some (.int .i64 a0_1):=(zz BK165.out 1).trans rfl;have hcz8_2 : w7.cell? ⟨gb165,2,none⟩=some (.string a0_2):=(zz BK165.out 2).trans rfl;have hfz8_0:=zA BK165.out 0;have hfz8_1:=zA BK165.out 1;have hfz8_2:=zA BK165.out 2))
 go_ret
 exact ⟨by first|rfl|(simp [yt,yu] <;> rfl)|(simp [*,yt,yu] <;> rfl),by repeat (with_reducible first|exact HB.out|apply za|apply zb|apply zc|refine zd ?_ GE165.out)⟩


def Fk.l0 : Nat→ByteArray→List Int→Int→Option (ByteArray)
 | 0,_,_,_ => none
 | k + 1,x0,x3,x4 => if x4<(x0.size : Int) then (if 0≤x4 then (if x3.length<140737488355328 then (Fk.l0 k x0 (x3 ++ [(255 - (bt x0 x4)) % 256]) (wrap64 (x4 + 1))) else (none)) else (none)) else (some (strOfNums x3))
def Fk.f (k : Nat) (a0 : ByteArray) : Option (ByteArray):=Fk.l0 k a0 (([] : List Int)) 0
theorem Fk.mono_l : ∀ k,(∀ y0 y1 y2,LeO (Fk.l0 k y0 y1 y2) (Fk.l0 (k + 1) y0 y1 y2))
 | 0 => fun _ _ _ r h => by simp [Fk.l0] at h
 | k + 1 => by
  have ih0:=Fk.mono_l k;intro y0 y1 y2;unfold Fk.l0
  repeat' first|(with_reducible first|exact ih0 _ _ _|exact zQ _|exact zN _|refine zP ?_ ?_|refine zO ?_ (fun _ => ?_))|refine zP ?_ ?_|refine zO ?_ (fun _ => ?_)
theorem Fk.mono : ∀ a0 k,LeO (Fk.f k a0) (Fk.f (k + 1) a0):=by
 intro a0 k;have ih0:=Fk.mono_l k;unfold Fk.f
 repeat' first|(with_reducible first|exact ih0 _ _ _|exact zQ _|exact zN _|refine zP ?_ ?_|refine zO ?_ (fun _ => ?_))|refine zP ?_ ?_|refine zO ?_ (fun _ => ?_)
set_option maxHeartbeats 8000000 in
set_option maxRecDepth 100000 in
theorem Fk.calls (k : Nat) (a0 : ByteArray) (r : ByteArray) (w : World) (h : Fk.f k a0=some r) :
  Calls Try.prog 42 #[.string a0] w fun e w' => e = .returned (.string r)∧Below w.heap.size w w':=by
 have HB:=zh (Below.refl w.heap.size w);have H : (Fk.l0 k a0 (([] : List Int)) 0)=some r:=h;clear h;obtain ⟨y167,hy167⟩ : ∃ y_ : List Int,y_=(([] : List Int)):=⟨_,rfl⟩;replace H : (Fk.l0 k a0 y167 0)=some r:=by first|(rw [hy167];with_reducible exact H)|(have H2_:=(Option.bind_some _ _).symm.trans H;rw [hy167];with_reducible exact H2_)|(have H2_:=(Option.bind_some _ _).symm.trans H;with_reducible exact H2_)|with_reducible exact H|(rw [hy167];exact H)|exact H
 have Ny167:=zh hy167;clear hy167;have H':=zh H;clear H
 go_enter Try.func42,Try.ntmps42
 go_wp2_with (first|((with_reducible refine zK (N:=5) rfl ?_);refine Kd.R_lit (Kd.int .u8) _ 5 ?hg (N:=5) ?hd (xs:=([] : List Int)) (inner:=[]) (ok:=fun _ => True) (okp:=fun _ => True) ?hr ?hp (fun _ hk => hk) trivial (Below.refl _ _) (ye _) (by simp) ?_;(case hd => rfl);(case hg => rfl);(case hr => first|(go_simp;done)|(go_simp;rfl));(case hp => exact (Reps.none _ _));intro v168 w2 ho3 hb hg_ hnew_;clear hg_ hnew_;(first|rw [← Ny167.out] at ho3|(simp only [Int.reduceToNat] at ho3;rw [← Ny167.out] at ho3));have HO169:=zh (yy ho3 (zB (by repeat (with_reducible first|exact HB.out|apply za|apply zb|apply zc))));replace HB:=zh (zC (by repeat (with_reducible first|exact HB.out|apply za|apply zb|apply zc)) hb);clear hb ho3))
 go_loopg [3,4] k (fun kq v3 v4 w' => ∃ (x3_1 : List Int) (x4_1 : Int),v4 = .int .i64 x4_1∧Aside0 (Fk.l0 kq a0 x3_1 x4_1=some r)∧Aside0 (kq≤k)∧Aside0 (Kd.R (Kd.int .u8) 5 w' w.heap.size (fun _ => True) v3 x3_1)∧Aside0 (Below w.heap.size w w'))
 case atStart => exact ⟨(y167),(0),(by first|rfl|(simp;done)|(simp [*];done)),H',⟨ye _⟩,⟨by (with_reducible repeat (first|apply zm|apply zn|apply zo));exact HO169.out⟩,⟨by repeat (with_reducible first|exact HB.out|apply za|apply zb|apply zc)⟩⟩
 case round =>
  clear H'
  try clear p2
  obtain ⟨x3_1,x4_1,rfl,HA,HK1,HO_3,HB⟩:=hrel
  cases gk with
  | zero => exact absurd HA.out (by simp [Fk.l0])
  | succ k1 =>
   have H:=HA.out;clear HA;simp only [Fk.l0] at H
   by_cases c4 : x4_1<(a0.size : Int)
   ·
    rw [if_pos c4] at H
    have c4b0 : decide (x4_1<(a0.size : Int))=true:=decide_eq_true c4;clear c4
    by_cases c5 : 0≤x4_1
    ·
     rw [if_pos c5] at H
     have c5b0 : decide (0≤x4_1)=true:=decide_eq_true c5;clear c5
     by_cases c7 : x3_1.length<140737488355328
     ·
      rw [if_pos c7] at H
      have LMc7:=zh c7;clear c7;obtain ⟨y170,hy170⟩ : ∃ y_ : List Int,y_=(x3_1 ++ [(255 - (bt a0 x4_1)) % 256]):=⟨_,rfl⟩;replace H : (Fk.l0 k1 a0 y170 (wrap64 (x4_1 + 1)))=some r:=by first|(rw [hy170];with_reducible exact H)|(have H2_:=(Option.bind_some _ _).symm.trans H;rw [hy170];with_reducible exact H2_)|(have H2_:=(Option.bind_some _ _).symm.trans H;with_reducible exact H2_)|with_reducible exact H|(rw [hy170];exact H)|exact H
      have Ny170:=zh hy170;clear hy170;have H':=zh H;clear H;have p6 : 0≤(x4_1 : Int):=zy (by first|(with_reducible assumption)|assumption);have q6 : x4_1<(a0.size : Int):=zy (by first|(with_reducible assumption)|assumption);have hx6:=bt_at a0 x4_1;replace p6:=eq_true p6;replace q6:=eq_true q6
      go_wp2_with (first|((with_reducible refine yB (b:=.append) (xs:=#[.tmp 12,.tmp 17]) rfl ?_);at_builtin;refine Kd.R_append (Kd.int .u8) (w0:=w) w.heap.size rfl (.tmp 12) (.tmp 17) 66 5 (.int .u8 0) 1 rfl Try.underlying66 info5 rfl (by decide) (by omega) u3 x3_1 ((255 - (bt a0 x4_1)) % 256) [.int .u8 ((255 - (bt a0 x4_1)) % 256)] (fun _ => True) (fun _ => False) rfl rfl ?aP (fun _ hk => hk.elim) ?aF ?aO ?aB ?aS ?aL ?_;(case aP => exact rfl);(case aB => exact (by repeat (with_reducible first|exact HB.out|apply za|apply zb|apply zc)));(case aF => exact (fun _ _ => trivial));(case aO => exact (by (with_reducible repeat (first|apply zm|apply zn|apply zo));exact HO_3.out));(case aS => exact (zB (by repeat (with_reducible first|exact HB.out|apply za|apply zb|apply zc))));(case aL => have:=LMc7.out;omega);intro v171 w8 ho hb hg hat;rw [← Ny170.out] at ho;replace HB:=zh (hb);have HO172:=zh (ho);clear HO_3 ho hb hg hat))
      go_roundg k1
      case measure => have:=HK1.out;omega
      case rel => exact ⟨(y170),(wrap64 (x4_1 + 1)),(by first|rfl|(simp;done)|(simp [*];done)),H',⟨by have:=HK1.out;omega⟩,⟨by (with_reducible repeat (first|apply zm|apply zn|apply zo));exact HO172.out⟩,⟨by repeat (with_reducible first|exact HB.out|apply za|apply zb|apply zc)⟩⟩
     rw [if_neg c7] at H;exact absurd H (by simp)
    rw [if_neg c5] at H;exact absurd H (by simp)
   rw [if_neg c4] at H;have c4b0 : decide (x4_1<(a0.size : Int))=false:=decide_eq_false c4;clear c4;obtain rfl:=zU H;have hcv9:=own_string (P:=Try.prog) Try.underlying66 Try.underlying5 Try.underlying9 (Kd.own_of_R HO_3.out)
   go_wp2
   go_ret
   exact ⟨by first|rfl|(simp [yt,yu] <;> rfl)|(simp [*,yt,yu] <;> rfl),by repeat (with_reducible first|exact HB.out|apply za|apply zb|apply zc)⟩


def F9.l0 : Nat→Int→List Int→Int→Option (ByteArray)
 | 0,_,_,_ => none
 | k + 1,x0,x5,x6 => if x6 ≥ 0 then (if 0≤(IntKind.u64.wrap (wrap64 (8 * x6))) then (if x5.length<140737488355328 then (F9.l0 k x0 (x5 ++ [(shr .i64 x0 (IntKind.u64.wrap (wrap64 (8 * x6)))) % 256]) (wrap64 (x6 - 1))) else (none)) else (none)) else (some (strOfNums x5))
def F9.f (k : Nat) (a0 : Int) (a1 : Int) : Option (ByteArray):=F9.l0 k a0 (([] : List Int)) (wrap64 (a1 - 1))
theorem F9.mono_l : ∀ k,(∀ y0 y1 y2,LeO (F9.l0 k y0 y1 y2) (F9.l0 (k + 1) y0 y1 y2))
 | 0 => fun _ _ _ r h => by simp [F9.l0] at h
 | k + 1 => by
  have ih0:=F9.mono_l k;intro y0 y1 y2;unfold F9.l0
  repeat' first|(with_reducible first|exact ih0 _ _ _|exact zQ _|exact zN _|refine zP ?_ ?_|refine zO ?_ (fun _ => ?_))|refine zP ?_ ?_|refine zO ?_ (fun _ => ?_)
theorem F9.mono : ∀ a0 a1 k,LeO (F9.f k a0 a1) (F9.f (k + 1) a0 a1):=by
 intro a0 a1 k;have ih0:=F9.mono_l k;unfold F9.f
 repeat' first|(with_reducible first|exact ih0 _ _ _|exact zQ _|exact zN _|refine zP ?_ ?_|refine zO ?_ (fun _ => ?_))|refine zP ?_ ?_|refine zO ?_ (fun _ => ?_)
set_option maxHeartbeats 8000000 in
set_option maxRecDepth 100000 in
theorem F9.calls (k : Nat) (a0 : Int) (a1 : Int) (r : ByteArray) (w : World) (h : F9.f k a0 a1=some r) :
  Calls Try.prog 55 #[.int .i64 a0,.int .i64 a1] w fun e w' => e = .returned (.string r)∧Below w.heap.size w w':=by
 have HB:=zh (Below.refl w.heap.size w);have H : (F9.l0 k a0 (([] : List Int)) (wrap64 (a1 - 1)))=some r:=h;clear h;obtain ⟨y173,hy173⟩ : ∃ y_ : List Int,y_=(([] : List Int)):=⟨_,rfl⟩;replace H : (F9.l0 k a0 y173 (wrap64 (a1 - 1)))=some r:=by first|(rw [hy173];with_reducible exact H)|(have H2_:=(Option.bind_some _ _).symm.trans H;rw [hy173];with_reducible exact H2_)|(have H2_:=(Option.bind_some _ _).symm.trans H;with_reducible exact H2_)|with_reducible exact H|(rw [hy173];exact H)|exact H
 have Ny173:=zh hy173;clear hy173;have H':=zh H;clear H
 go_enter Try.func55,Try.ntmps55
 go_wp2_with (first|((with_reducible refine zK (N:=7) rfl ?_);refine Kd.R_lit (Kd.int .u8) _ 5 ?hg (N:=7) ?hd (xs:=([] : List Int)) (inner:=[]) (ok:=fun _ => True) (okp:=fun _ => True) ?hr ?hp (fun _ hk => hk) trivial (Below.refl _ _) (ye _) (by simp) ?_;(case hd => rfl);(case hg => rfl);(case hr => first|(go_simp;done)|(go_simp;rfl));(case hp => exact (Reps.none _ _));intro v174 w3 ho4 hb hg_ hnew_;clear hg_ hnew_;(first|rw [← Ny173.out] at ho4|(simp only [Int.reduceToNat] at ho4;rw [← Ny173.out] at ho4));have HO175:=zh (yy ho4 (zB (by repeat (with_reducible first|exact HB.out|apply za|apply zb|apply zc))));replace HB:=zh (zC (by repeat (with_reducible first|exact HB.out|apply za|apply zb|apply zc)) hb);clear hb ho4))
 go_loopg [5,6] k (fun kq v5 v6 w' => ∃ (x5_1 : List Int) (x6_1 : Int),v6 = .int .i64 x6_1∧Aside0 (F9.l0 kq a0 x5_1 x6_1=some r)∧Aside0 (kq≤k)∧Aside0 (Kd.R (Kd.int .u8) 5 w' w.heap.size (fun _ => True) v5 x5_1)∧Aside0 (Below w.heap.size w w'))
 case atStart => exact ⟨(y173),(wrap64 (a1 - 1)),(by first|rfl|(simp;done)|(simp [*];done)),H',⟨ye _⟩,⟨by (with_reducible repeat (first|apply zm|apply zn|apply zo));exact HO175.out⟩,⟨by repeat (with_reducible first|exact HB.out|apply za|apply zb|apply zc)⟩⟩
 case round =>
  clear H'
  try clear p2
  obtain ⟨x5_1,x6_1,rfl,HA,HK1,HO_5,HB⟩:=hrel
  cases gk with
  | zero => exact absurd HA.out (by simp [F9.l0])
  | succ k1 =>
   have H:=HA.out;clear HA;simp only [F9.l0] at H
   by_cases c5 : x6_1 ≥ 0
   ·
    rw [if_pos c5] at H
    have c5b0 : decide (0≤x6_1)=true:=decide_eq_true c5;clear c5;obtain ⟨ji6,hji6⟩ : ∃ j_ : Int,(IntKind.u64.wrap (wrap64 (8 * x6_1)))=j_:=⟨_,rfl⟩;replace H : (if 0≤(ji6) then (if x5_1.length<140737488355328 then (F9.l0 k1 a0 (x5_1 ++ [(shr .i64 a0 (ji6)) % 256]) (wrap64 (x6_1 - 1))) else (none)) else (none))=some r:=by first|(rw [hji6] at H;exact H)|(simp only [hji6] at H ⊢;exact H)
    by_cases c7 : 0≤(ji6)
    ·
     rw [if_pos c7] at H
     have c7b0:=eq_true c7;have c7b1 : decide (0≤(ji6))=true:=decide_eq_true c7;clear c7;obtain ⟨ji8,hji8⟩ : ∃ j_ : Int,(shr .i64 a0 (ji6))=j_:=⟨_,rfl⟩;replace H : (if x5_1.length<140737488355328 then (F9.l0 k1 a0 (x5_1 ++ [(ji8) % 256]) (wrap64 (x6_1 - 1))) else (none))=some r:=by first|(rw [hji8] at H;exact H)|(simp only [hji8] at H ⊢;exact H)
     have hji8_ : (a0 / 2 ^ min (ji6).toNat 64)=ji8:=hji8;have hji8z : (ji6)≤64→(a0 / 2 ^ (ji6).toNat)=ji8:=shr_small hji8
     by_cases c9 : x5_1.length<140737488355328
     ·
      rw [if_pos c9] at H
      have LMc9:=zh c9;clear c9;obtain ⟨y176,hy176⟩ : ∃ y_ : List Int,y_=(x5_1 ++ [(ji8) % 256]):=⟨_,rfl⟩;replace H : (F9.l0 k1 a0 y176 (wrap64 (x6_1 - 1)))=some r:=by first|(rw [hy176];with_reducible exact H)|(have H2_:=(Option.bind_some _ _).symm.trans H;rw [hy176];with_reducible exact H2_)|(have H2_:=(Option.bind_some _ _).symm.trans H;with_reducible exact H2_)|with_reducible exact H|(rw [hy176];exact H)|exact H
      have Ny176:=zh hy176;clear hy176;have H':=zh H;clear H
      go_wp2_with (first|((with_reducible refine yB (b:=.append) (xs:=#[.tmp 14,.tmp 21]) rfl ?_);at_builtin;refine Kd.R_append (Kd.int .u8) (w0:=w) w.heap.size rfl (.tmp 14) (.tmp 21) 66 5 (.int .u8 0) 1 rfl Try.underlying66 info5 rfl (by decide) (by omega) u5 x5_1 ((ji8) % 256) [.int .u8 ((ji8) % 256)] (fun _ => True) (fun _ => False) rfl rfl ?aP (fun _ hk => hk.elim) ?aF ?aO ?aB ?aS ?aL ?_;(case aP => exact rfl);(case aB => exact (by repeat (with_reducible first|exact HB.out|apply za|apply zb|apply zc)));(case aF => exact (fun _ _ => trivial));(case aO => exact (by (with_reducible repeat (first|apply zm|apply zn|apply zo));exact HO_5.out));(case aS => exact (zB (by repeat (with_reducible first|exact HB.out|apply za|apply zb|apply zc))));(case aL => have:=LMc9.out;omega);intro v177 w10 ho hb hg hat;rw [← Ny176.out] at ho;replace HB:=zh (hb);have HO178:=zh (ho);clear HO_5 ho hb hg hat))
      go_roundg k1
      case measure => have:=HK1.out;omega
      case rel => exact ⟨(y176),(wrap64 (x6_1 - 1)),(by first|rfl|(simp;done)|(simp [*];done)),H',⟨by have:=HK1.out;omega⟩,⟨by (with_reducible repeat (first|apply zm|apply zn|apply zo));exact HO178.out⟩,⟨by repeat (with_reducible first|exact HB.out|apply za|apply zb|apply zc)⟩⟩
     rw [if_neg c9] at H;exact absurd H (by simp)
    rw [if_neg c7] at H;exact absurd H (by simp)
   rw [if_neg c5] at H;have c5b0 : decide (0≤x6_1)=false:=decide_eq_false c5;clear c5;obtain rfl:=zU H;have hcv11:=own_string (P:=Try.prog) Try.underlying66 Try.underlying5 Try.underlying9 (Kd.own_of_R HO_5.out)
   go_wp2
   go_ret
   exact ⟨by first|rfl|(simp [yt,yu] <;> rfl)|(simp [*,yt,yu] <;> rfl),by repeat (with_reducible first|exact HB.out|apply za|apply zb|apply zc)⟩


def Ff.l0 : Nat→ByteArray→List Int→Int→Option (ByteArray)
 | 0,_,_,_ => none
 | k + 1,x0,x3,x4 => if x4<(x0.size : Int) then (if 0≤x4 then (if x3.length<140737488355328 then ((some (x3 ++ [bt x0 x4] : List Int)).bind fun y182 => (if (bt x0 x4)=0 then (if y182.length<140737488355328 then (Ff.l0 k x0 (y182 ++ [255]) (wrap64 (x4 + 1))) else (none)) else (Ff.l0 k x0 y182 (wrap64 (x4 + 1))))) else (none)) else (none)) else ((some (([0,0] : List Int) : List Int)).bind fun y188 => (if x3.length + y188.length<140737488355328 then (some (strOfNums (x3 ++ y188))) else (none)))
def Ff.f (k : Nat) (a0 : ByteArray) : Option (ByteArray):=Ff.l0 k a0 (([] : List Int)) 0
theorem Ff.mono_l : ∀ k,(∀ y0 y1 y2,LeO (Ff.l0 k y0 y1 y2) (Ff.l0 (k + 1) y0 y1 y2))
 | 0 => fun _ _ _ r h => by simp [Ff.l0] at h
 | k + 1 => by
  have ih0:=Ff.mono_l k;intro y0 y1 y2;unfold Ff.l0
  repeat' first|(with_reducible first|exact ih0 _ _ _|exact zQ _|exact zN _|refine zP ?_ ?_|refine zO ?_ (fun _ => ?_))|refine zP ?_ ?_|refine zO ?_ (fun _ => ?_)
theorem Ff.mono : ∀ a0 k,LeO (Ff.f k a0) (Ff.f (k + 1) a0):=by
 intro a0 k;have ih0:=Ff.mono_l k;unfold Ff.f
 repeat' first|(with_reducible first|exact ih0 _ _ _|exact zQ _|exact zN _|refine zP ?_ ?_|refine zO ?_ (fun _ => ?_))|refine zP ?_ ?_|refine zO ?_ (fun _ => ?_)
set_option maxHeartbeats 8000000 in
set_option maxRecDepth 100000 in
theorem Ff.calls (k : Nat) (a0 : ByteArray) (r : ByteArray) (w : World) (h : Ff.f k a0=some r) :
  Calls Try.prog 66 #[.string a0] w fun e w' => e = .returned (.string r)∧Below w.heap.size w w':=by
 have HB:=zh (Below.refl w.heap.size w);have H : (Ff.l0 k a0 (([] : List Int)) 0)=some r:=h;clear h;obtain ⟨y179,hy179⟩ : ∃ y_ : List Int,y_=(([] : List Int)):=⟨_,rfl⟩;replace H : (Ff.l0 k a0 y179 0)=some r:=by first|(rw [hy179];with_reducible exact H)|(have H2_:=(Option.bind_some _ _).symm.trans H;rw [hy179];with_reducible exact H2_)|(have H2_:=(Option.bind_some _ _).symm.trans H;with_reducible exact H2_)|with_reducible exact H|(rw [hy179];exact H)|exact H
 have Ny179:=zh hy179;clear hy179;have H':=zh H;clear H
 go_enter Try.func66,Try.ntmps66
 go_wp2_with (first|((with_reducible refine zK (N:=5) rfl ?_);refine Kd.R_lit (Kd.int .u8) _ 5 ?hg (N:=5) ?hd (xs:=([] : List Int)) (inner:=[]) (ok:=fun _ => True) (okp:=fun _ => True) ?hr ?hp (fun _ hk => hk) trivial (Below.refl _ _) (ye _) (by simp) ?_;(case hd => rfl);(case hg => rfl);(case hr => first|(go_simp;done)|(go_simp;rfl));(case hp => exact (Reps.none _ _));intro v180 w2 ho3 hb hg_ hnew_;clear hg_ hnew_;(first|rw [← Ny179.out] at ho3|(simp only [Int.reduceToNat] at ho3;rw [← Ny179.out] at ho3));have HO181:=zh (yy ho3 (zB (by repeat (with_reducible first|exact HB.out|apply za|apply zb|apply zc))));replace HB:=zh (zC (by repeat (with_reducible first|exact HB.out|apply za|apply zb|apply zc)) hb);clear hb ho3))
 go_loopg [3,4] k (fun kq v3 v4 w' => ∃ (x3_1 : List Int) (x4_1 : Int),v4 = .int .i64 x4_1∧Aside0 (Ff.l0 kq a0 x3_1 x4_1=some r)∧Aside0 (kq≤k)∧Aside0 (Kd.R (Kd.int .u8) 5 w' w.heap.size (fun _ => True) v3 x3_1)∧Aside0 (Below w.heap.size w w'))
 case atStart => exact ⟨(y179),(0),(by first|rfl|(simp;done)|(simp [*];done)),H',⟨ye _⟩,⟨by (with_reducible repeat (first|apply zm|apply zn|apply zo));exact HO181.out⟩,⟨by repeat (with_reducible first|exact HB.out|apply za|apply zb|apply zc)⟩⟩
 case round =>
  clear H'
  try clear p2
  obtain ⟨x3_1,x4_1,rfl,HA,HK1,HO_3,HB⟩:=hrel
  cases gk with
  | zero => exact absurd HA.out (by simp [Ff.l0])
  | succ k1 =>
   have H:=HA.out;clear HA;simp only [Ff.l0] at H
   by_cases c4 : x4_1<(a0.size : Int)
   ·
    rw [if_pos c4] at H
    have c4b0 : decide (x4_1<(a0.size : Int))=true:=decide_eq_true c4;clear c4
    by_cases c5 : 0≤x4_1
    ·
     rw [if_pos c5] at H
     have c5b0 : decide (0≤x4_1)=true:=decide_eq_true c5;clear c5
     by_cases c7 : x3_1.length<140737488355328
     ·
      rw [if_pos c7] at H
      have LMc7:=zh c7;clear c7;obtain ⟨y182,hy182⟩ : ∃ y_ : List Int,y_=(x3_1 ++ [bt a0 x4_1]):=⟨_,rfl⟩;replace H : (if (bt a0 x4_1)=0 then (if y182.length<140737488355328 then (Ff.l0 k1 a0 (y182 ++ [255]) (wrap64 (x4_1 + 1))) else (none)) else (Ff.l0 k1 a0 y182 (wrap64 (x4_1 + 1))))=some r:=by first|(rw [hy182];with_reducible exact H)|(have H2_:=(Option.bind_some _ _).symm.trans H;rw [hy182];with_reducible exact H2_)|(have H2_:=(Option.bind_some _ _).symm.trans H;with_reducible exact H2_)|with_reducible exact H|(rw [hy182];exact H)|exact H
      have Ny182:=zh hy182;clear hy182
      by_cases c9 : (bt a0 x4_1)=0
      ·
       rw [if_pos c9] at H
       have c9b0 : ((bt a0 x4_1) == 0)=true:=ya.mpr c9;have c9b1 : ((bt a0 x4_1) != 0)=false:=zX.mpr c9;clear c9
       by_cases c10 : y182.length<140737488355328
       ·
        rw [if_pos c10] at H
        have LMc10:=zh c10;clear c10;obtain ⟨y185,hy185⟩ : ∃ y_ : List Int,y_=(y182 ++ [255]):=⟨_,rfl⟩;replace H : (Ff.l0 k1 a0 y185 (wrap64 (x4_1 + 1)))=some r:=by first|(rw [hy185];with_reducible exact H)|(have H2_:=(Option.bind_some _ _).symm.trans H;rw [hy185];with_reducible exact H2_)|(have H2_:=(Option.bind_some _ _).symm.trans H;with_reducible exact H2_)|with_reducible exact H|(rw [hy185];exact H)|exact H
        have Ny185:=zh hy185;clear hy185;have H':=zh H;clear H;have p6 : 0≤(x4_1 : Int):=zy (by first|(with_reducible assumption)|assumption);have q6 : x4_1<(a0.size : Int):=zy (by first|(with_reducible assumption)|assumption);have hx6:=bt_at a0 x4_1;replace p6:=eq_true p6;replace q6:=eq_true q6
        go_wp2_with (first|((with_reducible refine yB (b:=.append) (xs:=#[.tmp 12,.tmp 16]) rfl ?_);at_builtin;refine Kd.R_append (Kd.int .u8) (w0:=w) w.heap.size rfl (.tmp 12) (.tmp 16) 66 5 (.int .u8 0) 1 rfl Try.underlying66 info5 rfl (by decide) (by omega) u3 x3_1 (bt a0 x4_1) [.int .u8 (bt a0 x4_1)] (fun _ => True) (fun _ => False) rfl rfl ?aP (fun _ hk => hk.elim) ?aF ?aO ?aB ?aS ?aL ?_;(case aP => exact rfl);(case aB => exact (by repeat (with_reducible first|exact HB.out|apply za|apply zb|apply zc)));(case aF => exact (fun _ _ => trivial));(case aO => exact (by (with_reducible repeat (first|apply zm|apply zn|apply zo));exact HO_3.out));(case aS => exact (zB (by repeat (with_reducible first|exact HB.out|apply za|apply zb|apply zc))));(case aL => have:=LMc7.out;omega);intro v183 w11 ho hb hg hat;rw [← Ny182.out] at ho;replace HB:=zh (hb);have HO184:=zh (ho);clear HO_3 ho hb hg hat;have p8 : 0≤(x4_1 : Int):=zy (by first|(with_reducible assumption)|assumption);have q8 : x4_1<(a0.size : Int):=zy (by first|(with_reducible assumption)|assumption);have hx8:=bt_at a0 x4_1;replace p8:=eq_true p8;replace q8:=eq_true q8)|((with_reducible refine yB (b:=.append) (xs:=#[.tmp 22,.tmp 23]) rfl ?_);at_builtin;refine Kd.R_append (Kd.int .u8) (w0:=w) w.heap.size rfl (.tmp 22) (.tmp 23) 66 5 (.int .u8 0) 1 rfl Try.underlying66 info5 rfl (by decide) (by omega) v183 y182 255 [.int .u8 255] (fun _ => True) (fun _ => False) rfl rfl ?aP (fun _ hk => hk.elim) ?aF ?aO ?aB ?aS ?aL ?_;(case aP => exact rfl);(case aB => exact (by repeat (with_reducible first|exact HB.out|apply za|apply zb|apply zc)));(case aF => exact (fun _ _ => trivial));(case aO => exact (by (with_reducible repeat (first|apply zm|apply zn|apply zo));exact HO184.out));(case aS => exact (zB (by repeat (with_reducible first|exact HB.out|apply za|apply zb|apply zc))));(case aL => have:=LMc10.out;omega);intro v186 w12 ho hb hg hat;rw [← Ny185.out] at ho;replace HB:=zh (hb);have HO187:=zh (ho);clear HO184 ho hb hg hat))
        go_roundg k1
        case measure => have:=HK1.out;omega
        case rel => exact ⟨(y185),(wrap64 (x4_1 + 1)),(by first|rfl|(simp;done)|(simp [*];done)),H',⟨by have:=HK1.out;omega⟩,⟨by (with_reducible repeat (first|apply zm|apply zn|apply zo));exact HO187.out⟩,⟨by repeat (with_reducible first|exact HB.out|apply za|apply zb|apply zc)⟩⟩
       rw [if_neg c10] at H;exact absurd H (by simp)
      rw [if_neg c9] at H;have c9b0 : ((bt a0 x4_1) == 0)=false:=zY.mpr c9;have c9b1 : ((bt a0 x4_1) != 0)=true:=zZ.mpr c9;have H':=zh H;clear H;have p6 : 0≤(x4_1 : Int):=zy (by first|(with_reducible assumption)|assumption);have q6 : x4_1<(a0.size : Int):=zy (by first|(with_reducible assumption)|assumption);have hx6:=bt_at a0 x4_1;replace p6:=eq_true p6;replace q6:=eq_true q6
      go_wp2_with (first|((with_reducible refine yB (b:=.append) (xs:=#[.tmp 12,.tmp 16]) rfl ?_);at_builtin;refine Kd.R_append (Kd.int .u8) (w0:=w) w.heap.size rfl (.tmp 12) (.tmp 16) 66 5 (.int .u8 0) 1 rfl Try.underlying66 info5 rfl (by decide) (by omega) u3 x3_1 (bt a0 x4_1) [.int .u8 (bt a0 x4_1)] (fun _ => True) (fun _ => False) rfl rfl ?aP (fun _ hk => hk.elim) ?aF ?aO ?aB ?aS ?aL ?_;(case aP => exact rfl);(case aB => exact (by repeat (with_reducible first|exact HB.out|apply za|apply zb|apply zc)));(case aF => exact (fun _ _ => trivial));(case aO => exact (by (with_reducible repeat (first|apply zm|apply zn|apply zo));exact HO_3.out));(case aS => exact (zB (by repeat (with_reducible first|exact HB.out|apply za|apply zb|apply zc))));(case aL => have:=LMc7.out;omega);intro v183 w13 ho hb hg hat;rw [← Ny182.out] at ho;replace HB:=zh (hb);have HO184:=zh (ho);clear HO_3 ho hb hg hat;have p8 : 0≤(x4_1 : Int):=zy (by first|(with_reducible assumption)|assumption);have q8 : x4_1<(a0.size : Int):=zy (by first|(with_reducible assumption)|assumption);have hx8:=bt_at a0 x4_1;replace p8:=eq_true p8;replace q8:=eq_true q8))
      go_roundg k1
      case measure => have:=HK1.out;omega
      case rel => exact ⟨(y182),(wrap64 (x4_1 + 1)),(by first|rfl|(simp;done)|(simp [*];done)),H',⟨by have:=HK1.out;omega⟩,⟨by (with_reducible repeat (first|apply zm|apply zn|apply zo));exact HO184.out⟩,⟨by repeat (with_reducible first|exact HB.out|apply za|apply zb|apply zc)⟩⟩
     rw [if_neg c7] at H;exact absurd H (by simp)
    rw [if_neg c5] at H;exact absurd H (by simp)
   rw [if_neg c4] at H;have c4b0 : decide (x4_1<(a0.size : Int))=false:=decide_eq_false c4;clear c4;obtain ⟨y188,hy188⟩ : ∃ y_ : List Int,y_=(([0,0] : List Int)):=⟨_,rfl⟩;replace H : (if x3_1.length + y188.length<140737488355328 then (some (strOfNums (x3_1 ++ y188))) else (none))=some r:=by first|(rw [hy188];with_reducible exact H)|(have H2_:=(Option.bind_some _ _).symm.trans H;rw [hy188];with_reducible exact H2_)|(have H2_:=(Option.bind_some _ _).symm.trans H;with_reducible exact H2_)|with_reducible exact H|(rw [hy188];exact H)|exact H
   have Ny188:=zh hy188;clear hy188
   by_cases c14 : x3_1.length + y188.length<140737488355328
   ·
    rw [if_pos c14] at H
    have LMc14:=zh c14;clear c14;obtain ⟨y191,hy191⟩ : ∃ y_ : List Int,y_=(x3_1 ++ y188):=⟨_,rfl⟩;replace H : (some (strOfNums y191))=some r:=by first|(rw [hy191];with_reducible exact H)|(have H2_:=(Option.bind_some _ _).symm.trans H;rw [hy191];with_reducible exact H2_)|(have H2_:=(Option.bind_some _ _).symm.trans H;with_reducible exact H2_)|with_reducible exact H|(rw [hy191];exact H)|exact H
    have Ny191:=zh hy191;clear hy191;obtain rfl:=zU H
    go_wp2_with (first|((with_reducible refine zK (N:=26) rfl ?_);refine Kd.R_lit (Kd.int .u8) _ 5 ?hg (N:=26) ?hd (xs:=([0,0] : List Int)) (inner:=[.int .u8 0,.int .u8 0]) (ok:=fun _ => True) (okp:=fun _ => True) ?hr ?hp (fun _ hk => hk) trivial (Below.refl _ _) (ye _) (by simp) ?_;(case hd => rfl);(case hg => rfl);(case hr => first|(go_simp;done)|(go_simp;rfl));(case hp => exact (Reps.one (show Kd.M (Kd.int .u8) _ _ _ 0 [.int .u8 0] from rfl) (Reps.one (show Kd.M (Kd.int .u8) _ _ _ 0 [.int .u8 0] from rfl) (Reps.none _ _))));intro v189 w15 ho16 hb hg_ hnew_;clear hg_ hnew_;(first|rw [← Ny188.out] at ho16|(simp only [Int.reduceToNat] at ho16;rw [← Ny188.out] at ho16));have HO190:=zh (yy (Kd.R_new' ho16 (Kd.R_lt (by (with_reducible repeat (first|apply zm|apply zn|apply zo));exact HO_3.out))) (zB (by repeat (with_reducible first|exact HB.out|apply za|apply zb|apply zc))));replace HO_3:=zh (Kd.R_elder' (by (with_reducible repeat (first|apply zm|apply zn|apply zo));exact HO_3.out) (Kd.R_base ho16) hb);replace HB:=zh (zC (by repeat (with_reducible first|exact HB.out|apply za|apply zb|apply zc)) hb);clear hb ho16;obtain ⟨Ao18,co18,eo18⟩:=yk HO190.out;subst eo18)|((with_reducible refine yB (b:=.append) (xs:=#[.tmp 25,.tmp 26]) rfl ?_);at_builtin;refine Kd.R_append_rows (Kd.int .u8) (w0:=w) w.heap.size rfl (.tmp 25) (.tmp 26) 66 5 (.int .u8 0) 1 rfl Try.underlying66 info5 rfl (by decide) (by omega) u3 x3_1 y188 _ _ _ (fun k_ => some k_≠(.slice Ao18 y188.length co18 : Value).ownBlock) (fun _ => False) rfl rfl ?aO ?aR (fun _ _ h => h) (fun _ h => h.elim) ?aF ?aB ?aS ?aL ?_;(case aR => repeat (first|exact (yh HO190.out).2.2|(with_reducible refine Kd.C_alloc ?_ _)|(with_reducible refine Kd.C_drewN ?_ _)|(with_reducible refine Kd.C_drew ?_)));(case aB => exact (by repeat (with_reducible first|exact HB.out|apply za|apply zb|apply zc)));(case aF => exact (fun k_ hk => Kd.fresh' (Kd.R_lt (by (with_reducible repeat (first|apply zm|apply zn|apply zo));exact HO190.out)) k_ hk));(case aO => exact (by (with_reducible repeat (first|apply zm|apply zn|apply zo));exact zM HO_3.out (fun _ hk => hk.2)));(case aS => exact (zB (by repeat (with_reducible first|exact HB.out|apply za|apply zb|apply zc))));(case aL => have:=LMc14.out;omega);intro v192 w17 ho hb hg hat;rw [← Ny191.out] at ho;replace HO190:=zh (Kd.R_after (ok:=(fun _ => True)) (by (with_reducible repeat (first|apply zm|apply zn|apply zo));exact HO190.out) hg hat);replace HB:=zh (hb);have HO193:=zh (ho);clear HO_3 ho hb hg hat;have hcv19:=own_string (P:=Try.prog) Try.underlying66 Try.underlying5 Try.underlying9 (Kd.own_of_R HO193.out)))
    go_ret
    exact ⟨by first|rfl|(simp [yt,yu] <;> rfl)|(simp [*,yt,yu] <;> rfl),by repeat (with_reducible first|exact HB.out|apply za|apply zb|apply zc)⟩
   rw [if_neg c14] at H;exact absurd H (by simp)

end Go.Proofs.Ytjaknpeeopkojaa.Q
end
section
namespace Go.Proofs.Ytjaknpeeopkojaa.Q
open Go.RowKit Go.Proofs.YtjaknpeeopkojaaW.PrintWords Go.Proofs.YtjaknpeeopkojaaW.PrintLast Go.Proofs.YtjaknpeeopkojaaW.PrintMore
attribute [local go_sem] max2_int min2_int max_two min_two max_three min_three max_four min_four max2_str min2_str str_geq str_gtr str_leq   -- for this text's walks alone
set_option linter.unusedVariables false
set_option linter.unusedSimpArgs false

mutual
def F2.l0 : Nat→ByteArray→List (S27)→Int→Option (ByteArray)
 | 0,_,_,_ => none
 | k + 1,x3,x4,x6 => if x6<(x4.length : Int) then (if 0≤x6 then ((F2.f k ((rd_T27 x4 x6).f0) ((rd_T27 x4 x6).f1) ((rd_T27 x4 x6).f2)).bind fun t204 => (if x3.size + t204.size≤9223372036854775807 then (F2.l0 k (x3 ++ t204) x4 (wrap64 (x6 + 1))) else (none))) else (none)) else (if x3.size + 1≤9223372036854775807 then (some (x3 ++ (⟨#[0]⟩ : ByteArray))) else (none))
def F2.l1 : Nat→ByteArray→List (S54)→Int→Option (ByteArray)
 | 0,_,_,_ => none
 | k + 1,x3,x7,x9 => if x9<(x7.length : Int) then (if 0≤x9 then ((Ff.f k ((rd_T54 x7 x9).f0)).bind fun t210 => (if 1 + t210.size≤9223372036854775807 then ((F2.f k ((rd_T54 x7 x9).f1.f0) ((rd_T54 x7 x9).f1.f1) ((rd_T54 x7 x9).f1.f2)).bind fun t212 => (if ((⟨#[1]⟩ : ByteArray) ++ t210).size + t212.size≤9223372036854775807 then (if x3.size + (((⟨#[1]⟩ : ByteArray) ++ t210) ++ t212).size≤9223372036854775807 then (F2.l1 k (x3 ++ (((⟨#[1]⟩ : ByteArray) ++ t210) ++ t212)) x7 (wrap64 (x9 + 1))) else (none)) else (none))) else (none))) else (none)) else (if x3.size + 1≤9223372036854775807 then (some (x3 ++ (⟨#[0]⟩ : ByteArray))) else (none))
def F2.f : Nat→Int→Int→ByteArray→Option (ByteArray)
 | 0,_,_,_ => none
 | k + 1,a0_0,a0_1,a0_2 => (F9.f k (wrap64 (a0_0 + 1)) 1).bind fun t195 => (if a0_0=0 then (some t195) else (if a0_0=1 then ((F9.f k a0_1 1).bind fun t196 => (if t195.size + t196.size≤9223372036854775807 then (some (t195 ++ t196)) else (none))) else (if a0_0=2 then ((F9.f k (wrap64 (a0_1 + 4611686018427387904)) 8).bind fun t197 => (if t195.size + t197.size≤9223372036854775807 then (some (t195 ++ t197)) else (none))) else (if a0_0=3 then ((Ff.f k a0_2).bind fun t198 => (if t195.size + t198.size≤9223372036854775807 then (some (t195 ++ t198)) else (none))) else (if a0_0=4 then ((Fd.f k a0_2).bind fun bt199 => (F2.l0 k t195 bt199.1 0)) else ((Fc.f k a0_2).bind fun bt205 => (F2.l1 k t195 bt205.1 0)))))))
end
theorem F2.mono_l : ∀ k,(∀ y0 y1 y2,LeO (F2.f k y0 y1 y2) (F2.f (k + 1) y0 y1 y2))∧(∀ y0 y1 y2,LeO (F2.l0 k y0 y1 y2) (F2.l0 (k + 1) y0 y1 y2))∧(∀ y0 y1 y2,LeO (F2.l1 k y0 y1 y2) (F2.l1 (k + 1) y0 y1 y2))
 | 0 => ⟨fun _ _ _ r h => by simp [F2.f] at h,fun _ _ _ r h => by simp [F2.l0] at h,fun _ _ _ r h => by simp [F2.l1] at h⟩
 | k + 1 => by
  obtain ⟨ih0,ih1,ih2⟩:=F2.mono_l k;refine ⟨?_,?_,?_⟩
  ·
   intro y0 y1 y2
   unfold F2.f
   repeat' first|(with_reducible first|exact ih0 _ _ _|exact ih1 _ _ _|exact ih2 _ _ _|exact Fc.mono _ _|exact F9.mono _ _ _|exact Fd.mono _ _|exact Ff.mono _ _|exact zQ _|exact zN _|refine zP ?_ ?_|refine zO ?_ (fun _ => ?_))|refine zP ?_ ?_|refine zO ?_ (fun _ => ?_)
  ·
   intro y0 y1 y2
   unfold F2.l0
   repeat' first|(with_reducible first|exact ih0 _ _ _|exact ih1 _ _ _|exact ih2 _ _ _|exact Fc.mono _ _|exact F9.mono _ _ _|exact Fd.mono _ _|exact Ff.mono _ _|exact zQ _|exact zN _|refine zP ?_ ?_|refine zO ?_ (fun _ => ?_))|refine zP ?_ ?_|refine zO ?_ (fun _ => ?_)
  intro y0 y1 y2;unfold F2.l1
  repeat' first|(with_reducible first|exact ih0 _ _ _|exact ih1 _ _ _|exact ih2 _ _ _|exact Fc.mono _ _|exact F9.mono _ _ _|exact Fd.mono _ _|exact Ff.mono _ _|exact zQ _|exact zN _|refine zP ?_ ?_|refine zO ?_ (fun _ => ?_))|refine zP ?_ ?_|refine zO ?_ (fun _ => ?_)
theorem F2.mono : ∀ a0 a1 a2 k,LeO (F2.f k a0 a1 a2) (F2.f (k + 1) a0 a1 a2):=by
 intro a0 a1 a2 k;obtain ⟨ih0,ih1,ih2⟩:=F2.mono_l k;exact ih0 a0 a1 a2
def F2.T22 : Bool×List (List Nat×List Nat):=(true,[([],[]),([],[]),([],[]),([1,2],[1,2]),([3],[3]),([4],[4]),([5],[5]),([6],[6]),([],[]),([],[]),([8,9],[8,9]),([10],[10]),([11],[11]),([12,6],[12]),([7,13],[7,13]),([0,14],[0,14]),([15,13,0,1,2,3,4,5,6,7,8,9,10,11,12,13,14,15],[0,15])])
def F2.B22 : List Nat:=[0,0,0,6,14,30,62,126,0,0,768,1792,3840,8062,16382,32767,65535]
theorem F2.tab22 : rtab .any (opsOf Try.f43 22)=F2.T22:=by kernel_rfl
theorem F2.bits22 : waitsOk F2.T22.2 F2.B22=true:=by kernel_rfl
set_option maxHeartbeats 8000000 in
set_option maxRecDepth 100000 in
theorem F2.calls (k : Nat) : ∀ (a0_0 : Int) (a0_1 : Int) (a0_2 : ByteArray) (r : ByteArray) (w : World) (h : F2.f k a0_0 a0_1 a0_2=some r),
  Calls Try.prog 43 #[.agg #[.int .i64 a0_0,.int .i64 a0_1,.string a0_2]] w fun e w' => e = .returned (.string r)∧Below w.heap.size w w':=by
 induction k using Nat.strongRecOn with
 | _ k ih =>
 intro a0_0 a0_1 a0_2 r w h
 cases k with
 | zero => exact absurd h (by simp [F2.f])
 | succ k =>
 simp only [F2.f] at h;have hu27:=Try.underlying27;have HB:=zh (Below.refl w.heap.size w);have H : ((F9.f k (wrap64 (a0_0 + 1)) 1).bind fun t195 => (if a0_0=0 then (some t195) else (if a0_0=1 then ((F9.f k a0_1 1).bind fun t196 => (if t195.size + t196.size≤9223372036854775807 then (some (t195 ++ t196)) else (none))) else (if a0_0=2 then ((F9.f k (wrap64 (a0_1 + 4611686018427387904)) 8).bind fun t197 => (if t195.size + t197.size≤9223372036854775807 then (some (t195 ++ t197)) else (none))) else (if a0_0=3 then ((Ff.f k a0_2).bind fun t198 => (if t195.size + t198.size≤9223372036854775807 then (some (t195 ++ t198)) else (none))) else (if a0_0=4 then ((Fd.f k a0_2).bind fun bt199 => (F2.l0 k t195 bt199.1 0)) else ((Fc.f k a0_2).bind fun bt205 => (F2.l1 k t195 bt205.1 0))))))))=some r:=h;clear h;replace H:=zT.mp H;obtain ⟨t195,A20,H⟩:=H;replace H : (if a0_0=0 then (some t195) else (if a0_0=1 then ((F9.f k a0_1 1).bind fun t196 => (if t195.size + t196.size≤9223372036854775807 then (some (t195 ++ t196)) else (none))) else (if a0_0=2 then ((F9.f k (wrap64 (a0_1 + 4611686018427387904)) 8).bind fun t197 => (if t195.size + t197.size≤9223372036854775807 then (some (t195 ++ t197)) else (none))) else (if a0_0=3 then ((Ff.f k a0_2).bind fun t198 => (if t195.size + t198.size≤9223372036854775807 then (some (t195 ++ t198)) else (none))) else (if a0_0=4 then ((Fd.f k a0_2).bind fun bt199 => (F2.l0 k t195 bt199.1 0)) else ((Fc.f k a0_2).bind fun bt205 => (F2.l1 k t195 bt205.1 0)))))))=some r:=H;have A2:=zh A20;clear A20
 by_cases c3 : a0_0=0
 ·
  rw [if_pos c3] at H
  have c3b0 : (a0_0 == 0)=true:=ya.mpr c3;have c3b1 : (a0_0 != 0)=false:=zX.mpr c3;clear c3;obtain rfl:=zU H
  go_enter Try.func43,Try.ntmps43
  go_wp2_with (first|((with_reducible refine zK (N:=1) rfl ?_);refine zI ?hg (N:=1) ?hd (cs:=#[.int .i64 a0_0,.int .i64 a0_1,.string a0_2]) (t:=27) ?hr ?_;(case hd => rfl);(case hg => rfl);(case hr => first|(go_simp;done)|(go_simp;rfl));intro gb194 hg w4 hbox hb;have BK194:=zh (hbox);have GW194:=zh ((by rw [hg];exact (zB (by repeat (with_reducible first|exact HB.out|apply za|apply zb|apply zc))) : w.heap.size≤gb194));have GE194:=zh ((by rw [hg];exact (zB (by repeat (with_reducible first|exact HB.out|apply za|apply zb|apply zc))) : w.heap.size≤gb194));replace HB:=zh (zC (by repeat (with_reducible first|exact HB.out|apply za|apply zb|apply zc)) hb);clear hb hbox hg;have hcz5_0 : w4.cell? ⟨gb194,0,none⟩=some (.int .i64 a0_0):=(zz BK194.out 0).trans rfl;have hcz5_1 : w4.cell? ⟨gb194,1,none⟩=some (.int .i64 a0_1):=(zz BK194.out 1).trans rfl;have hcz5_2 : w4.cell? ⟨gb194,2,none⟩=some (.string a0_2):=(zz BK194.out 2).trans rfl;have hfz5_0:=zA BK194.out 0;have hfz5_1:=zA BK194.out 1;have hfz5_2:=zA BK194.out 2)|((with_reducible refine zJ (f:=55) rfl ?_);refine yj (some 13) rfl rfl Try.func55 (by kernel_rfl) rfl #[.int .i64 (wrap64 (a0_0 + 1)),.int .i64 1] rfl (by (try simp only [zt,zu,zv]);first|done|rfl|(simp only [zw,zx];rfl)|(simp only [yr,ys,zV,zW];rfl)) ?_;(with_reducible refine (F9.calls k  (wrap64 (a0_0 + 1)) 1 t195 _ A2.out).mono ?_);rintro e w6 ⟨rfl,hb⟩;refine ⟨_,rfl,?_⟩;replace BK194:=zh (zD (g:=gb194) (o:=.cells #[.int .i64 a0_0,.int .i64 a0_1,.string a0_2] 27 (0,0)) (by (with_reducible repeat (first|refine ze ?_ _|refine zf ?_|refine zg ?_ _));exact BK194.out) hb);replace HB:=zh (zC (by repeat (with_reducible first|exact HB.out|apply za|apply zb|apply zc|refine zd ?_ GE194.out)) hb);(try clear hb);(try clear hb2);(try clear hk);(try clear hi);have hcz7_0 : w6.cell? ⟨gb194,0,none⟩=some (.int .i64 a0_0):=(zz BK194.out 0).trans rfl;have hcz7_1 : w6.cell? ⟨gb194,1,none⟩=some (.int .i64 a0_1):=(zz BK194.out 1).trans rfl;have hcz7_2 : w6.cell? ⟨gb194,2,none⟩=some (.string a0_2):=(zz BK194.out 2).trans rfl;have hfz7_0:=zA BK194.out 0;have hfz7_1:=zA BK194.out 1;have hfz7_2:=zA BK194.out 2))
  go_ret
  exact ⟨by first|rfl|(simp [yt,yu] <;> rfl)|(simp [*,yt,yu] <;> rfl),by repeat (with_reducible first|exact HB.out|apply za|apply zb|apply zc|refine zd ?_ GE194.out)⟩
 rw [if_neg c3] at H;have c3b0 : (a0_0 == 0)=false:=zY.mpr c3;have c3b1 : (a0_0 != 0)=true:=zZ.mpr c3
 by_cases c8 : a0_0=1
 ·
  rw [if_pos c8] at H
  have c8b0 : (a0_0 == 1)=true:=ya.mpr c8;have c8b1 : (a0_0 != 1)=false:=zX.mpr c8;clear c8;replace H:=zT.mp H;obtain ⟨t196,A90,H⟩:=H;replace H : (if t195.size + t196.size≤9223372036854775807 then (some (t195 ++ t196)) else (none))=some r:=H;have A9:=zh A90;clear A90
  by_cases c10 : t195.size + t196.size≤9223372036854775807
  ·
   rw [if_pos c10] at H
   have c10b0:=eq_true c10;have c10b1 : decide (t195.size + t196.size≤9223372036854775807)=true:=decide_eq_true c10
   try have c10b2 : (9223372036854775807<t195.size + t196.size)=False:=eq_false (Nat.not_lt.2 c10)
   obtain rfl:=zU H
   go_enter Try.func43,Try.ntmps43
   go_wp2_with (first|((with_reducible refine zK (N:=1) rfl ?_);refine zI ?hg (N:=1) ?hd (cs:=#[.int .i64 a0_0,.int .i64 a0_1,.string a0_2]) (t:=27) ?hr ?_;(case hd => rfl);(case hg => rfl);(case hr => first|(go_simp;done)|(go_simp;rfl));intro gb194 hg w11 hbox hb;have BK194:=zh (hbox);have GW194:=zh ((by rw [hg];exact (zB (by repeat (with_reducible first|exact HB.out|apply za|apply zb|apply zc))) : w.heap.size≤gb194));have GE194:=zh ((by rw [hg];exact (zB (by repeat (with_reducible first|exact HB.out|apply za|apply zb|apply zc))) : w.heap.size≤gb194));replace HB:=zh (zC (by repeat (with_reducible first|exact HB.out|apply za|apply zb|apply zc)) hb);clear hb hbox hg;have hcz12_0 : w11.cell? ⟨gb194,0,none⟩=some (.int .i64 a0_0):=(zz BK194.out 0).trans rfl;have hcz12_1 : w11.cell? ⟨gb194,1,none⟩=some (.int .i64 a0_1):=(zz BK194.out 1).trans rfl;have hcz12_2 : w11.cell? ⟨gb194,2,none⟩=some (.string a0_2):=(zz BK194.out 2).trans rfl;have hfz12_0:=zA BK194.out 0;have hfz12_1:=zA BK194.out 1;have hfz12_2:=zA BK194.out 2)|((with_reducible refine zJ (f:=55) rfl ?_);refine yj (some 13) rfl rfl Try.func55 (by kernel_rfl) rfl #[.int .i64 (wrap64 (a0_0 + 1)),.int .i64 1] rfl (by (try simp only [zt,zu,zv]);first|done|rfl|(simp only [zw,zx];rfl)|(simp only [yr,ys,zV,zW];rfl)) ?_;(with_reducible refine (F9.calls k  (wrap64 (a0_0 + 1)) 1 t195 _ A2.out).mono ?_);rintro e w13 ⟨rfl,hb⟩;refine ⟨_,rfl,?_⟩;replace BK194:=zh (zD (g:=gb194) (o:=.cells #[.int .i64 a0_0,.int .i64 a0_1,.string a0_2] 27 (0,0)) (by (with_reducible repeat (first|refine ze ?_ _|refine zf ?_|refine zg ?_ _));exact BK194.out) hb);replace HB:=zh (zC (by repeat (with_reducible first|exact HB.out|apply za|apply zb|apply zc|refine zd ?_ GE194.out)) hb);(try clear hb);(try clear hb2);(try clear hk);(try clear hi);have hcz14_0 : w13.cell? ⟨gb194,0,none⟩=some (.int .i64 a0_0):=(zz BK194.out 0).trans rfl;have hcz14_1 : w13.cell? ⟨gb194,1,none⟩=some (.int .i64 a0_1):=(zz BK194.out 1).trans rfl;have hcz14_2 : w13.cell? ⟨gb194,2,none⟩=some (.string a0_2):=(zz BK194.out 2).trans rfl;have hfz14_0:=zA BK194.out 0;have hfz14_1:=zA BK194.out 1;have hfz14_2:=zA BK194.out 2)|((with_reducible refine zJ (f:=55) rfl ?_);refine yj (some 24) rfl rfl Try.func55 (by kernel_rfl) rfl #[.int .i64 a0_1,.int .i64 1] rfl (by (try simp only [zt,zu,zv]);first|done|rfl|(simp only [zw,zx];rfl)|(simp only [yr,ys,zV,zW];rfl)) ?_;(with_reducible refine (F9.calls k  a0_1 1 t196 _ A9.out).mono ?_);rintro e w15 ⟨rfl,hb⟩;refine ⟨_,rfl,?_⟩;replace BK194:=zh (zD (g:=gb194) (o:=.cells #[.int .i64 a0_0,.int .i64 a0_1,.string a0_2] 27 (0,0)) (by (with_reducible repeat (first|refine ze ?_ _|refine zf ?_|refine zg ?_ _));exact BK194.out) hb);replace HB:=zh (zC (by repeat (with_reducible first|exact HB.out|apply za|apply zb|apply zc|refine zd ?_ GE194.out)) hb);(try clear hb);(try clear hb2);(try clear hk);(try clear hi)))
   go_ret
   exact ⟨by first|rfl|(simp [yt,yu] <;> rfl)|(simp [*,yt,yu] <;> rfl),by repeat (with_reducible first|exact HB.out|apply za|apply zb|apply zc|refine zd ?_ GE194.out)⟩
  rw [if_neg c10] at H;exact absurd H (by simp)
 rw [if_neg c8] at H;have c8b0 : (a0_0 == 1)=false:=zY.mpr c8;have c8b1 : (a0_0 != 1)=true:=zZ.mpr c8
 by_cases c16 : a0_0=2
 ·
  rw [if_pos c16] at H
  have c16b0 : (a0_0 == 2)=true:=ya.mpr c16;have c16b1 : (a0_0 != 2)=false:=zX.mpr c16;clear c16;replace H:=zT.mp H;obtain ⟨t197,A170,H⟩:=H;replace H : (if t195.size + t197.size≤9223372036854775807 then (some (t195 ++ t197)) else (none))=some r:=H;have A17:=zh A170;clear A170
  by_cases c18 : t195.size + t197.size≤9223372036854775807
  ·
   rw [if_pos c18] at H
   have c18b0:=eq_true c18;have c18b1 : decide (t195.size + t197.size≤9223372036854775807)=true:=decide_eq_true c18
   try have c18b2 : (9223372036854775807<t195.size + t197.size)=False:=eq_false (Nat.not_lt.2 c18)
   obtain rfl:=zU H
   go_enter Try.func43,Try.ntmps43
   go_wp2_with (first|((with_reducible refine zK (N:=1) rfl ?_);refine zI ?hg (N:=1) ?hd (cs:=#[.int .i64 a0_0,.int .i64 a0_1,.string a0_2]) (t:=27) ?hr ?_;(case hd => rfl);(case hg => rfl);(case hr => first|(go_simp;done)|(go_simp;rfl));intro gb194 hg w19 hbox hb;have BK194:=zh (hbox);have GW194:=zh ((by rw [hg];exact (zB (by repeat (with_reducible first|exact HB.out|apply za|apply zb|apply zc))) : w.heap.size≤gb194));have GE194:=zh ((by rw [hg];exact (zB (by repeat (with_reducible first|exact HB.out|apply za|apply zb|apply zc))) : w.heap.size≤gb194));replace HB:=zh (zC (by repeat (with_reducible first|exact HB.out|apply za|apply zb|apply zc)) hb);clear hb hbox hg;have hcz20_0 : w19.cell? ⟨gb194,0,none⟩=some (.int .i64 a0_0):=(zz BK194.out 0).trans rfl;have hcz20_1 : w19.cell? ⟨gb194,1,none⟩=some (.int .i64 a0_1):=(zz BK194.out 1).trans rfl;have hcz20_2 : w19.cell? ⟨gb194,2,none⟩=some (.string a0_2):=(zz BK194.out 2).trans rfl;have hfz20_0:=zA BK194.out 0;have hfz20_1:=zA BK194.out 1;have hfz20_2:=zA BK194.out 2)|((with_reducible refine zJ (f:=55) rfl ?_);refine yj (some 13) rfl rfl Try.func55 (by kernel_rfl) rfl #[.int .i64 (wrap64 (a0_0 + 1)),.int .i64 1] rfl (by (try simp only [zt,zu,zv]);first|done|rfl|(simp only [zw,zx];rfl)|(simp only [yr,ys,zV,zW];rfl)) ?_;(with_reducible refine (F9.calls k  (wrap64 (a0_0 + 1)) 1 t195 _ A2.out).mono ?_);rintro e w21 ⟨rfl,hb⟩;refine ⟨_,rfl,?_⟩;replace BK194:=zh (zD (g:=gb194) (o:=.cells #[.int .i64 a0_0,.int .i64 a0_1,.string a0_2] 27 (0,0)) (by (with_reducible repeat (first|refine ze ?_ _|refine zf ?_|refine zg ?_ _));exact BK194.out) hb);replace HB:=zh (zC (by repeat (with_reducible first|exact HB.out|apply za|apply zb|apply zc|refine zd ?_ GE194.out)) hb);(try clear hb);(try clear hb2);(try clear hk);(try clear hi);have hcz22_0 : w21.cell? ⟨gb194,0,none⟩=some (.int .i64 a0_0):=(zz BK194.out 0).trans rfl;have hcz22_1 : w21.cell? ⟨gb194,1,none⟩=some (.int .i64 a0_1):=(zz BK194.out 1).trans rfl;have hcz22_2 : w21.cell? ⟨gb194,2,none⟩=some (.string a0_2):=(zz BK194.out 2).trans rfl;have hfz22_0:=zA BK194.out 0;have hfz22_1:=zA BK194.out 1;have hfz22_2:=zA BK194.out 2)|((with_reducible refine zJ (f:=55) rfl ?_);refine yj (some 32) rfl rfl Try.func55 (by kernel_rfl) rfl #[.int .i64 (wrap64 (a0_1 + 4611686018427387904)),.int .i64 8] rfl (by (try simp only [zt,zu,zv]);first|done|rfl|(simp only [zw,zx];rfl)|(simp only [yr,ys,zV,zW];rfl)) ?_;(with_reducible refine (F9.calls k  (wrap64 (a0_1 + 4611686018427387904)) 8 t197 _ A17.out).mono ?_);rintro e w23 ⟨rfl,hb⟩;refine ⟨_,rfl,?_⟩;replace BK194:=zh (zD (g:=gb194) (o:=.cells #[.int .i64 a0_0,.int .i64 a0_1,.string a0_2] 27 (0,0)) (by (with_reducible repeat (first|refine ze ?_ _|refine zf ?_|refine zg ?_ _));exact BK194.out) hb);replace HB:=zh (zC (by repeat (with_reducible first|exact HB.out|apply za|apply zb|apply zc|refine zd ?_ GE194.out)) hb);(try clear hb);(try clear hb2);(try clear hk);(try clear hi)))
   go_ret
   exact ⟨by first|rfl|(simp [yt,yu] <;> rfl)|(simp [*,yt,yu] <;> rfl),by repeat (with_reducible first|exact HB.out|apply za|apply zb|apply zc|refine zd ?_ GE194.out)⟩
  rw [if_neg c18] at H;exact absurd H (by simp)
 rw [if_neg c16] at H;have c16b0 : (a0_0 == 2)=false:=zY.mpr c16;have c16b1 : (a0_0 != 2)=true:=zZ.mpr c16
 by_cases c24 : a0_0=3
 ·
  rw [if_pos c24] at H
  have c24b0 : (a0_0 == 3)=true:=ya.mpr c24;have c24b1 : (a0_0 != 3)=false:=zX.mpr c24;clear c24;replace H:=zT.mp H;obtain ⟨t198,A250,H⟩:=H;replace H : (if t195.size + t198.size≤9223372036854775807 then (some (t195 ++ t198)) else (none))=some r:=H;have A25:=zh A250;clear A250
  by_cases c26 : t195.size + t198.size≤9223372036854775807
  ·
   rw [if_pos c26] at H
   have c26b0:=eq_true c26;have c26b1 : decide (t195.size + t198.size≤9223372036854775807)=true:=decide_eq_true c26
   try have c26b2 : (9223372036854775807<t195.size + t198.size)=False:=eq_false (Nat.not_lt.2 c26)
   obtain rfl:=zU H
   go_enter Try.func43,Try.ntmps43
   go_wp2_with (first|((with_reducible refine zK (N:=1) rfl ?_);refine zI ?hg (N:=1) ?hd (cs:=#[.int .i64 a0_0,.int .i64 a0_1,.string a0_2]) (t:=27) ?hr ?_;(case hd => rfl);(case hg => rfl);(case hr => first|(go_simp;done)|(go_simp;rfl));intro gb194 hg w27 hbox hb;have BK194:=zh (hbox);have GW194:=zh ((by rw [hg];exact (zB (by repeat (with_reducible first|exact HB.out|apply za|apply zb|apply zc))) : w.heap.size≤gb194));have GE194:=zh ((by rw [hg];exact (zB (by repeat (with_reducible first|exact HB.out|apply za|apply zb|apply zc))) : w.heap.size≤gb194));replace HB:=zh (zC (by repeat (with_reducible first|exact HB.out|apply za|apply zb|apply zc)) hb);clear hb hbox hg;have hcz28_0 : w27.cell? ⟨gb194,0,none⟩=some (.int .i64 a0_0):=(zz BK194.out 0).trans rfl;have hcz28_1 : w27.cell? ⟨gb194,1,none⟩=some (.int .i64 a0_1):=(zz BK194.out 1).trans rfl;have hcz28_2 : w27.cell? ⟨gb194,2,none⟩=some (.string a0_2):=(zz BK194.out 2).trans rfl;have hfz28_0:=zA BK194.out 0;have hfz28_1:=zA BK194.out 1;have hfz28_2:=zA BK194.out 2)|((with_reducible refine zJ (f:=55) rfl ?_);refine yj (some 13) rfl rfl Try.func55 (by kernel_rfl) rfl #[.int .i64 (wrap64 (a0_0 + 1)),.int .i64 1] rfl (by (try simp only [zt,zu,zv]);first|done|rfl|(simp only [zw,zx];rfl)|(simp only [yr,ys,zV,zW];rfl)) ?_;(with_reducible refine (F9.calls k  (wrap64 (a0_0 + 1)) 1 t195 _ A2.out).mono ?_);rintro e w29 ⟨rfl,hb⟩;refine ⟨_,rfl,?_⟩;replace BK194:=zh (zD (g:=gb194) (o:=.cells #[.int .i64 a0_0,.int .i64 a0_1,.string a0_2] 27 (0,0)) (by (with_reducible repeat (first|refine ze ?_ _|refine zf ?_|refine zg ?_ _));exact BK194.out) hb);replace HB:=zh (zC (by repeat (with_reducible first|exact HB.out|apply za|apply zb|apply zc|refine zd ?_ GE194.out)) hb);(try clear hb);(try clear hb2);(try clear hk);(try clear hi);have hcz30_0 : w29.cell? ⟨gb194,0,none⟩=some (.int .i64 a0_0):=(zz BK194.out 0).trans rfl;have hcz30_1 : w29.cell? ⟨gb194,1,none⟩=some (.int .i64 a0_1):=(zz BK194.out 1).trans rfl;have hcz30_2 : w29.cell? ⟨gb194,2,none⟩=some (.string a0_2):=(zz BK194.out 2).trans rfl;have hfz30_0:=zA BK194.out 0;have hfz30_1:=zA BK194.out 1;have hfz30_2:=zA BK194.out 2)|((with_reducible refine zJ (f:=66) rfl ?_);refine yj (some 39) rfl rfl Try.func66 (by kernel_rfl) rfl #[.string a0_2] rfl (by (try simp only [zt,zu,zv]);first|done|rfl|(simp only [zw,zx];rfl)|(simp only [yr,ys,zV,zW];rfl)) ?_;(with_reducible refine (Ff.calls k  a0_2 t198 _ A25.out).mono ?_);rintro e w31 ⟨rfl,hb⟩;refine ⟨_,rfl,?_⟩;replace BK194:=zh (zD (g:=gb194) (o:=.cells #[.int .i64 a0_0,.int .i64 a0_1,.string a0_2] 27 (0,0)) (by (with_reducible repeat (first|refine ze ?_ _|refine zf ?_|refine zg ?_ _));exact BK194.out) hb);replace HB:=zh (zC (by repeat (with_reducible first|exact HB.out|apply za|apply zb|apply zc|refine zd ?_ GE194.out)) hb);(try clear hb);(try clear hb2);(try clear hk);(try clear hi)))
   go_ret
   exact ⟨by first|rfl|(simp [yt,yu] <;> rfl)|(simp [*,yt,yu] <;> rfl),by repeat (with_reducible first|exact HB.out|apply za|apply zb|apply zc|refine zd ?_ GE194.out)⟩
  rw [if_neg c26] at H;exact absurd H (by simp)
 rw [if_neg c24] at H;have c24b0 : (a0_0 == 3)=false:=zY.mpr c24;have c24b1 : (a0_0 != 3)=true:=zZ.mpr c24
 by_cases c32 : a0_0=4
 ·
  rw [if_pos c32] at H
  have c32b0 : (a0_0 == 4)=true:=ya.mpr c32;have c32b1 : (a0_0 != 4)=false:=zX.mpr c32;clear c32;replace H:=zT.mp H;obtain ⟨⟨t199,t200⟩,A330,H⟩:=H;replace H : (F2.l0 k t195 t199 0)=some r:=H;have A33:=zh A330;clear A330;have H':=zh H;clear H
  go_enter Try.func43,Try.ntmps43
  go_wp2_with (first|((with_reducible refine zK (N:=1) rfl ?_);refine zI ?hg (N:=1) ?hd (cs:=#[.int .i64 a0_0,.int .i64 a0_1,.string a0_2]) (t:=27) ?hr ?_;(case hd => rfl);(case hg => rfl);(case hr => first|(go_simp;done)|(go_simp;rfl));intro gb194 hg w34 hbox hb;have BK194:=zh (hbox);have GW194:=zh ((by rw [hg];exact (zB (by repeat (with_reducible first|exact HB.out|apply za|apply zb|apply zc))) : w.heap.size≤gb194));have GE194:=zh ((by rw [hg];exact (zB (by repeat (with_reducible first|exact HB.out|apply za|apply zb|apply zc))) : w.heap.size≤gb194));replace HB:=zh (zC (by repeat (with_reducible first|exact HB.out|apply za|apply zb|apply zc)) hb);clear hb hbox hg;have hcz35_0 : w34.cell? ⟨gb194,0,none⟩=some (.int .i64 a0_0):=(zz BK194.out 0).trans rfl;have hcz35_1 : w34.cell? ⟨gb194,1,none⟩=some (.int .i64 a0_1):=(zz BK194.out 1).trans rfl;have hcz35_2 : w34.cell? ⟨gb194,2,none⟩=some (.string a0_2):=(zz BK194.out 2).trans rfl;have hfz35_0:=zA BK194.out 0;have hfz35_1:=zA BK194.out 1;have hfz35_2:=zA BK194.out 2)|((with_reducible refine zJ (f:=55) rfl ?_);refine yj (some 13) rfl rfl Try.func55 (by kernel_rfl) rfl #[.int .i64 (wrap64 (a0_0 + 1)),.int .i64 1] rfl (by (try simp only [zt,zu,zv]);first|done|rfl|(simp only [zw,zx];rfl)|(simp only [yr,ys,zV,zW];rfl)) ?_;(with_reducible refine (F9.calls k  (wrap64 (a0_0 + 1)) 1 t195 _ A2.out).mono ?_);rintro e w36 ⟨rfl,hb⟩;refine ⟨_,rfl,?_⟩;replace BK194:=zh (zD (g:=gb194) (o:=.cells #[.int .i64 a0_0,.int .i64 a0_1,.string a0_2] 27 (0,0)) (by (with_reducible repeat (first|refine ze ?_ _|refine zf ?_|refine zg ?_ _));exact BK194.out) hb);replace HB:=zh (zC (by repeat (with_reducible first|exact HB.out|apply za|apply zb|apply zc|refine zd ?_ GE194.out)) hb);(try clear hb);(try clear hb2);(try clear hk);(try clear hi);have hcz37_0 : w36.cell? ⟨gb194,0,none⟩=some (.int .i64 a0_0):=(zz BK194.out 0).trans rfl;have hcz37_1 : w36.cell? ⟨gb194,1,none⟩=some (.int .i64 a0_1):=(zz BK194.out 1).trans rfl;have hcz37_2 : w36.cell? ⟨gb194,2,none⟩=some (.string a0_2):=(zz BK194.out 2).trans rfl;have hfz37_0:=zA BK194.out 0;have hfz37_1:=zA BK194.out 1;have hfz37_2:=zA BK194.out 2)|((with_reducible refine zJ (f:=65) rfl ?_);refine yj (some 46) rfl rfl Try.func65 (by kernel_rfl) rfl #[.string a0_2] rfl (by (try simp only [zt,zu,zv]);first|done|rfl|(simp only [zw,zx];rfl)|(simp only [yr,ys,zV,zW];rfl)) ?_;(with_reducible refine (Fd.calls k  a0_2 t199 t200 _ A33.out).mono ?_);rintro e w38 ⟨v201,rfl,ho0,hb⟩;refine ⟨_,rfl,?_⟩;have HO202:=zh (yy (Kd.R_newB ho0 (g:=gb194) (o:=.cells #[.int .i64 a0_0,.int .i64 a0_1,.string a0_2] 27 (0,0)) (by (with_reducible repeat (first|refine ze ?_ _|refine zf ?_|refine zg ?_ _));exact BK194.out)) (zB (by repeat (with_reducible first|exact HB.out|apply za|apply zb|apply zc|refine zd ?_ GE194.out))));replace BK194:=zh (zD (g:=gb194) (o:=.cells #[.int .i64 a0_0,.int .i64 a0_1,.string a0_2] 27 (0,0)) (by (with_reducible repeat (first|refine ze ?_ _|refine zf ?_|refine zg ?_ _));exact BK194.out) hb);replace HB:=zh (zC (by repeat (with_reducible first|exact HB.out|apply za|apply zb|apply zc|refine zd ?_ GE194.out)) hb);(try clear hb);(try clear hb2);(try clear hk);(try clear hi);(try clear ho0)))
  go_loopg [3,6] k (fun kq v3 v6 w' => ∃ (x3_1 : ByteArray) (x6_1 : Int),v3 = .string x3_1∧v6 = .int .i64 x6_1∧Aside0 (F2.l0 kq x3_1 t199 x6_1=some r)∧Aside0 (kq≤k)∧Aside0 (Kd.R k27 27 w' w.heap.size (fun k_ => k_≠gb194) v201 t199)∧Aside0 (w'.heap[gb194]? = some (.cells #[.int .i64 a0_0,.int .i64 a0_1,.string a0_2] 27 (0,0)))∧Aside0 (Below w.heap.size w w'))
  case atStart => exact ⟨(t195),(0),(by first|rfl|(simp;done)|(simp [*];done)),(by first|rfl|(simp;done)|(simp [*];done)),H',⟨ye _⟩,⟨by (with_reducible repeat (first|apply zm|apply zn|apply zo));exact zM HO202.out (fun _ hk => hk.2)⟩,⟨by (with_reducible repeat (first|refine ze ?_ _|refine zf ?_|refine zg ?_ _));exact BK194.out⟩,⟨by repeat (with_reducible first|exact HB.out|apply za|apply zb|apply zc|refine zd ?_ GE194.out)⟩⟩
  case round =>
   clear H'
   try clear c1
   try clear c2
   try clear p2
   try clear c3
   try clear c3b0
   try clear c3b1
   try clear c4
   try clear c5
   try clear c6
   try clear p6
   try clear c8
   try clear c8b0
   try clear c8b1
   try clear c10
   try clear c10b0
   try clear c10b1
   try clear c10b2
   try clear c16
   try clear c16b0
   try clear c16b1
   try clear c18
   try clear c18b0
   try clear c18b1
   try clear c18b2
   try clear c24
   try clear c24b0
   try clear c24b1
   try clear c26
   try clear c26b0
   try clear c26b1
   try clear c26b2
   try clear c32
   try clear c32b0
   try clear c32b1
   try clear hcz12_0
   try clear hcz12_1
   try clear hcz12_2
   try clear hcz14_0
   try clear hcz14_1
   try clear hcz14_2
   try clear hcz20_0
   try clear hcz20_1
   try clear hcz20_2
   try clear hcz22_0
   try clear hcz22_1
   try clear hcz22_2
   try clear hcz28_0
   try clear hcz28_1
   try clear hcz28_2
   try clear hcz30_0
   try clear hcz30_1
   try clear hcz30_2
   try clear hcz35_0
   try clear hcz35_1
   try clear hcz35_2
   try clear hcz37_0
   try clear hcz37_1
   try clear hcz37_2
   try clear hcz5_0
   try clear hcz5_1
   try clear hcz5_2
   try clear hcz7_0
   try clear hcz7_1
   try clear hcz7_2
   try clear hfz12_0
   try clear hfz12_1
   try clear hfz12_2
   try clear hfz14_0
   try clear hfz14_1
   try clear hfz14_2
   try clear hfz20_0
   try clear hfz20_1
   try clear hfz20_2
   try clear hfz22_0
   try clear hfz22_1
   try clear hfz22_2
   try clear hfz28_0
   try clear hfz28_1
   try clear hfz28_2
   try clear hfz30_0
   try clear hfz30_1
   try clear hfz30_2
   try clear hfz35_0
   try clear hfz35_1
   try clear hfz35_2
   try clear hfz37_0
   try clear hfz37_1
   try clear hfz37_2
   try clear hfz5_0
   try clear hfz5_1
   try clear hfz5_2
   try clear hfz7_0
   try clear hfz7_1
   try clear hfz7_2
   obtain ⟨x3_1,x6_1,rfl,rfl,HA,HK1,HO_4,BK194,HB⟩:=hrel
   cases gk with
   | zero => exact absurd HA.out (by simp [F2.l0])
   | succ k1 =>
    have H:=HA.out;clear HA;simp only [F2.l0] at H
    by_cases c39 : x6_1<(t199.length : Int)
    ·
     rw [if_pos c39] at H
     have c39b0 : decide (x6_1<(t199.length : Int))=true:=decide_eq_true c39;clear c39
     by_cases c40 : 0≤x6_1
     ·
      rw [if_pos c40] at H
      have c40b0 : decide (0≤x6_1)=true:=decide_eq_true c40;clear c40;replace H:=zT.mp H;obtain ⟨t204,A410,H⟩:=H;replace H : (if x3_1.size + t204.size≤9223372036854775807 then (F2.l0 k1 (x3_1 ++ t204) t199 (wrap64 (x6_1 + 1))) else (none))=some r:=H;have A41:=zh A410;clear A410
      by_cases c42 : x3_1.size + t204.size≤9223372036854775807
      ·
       rw [if_pos c42] at H
       have c42b0:=eq_true c42;have c42b1 : decide (x3_1.size + t204.size≤9223372036854775807)=true:=decide_eq_true c42
       try have c42b2 : (9223372036854775807<x3_1.size + t204.size)=False:=eq_false (Nat.not_lt.2 c42)
       have H':=zh H;clear H;obtain ⟨Ao43,co43,eo43⟩:=yk HO_4.out;subst eo43;have p203 : 0≤(x6_1 : Int):=zy (by first|(with_reducible assumption)|assumption);have q203 : x6_1<(t199.length : Int):=zy (by first|(with_reducible assumption)|assumption);obtain ⟨ad203,e203,hx203_0,hx203_1,hx203_2⟩:=at_T27 (yh HO_4.out).2.2 x6_1 p203 q203
       cases e203
       replace p203:=eq_true p203;replace q203:=eq_true q203
       go_wp2_with (first|((with_reducible refine zJ (f:=43) rfl ?_);refine yj (some 60) rfl rfl Try.func43 (by kernel_rfl) rfl #[.agg #[.int .i64 ((rd_T27 t199 x6_1).f0),.int .i64 ((rd_T27 t199 x6_1).f1),.string ((rd_T27 t199 x6_1).f2)]] rfl (by (try simp only [zt,zu,zv]);first|done|rfl|(simp only [zw,zx];rfl)|(simp only [yr,ys,zV,zW];rfl)) ?_;(with_reducible refine (ih k1 (by have:=HK1.out;omega)  ((rd_T27 t199 x6_1).f0) ((rd_T27 t199 x6_1).f1) ((rd_T27 t199 x6_1).f2) t204 _ A41.out).mono ?_);rintro e w44 ⟨rfl,hb⟩;refine ⟨_,rfl,?_⟩;replace HO_4:=zh (yg (by (with_reducible repeat (first|apply zm|apply zn|apply zo));exact HO_4.out) hb);replace BK194:=zh (zD (g:=gb194) (o:=.cells #[.int .i64 a0_0,.int .i64 a0_1,.string a0_2] 27 (0,0)) (by (with_reducible repeat (first|refine ze ?_ _|refine zf ?_|refine zg ?_ _));exact BK194.out) hb);replace HB:=zh (zC (by repeat (with_reducible first|exact HB.out|apply za|apply zb|apply zc|refine zd ?_ GE194.out)) hb);(try clear hb);(try clear hb2);(try clear hk);(try clear hi)))
       go_roundg k1
       case measure => have:=HK1.out;omega
       case rel => exact ⟨(x3_1 ++ t204),(wrap64 (x6_1 + 1)),(by first|rfl|(simp;done)|(simp [*];done)),(by first|rfl|(simp;done)|(simp [*];done)),H',⟨by have:=HK1.out;omega⟩,⟨by (with_reducible repeat (first|apply zm|apply zn|apply zo));exact HO_4.out⟩,⟨by (with_reducible repeat (first|refine ze ?_ _|refine zf ?_|refine zg ?_ _));exact BK194.out⟩,⟨by repeat (with_reducible first|exact HB.out|apply za|apply zb|apply zc|refine zd ?_ GE194.out)⟩⟩
      rw [if_neg c42] at H;exact absurd H (by simp)
     rw [if_neg c40] at H;exact absurd H (by simp)
    rw [if_neg c39] at H;have c39b0 : decide (x6_1<(t199.length : Int))=false:=decide_eq_false c39;clear c39
    by_cases c45 : x3_1.size + 1≤9223372036854775807
    ·
     rw [if_pos c45] at H
     have c45b0:=eq_true c45;have c45b1 : decide (x3_1.size + 1≤9223372036854775807)=true:=decide_eq_true c45
     try have c45b2 : (9223372036854775807<x3_1.size + 1)=False:=eq_false (Nat.not_lt.2 c45)
     obtain rfl:=zU H;obtain ⟨Ao46,co46,eo46⟩:=yk HO_4.out;subst eo46
     go_wp2
     go_ret
     exact ⟨by first|rfl|(simp [yt,yu] <;> rfl)|(simp [*,yt,yu] <;> rfl),by repeat (with_reducible first|exact HB.out|apply za|apply zb|apply zc|refine zd ?_ GE194.out)⟩
    rw [if_neg c45] at H;exact absurd H (by simp)
 rw [if_neg c32] at H;have c32b0 : (a0_0 == 4)=false:=zY.mpr c32;have c32b1 : (a0_0 != 4)=true:=zZ.mpr c32;replace H:=zT.mp H;obtain ⟨⟨t205,t206⟩,A470,H⟩:=H;replace H : (F2.l1 k t195 t205 0)=some r:=H;have A47:=zh A470;clear A470;have H':=zh H;clear H
 go_enter Try.func43,Try.ntmps43
 go_wp2_with (first|((with_reducible refine zK (N:=1) rfl ?_);refine zI ?hg (N:=1) ?hd (cs:=#[.int .i64 a0_0,.int .i64 a0_1,.string a0_2]) (t:=27) ?hr ?_;(case hd => rfl);(case hg => rfl);(case hr => first|(go_simp;done)|(go_simp;rfl));intro gb194 hg w48 hbox hb;have BK194:=zh (hbox);have GW194:=zh ((by rw [hg];exact (zB (by repeat (with_reducible first|exact HB.out|apply za|apply zb|apply zc))) : w.heap.size≤gb194));have GE194:=zh ((by rw [hg];exact (zB (by repeat (with_reducible first|exact HB.out|apply za|apply zb|apply zc))) : w.heap.size≤gb194));replace HB:=zh (zC (by repeat (with_reducible first|exact HB.out|apply za|apply zb|apply zc)) hb);clear hb hbox hg;have hcz49_0 : w48.cell? ⟨gb194,0,none⟩=some (.int .i64 a0_0):=(zz BK194.out 0).trans rfl;have hcz49_1 : w48.cell? ⟨gb194,1,none⟩=some (.int .i64 a0_1):=(zz BK194.out 1).trans rfl;have hcz49_2 : w48.cell? ⟨gb194,2,none⟩=some (.string a0_2):=(zz BK194.out 2).trans rfl;have hfz49_0:=zA BK194.out 0;have hfz49_1:=zA BK194.out 1;have hfz49_2:=zA BK194.out 2)|((with_reducible refine zJ (f:=55) rfl ?_);refine yj (some 13) rfl rfl Try.func55 (by kernel_rfl) rfl #[.int .i64 (wrap64 (a0_0 + 1)),.int .i64 1] rfl (by (try simp only [zt,zu,zv]);first|done|rfl|(simp only [zw,zx];rfl)|(simp only [yr,ys,zV,zW];rfl)) ?_;(with_reducible refine (F9.calls k  (wrap64 (a0_0 + 1)) 1 t195 _ A2.out).mono ?_);rintro e w50 ⟨rfl,hb⟩;refine ⟨_,rfl,?_⟩;replace BK194:=zh (zD (g:=gb194) (o:=.cells #[.int .i64 a0_0,.int .i64 a0_1,.string a0_2] 27 (0,0)) (by (with_reducible repeat (first|refine ze ?_ _|refine zf ?_|refine zg ?_ _));exact BK194.out) hb);replace HB:=zh (zC (by repeat (with_reducible first|exact HB.out|apply za|apply zb|apply zc|refine zd ?_ GE194.out)) hb);(try clear hb);(try clear hb2);(try clear hk);(try clear hi);have hcz51_0 : w50.cell? ⟨gb194,0,none⟩=some (.int .i64 a0_0):=(zz BK194.out 0).trans rfl;have hcz51_1 : w50.cell? ⟨gb194,1,none⟩=some (.int .i64 a0_1):=(zz BK194.out 1).trans rfl;have hcz51_2 : w50.cell? ⟨gb194,2,none⟩=some (.string a0_2):=(zz BK194.out 2).trans rfl;have hfz51_0:=zA BK194.out 0;have hfz51_1:=zA BK194.out 1;have hfz51_2:=zA BK194.out 2)|((with_reducible refine zJ (f:=48) rfl ?_);refine yj (some 67) rfl rfl Try.func48 (by kernel_rfl) rfl #[.string a0_2] rfl (by (try simp only [zt,zu,zv]);first|done|rfl|(simp only [zw,zx];rfl)|(simp only [yr,ys,zV,zW];rfl)) ?_;(with_reducible refine (Fc.calls k  a0_2 t205 t206 _ A47.out).mono ?_);rintro e w52 ⟨v207,rfl,ho0,hb⟩;refine ⟨_,rfl,?_⟩;have HO208:=zh (yy ho0 (zB (by repeat (with_reducible first|exact HB.out|apply za|apply zb|apply zc|refine zd ?_ GE194.out))));replace BK194:=zh (zD (g:=gb194) (o:=.cells #[.int .i64 a0_0,.int .i64 a0_1,.string a0_2] 27 (0,0)) (by (with_reducible repeat (first|refine ze ?_ _|refine zf ?_|refine zg ?_ _));exact BK194.out) hb);replace HB:=zh (zC (by repeat (with_reducible first|exact HB.out|apply za|apply zb|apply zc|refine zd ?_ GE194.out)) hb);(try clear hb);(try clear hb2);(try clear hk);(try clear hi);(try clear ho0)))
 go_loopg [3,9] k (fun kq v3 v9 w' => ∃ (x3_1 : ByteArray) (x9_1 : Int),v3 = .string x3_1∧v9 = .int .i64 x9_1∧Aside0 (F2.l1 kq x3_1 t205 x9_1=some r)∧Aside0 (kq≤k)∧Aside0 (Kd.R k54 54 w' w.heap.size (fun _ => True) v207 t205)∧Aside0 (w'.heap[gb194]? = some (.cells #[.int .i64 a0_0,.int .i64 a0_1,.string a0_2] 27 (0,0)))∧Aside0 (Below w.heap.size w w'))
 case atStart => exact ⟨(t195),(0),(by first|rfl|(simp;done)|(simp [*];done)),(by first|rfl|(simp;done)|(simp [*];done)),H',⟨ye _⟩,⟨by (with_reducible repeat (first|apply zm|apply zn|apply zo));exact HO208.out⟩,⟨by (with_reducible repeat (first|refine ze ?_ _|refine zf ?_|refine zg ?_ _));exact BK194.out⟩,⟨by repeat (with_reducible first|exact HB.out|apply za|apply zb|apply zc|refine zd ?_ GE194.out)⟩⟩
 case round =>
  clear H'
  try clear c1
  try clear c2
  try clear p2
  try clear q2
  try clear hx2
  try clear c3
  try clear c3b0
  try clear c3b1
  try clear c4
  try clear c5
  try clear c6
  try clear p6
  try clear c8
  try clear c8b0
  try clear c8b1
  try clear c10
  try clear c10b0
  try clear c10b1
  try clear c10b2
  try clear c16
  try clear c16b0
  try clear c16b1
  try clear c18
  try clear c18b0
  try clear c18b1
  try clear c18b2
  try clear p20
  try clear q20
  try clear hx20
  try clear c24
  try clear c24b0
  try clear c24b1
  try clear c26
  try clear c26b0
  try clear c26b1
  try clear c26b2
  try clear c32
  try clear c32b0
  try clear c32b1
  try clear c39
  try clear c39b0
  try clear c40
  try clear c40b0
  try clear c42
  try clear c42b0
  try clear c42b1
  try clear c42b2
  try clear c43
  try clear c45
  try clear c45b0
  try clear c45b1
  try clear c45b2
  try clear c48
  try clear hcz12_0
  try clear hcz12_1
  try clear hcz12_2
  try clear hcz14_0
  try clear hcz14_1
  try clear hcz14_2
  try clear hcz20_0
  try clear hcz20_1
  try clear hcz20_2
  try clear hcz22_0
  try clear hcz22_1
  try clear hcz22_2
  try clear hcz28_0
  try clear hcz28_1
  try clear hcz28_2
  try clear hcz30_0
  try clear hcz30_1
  try clear hcz30_2
  try clear hcz35_0
  try clear hcz35_1
  try clear hcz35_2
  try clear hcz37_0
  try clear hcz37_1
  try clear hcz37_2
  try clear hcz49_0
  try clear hcz49_1
  try clear hcz49_2
  try clear hcz51_0
  try clear hcz51_1
  try clear hcz51_2
  try clear hcz5_0
  try clear hcz5_1
  try clear hcz5_2
  try clear hcz7_0
  try clear hcz7_1
  try clear hcz7_2
  try clear hfz12_0
  try clear hfz12_1
  try clear hfz12_2
  try clear hfz14_0
  try clear hfz14_1
  try clear hfz14_2
  try clear hfz20_0
  try clear hfz20_1
  try clear hfz20_2
  try clear hfz22_0
  try clear hfz22_1
  try clear hfz22_2
  try clear hfz28_0
  try clear hfz28_1
  try clear hfz28_2
  try clear hfz30_0
  try clear hfz30_1
  try clear hfz30_2
  try clear hfz35_0
  try clear hfz35_1
  try clear hfz35_2
  try clear hfz37_0
  try clear hfz37_1
  try clear hfz37_2
  try clear hfz49_0
  try clear hfz49_1
  try clear hfz49_2
  try clear hfz51_0
  try clear hfz51_1
  try clear hfz51_2
  try clear hfz5_0
  try clear hfz5_1
  try clear hfz5_2
  try clear hfz7_0
  try clear hfz7_1
  try clear hfz7_2
  try clear hx203_0
  try clear hx203_1
  try clear hx203_2
  try clear p2
  try clear p203
  try clear p6
  try clear q203
  obtain ⟨x3_1,x9_1,rfl,rfl,HA,HK1,HO_7,BK194,HB⟩:=hrel
  cases gk with
  | zero => exact absurd HA.out (by simp [F2.l1])
  | succ k1 =>
   have H:=HA.out;clear HA;simp only [F2.l1] at H
   by_cases c53 : x9_1<(t205.length : Int)
   ·
    rw [if_pos c53] at H
    have c53b0 : decide (x9_1<(t205.length : Int))=true:=decide_eq_true c53;clear c53
    by_cases c54 : 0≤x9_1
    ·
     rw [if_pos c54] at H
     have c54b0 : decide (0≤x9_1)=true:=decide_eq_true c54;clear c54;replace H:=zT.mp H;obtain ⟨t210,A550,H⟩:=H;replace H : (if 1 + t210.size≤9223372036854775807 then ((F2.f k1 ((rd_T54 t205 x9_1).f1.f0) ((rd_T54 t205 x9_1).f1.f1) ((rd_T54 t205 x9_1).f1.f2)).bind fun t212 => (if ((⟨#[1]⟩ : ByteArray) ++ t210).size + t212.size≤9223372036854775807 then (if x3_1.size + (((⟨#[1]⟩ : ByteArray) ++ t210) ++ t212).size≤9223372036854775807 then (F2.l1 k1 (x3_1 ++ (((⟨#[1]⟩ : ByteArray) ++ t210) ++ t212)) t205 (wrap64 (x9_1 + 1))) else (none)) else (none))) else (none))=some r:=H;have A55:=zh A550;clear A550
     by_cases c56 : 1 + t210.size≤9223372036854775807
     ·
      rw [if_pos c56] at H
      have c56b0:=eq_true c56;have c56b1 : decide (1 + t210.size≤9223372036854775807)=true:=decide_eq_true c56
      try have c56b2 : (9223372036854775807<1 + t210.size)=False:=eq_false (Nat.not_lt.2 c56)
      replace H:=zT.mp H;obtain ⟨t212,A570,H⟩:=H;replace H : (if ((⟨#[1]⟩ : ByteArray) ++ t210).size + t212.size≤9223372036854775807 then (if x3_1.size + (((⟨#[1]⟩ : ByteArray) ++ t210) ++ t212).size≤9223372036854775807 then (F2.l1 k1 (x3_1 ++ (((⟨#[1]⟩ : ByteArray) ++ t210) ++ t212)) t205 (wrap64 (x9_1 + 1))) else (none)) else (none))=some r:=H;have A57:=zh A570;clear A570
      by_cases c58 : ((⟨#[1]⟩ : ByteArray) ++ t210).size + t212.size≤9223372036854775807
      ·
       rw [if_pos c58] at H
       have c58b0:=eq_true c58;have c58b1 : decide (((⟨#[1]⟩ : ByteArray) ++ t210).size + t212.size≤9223372036854775807)=true:=decide_eq_true c58
       try have c58b2 : (9223372036854775807<((⟨#[1]⟩ : ByteArray) ++ t210).size + t212.size)=False:=eq_false (Nat.not_lt.2 c58)
       (try have c58b4:=c58b2;simp only [ByteArray.size_append,show (⟨#[1]⟩ : ByteArray).size=1 from rfl] at c58b4)
       by_cases c59 : x3_1.size + (((⟨#[1]⟩ : ByteArray) ++ t210) ++ t212).size≤9223372036854775807
       ·
        rw [if_pos c59] at H
        have c59b0:=eq_true c59;have c59b1 : decide (x3_1.size + (((⟨#[1]⟩ : ByteArray) ++ t210) ++ t212).size≤9223372036854775807)=true:=decide_eq_true c59
        try have c59b2 : (9223372036854775807<x3_1.size + (((⟨#[1]⟩ : ByteArray) ++ t210) ++ t212).size)=False:=eq_false (Nat.not_lt.2 c59)
        (try have c59b4:=c59b2;simp only [ByteArray.size_append,show (⟨#[1]⟩ : ByteArray).size=1 from rfl] at c59b4);have H':=zh H;clear H;obtain ⟨Ao60,co60,eo60⟩:=yk HO_7.out;subst eo60
        try go_wp2
        replace HO_7:=zh (zo HO_7.out);replace BK194:=zh (zf BK194.out);replace HB:=zh (zc HB.out);have p209 : 0≤(x9_1 : Int):=zy (by first|(with_reducible assumption)|assumption);have q209 : x9_1<(t205.length : Int):=zy (by first|(with_reducible assumption)|assumption);obtain ⟨ad209,e209,hx209_0,hx209_1,hx209_2,hx209_3⟩:=at_T54 (yh HO_7.out).2.2 x9_1 p209 q209
        cases e209
        replace p209:=eq_true p209;replace q209:=eq_true q209;have p211 : 0≤(x9_1 : Int):=zy (by first|(with_reducible assumption)|assumption);have q211 : x9_1<(t205.length : Int):=zy (by first|(with_reducible assumption)|assumption);obtain ⟨ad211,e211,hx211_0,hx211_1,hx211_2,hx211_3⟩:=at_T54 (yh HO_7.out).2.2 x9_1 p211 q211;obtain rfl : ad209=ad211:=(by injection e211);replace p211:=eq_true p211;replace q211:=eq_true q211;refine start_ (n:=17) (S:=fun w' => w'.cell? (ad209.add ((x9_1).toNat * 4))=some (.string ((rd_T54 t205 x9_1).f0))∧w'.cell? ⟨(ad209.add ((x9_1).toNat * 4)).block,(ad209.add ((x9_1).toNat * 4)).off + 1,none⟩=some (.int .i64 ((rd_T54 t205 x9_1).f1.f0))∧w'.cell? ⟨(ad209.add ((x9_1).toNat * 4)).block,(ad209.add ((x9_1).toNat * 4)).off + 2,none⟩=some (.int .i64 ((rd_T54 t205 x9_1).f1.f1))∧w'.cell? ⟨(ad209.add ((x9_1).toNat * 4)).block,(ad209.add ((x9_1).toNat * 4)).off + 3,none⟩=some (.string ((rd_T54 t205 x9_1).f1.f2))∧w'.cell? (ad209.add ((x9_1).toNat * 4))=some (.string ((rd_T54 t205 x9_1).f0))∧w'.cell? ⟨(ad209.add ((x9_1).toNat * 4)).block,(ad209.add ((x9_1).toNat * 4)).off + 1,none⟩=some (.int .i64 ((rd_T54 t205 x9_1).f1.f0))∧w'.cell? ⟨(ad209.add ((x9_1).toNat * 4)).block,(ad209.add ((x9_1).toNat * 4)).off + 2,none⟩=some (.int .i64 ((rd_T54 t205 x9_1).f1.f1))∧w'.cell? ⟨(ad209.add ((x9_1).toNat * 4)).block,(ad209.add ((x9_1).toNat * 4)).off + 3,none⟩=some (.string ((rd_T54 t205 x9_1).f1.f2))) (ds:=[]) (bm_ 0 17) (by kernel_rfl) rfl rfl ⟨hx209_0,hx209_1,hx209_2,hx209_3,hx211_0,hx211_1,hx211_2,hx211_3⟩ (fun hHeld => ?_);refine with_tabW F2.tab22 F2.bits22 (fun HT_ HW_ => ?_);generalize wr.drew=w61 at HO_7 BK194 HB hx209_0 hx209_1 hx209_2 hx209_3 hx211_0 hx211_1 hx211_2 hx211_3 hHeld ⊢;refine pure_ (i:=0) (N:=some 76) (v:=?_) (a':=?_) (bm_ 1 17) rfl rfl (any_of HT_.out (by kernel_rfl)) (fun _ _ _ h => h) (Or.inl ⟨by rfl,?_⟩) ?_ ?_;rotate_left
        ·
         intro w'
         go_simp
         with_reducible rfl
        rotate_left
        ·
         simp only [Act.put,zi,zj,zk,zG,zH]
         rfl
        refine pure_ (i:=1) (N:=some 77) (v:=?_) (a':=?_) (bm_ 2 17) rfl rfl (any_of HT_.out (by kernel_rfl)) (fun _ _ _ h => h) (Or.inl ⟨by rfl,?_⟩) ?_ ?_;rotate_left
        ·
         intro w'
         go_simp
         with_reducible rfl
        rotate_left
        ·
         simp only [Act.put,zi,zj,zk,zG,zH]
         rfl
        refine pure_ (i:=2) (N:=some 78) (v:=?_) (a':=?_) (bm_ 3 17) rfl rfl (any_of HT_.out (by kernel_rfl)) (fun _ _ _ h => h) (Or.inl ⟨by rfl,?_⟩) ?_ ?_;rotate_left
        ·
         intro w'
         go_simp
         with_reducible rfl
        rotate_left
        ·
         simp only [Act.put,zi,zj,zk,zG,zH]
         rfl
        refine pure_ (i:=3) (N:=some 79) (v:=?_) (a':=?_) (bm_ 4 17) rfl rfl (any_of HT_.out (by kernel_rfl)) (fun _ _ _ h => h) (Or.inl ⟨by rfl,?_⟩) ?_ ?_;rotate_left
        ·
         intro w'
         go_simp
         with_reducible rfl
        rotate_left
        ·
         simp only [Act.put,zi,zj,zk,zG,zH]
         rfl
        refine pure_ (i:=4) (N:=some 80) (v:=?_) (a':=?_) (bm_ 5 17) rfl rfl (any_of HT_.out (by kernel_rfl)) (fun _ _ _ h => h) (Or.inl ⟨by rfl,?_⟩) ?_ ?_;rotate_left
        ·
         intro w'
         go_simp
         with_reducible rfl
        rotate_left
        ·
         simp only [Act.put,zi,zj,zk,zG,zH]
         rfl
        refine pure_ (i:=8) (N:=some 84) (v:=?_) (a':=?_) #[true,true,true,true,true,false,false,false,true,false,false,false,false,false,false,false,false] rfl rfl (any_of HT_.out (by kernel_rfl)) (fun _ _ _ h => h) (Or.inl ⟨by rfl,?_⟩) ?_ ?_;rotate_left
        ·
         intro w'
         go_simp
         with_reducible rfl
        rotate_left
        ·
         simp only [Act.put,zi,zj,zk,zG,zH]
         rfl
        refine pure_ (i:=9) (N:=some 85) (v:=?_) (a':=?_) #[true,true,true,true,true,false,false,false,true,true,false,false,false,false,false,false,false] rfl rfl (any_of HT_.out (by kernel_rfl)) (fun _ _ _ h => h) (Or.inl ⟨by rfl,?_⟩) ?_ ?_;rotate_left
        ·
         intro w'
         go_simp
         with_reducible rfl
        rotate_left
        ·
         simp only [Act.put,zi,zj,zk,zG,zH]
         rfl
        refine pure_ (i:=10) (N:=some 86) (v:=?_) (a':=?_) #[true,true,true,true,true,false,false,false,true,true,true,false,false,false,false,false,false] rfl rfl (any_of HT_.out (by kernel_rfl)) (fun _ _ _ h => h) (Or.inl ⟨by rfl,?_⟩) ?_ ?_;rotate_left
        ·
         intro w'
         go_simp
         with_reducible rfl
        rotate_left
        ·
         simp only [Act.put,zi,zj,zk,zG,zH]
         rfl
        refine pure_ (i:=11) (N:=some 87) (v:=?_) (a':=?_) #[true,true,true,true,true,false,false,false,true,true,true,true,false,false,false,false,false] rfl rfl (any_of HT_.out (by kernel_rfl)) (fun _ _ _ h => h) (Or.inl ⟨by rfl,?_⟩) ?_ ?_;rotate_left
        ·
         intro w'
         go_simp
         with_reducible rfl
        rotate_left
        ·
         simp only [Act.put,zi,zj,zk,zG,zH]
         rfl
        refine take_ (i:=5) (N:=some 81) (v:=?_) (a':=?_) #[true,true,true,true,true,true,false,false,true,true,true,true,false,false,false,false,false] rfl rfl (yo HT_.out HW_.out (by kernel_rfl)) (fun _ _ _ h => h) (Or.inl ⟨by rfl,?_⟩) hHeld ?_ ?_;rotate_left
        ·
         rintro w' ⟨s0,s1,s2,s3,s4,s5,s6,s7⟩
         go_simp
         with_reducible rfl
        rotate_left
        ·
         simp only [Act.put,zi,zj,zk,zG,zH]
         rfl
        refine take_ (i:=12) (N:=some 88) (v:=?_) (a':=?_) #[true,true,true,true,true,true,false,false,true,true,true,true,true,false,false,false,false] rfl rfl (yo HT_.out HW_.out (by kernel_rfl)) (fun _ _ _ h => h) (Or.inl ⟨by rfl,?_⟩) hHeld ?_ ?_;rotate_left
        ·
         rintro w' ⟨s0,s1,s2,s3,s4,s5,s6,s7⟩
         go_simp
         with_reducible rfl
        rotate_left
        ·
         simp only [Act.put,zi,zj,zk,zG,zH]
         rfl
        refine one_ (i:=6) (N:=some 82) #[true,true,true,true,true,true,true,false,true,true,true,true,true,false,false,false,false] rfl rfl (one_of HT_.out (by kernel_rfl)) (by decide) (fun K hK => ?_);refine goes_ Try.func66 (by kernel_rfl) rfl #[.string ((rd_T54 t205 x9_1).f0)] (by rfl) rfl rfl (by (try simp only [zt,zu,zv]);first|done|rfl|(simp only [zw,zx];rfl)|(simp only [yr,ys,zV,zW];rfl)) ?_
        with_reducible refine (Ff.calls k1  ((rd_T54 t205 x9_1).f0) t210 _ A55.out).mono ?_
        rintro e w62 ⟨rfl,hb⟩;have HS0_:=(hb.cell (zl _ _ (hHeld.1))).trans (hHeld.1);have HS1_:=(hb.cell (zl _ _ (hHeld.2.1))).trans (hHeld.2.1);have HS2_:=(hb.cell (zl _ _ (hHeld.2.2.1))).trans (hHeld.2.2.1);have HS3_:=(hb.cell (zl _ _ (hHeld.2.2.2.1))).trans (hHeld.2.2.2.1);have HS4_:=(hb.cell (zl _ _ (hHeld.2.2.2.2.1))).trans (hHeld.2.2.2.2.1);have HS5_:=(hb.cell (zl _ _ (hHeld.2.2.2.2.2.1))).trans (hHeld.2.2.2.2.2.1);have HS6_:=(hb.cell (zl _ _ (hHeld.2.2.2.2.2.2.1))).trans (hHeld.2.2.2.2.2.2.1);have HS7_:=(hb.cell (zl _ _ (hHeld.2.2.2.2.2.2.2))).trans (hHeld.2.2.2.2.2.2.2);refine ⟨_,rfl,?_⟩;replace HO_7:=zh (yg (by (with_reducible repeat (first|apply zm|apply zn|apply zo));exact HO_7.out) hb);replace BK194:=zh (zD (g:=gb194) (o:=.cells #[.int .i64 a0_0,.int .i64 a0_1,.string a0_2] 27 (0,0)) (by (with_reducible repeat (first|refine ze ?_ _|refine zf ?_|refine zg ?_ _));exact BK194.out) hb);replace HB:=zh (zC (by repeat (with_reducible first|exact HB.out|apply za|apply zb|apply zc|refine zd ?_ GE194.out)) hb);(try clear hb);(try clear hb2);(try clear hk);(try clear hi);refine hK.out _ _ ⟨HS0_,HS1_,HS2_,HS3_,HS4_,HS5_,HS6_,HS7_⟩ (fun hHeld => ?_);clear hK K;refine norm_ (a':=?_) ?_ ?_;rotate_left
        ·
         show Act.put _ (some 82) _=_
         simp only [Act.put,zi,zj,zk,zG,zH]
         rfl
        refine pure_ (i:=7) (N:=some 83) (v:=?_) (a':=?_) (bm_ 13 17) rfl rfl (any_of HT_.out (by kernel_rfl)) (fun _ _ _ h => h) (Or.inl ⟨by rfl,?_⟩) ?_ ?_;rotate_left
        ·
         intro w'
         go_simp
         with_reducible rfl
        rotate_left
        ·
         simp only [Act.put,zi,zj,zk,zG,zH]
         rfl
        refine one_ (i:=13) (N:=some 89) (bm_ 14 17) rfl rfl (one_of HT_.out (by kernel_rfl)) (by decide) (fun K hK => ?_);refine goes_ Try.func43 (by kernel_rfl) rfl #[.agg #[.int .i64 ((rd_T54 t205 x9_1).f1.f0),.int .i64 ((rd_T54 t205 x9_1).f1.f1),.string ((rd_T54 t205 x9_1).f1.f2)]] (by rfl) rfl rfl (by (try simp only [zt,zu,zv]);first|done|rfl|(simp only [zw,zx];rfl)|(simp only [yr,ys,zV,zW];rfl)) ?_
        with_reducible refine (ih k1 (by have:=HK1.out;omega)  ((rd_T54 t205 x9_1).f1.f0) ((rd_T54 t205 x9_1).f1.f1) ((rd_T54 t205 x9_1).f1.f2) t212 _ A57.out).mono ?_
        rintro e w63 ⟨rfl,hb⟩;have HS0_:=(hb.cell (zl _ _ (hHeld.1))).trans (hHeld.1);have HS1_:=(hb.cell (zl _ _ (hHeld.2.1))).trans (hHeld.2.1);have HS2_:=(hb.cell (zl _ _ (hHeld.2.2.1))).trans (hHeld.2.2.1);have HS3_:=(hb.cell (zl _ _ (hHeld.2.2.2.1))).trans (hHeld.2.2.2.1);have HS4_:=(hb.cell (zl _ _ (hHeld.2.2.2.2.1))).trans (hHeld.2.2.2.2.1);have HS5_:=(hb.cell (zl _ _ (hHeld.2.2.2.2.2.1))).trans (hHeld.2.2.2.2.2.1);have HS6_:=(hb.cell (zl _ _ (hHeld.2.2.2.2.2.2.1))).trans (hHeld.2.2.2.2.2.2.1);have HS7_:=(hb.cell (zl _ _ (hHeld.2.2.2.2.2.2.2))).trans (hHeld.2.2.2.2.2.2.2);refine ⟨_,rfl,?_⟩;replace HO_7:=zh (yg (by (with_reducible repeat (first|apply zm|apply zn|apply zo));exact HO_7.out) hb);replace BK194:=zh (zD (g:=gb194) (o:=.cells #[.int .i64 a0_0,.int .i64 a0_1,.string a0_2] 27 (0,0)) (by (with_reducible repeat (first|refine ze ?_ _|refine zf ?_|refine zg ?_ _));exact BK194.out) hb);replace HB:=zh (zC (by repeat (with_reducible first|exact HB.out|apply za|apply zb|apply zc|refine zd ?_ GE194.out)) hb);(try clear hb);(try clear hb2);(try clear hk);(try clear hi);refine hK.out _ _ ⟨HS0_,HS1_,HS2_,HS3_,HS4_,HS5_,HS6_,HS7_⟩ (fun hHeld => ?_);clear hK K;refine norm_ (a':=?_) ?_ ?_;rotate_left
        ·
         show Act.put _ (some 89) _=_
         simp only [Act.put,zi,zj,zk,zG,zH]
         rfl
        refine pure_ (i:=14) (N:=some 90) (v:=?_) (a':=?_) (bm_ 15 17) rfl rfl (any_of HT_.out (by kernel_rfl)) (fun _ _ _ h => h) (Or.inl ⟨by rfl,?_⟩) ?_ ?_;rotate_left
        ·
         intro w'
         go_simp
         with_reducible rfl
        rotate_left
        ·
         simp only [Act.put,zi,zj,zk,zG,zH]
         rfl
        refine pure_ (i:=15) (N:=some 91) (v:=?_) (a':=?_) (bm_ 16 17) rfl rfl (any_of HT_.out (by kernel_rfl)) (fun _ _ _ h => h) (Or.inl ⟨by rfl,?_⟩) ?_ ?_;rotate_left
        ·
         intro w'
         go_simp
         with_reducible rfl
        rotate_left
        ·
         simp only [Act.put,zi,zj,zk,zG,zH]
         rfl
        refine pure_ (i:=16) (N:=some 3) (v:=?_) (a':=?_) (bm_ 17 17) rfl rfl (any_of HT_.out (by kernel_rfl)) (fun _ _ _ h => h) (Or.inl ⟨by rfl,?_⟩) ?_ ?_;rotate_left
        ·
         intro w'
         go_simp
         with_reducible rfl
        rotate_left
        ·
         simp only [Act.put,zi,zj,zk,zG,zH]
         rfl
        refine done_ (done_of HT_.out (by kernel_rfl)) ?_
        try go_wp2
        go_roundg k1
        case measure => have:=HK1.out;omega
        case rel => exact ⟨(x3_1 ++ (((⟨#[1]⟩ : ByteArray) ++ t210) ++ t212)),(wrap64 (x9_1 + 1)),(by first|rfl|(simp;done)|(simp [*];done)),(by first|rfl|(simp;done)|(simp [*];done)),H',⟨by have:=HK1.out;omega⟩,⟨by (with_reducible repeat (first|apply zm|apply zn|apply zo));exact HO_7.out⟩,⟨by (with_reducible repeat (first|refine ze ?_ _|refine zf ?_|refine zg ?_ _));exact BK194.out⟩,⟨by repeat (with_reducible first|exact HB.out|apply za|apply zb|apply zc|refine zd ?_ GE194.out)⟩⟩
       rw [if_neg c59] at H;exact absurd H (by simp)
      rw [if_neg c58] at H;exact absurd H (by simp)
     rw [if_neg c56] at H;exact absurd H (by simp)
    rw [if_neg c54] at H;exact absurd H (by simp)
   rw [if_neg c53] at H;have c53b0 : decide (x9_1<(t205.length : Int))=false:=decide_eq_false c53;clear c53
   by_cases c64 : x3_1.size + 1≤9223372036854775807
   ·
    rw [if_pos c64] at H
    have c64b0:=eq_true c64;have c64b1 : decide (x3_1.size + 1≤9223372036854775807)=true:=decide_eq_true c64
    try have c64b2 : (9223372036854775807<x3_1.size + 1)=False:=eq_false (Nat.not_lt.2 c64)
    obtain rfl:=zU H;obtain ⟨Ao65,co65,eo65⟩:=yk HO_7.out;subst eo65
    go_wp2
    go_ret
    exact ⟨by first|rfl|(simp [yt,yu] <;> rfl)|(simp [*,yt,yu] <;> rfl),by repeat (with_reducible first|exact HB.out|apply za|apply zb|apply zc|refine zd ?_ GE194.out)⟩
   rw [if_neg c64] at H;exact absurd H (by simp)

end Go.Proofs.Ytjaknpeeopkojaa.Q
end
section
namespace Go.Proofs.Ytjaknpeeopkojaa.Q
open Go.RowKit Go.Proofs.YtjaknpeeopkojaaW.PrintWords Go.Proofs.YtjaknpeeopkojaaW.PrintLast Go.Proofs.YtjaknpeeopkojaaW.PrintMore
attribute [local go_sem] max2_int min2_int max_two min_two max_three min_three max_four min_four max2_str min2_str str_geq str_gtr str_leq
set_option linter.unusedVariables false
set_option linter.unusedSimpArgs false

def Fv.f (k : Nat) (a0_0 : Int) (a0_1 : Int) (a0_2 : ByteArray) (a1 : Bool) : Option (ByteArray):=if a1=true then ((F2.f k a0_0 a0_1 a0_2).bind fun t214 => ((Fk.f k t214).bind fun t215 => (some t215))) else ((F2.f k a0_0 a0_1 a0_2).bind fun t216 => (some t216))
theorem Fv.mono : ∀ a0 a1 a2 a3 k,LeO (Fv.f k a0 a1 a2 a3) (Fv.f (k + 1) a0 a1 a2 a3):=by
 intro a0 a1 a2 a3 k;unfold Fv.f
 repeat' first|(with_reducible first|exact Fk.mono _ _|exact F2.mono _ _ _ _|exact zQ _|exact zN _|refine zP ?_ ?_|refine zO ?_ (fun _ => ?_))|refine zP ?_ ?_|refine zO ?_ (fun _ => ?_)
set_option maxHeartbeats 8000000 in
set_option maxRecDepth 100000 in
theorem Fv.calls (k : Nat) (a0_0 : Int) (a0_1 : Int) (a0_2 : ByteArray) (a1 : Bool) (r : ByteArray) (w : World) (h : Fv.f k a0_0 a0_1 a0_2 a1=some r) :
  Calls Try.prog 22 #[.agg #[.int .i64 a0_0,.int .i64 a0_1,.string a0_2],.bool a1] w fun e w' => e = .returned (.string r)∧Below w.heap.size w w':=by
 have hu27:=Try.underlying27;have HB:=zh (Below.refl w.heap.size w);have H : (if a1=true then ((F2.f k a0_0 a0_1 a0_2).bind fun t214 => ((Fk.f k t214).bind fun t215 => (some t215))) else ((F2.f k a0_0 a0_1 a0_2).bind fun t216 => (some t216)))=some r:=h;clear h
 by_cases c3 : a1=true
 ·
  subst c3
  have H1 : ((F2.f k a0_0 a0_1 a0_2).bind fun t214 => ((Fk.f k t214).bind fun t215 => (some t215)))=some r:=by rw [if_pos rfl] at H;exact H
  clear H;have H:=H1;clear H1;replace H:=zT.mp H;obtain ⟨t214,A40,H⟩:=H;replace H : ((Fk.f k t214).bind fun t215 => (some t215))=some r:=H;have A4:=zh A40;clear A40;replace H:=zT.mp H;obtain ⟨t215,A50,H⟩:=H;replace H : (some t215)=some r:=H;have A5:=zh A50;clear A50;obtain rfl:=zU H
  go_enter Try.func22,Try.ntmps22
  go_wp2_with (first|((with_reducible refine zK (N:=2) rfl ?_);refine zI ?hg (N:=2) ?hd (cs:=#[.int .i64 a0_0,.int .i64 a0_1,.string a0_2]) (t:=27) ?hr ?_;(case hd => rfl);(case hg => rfl);(case hr => first|(go_simp;done)|(go_simp;rfl));intro gb213 hg w6 hbox hb;have BK213:=zh (hbox);have GW213:=zh ((by rw [hg];exact (zB (by repeat (with_reducible first|exact HB.out|apply za|apply zb|apply zc))) : w.heap.size≤gb213));have GE213:=zh ((by rw [hg];exact (zB (by repeat (with_reducible first|exact HB.out|apply za|apply zb|apply zc))) : w.heap.size≤gb213));replace HB:=zh (zC (by repeat (with_reducible first|exact HB.out|apply za|apply zb|apply zc)) hb);clear hb hbox hg;have hcz7_0 : w6.cell? ⟨gb213,0,none⟩=some (.int .i64 a0_0):=(zz BK213.out 0).trans rfl;have hcz7_1 : w6.cell? ⟨gb213,1,none⟩=some (.int .i64 a0_1):=(zz BK213.out 1).trans rfl;have hcz7_2 : w6.cell? ⟨gb213,2,none⟩=some (.string a0_2):=(zz BK213.out 2).trans rfl;have hfz7_0:=zA BK213.out 0;have hfz7_1:=zA BK213.out 1;have hfz7_2:=zA BK213.out 2)|((with_reducible refine zJ (f:=43) rfl ?_);refine yj (some 7) rfl rfl Try.func43 (by kernel_rfl) rfl #[.agg #[.int .i64 a0_0,.int .i64 a0_1,.string a0_2]] rfl (by (try simp only [zt,zu,zv]);first|done|rfl|(simp only [zw,zx];rfl)|(simp only [yr,ys,zV,zW];rfl)) ?_;(with_reducible refine (F2.calls k  a0_0 a0_1 a0_2 t214 _ A4.out).mono ?_);rintro e w8 ⟨rfl,hb⟩;refine ⟨_,rfl,?_⟩;replace BK213:=zh (zD (g:=gb213) (o:=.cells #[.int .i64 a0_0,.int .i64 a0_1,.string a0_2] 27 (0,0)) (by (with_reducible repeat (first|refine ze ?_ _|refine zf ?_|refine zg ?_ _));exact BK213.out) hb);replace HB:=zh (zC (by repeat (with_reducible first|exact HB.out|apply za|apply zb|apply zc|refine zd ?_ GE213.out)) hb);(try clear hb);(try clear hb2);(try clear hk);(try clear hi))|((with_reducible refine zJ (f:=42) rfl ?_);refine yj (some 8) rfl rfl Try.func42 (by kernel_rfl) rfl #[.string t214] rfl (by (try simp only [zt,zu,zv]);first|done|rfl|(simp only [zw,zx];rfl)|(simp only [yr,ys,zV,zW];rfl)) ?_;(with_reducible refine (Fk.calls k  t214 t215 _ A5.out).mono ?_);rintro e w9 ⟨rfl,hb⟩;refine ⟨_,rfl,?_⟩;replace BK213:=zh (zD (g:=gb213) (o:=.cells #[.int .i64 a0_0,.int .i64 a0_1,.string a0_2] 27 (0,0)) (by (with_reducible repeat (first|refine ze ?_ _|refine zf ?_|refine zg ?_ _));exact BK213.out) hb);replace HB:=zh (zC (by repeat (with_reducible first|exact HB.out|apply za|apply zb|apply zc|refine zd ?_ GE213.out)) hb);(try clear hb);(try clear hb2);(try clear hk);(try clear hi)))
  go_ret
  exact ⟨by first|rfl|(simp [yt,yu] <;> rfl)|(simp [*,yt,yu] <;> rfl),by repeat (with_reducible first|exact HB.out|apply za|apply zb|apply zc|refine zd ?_ GE213.out)⟩
 replace c3:=yb.mpr c3;subst c3;have H1 : ((F2.f k a0_0 a0_1 a0_2).bind fun t216 => (some t216))=some r:=by rw [if_neg (show ¬ (false=true) by decide)] at H;exact H
 clear H;have H:=H1;clear H1;replace H:=zT.mp H;obtain ⟨t216,A100,H⟩:=H;replace H : (some t216)=some r:=H;have A10:=zh A100;clear A100;obtain rfl:=zU H
 go_enter Try.func22,Try.ntmps22
 go_wp2_with (first|((with_reducible refine zK (N:=2) rfl ?_);refine zI ?hg (N:=2) ?hd (cs:=#[.int .i64 a0_0,.int .i64 a0_1,.string a0_2]) (t:=27) ?hr ?_;(case hd => rfl);(case hg => rfl);(case hr => first|(go_simp;done)|(go_simp;rfl));intro gb213 hg w11 hbox hb;have BK213:=zh (hbox);have GW213:=zh ((by rw [hg];exact (zB (by repeat (with_reducible first|exact HB.out|apply za|apply zb|apply zc))) : w.heap.size≤gb213));have GE213:=zh ((by rw [hg];exact (zB (by repeat (with_reducible first|exact HB.out|apply za|apply zb|apply zc))) : w.heap.size≤gb213));replace HB:=zh (zC (by repeat (with_reducible first|exact HB.out|apply za|apply zb|apply zc)) hb);clear hb hbox hg;have hcz12_0 : w11.cell? ⟨gb213,0,none⟩=some (.int .i64 a0_0):=(zz BK213.out 0).trans rfl;have hcz12_1 : w11.cell? ⟨gb213,1,none⟩=some (.int .i64 a0_1):=(zz BK213.out 1).trans rfl;have hcz12_2 : w11.cell? ⟨gb213,2,none⟩=some (.string a0_2):=(zz BK213.out 2).trans rfl;have hfz12_0:=zA BK213.out 0;have hfz12_1:=zA BK213.out 1;have hfz12_2:=zA BK213.out 2)|((with_reducible refine zJ (f:=43) rfl ?_);refine yj (some 10) rfl rfl Try.func43 (by kernel_rfl) rfl #[.agg #[.int .i64 a0_0,.int .i64 a0_1,.string a0_2]] rfl (by (try simp only [zt,zu,zv]);first|done|rfl|(simp only [zw,zx];rfl)|(simp only [yr,ys,zV,zW];rfl)) ?_;(with_reducible refine (F2.calls k  a0_0 a0_1 a0_2 t216 _ A10.out).mono ?_);rintro e w13 ⟨rfl,hb⟩;refine ⟨_,rfl,?_⟩;replace BK213:=zh (zD (g:=gb213) (o:=.cells #[.int .i64 a0_0,.int .i64 a0_1,.string a0_2] 27 (0,0)) (by (with_reducible repeat (first|refine ze ?_ _|refine zf ?_|refine zg ?_ _));exact BK213.out) hb);replace HB:=zh (zC (by repeat (with_reducible first|exact HB.out|apply za|apply zb|apply zc|refine zd ?_ GE213.out)) hb);(try clear hb);(try clear hb2);(try clear hk);(try clear hi)))
 go_ret
 exact ⟨by first|rfl|(simp [yt,yu] <;> rfl)|(simp [*,yt,yu] <;> rfl),by repeat (with_reducible first|exact HB.out|apply za|apply zb|apply zc|refine zd ?_ GE213.out)⟩


def Ft.f (k : Nat) (a0_0 : Int) (a0_1 : Int) (a0_2 : ByteArray) (a1 : Bool) : Option (ByteArray×Int):=(Fy.f k a0_0 a0_1 a0_2).bind fun t218 => (if t218=true then ((Fv.f k a0_0 a0_1 a0_2 a1).bind fun t219 => (some (t219,0))) else (some ((⟨#[]⟩ : ByteArray),1)))
theorem Ft.mono : ∀ a0 a1 a2 a3 k,LeO (Ft.f k a0 a1 a2 a3) (Ft.f (k + 1) a0 a1 a2 a3):=by
 intro a0 a1 a2 a3 k;unfold Ft.f
 repeat' first|(with_reducible first|exact Fy.mono _ _ _ _|exact Fv.mono _ _ _ _ _|exact zQ _|exact zN _|refine zP ?_ ?_|refine zO ?_ (fun _ => ?_))|refine zP ?_ ?_|refine zO ?_ (fun _ => ?_)
set_option maxHeartbeats 8000000 in
set_option maxRecDepth 100000 in
theorem Ft.calls (k : Nat) (a0_0 : Int) (a0_1 : Int) (a0_2 : ByteArray) (a1 : Bool) (r1 : ByteArray) (r2 : Int) (w : World) (h : Ft.f k a0_0 a0_1 a0_2 a1=some (r1,r2)) :
  Calls Try.prog 7 #[.agg #[.int .i64 a0_0,.int .i64 a0_1,.string a0_2],.bool a1] w fun e w' => e = .returned (.tuple #[.string r1,.int .i64 r2])∧Below w.heap.size w w':=by
 have hu27:=Try.underlying27;have HB:=zh (Below.refl w.heap.size w);have H : ((Fy.f k a0_0 a0_1 a0_2).bind fun t218 => (if t218=true then ((Fv.f k a0_0 a0_1 a0_2 a1).bind fun t219 => (some (t219,0))) else (some ((⟨#[]⟩ : ByteArray),1))))=some (r1,r2):=h;clear h;replace H:=zT.mp H;obtain ⟨t218,A30,H⟩:=H;replace H : (if t218=true then ((Fv.f k a0_0 a0_1 a0_2 a1).bind fun t219 => (some (t219,0))) else (some ((⟨#[]⟩ : ByteArray),1)))=some (r1,r2):=H;have A3:=zh A30;clear A30
 by_cases c4 : t218=true
 ·
  subst c4
  have H1 : ((Fv.f k a0_0 a0_1 a0_2 a1).bind fun t219 => (some (t219,0)))=some (r1,r2):=by rw [if_pos rfl] at H;exact H
  clear H;have H:=H1;clear H1;replace H:=zT.mp H;obtain ⟨t219,A50,H⟩:=H;replace H : (some (t219,0))=some (r1,r2):=H;have A5:=zh A50;clear A50;simp only [Option.some.injEq,Prod.mk.injEq] at H;obtain ⟨rfl,rfl⟩:=H
  go_enter Try.func7,Try.ntmps7
  go_wp2_with (first|((with_reducible refine zK (N:=2) rfl ?_);refine zI ?hg (N:=2) ?hd (cs:=#[.int .i64 a0_0,.int .i64 a0_1,.string a0_2]) (t:=27) ?hr ?_;(case hd => rfl);(case hg => rfl);(case hr => first|(go_simp;done)|(go_simp;rfl));intro gb217 hg w6 hbox hb;have BK217:=zh (hbox);have GW217:=zh ((by rw [hg];exact (zB (by repeat (with_reducible first|exact HB.out|apply za|apply zb|apply zc))) : w.heap.size≤gb217));have GE217:=zh ((by rw [hg];exact (zB (by repeat (with_reducible first|exact HB.out|apply za|apply zb|apply zc))) : w.heap.size≤gb217));replace HB:=zh (zC (by repeat (with_reducible first|exact HB.out|apply za|apply zb|apply zc)) hb);clear hb hbox hg;have hcz7_0 : w6.cell? ⟨gb217,0,none⟩=some (.int .i64 a0_0):=(zz BK217.out 0).trans rfl;have hcz7_1 : w6.cell? ⟨gb217,1,none⟩=some (.int .i64 a0_1):=(zz BK217.out 1).trans rfl;have hcz7_2 : w6.cell? ⟨gb217,2,none⟩=some (.string a0_2):=(zz BK217.out 2).trans rfl;have hfz7_0:=zA BK217.out 0;have hfz7_1:=zA BK217.out 1;have hfz7_2:=zA BK217.out 2)|((with_reducible refine zJ (f:=21) rfl ?_);refine yj (some 7) rfl rfl Try.func21 (by kernel_rfl) rfl #[.agg #[.int .i64 a0_0,.int .i64 a0_1,.string a0_2]] rfl (by (try simp only [zt,zu,zv]);first|done|rfl|(simp only [zw,zx];rfl)|(simp only [yr,ys,zV,zW];rfl)) ?_;(with_reducible refine (Fy.calls k  a0_0 a0_1 a0_2 true _ A3.out).mono ?_);rintro e w8 ⟨rfl,hb⟩;refine ⟨_,rfl,?_⟩;replace BK217:=zh (zD (g:=gb217) (o:=.cells #[.int .i64 a0_0,.int .i64 a0_1,.string a0_2] 27 (0,0)) (by (with_reducible repeat (first|refine ze ?_ _|refine zf ?_|refine zg ?_ _));exact BK217.out) hb);replace HB:=zh (zC (by repeat (with_reducible first|exact HB.out|apply za|apply zb|apply zc|refine zd ?_ GE217.out)) hb);(try clear hb);(try clear hb2);(try clear hk);(try clear hi);have hcz9_0 : w8.cell? ⟨gb217,0,none⟩=some (.int .i64 a0_0):=(zz BK217.out 0).trans rfl;have hcz9_1 : w8.cell? ⟨gb217,1,none⟩=some (.int .i64 a0_1):=(zz BK217.out 1).trans rfl;have hcz9_2 : w8.cell? ⟨gb217,2,none⟩=some (.string a0_2):=(zz BK217.out 2).trans rfl;have hfz9_0:=zA BK217.out 0;have hfz9_1:=zA BK217.out 1;have hfz9_2:=zA BK217.out 2)|((with_reducible refine zJ (f:=22) rfl ?_);refine yj (some 11) rfl rfl Try.func22 (by kernel_rfl) rfl #[.agg #[.int .i64 a0_0,.int .i64 a0_1,.string a0_2],.bool a1] rfl (by (try simp only [zt,zu,zv]);first|done|rfl|(simp only [zw,zx];rfl)|(simp only [yr,ys,zV,zW];rfl)) ?_;(with_reducible refine (Fv.calls k  a0_0 a0_1 a0_2 a1 t219 _ A5.out).mono ?_);rintro e w10 ⟨rfl,hb⟩;refine ⟨_,rfl,?_⟩;replace BK217:=zh (zD (g:=gb217) (o:=.cells #[.int .i64 a0_0,.int .i64 a0_1,.string a0_2] 27 (0,0)) (by (with_reducible repeat (first|refine ze ?_ _|refine zf ?_|refine zg ?_ _));exact BK217.out) hb);replace HB:=zh (zC (by repeat (with_reducible first|exact HB.out|apply za|apply zb|apply zc|refine zd ?_ GE217.out)) hb);(try clear hb);(try clear hb2);(try clear hk);(try clear hi)))
  go_ret2
  exact ⟨by first|rfl|(simp [yt,yu] <;> rfl)|(simp [*,yt,yu] <;> rfl),by repeat (with_reducible first|exact HB.out|apply za|apply zb|apply zc|refine zd ?_ GE217.out)⟩
 replace c4:=yb.mpr c4;subst c4;have H1 : (some ((⟨#[]⟩ : ByteArray),1))=some (r1,r2):=by rw [if_neg (show ¬ (false=true) by decide)] at H;exact H
 clear H;have H:=H1;clear H1;simp only [Option.some.injEq,Prod.mk.injEq] at H;obtain ⟨rfl,rfl⟩:=H
 go_enter Try.func7,Try.ntmps7
 go_wp2_with (first|((with_reducible refine zK (N:=2) rfl ?_);refine zI ?hg (N:=2) ?hd (cs:=#[.int .i64 a0_0,.int .i64 a0_1,.string a0_2]) (t:=27) ?hr ?_;(case hd => rfl);(case hg => rfl);(case hr => first|(go_simp;done)|(go_simp;rfl));intro gb217 hg w11 hbox hb;have BK217:=zh (hbox);have GW217:=zh ((by rw [hg];exact (zB (by repeat (with_reducible first|exact HB.out|apply za|apply zb|apply zc))) : w.heap.size≤gb217));have GE217:=zh ((by rw [hg];exact (zB (by repeat (with_reducible first|exact HB.out|apply za|apply zb|apply zc))) : w.heap.size≤gb217));replace HB:=zh (zC (by repeat (with_reducible first|exact HB.out|apply za|apply zb|apply zc)) hb);clear hb hbox hg;have hcz12_0 : w11.cell? ⟨gb217,0,none⟩=some (.int .i64 a0_0):=(zz BK217.out 0).trans rfl;have hcz12_1 : w11.cell? ⟨gb217,1,none⟩=some (.int .i64 a0_1):=(zz BK217.out 1).trans rfl;have hcz12_2 : w11.cell? ⟨gb217,2,none⟩=some (.string a0_2):=(zz BK217.out 2).trans rfl;have hfz12_0:=zA BK217.out 0;have hfz12_1:=zA BK217.out 1;have hfz12_2:=zA BK217.out 2)|((with_reducible refine zJ (f:=21) rfl ?_);refine yj (some 7) rfl rfl Try.func21 (by kernel_rfl) rfl #[.agg #[.int .i64 a0_0,.int .i64 a0_1,.string a0_2]] rfl (by (try simp only [zt,zu,zv]);first|done|rfl|(simp only [zw,zx];rfl)|(simp only [yr,ys,zV,zW];rfl)) ?_;(with_reducible refine (Fy.calls k  a0_0 a0_1 a0_2 false _ A3.out).mono ?_);rintro e w13 ⟨rfl,hb⟩;refine ⟨_,rfl,?_⟩;replace BK217:=zh (zD (g:=gb217) (o:=.cells #[.int .i64 a0_0,.int .i64 a0_1,.string a0_2] 27 (0,0)) (by (with_reducible repeat (first|refine ze ?_ _|refine zf ?_|refine zg ?_ _));exact BK217.out) hb);replace HB:=zh (zC (by repeat (with_reducible first|exact HB.out|apply za|apply zb|apply zc|refine zd ?_ GE217.out)) hb);(try clear hb);(try clear hb2);(try clear hk);(try clear hi)))
 go_ret2
 exact ⟨by first|rfl|(simp [yt,yu] <;> rfl)|(simp [*,yt,yu] <;> rfl),by repeat (with_reducible first|exact HB.out|apply za|apply zb|apply zc|refine zd ?_ GE217.out)⟩

end Go.Proofs.Ytjaknpeeopkojaa.Q
end

/- Texts of this claim, merged by a program of this session. -/
import Derived.Test.YthjgfjlogilleaaDoorKLawFnExactUpdateOKp22
section
namespace Go.Proofs.YthjgfjlogilleaaDoor.Q
open Go.RowKit Go.Proofs.YthjgfjlogilleaaDoorW.PrintWords Go.Proofs.YthjgfjlogilleaaDoorW.PrintLast Go.Proofs.YthjgfjlogilleaaDoorW.PrintMore
attribute [local go_sem] max2_int min2_int max_two min_two max_three min_three max_four min_four max2_str min2_str str_geq str_gtr str_leq   -- for this text's walks alone
set_option linter.unusedVariables false
set_option linter.unusedSimpArgs false

mutual
def spec_l01OK.j0 : Nat→Int→List (S39)→Bool→Option (Bool)
 | 0,_,_,_ => none
 | k + 1,x1,x5,x78 => if x78=true then (some false) else (spec_l01OK.l0 k x1 x5 0)
def spec_l01OK.l0 : Nat→Int→List (S39)→Int→Option (Bool)
 | 0,_,_,_ => none
 | k + 1,x1,x5,x7 => if x7<(x5.length : Int) then (if 0≤x7 then ((spec_l01OK.f k ((rd_T39 x5 x7).f0) ((rd_T39 x5 x7).f1) ((rd_T39 x5 x7).f2) (wrap64 (x1 - 1))).bind fun t247 => (if t247=true then (spec_l01OK.l0 k x1 x5 (wrap64 (x7 + 1))) else (some false))) else (none)) else (some true)
def spec_l01OK.j2 : Nat→Int→List (S92)→Bool→Option (Bool)
 | 0,_,_,_ => none
 | k + 1,x1,x8,x117 => if x117=true then (some false) else (spec_l01OK.l1 k x1 x8 0)
def spec_l01OK.l1 : Nat→Int→List (S92)→Int→Option (Bool)
 | 0,_,_,_ => none
 | k + 1,x1,x8,x10 => if x10<(x8.length : Int) then (if 0≤x10 then ((spec_l01Name.f k ((rd_T92 x8 x10).f0)).bind fun t253 => (if t253=true then (if x10 > 0 then (if 0≤(wrap64 (x10 - 1)) then (if (wrap64 (x10 - 1))<(x8.length : Int) then (if ((Op.bytesLess (((rd_T92 x8 (wrap64 (x10 - 1))).f0).toList) (((rd_T92 x8 x10).f0).toList))=true) then ((spec_l01OK.f k ((rd_T92 x8 x10).f1.f0) ((rd_T92 x8 x10).f1.f1) ((rd_T92 x8 x10).f1.f2) (wrap64 (x1 - 1))).bind fun t257 => (if t257=true then (spec_l01OK.l1 k x1 x8 (wrap64 (x10 + 1))) else (some false))) else (some false)) else (none)) else (none)) else ((spec_l01OK.f k ((rd_T92 x8 x10).f1.f0) ((rd_T92 x8 x10).f1.f1) ((rd_T92 x8 x10).f1.f2) (wrap64 (x1 - 1))).bind fun t259 => (if t259=true then (spec_l01OK.l1 k x1 x8 (wrap64 (x10 + 1))) else (some false)))) else (some false))) else (none)) else (some true)
def spec_l01OK.f : Nat→Int→Int→ByteArray→Int→Option (Bool)
 | 0,_,_,_,_ => none
 | k + 1,a0_0,a0_1,a0_2,a1 => if a0_0=0 then (if a0_1=0 then (some (a0_2.toList == ([] : List UInt8))) else (some false)) else (if a0_0=1 then ((spec_l01In.f a0_1 0 1).bind fun t240 => (if t240=true then (some (a0_2.toList == ([] : List UInt8))) else (some false))) else (if a0_0=2 then ((spec_l01In.f a0_1 (-1000000000000) 1000000000000).bind fun t241 => (if t241=true then (some (a0_2.toList == ([] : List UInt8))) else (some false))) else (if a0_0=3 then (if a0_1=0 then (some (decide ((a0_2.size : Int)≤300))) else (some false)) else (if a0_0=4 then ((spec_l01Items.f k a0_2).bind fun bt242 => (if a0_1=0 then (if bt242.2=true then (if (a0_2.size : Int) > 300 then (spec_l01OK.j0 k a1 bt242.1 true) else (spec_l01OK.j0 k a1 bt242.1 (a1 == 0))) else (spec_l01OK.j0 k a1 bt242.1 true)) else (spec_l01OK.j0 k a1 bt242.1 true))) else (if a0_0=5 then ((spec_l01Fields.f k a0_2).bind fun bt248 => (if a0_1=0 then (if bt248.2=true then (if (a0_2.size : Int) > 300 then (spec_l01OK.j2 k a1 bt248.1 true) else (spec_l01OK.j2 k a1 bt248.1 (a1 == 0))) else (spec_l01OK.j2 k a1 bt248.1 true)) else (spec_l01OK.j2 k a1 bt248.1 true))) else (some false))))))
end
theorem spec_l01OK.mono_l : ∀ k,(∀ y0 y1 y2 y3,LeO (spec_l01OK.f k y0 y1 y2 y3) (spec_l01OK.f (k + 1) y0 y1 y2 y3))∧(∀ y0 y1 y2,LeO (spec_l01OK.j0 k y0 y1 y2) (spec_l01OK.j0 (k + 1) y0 y1 y2))∧(∀ y0 y1 y2,LeO (spec_l01OK.l0 k y0 y1 y2) (spec_l01OK.l0 (k + 1) y0 y1 y2))∧(∀ y0 y1 y2,LeO (spec_l01OK.j2 k y0 y1 y2) (spec_l01OK.j2 (k + 1) y0 y1 y2))∧(∀ y0 y1 y2,LeO (spec_l01OK.l1 k y0 y1 y2) (spec_l01OK.l1 (k + 1) y0 y1 y2))
 | 0 => ⟨fun _ _ _ _ r h => by simp [spec_l01OK.f] at h,fun _ _ _ r h => by simp [spec_l01OK.j0] at h,fun _ _ _ r h => by simp [spec_l01OK.l0] at h,fun _ _ _ r h => by simp [spec_l01OK.j2] at h,fun _ _ _ r h => by simp [spec_l01OK.l1] at h⟩
 | k + 1 => by
  obtain ⟨ih0,ih1,ih2,ih3,ih4⟩:=spec_l01OK.mono_l k;refine ⟨?_,?_,?_,?_,?_⟩
  ·
   intro y0 y1 y2 y3
   unfold spec_l01OK.f
   repeat' first|(with_reducible exact ih0 _ _ _ _)|(with_reducible exact ih1 _ _ _)|(with_reducible exact ih2 _ _ _)|(with_reducible exact ih3 _ _ _)|(with_reducible exact ih4 _ _ _)|(with_reducible exact spec_l01Name.mono _ _)|(with_reducible exact spec_l01Items.mono _ _)|(with_reducible exact spec_l01Fields.mono _ _)|(with_reducible exact zQ _)|(with_reducible exact zN _)|(with_reducible refine zP ?_ ?_)|(with_reducible refine zO ?_ (fun _ => ?_))|refine zP ?_ ?_|refine zO ?_ (fun _ => ?_)
  ·
   intro y0 y1 y2
   unfold spec_l01OK.j0
   repeat' first|(with_reducible exact ih0 _ _ _ _)|(with_reducible exact ih1 _ _ _)|(with_reducible exact ih2 _ _ _)|(with_reducible exact ih3 _ _ _)|(with_reducible exact ih4 _ _ _)|(with_reducible exact spec_l01Name.mono _ _)|(with_reducible exact spec_l01Items.mono _ _)|(with_reducible exact spec_l01Fields.mono _ _)|(with_reducible exact zQ _)|(with_reducible exact zN _)|(with_reducible refine zP ?_ ?_)|(with_reducible refine zO ?_ (fun _ => ?_))|refine zP ?_ ?_|refine zO ?_ (fun _ => ?_)
  ·
   intro y0 y1 y2
   unfold spec_l01OK.l0
   repeat' first|(with_reducible exact ih0 _ _ _ _)|(with_reducible exact ih1 _ _ _)|(with_reducible exact ih2 _ _ _)|(with_reducible exact ih3 _ _ _)|(with_reducible exact ih4 _ _ _)|(with_reducible exact spec_l01Name.mono _ _)|(with_reducible exact spec_l01Items.mono _ _)|(with_reducible exact spec_l01Fields.mono _ _)|(with_reducible exact zQ _)|(with_reducible exact zN _)|(with_reducible refine zP ?_ ?_)|(with_reducible refine zO ?_ (fun _ => ?_))|refine zP ?_ ?_|refine zO ?_ (fun _ => ?_)
  ·
   intro y0 y1 y2
   unfold spec_l01OK.j2
   repeat' first|(with_reducible exact ih0 _ _ _ _)|(with_reducible exact ih1 _ _ _)|(with_reducible exact ih2 _ _ _)|(with_reducible exact ih3 _ _ _)|(with_reducible exact ih4 _ _ _)|(with_reducible exact spec_l01Name.mono _ _)|(with_reducible exact spec_l01Items.mono _ _)|(with_reducible exact spec_l01Fields.mono _ _)|(with_reducible exact zQ _)|(with_reducible exact zN _)|(with_reducible refine zP ?_ ?_)|(with_reducible refine zO ?_ (fun _ => ?_))|refine zP ?_ ?_|refine zO ?_ (fun _ => ?_)
  intro y0 y1 y2;unfold spec_l01OK.l1
  repeat' first|(with_reducible exact ih0 _ _ _ _)|(with_reducible exact ih1 _ _ _)|(with_reducible exact ih2 _ _ _)|(with_reducible exact ih3 _ _ _)|(with_reducible exact ih4 _ _ _)|(with_reducible exact spec_l01Name.mono _ _)|(with_reducible exact spec_l01Items.mono _ _)|(with_reducible exact spec_l01Fields.mono _ _)|(with_reducible exact zQ _)|(with_reducible exact zN _)|(with_reducible refine zP ?_ ?_)|(with_reducible refine zO ?_ (fun _ => ?_))|refine zP ?_ ?_|refine zO ?_ (fun _ => ?_)
theorem spec_l01OK.mono : ∀ a0 a1 a2 a3 k,LeO (spec_l01OK.f k a0 a1 a2 a3) (spec_l01OK.f (k + 1) a0 a1 a2 a3):=by
 intro a0 a1 a2 a3 k;obtain ⟨ih0,ih1,ih2,ih3,ih4⟩:=spec_l01OK.mono_l k;exact ih0 a0 a1 a2 a3
def spec_l01OK.T27 : Bool×List (List Nat×List Nat):=(true,[([],[]),([],[]),([0,1],[0,1]),([2],[2]),([3],[3]),([4],[4]),([5],[5]),([6,5],[6]),([7],[7]),([8,7],[7,8]),([9,7,7],[7,9]),([10],[10]),([10],[10]),([12,10],[10,12]),([11,13,10],[10,11,13]),([14,10],[10,14]),([15,10],[10,15]),([10],[10]),([10],[10]),([17,18,10],[10,17,18]),([19,10],[10,19]),([20,10],[10,20]),([16,21,10],[10,16,21]),([10,22,7],[7,10,22]),([7,23],[7,23]),([24,10],[24]),([25],[25]),([25],[25]),([26,27,25],[25,26,27]),([28,25],[25,28]),([29,25],[25,29]),([25],[25]),([31,25],[25,31]),([30,32,25,25],[25,30,32]),([33,25],[25,33]),([25,34],[25,34])])
def spec_l01OK.B27 : List Nat:=[0,0,3,7,15,31,63,127,255,511,1023,2047,2047,6143,16383,32767,65535,2047,2047,395263,919551,1968127,4194303,8388607,16777215,33554431,67108863,67108863,268435455,536870911,1073741823,67108863,2214592511,8589934591,17179869183,34359738367]
theorem spec_l01OK.tab27 : rtab .any (opsOf Tryd.f54 27)=spec_l01OK.T27:=by kernel_rfl
theorem spec_l01OK.bits27 : waitsOk spec_l01OK.T27.2 spec_l01OK.B27=true:=by kernel_rfl
set_option maxHeartbeats 8000000 in
set_option maxRecDepth 100000 in
theorem spec_l01OK.calls (k : Nat) : ∀ (a0_0 : Int) (a0_1 : Int) (a0_2 : ByteArray) (a1 : Int) (r : Bool) (w : World) (h : spec_l01OK.f k a0_0 a0_1 a0_2 a1=some r),
  Calls Tryd.prog 54 #[.agg #[.int .i64 a0_0,.int .i64 a0_1,.string a0_2],.int .i64 a1] w fun e w' => e = .returned (.bool r)∧Below w.heap.size w w':=by
 induction k using Nat.strongRecOn with
 | _ k ih =>
 intro a0_0 a0_1 a0_2 a1 r w h
 cases k with
 | zero => exact absurd h (by simp [spec_l01OK.f])
 | succ k =>
 simp only [spec_l01OK.f] at h;have hu39:=Tryd.underlying39;have HB:=zh (Below.refl w.heap.size w);have H : (if a0_0=0 then (if a0_1=0 then (some (a0_2.toList == ([] : List UInt8))) else (some false)) else (if a0_0=1 then ((spec_l01In.f a0_1 0 1).bind fun t240 => (if t240=true then (some (a0_2.toList == ([] : List UInt8))) else (some false))) else (if a0_0=2 then ((spec_l01In.f a0_1 (-1000000000000) 1000000000000).bind fun t241 => (if t241=true then (some (a0_2.toList == ([] : List UInt8))) else (some false))) else (if a0_0=3 then (if a0_1=0 then (some (decide ((a0_2.size : Int)≤300))) else (some false)) else (if a0_0=4 then ((spec_l01Items.f k a0_2).bind fun bt242 => (if a0_1=0 then (if bt242.2=true then (if (a0_2.size : Int) > 300 then (spec_l01OK.j0 k a1 bt242.1 true) else (spec_l01OK.j0 k a1 bt242.1 (a1 == 0))) else (spec_l01OK.j0 k a1 bt242.1 true)) else (spec_l01OK.j0 k a1 bt242.1 true))) else (if a0_0=5 then ((spec_l01Fields.f k a0_2).bind fun bt248 => (if a0_1=0 then (if bt248.2=true then (if (a0_2.size : Int) > 300 then (spec_l01OK.j2 k a1 bt248.1 true) else (spec_l01OK.j2 k a1 bt248.1 (a1 == 0))) else (spec_l01OK.j2 k a1 bt248.1 true)) else (spec_l01OK.j2 k a1 bt248.1 true))) else (some false)))))))=some r:=h;clear h
 by_cases c3 : a0_0=0
 ·
  rw [if_pos c3] at H
  have c3b0 : (a0_0 == 0)=true:=ya.mpr c3;have c3b1 : (a0_0 != 0)=false:=zX.mpr c3;clear c3
  by_cases c4 : a0_1=0
  ·
   rw [if_pos c4] at H
   have c4b0 : (a0_1 == 0)=true:=ya.mpr c4;have c4b1 : (a0_1 != 0)=false:=zX.mpr c4;clear c4;obtain rfl:=zU H
   go_enter Tryd.func54,Tryd.ntmps54
   go_wp2_with (first|((with_reducible refine zK (N:=2) rfl ?_);(try (refine yz (by rfl) ?_;dsimp only));refine zI ?hg (N:=2) ?hd (cs:=#[.int .i64 a0_0,.int .i64 a0_1,.string a0_2]) (t:=39) ?hr ?_;(case hd => rfl);(case hg => rfl);(case hr => first|(go_simp;done)|(go_simp;rfl));intro gb239 hg w5 hbox hb;have BK239:=zh (hbox);have GW239:=zh ((by rw [hg];exact (zB (by repeat (with_reducible first|exact HB.out|apply za|apply zb|apply zc))) : w.heap.size≤gb239));have GE239:=zh ((by rw [hg];exact (zB (by repeat (with_reducible first|exact HB.out|apply za|apply zb|apply zc))) : w.heap.size≤gb239));replace HB:=zh (zC (by repeat (with_reducible first|exact HB.out|apply za|apply zb|apply zc)) hb);clear hb hbox hg;have hcz6_0 : w5.cell? ⟨gb239,0,none⟩=some (.int .i64 a0_0):=(zz BK239.out 0).trans rfl;have hcz6_1 : w5.cell? ⟨gb239,1,none⟩=some (.int .i64 a0_1):=(zz BK239.out 1).trans rfl;have hcz6_2 : w5.cell? ⟨gb239,2,none⟩=some (.string a0_2):=(zz BK239.out 2).trans rfl;have hfz6_0:=zA BK239.out 0;have hfz6_1:=zA BK239.out 1;have hfz6_2:=zA BK239.out 2))
   go_ret
   exact ⟨by first|rfl|(simp [yt,yu] <;> rfl)|(simp [*,yt,yu] <;> rfl),by repeat (with_reducible first|exact HB.out|apply za|apply zb|apply zc|refine zd ?_ GE239.out)⟩
  rw [if_neg c4] at H;have c4b0 : (a0_1 == 0)=false:=zY.mpr c4;have c4b1 : (a0_1 != 0)=true:=zZ.mpr c4;obtain rfl:=zU H
  go_enter Tryd.func54,Tryd.ntmps54
  go_wp2_with (first|((with_reducible refine zK (N:=2) rfl ?_);(try (refine yz (by rfl) ?_;dsimp only));refine zI ?hg (N:=2) ?hd (cs:=#[.int .i64 a0_0,.int .i64 a0_1,.string a0_2]) (t:=39) ?hr ?_;(case hd => rfl);(case hg => rfl);(case hr => first|(go_simp;done)|(go_simp;rfl));intro gb239 hg w7 hbox hb;have BK239:=zh (hbox);have GW239:=zh ((by rw [hg];exact (zB (by repeat (with_reducible first|exact HB.out|apply za|apply zb|apply zc))) : w.heap.size≤gb239));have GE239:=zh ((by rw [hg];exact (zB (by repeat (with_reducible first|exact HB.out|apply za|apply zb|apply zc))) : w.heap.size≤gb239));replace HB:=zh (zC (by repeat (with_reducible first|exact HB.out|apply za|apply zb|apply zc)) hb);clear hb hbox hg;have hcz8_0 : w7.cell? ⟨gb239,0,none⟩=some (.int .i64 a0_0):=(zz BK239.out 0).trans rfl;have hcz8_1 : w7.cell? ⟨gb239,1,none⟩=some (.int .i64 a0_1):=(zz BK239.out 1).trans rfl;have hcz8_2 : w7.cell? ⟨gb239,2,none⟩=some (.string a0_2):=(zz BK239.out 2).trans rfl;have hfz8_0:=zA BK239.out 0;have hfz8_1:=zA BK239.out 1;have hfz8_2:=zA BK239.out 2))
  go_ret
  exact ⟨by first|rfl|(simp [yt,yu] <;> rfl)|(simp [*,yt,yu] <;> rfl),by repeat (with_reducible first|exact HB.out|apply za|apply zb|apply zc|refine zd ?_ GE239.out)⟩
 rw [if_neg c3] at H;have c3b0 : (a0_0 == 0)=false:=zY.mpr c3;have c3b1 : (a0_0 != 0)=true:=zZ.mpr c3
 by_cases c9 : a0_0=1
 ·
  rw [if_pos c9] at H
  have c9b0 : (a0_0 == 1)=true:=ya.mpr c9;have c9b1 : (a0_0 != 1)=false:=zX.mpr c9;clear c9;replace H:=zT.mp H;obtain ⟨t240,A100,H⟩:=H;replace H : (if t240=true then (some (a0_2.toList == ([] : List UInt8))) else (some false))=some r:=H;have A10:=zh A100;clear A100
  by_cases c11 : t240=true
  ·
   subst c11
   have H1 : (some (a0_2.toList == ([] : List UInt8)))=some r:=by rw [if_pos rfl] at H;exact H
   clear H;have H:=H1;clear H1;obtain rfl:=zU H
   go_enter Tryd.func54,Tryd.ntmps54
   go_wp2_with (first|((with_reducible refine zK (N:=2) rfl ?_);(try (refine yz (by rfl) ?_;dsimp only));refine zI ?hg (N:=2) ?hd (cs:=#[.int .i64 a0_0,.int .i64 a0_1,.string a0_2]) (t:=39) ?hr ?_;(case hd => rfl);(case hg => rfl);(case hr => first|(go_simp;done)|(go_simp;rfl));intro gb239 hg w12 hbox hb;have BK239:=zh (hbox);have GW239:=zh ((by rw [hg];exact (zB (by repeat (with_reducible first|exact HB.out|apply za|apply zb|apply zc))) : w.heap.size≤gb239));have GE239:=zh ((by rw [hg];exact (zB (by repeat (with_reducible first|exact HB.out|apply za|apply zb|apply zc))) : w.heap.size≤gb239));replace HB:=zh (zC (by repeat (with_reducible first|exact HB.out|apply za|apply zb|apply zc)) hb);clear hb hbox hg;have hcz13_0 : w12.cell? ⟨gb239,0,none⟩=some (.int .i64 a0_0):=(zz BK239.out 0).trans rfl;have hcz13_1 : w12.cell? ⟨gb239,1,none⟩=some (.int .i64 a0_1):=(zz BK239.out 1).trans rfl;have hcz13_2 : w12.cell? ⟨gb239,2,none⟩=some (.string a0_2):=(zz BK239.out 2).trans rfl;have hfz13_0:=zA BK239.out 0;have hfz13_1:=zA BK239.out 1;have hfz13_2:=zA BK239.out 2)|((with_reducible refine zJ (f:=29) rfl ?_);refine yj (some 27) rfl rfl Tryd.func29 (by kernel_rfl) rfl #[.int .i64 a0_1,.int .i64 0,.int .i64 1] rfl (by (try simp only [zt,zu,zv]);first|done|rfl|(simp only [zw,zx];rfl)|(simp only [yr,ys,zV,zW];rfl)) ?_;(with_reducible refine (spec_l01In.calls  a0_1 0 1 true _ A10.out).mono ?_);rintro e w' ⟨rfl,⟨nd,rfl⟩⟩;refine ⟨_,rfl,?_⟩))
   go_ret
   exact ⟨by first|rfl|(simp [yt,yu] <;> rfl)|(simp [*,yt,yu] <;> rfl),by repeat (with_reducible first|exact HB.out|apply za|apply zb|apply zc|refine zd ?_ GE239.out)⟩
  replace c11:=yb.mpr c11;subst c11;have H1 : (some false)=some r:=by rw [if_neg (show ¬ (false=true) by decide)] at H;exact H
  clear H;have H:=H1;clear H1;obtain rfl:=zU H
  go_enter Tryd.func54,Tryd.ntmps54
  go_wp2_with (first|((with_reducible refine zK (N:=2) rfl ?_);(try (refine yz (by rfl) ?_;dsimp only));refine zI ?hg (N:=2) ?hd (cs:=#[.int .i64 a0_0,.int .i64 a0_1,.string a0_2]) (t:=39) ?hr ?_;(case hd => rfl);(case hg => rfl);(case hr => first|(go_simp;done)|(go_simp;rfl));intro gb239 hg w14 hbox hb;have BK239:=zh (hbox);have GW239:=zh ((by rw [hg];exact (zB (by repeat (with_reducible first|exact HB.out|apply za|apply zb|apply zc))) : w.heap.size≤gb239));have GE239:=zh ((by rw [hg];exact (zB (by repeat (with_reducible first|exact HB.out|apply za|apply zb|apply zc))) : w.heap.size≤gb239));replace HB:=zh (zC (by repeat (with_reducible first|exact HB.out|apply za|apply zb|apply zc)) hb);clear hb hbox hg;have hcz15_0 : w14.cell? ⟨gb239,0,none⟩=some (.int .i64 a0_0):=(zz BK239.out 0).trans rfl;have hcz15_1 : w14.cell? ⟨gb239,1,none⟩=some (.int .i64 a0_1):=(zz BK239.out 1).trans rfl;have hcz15_2 : w14.cell? ⟨gb239,2,none⟩=some (.string a0_2):=(zz BK239.out 2).trans rfl;have hfz15_0:=zA BK239.out 0;have hfz15_1:=zA BK239.out 1;have hfz15_2:=zA BK239.out 2)|((with_reducible refine zJ (f:=29) rfl ?_);refine yj (some 27) rfl rfl Tryd.func29 (by kernel_rfl) rfl #[.int .i64 a0_1,.int .i64 0,.int .i64 1] rfl (by (try simp only [zt,zu,zv]);first|done|rfl|(simp only [zw,zx];rfl)|(simp only [yr,ys,zV,zW];rfl)) ?_;(with_reducible refine (spec_l01In.calls  a0_1 0 1 false _ A10.out).mono ?_);rintro e w' ⟨rfl,⟨nd,rfl⟩⟩;refine ⟨_,rfl,?_⟩))
  go_ret
  exact ⟨by first|rfl|(simp [yt,yu] <;> rfl)|(simp [*,yt,yu] <;> rfl),by repeat (with_reducible first|exact HB.out|apply za|apply zb|apply zc|refine zd ?_ GE239.out)⟩
 rw [if_neg c9] at H;have c9b0 : (a0_0 == 1)=false:=zY.mpr c9;have c9b1 : (a0_0 != 1)=true:=zZ.mpr c9
 by_cases c16 : a0_0=2
 ·
  rw [if_pos c16] at H
  have c16b0 : (a0_0 == 2)=true:=ya.mpr c16;have c16b1 : (a0_0 != 2)=false:=zX.mpr c16;clear c16;replace H:=zT.mp H;obtain ⟨t241,A170,H⟩:=H;replace H : (if t241=true then (some (a0_2.toList == ([] : List UInt8))) else (some false))=some r:=H;have A17:=zh A170;clear A170
  by_cases c18 : t241=true
  ·
   subst c18
   have H1 : (some (a0_2.toList == ([] : List UInt8)))=some r:=by rw [if_pos rfl] at H;exact H
   clear H;have H:=H1;clear H1;obtain rfl:=zU H
   go_enter Tryd.func54,Tryd.ntmps54
   go_wp2_with (first|((with_reducible refine zK (N:=2) rfl ?_);(try (refine yz (by rfl) ?_;dsimp only));refine zI ?hg (N:=2) ?hd (cs:=#[.int .i64 a0_0,.int .i64 a0_1,.string a0_2]) (t:=39) ?hr ?_;(case hd => rfl);(case hg => rfl);(case hr => first|(go_simp;done)|(go_simp;rfl));intro gb239 hg w19 hbox hb;have BK239:=zh (hbox);have GW239:=zh ((by rw [hg];exact (zB (by repeat (with_reducible first|exact HB.out|apply za|apply zb|apply zc))) : w.heap.size≤gb239));have GE239:=zh ((by rw [hg];exact (zB (by repeat (with_reducible first|exact HB.out|apply za|apply zb|apply zc))) : w.heap.size≤gb239));replace HB:=zh (zC (by repeat (with_reducible first|exact HB.out|apply za|apply zb|apply zc)) hb);clear hb hbox hg;have hcz20_0 : w19.cell? ⟨gb239,0,none⟩=some (.int .i64 a0_0):=(zz BK239.out 0).trans rfl;have hcz20_1 : w19.cell? ⟨gb239,1,none⟩=some (.int .i64 a0_1):=(zz BK239.out 1).trans rfl;have hcz20_2 : w19.cell? ⟨gb239,2,none⟩=some (.string a0_2):=(zz BK239.out 2).trans rfl;have hfz20_0:=zA BK239.out 0;have hfz20_1:=zA BK239.out 1;have hfz20_2:=zA BK239.out 2)|((with_reducible refine zJ (f:=29) rfl ?_);refine yj (some 37) rfl rfl Tryd.func29 (by kernel_rfl) rfl #[.int .i64 a0_1,.int .i64 (-1000000000000),.int .i64 1000000000000] rfl (by (try simp only [zt,zu,zv]);first|done|rfl|(simp only [zw,zx];rfl)|(simp only [yr,ys,zV,zW];rfl)) ?_;(with_reducible refine (spec_l01In.calls  a0_1 (-1000000000000) 1000000000000 true _ A17.out).mono ?_);rintro e w' ⟨rfl,⟨nd,rfl⟩⟩;refine ⟨_,rfl,?_⟩))
   go_ret
   exact ⟨by first|rfl|(simp [yt,yu] <;> rfl)|(simp [*,yt,yu] <;> rfl),by repeat (with_reducible first|exact HB.out|apply za|apply zb|apply zc|refine zd ?_ GE239.out)⟩
  replace c18:=yb.mpr c18;subst c18;have H1 : (some false)=some r:=by rw [if_neg (show ¬ (false=true) by decide)] at H;exact H
  clear H;have H:=H1;clear H1;obtain rfl:=zU H
  go_enter Tryd.func54,Tryd.ntmps54
  go_wp2_with (first|((with_reducible refine zK (N:=2) rfl ?_);(try (refine yz (by rfl) ?_;dsimp only));refine zI ?hg (N:=2) ?hd (cs:=#[.int .i64 a0_0,.int .i64 a0_1,.string a0_2]) (t:=39) ?hr ?_;(case hd => rfl);(case hg => rfl);(case hr => first|(go_simp;done)|(go_simp;rfl));intro gb239 hg w21 hbox hb;have BK239:=zh (hbox);have GW239:=zh ((by rw [hg];exact (zB (by repeat (with_reducible first|exact HB.out|apply za|apply zb|apply zc))) : w.heap.size≤gb239));have GE239:=zh ((by rw [hg];exact (zB (by repeat (with_reducible first|exact HB.out|apply za|apply zb|apply zc))) : w.heap.size≤gb239));replace HB:=zh (zC (by repeat (with_reducible first|exact HB.out|apply za|apply zb|apply zc)) hb);clear hb hbox hg;have hcz22_0 : w21.cell? ⟨gb239,0,none⟩=some (.int .i64 a0_0):=(zz BK239.out 0).trans rfl;have hcz22_1 : w21.cell? ⟨gb239,1,none⟩=some (.int .i64 a0_1):=(zz BK239.out 1).trans rfl;have hcz22_2 : w21.cell? ⟨gb239,2,none⟩=some (.string a0_2):=(zz BK239.out 2).trans rfl;have hfz22_0:=zA BK239.out 0;have hfz22_1:=zA BK239.out 1;have hfz22_2:=zA BK239.out 2)|((with_reducible refine zJ (f:=29) rfl ?_);refine yj (some 37) rfl rfl Tryd.func29 (by kernel_rfl) rfl #[.int .i64 a0_1,.int .i64 (-1000000000000),.int .i64 1000000000000] rfl (by (try simp only [zt,zu,zv]);first|done|rfl|(simp only [zw,zx];rfl)|(simp only [yr,ys,zV,zW];rfl)) ?_;(with_reducible refine (spec_l01In.calls  a0_1 (-1000000000000) 1000000000000 false _ A17.out).mono ?_);rintro e w' ⟨rfl,⟨nd,rfl⟩⟩;refine ⟨_,rfl,?_⟩))
  go_ret
  exact ⟨by first|rfl|(simp [yt,yu] <;> rfl)|(simp [*,yt,yu] <;> rfl),by repeat (with_reducible first|exact HB.out|apply za|apply zb|apply zc|refine zd ?_ GE239.out)⟩
 rw [if_neg c16] at H;have c16b0 : (a0_0 == 2)=false:=zY.mpr c16;have c16b1 : (a0_0 != 2)=true:=zZ.mpr c16
 by_cases c23 : a0_0=3
 ·
  rw [if_pos c23] at H
  have c23b0 : (a0_0 == 3)=true:=ya.mpr c23;have c23b1 : (a0_0 != 3)=false:=zX.mpr c23;clear c23
  by_cases c24 : a0_1=0
  ·
   rw [if_pos c24] at H
   have c24b0 : (a0_1 == 0)=true:=ya.mpr c24;have c24b1 : (a0_1 != 0)=false:=zX.mpr c24;clear c24;obtain rfl:=zU H
   go_enter Tryd.func54,Tryd.ntmps54
   go_wp2_with (first|((with_reducible refine zK (N:=2) rfl ?_);(try (refine yz (by rfl) ?_;dsimp only));refine zI ?hg (N:=2) ?hd (cs:=#[.int .i64 a0_0,.int .i64 a0_1,.string a0_2]) (t:=39) ?hr ?_;(case hd => rfl);(case hg => rfl);(case hr => first|(go_simp;done)|(go_simp;rfl));intro gb239 hg w25 hbox hb;have BK239:=zh (hbox);have GW239:=zh ((by rw [hg];exact (zB (by repeat (with_reducible first|exact HB.out|apply za|apply zb|apply zc))) : w.heap.size≤gb239));have GE239:=zh ((by rw [hg];exact (zB (by repeat (with_reducible first|exact HB.out|apply za|apply zb|apply zc))) : w.heap.size≤gb239));replace HB:=zh (zC (by repeat (with_reducible first|exact HB.out|apply za|apply zb|apply zc)) hb);clear hb hbox hg;have hcz26_0 : w25.cell? ⟨gb239,0,none⟩=some (.int .i64 a0_0):=(zz BK239.out 0).trans rfl;have hcz26_1 : w25.cell? ⟨gb239,1,none⟩=some (.int .i64 a0_1):=(zz BK239.out 1).trans rfl;have hcz26_2 : w25.cell? ⟨gb239,2,none⟩=some (.string a0_2):=(zz BK239.out 2).trans rfl;have hfz26_0:=zA BK239.out 0;have hfz26_1:=zA BK239.out 1;have hfz26_2:=zA BK239.out 2))
   go_ret
   exact ⟨by first|rfl|(simp [yt,yu] <;> rfl)|(simp [*,yt,yu] <;> rfl),by repeat (with_reducible first|exact HB.out|apply za|apply zb|apply zc|refine zd ?_ GE239.out)⟩
  rw [if_neg c24] at H;have c24b0 : (a0_1 == 0)=false:=zY.mpr c24;have c24b1 : (a0_1 != 0)=true:=zZ.mpr c24;obtain rfl:=zU H
  go_enter Tryd.func54,Tryd.ntmps54
  go_wp2_with (first|((with_reducible refine zK (N:=2) rfl ?_);(try (refine yz (by rfl) ?_;dsimp only));refine zI ?hg (N:=2) ?hd (cs:=#[.int .i64 a0_0,.int .i64 a0_1,.string a0_2]) (t:=39) ?hr ?_;(case hd => rfl);(case hg => rfl);(case hr => first|(go_simp;done)|(go_simp;rfl));intro gb239 hg w27 hbox hb;have BK239:=zh (hbox);have GW239:=zh ((by rw [hg];exact (zB (by repeat (with_reducible first|exact HB.out|apply za|apply zb|apply zc))) : w.heap.size≤gb239));have GE239:=zh ((by rw [hg];exact (zB (by repeat (with_reducible first|exact HB.out|apply za|apply zb|apply zc))) : w.heap.size≤gb239));replace HB:=zh (zC (by repeat (with_reducible first|exact HB.out|apply za|apply zb|apply zc)) hb);clear hb hbox hg;have hcz28_0 : w27.cell? ⟨gb239,0,none⟩=some (.int .i64 a0_0):=(zz BK239.out 0).trans rfl;have hcz28_1 : w27.cell? ⟨gb239,1,none⟩=some (.int .i64 a0_1):=(zz BK239.out 1).trans rfl;have hcz28_2 : w27.cell? ⟨gb239,2,none⟩=some (.string a0_2):=(zz BK239.out 2).trans rfl;have hfz28_0:=zA BK239.out 0;have hfz28_1:=zA BK239.out 1;have hfz28_2:=zA BK239.out 2))
  go_ret
  exact ⟨by first|rfl|(simp [yt,yu] <;> rfl)|(simp [*,yt,yu] <;> rfl),by repeat (with_reducible first|exact HB.out|apply za|apply zb|apply zc|refine zd ?_ GE239.out)⟩
 rw [if_neg c23] at H;have c23b0 : (a0_0 == 3)=false:=zY.mpr c23;have c23b1 : (a0_0 != 3)=true:=zZ.mpr c23
 by_cases c29 : a0_0=4
 ·
  rw [if_pos c29] at H
  have c29b0 : (a0_0 == 4)=true:=ya.mpr c29;have c29b1 : (a0_0 != 4)=false:=zX.mpr c29;clear c29;replace H:=zT.mp H;obtain ⟨⟨t242,t243⟩,A300,H⟩:=H;replace H : (if a0_1=0 then (if t243=true then (if (a0_2.size : Int) > 300 then (spec_l01OK.j0 k a1 t242 true) else (spec_l01OK.j0 k a1 t242 (a1 == 0))) else (spec_l01OK.j0 k a1 t242 true)) else (spec_l01OK.j0 k a1 t242 true))=some r:=H;have A30:=zh A300;clear A300;have HC31:=zh H;clear H
  go_enter Tryd.func54,Tryd.ntmps54
  go_upto_region 12 with (first|((with_reducible refine zK (N:=2) rfl ?_);(try (refine yz (by rfl) ?_;dsimp only));refine zI ?hg (N:=2) ?hd (cs:=#[.int .i64 a0_0,.int .i64 a0_1,.string a0_2]) (t:=39) ?hr ?_;(case hd => rfl);(case hg => rfl);(case hr => first|(go_simp;done)|(go_simp;rfl));intro gb239 hg w32 hbox hb;have BK239:=zh (hbox);have GW239:=zh ((by rw [hg];exact (zB (by repeat (with_reducible first|exact HB.out|apply za|apply zb|apply zc))) : w.heap.size≤gb239));have GE239:=zh ((by rw [hg];exact (zB (by repeat (with_reducible first|exact HB.out|apply za|apply zb|apply zc))) : w.heap.size≤gb239));replace HB:=zh (zC (by repeat (with_reducible first|exact HB.out|apply za|apply zb|apply zc)) hb);clear hb hbox hg;have hcz33_0 : w32.cell? ⟨gb239,0,none⟩=some (.int .i64 a0_0):=(zz BK239.out 0).trans rfl;have hcz33_1 : w32.cell? ⟨gb239,1,none⟩=some (.int .i64 a0_1):=(zz BK239.out 1).trans rfl;have hcz33_2 : w32.cell? ⟨gb239,2,none⟩=some (.string a0_2):=(zz BK239.out 2).trans rfl;have hfz33_0:=zA BK239.out 0;have hfz33_1:=zA BK239.out 1;have hfz33_2:=zA BK239.out 2)|((with_reducible refine zJ (f:=66) rfl ?_);refine yj (some 59) rfl rfl Tryd.func66 (by kernel_rfl) rfl #[.string a0_2] rfl (by (try simp only [zt,zu,zv]);first|done|rfl|(simp only [zw,zx];rfl)|(simp only [yr,ys,zV,zW];rfl)) ?_;(with_reducible refine (spec_l01Items.calls k  a0_2 t242 t243 _ A30.out).mono ?_);rintro e w34 ⟨v244,rfl,ho0,hb⟩;refine ⟨_,rfl,?_⟩;have HO245:=zh (yy (Kd.R_newB ho0 (g:=gb239) (o:=.cells #[.int .i64 a0_0,.int .i64 a0_1,.string a0_2] 39 (0,0)) (by (with_reducible repeat (first|refine ze ?_ _|refine zf ?_|refine zg ?_ _));exact BK239.out)) (zB (by repeat (with_reducible first|exact HB.out|apply za|apply zb|apply zc|refine zd ?_ GE239.out))));replace BK239:=zh (zD (g:=gb239) (o:=.cells #[.int .i64 a0_0,.int .i64 a0_1,.string a0_2] 39 (0,0)) (by (with_reducible repeat (first|refine ze ?_ _|refine zf ?_|refine zg ?_ _));exact BK239.out) hb);replace HB:=zh (zC (by repeat (with_reducible first|exact HB.out|apply za|apply zb|apply zc|refine zd ?_ GE239.out)) hb);(try clear hb);(try clear hb2);(try clear hk);(try clear hi);(try clear ho0)))
  (try simp only [Act.put,zi,zj,zk])
  go_cut [78] (fun v78 wc => ∃ (kq : Nat) (x78_30 : Bool),v78 = .bool x78_30∧Aside0 (spec_l01OK.j0 kq a1 t242 x78_30=some r)∧Aside0 (kq≤k)∧Aside0 (Kd.R k39 39 wc w.heap.size (fun k_ => k_≠gb239) v244 t242)∧Aside0 (wc.heap[gb239]? = some (.cells #[.int .i64 a0_0,.int .i64 a0_1,.string a0_2] 39 (0,0)))∧Aside0 (Below w.heap.size w wc))
  case first =>
   have H:=HC31.out;clear HC31
   by_cases c35 : a0_1=0
   ·
    rw [if_pos c35] at H
    have c35b0 : (a0_1 == 0)=true:=ya.mpr c35;have c35b1 : (a0_1 != 0)=false:=zX.mpr c35;clear c35;(first|rw [c35b0]|(simp only [zG,zH];rw [c35b0])|skip)
    by_cases c36 : t243=true
    ·
     subst c36
     have H1 : (if (a0_2.size : Int) > 300 then (spec_l01OK.j0 k a1 t242 true) else (spec_l01OK.j0 k a1 t242 (a1 == 0)))=some r:=by rw [if_pos rfl] at H;exact H
     clear H;have H:=H1;clear H1
     by_cases c37 : (a0_2.size : Int) > 300
     ·
      rw [if_pos c37] at H
      have c37b0 : decide (300<(a0_2.size : Int))=true:=decide_eq_true c37;have c37b1 : decide (300<a0_2.size)=true:=decide_eq_true (by omega);clear c37;have H':=zh H;clear H;have hcz38_0 : w34.cell? ⟨gb239,0,none⟩=some (.int .i64 a0_0):=(zz BK239.out 0).trans rfl;have hcz38_1 : w34.cell? ⟨gb239,1,none⟩=some (.int .i64 a0_1):=(zz BK239.out 1).trans rfl;have hcz38_2 : w34.cell? ⟨gb239,2,none⟩=some (.string a0_2):=(zz BK239.out 2).trans rfl;have hfz38_0:=zA BK239.out 0;have hfz38_1:=zA BK239.out 1;have hfz38_2:=zA BK239.out 2
      go_wp2
      go_meet
      case rel => exact ⟨_,(true),(by first|rfl|(simp;done)|(simp [*];done)),H',⟨by first|omega|exact ye _⟩,⟨by (with_reducible repeat (first|apply zm|apply zn|apply zo));exact zM HO245.out (fun _ hk => hk.2)⟩,⟨by (with_reducible repeat (first|refine ze ?_ _|refine zf ?_|refine zg ?_ _));exact BK239.out⟩,⟨by repeat (with_reducible first|exact HB.out|apply za|apply zb|apply zc|refine zd ?_ GE239.out)⟩⟩
     rw [if_neg c37] at H;have c37b0 : decide (300<(a0_2.size : Int))=false:=decide_eq_false c37;have c37b1 : decide (300<a0_2.size)=false:=decide_eq_false (by omega);clear c37;have H':=zh H;clear H;have hcz39_0 : w34.cell? ⟨gb239,0,none⟩=some (.int .i64 a0_0):=(zz BK239.out 0).trans rfl;have hcz39_1 : w34.cell? ⟨gb239,1,none⟩=some (.int .i64 a0_1):=(zz BK239.out 1).trans rfl;have hcz39_2 : w34.cell? ⟨gb239,2,none⟩=some (.string a0_2):=(zz BK239.out 2).trans rfl;have hfz39_0:=zA BK239.out 0;have hfz39_1:=zA BK239.out 1;have hfz39_2:=zA BK239.out 2
     go_wp2
     go_meet
     case rel => exact ⟨_,((a1 == 0)),(by first|rfl|(simp;done)|(simp [*];done)),H',⟨by first|omega|exact ye _⟩,⟨by (with_reducible repeat (first|apply zm|apply zn|apply zo));exact zM HO245.out (fun _ hk => hk.2)⟩,⟨by (with_reducible repeat (first|refine ze ?_ _|refine zf ?_|refine zg ?_ _));exact BK239.out⟩,⟨by repeat (with_reducible first|exact HB.out|apply za|apply zb|apply zc|refine zd ?_ GE239.out)⟩⟩
    replace c36:=yb.mpr c36;subst c36;have H1 : (spec_l01OK.j0 k a1 t242 true)=some r:=by rw [if_neg (show ¬ (false=true) by decide)] at H;exact H
    clear H;have H:=H1;clear H1;have H':=zh H;clear H;have hcz40_0 : w34.cell? ⟨gb239,0,none⟩=some (.int .i64 a0_0):=(zz BK239.out 0).trans rfl;have hcz40_1 : w34.cell? ⟨gb239,1,none⟩=some (.int .i64 a0_1):=(zz BK239.out 1).trans rfl;have hcz40_2 : w34.cell? ⟨gb239,2,none⟩=some (.string a0_2):=(zz BK239.out 2).trans rfl;have hfz40_0:=zA BK239.out 0;have hfz40_1:=zA BK239.out 1;have hfz40_2:=zA BK239.out 2
    go_wp2
    go_meet
    case rel => exact ⟨_,(true),(by first|rfl|(simp;done)|(simp [*];done)),H',⟨by first|omega|exact ye _⟩,⟨by (with_reducible repeat (first|apply zm|apply zn|apply zo));exact zM HO245.out (fun _ hk => hk.2)⟩,⟨by (with_reducible repeat (first|refine ze ?_ _|refine zf ?_|refine zg ?_ _));exact BK239.out⟩,⟨by repeat (with_reducible first|exact HB.out|apply za|apply zb|apply zc|refine zd ?_ GE239.out)⟩⟩
   rw [if_neg c35] at H;have c35b0 : (a0_1 == 0)=false:=zY.mpr c35;have c35b1 : (a0_1 != 0)=true:=zZ.mpr c35;(first|rw [c35b0]|(simp only [zG,zH];rw [c35b0])|skip);have H':=zh H;clear H;have hcz41_0 : w34.cell? ⟨gb239,0,none⟩=some (.int .i64 a0_0):=(zz BK239.out 0).trans rfl;have hcz41_1 : w34.cell? ⟨gb239,1,none⟩=some (.int .i64 a0_1):=(zz BK239.out 1).trans rfl;have hcz41_2 : w34.cell? ⟨gb239,2,none⟩=some (.string a0_2):=(zz BK239.out 2).trans rfl;have hfz41_0:=zA BK239.out 0;have hfz41_1:=zA BK239.out 1;have hfz41_2:=zA BK239.out 2
   go_wp2
   go_meet
   case rel => exact ⟨_,(true),(by first|rfl|(simp;done)|(simp [*];done)),H',⟨by first|omega|exact ye _⟩,⟨by (with_reducible repeat (first|apply zm|apply zn|apply zo));exact zM HO245.out (fun _ hk => hk.2)⟩,⟨by (with_reducible repeat (first|refine ze ?_ _|refine zf ?_|refine zg ?_ _));exact BK239.out⟩,⟨by repeat (with_reducible first|exact HB.out|apply za|apply zb|apply zc|refine zd ?_ GE239.out)⟩⟩
  case rest =>
   clear HC31
   try clear c1
   try clear c2
   try clear p2
   try clear c3
   try clear c3b0
   try clear c3b1
   try clear c4
   try clear c4b0
   try clear c4b1
   try clear c5
   try clear c6
   try clear c9
   try clear c9b0
   try clear c9b1
   try clear c11
   try clear c16
   try clear c16b0
   try clear c16b1
   try clear c18
   try clear c23
   try clear c23b0
   try clear c23b1
   try clear c24
   try clear c24b0
   try clear c24b1
   try clear c29
   try clear c29b0
   try clear c29b1
   try clear c35
   try clear c35b0
   try clear c35b1
   try clear c36
   try clear c37
   try clear c37b0
   try clear c37b1
   try clear hcz13_0
   try clear hcz13_1
   try clear hcz13_2
   try clear hcz15_0
   try clear hcz15_1
   try clear hcz15_2
   try clear hcz20_0
   try clear hcz20_1
   try clear hcz20_2
   try clear hcz22_0
   try clear hcz22_1
   try clear hcz22_2
   try clear hcz26_0
   try clear hcz26_1
   try clear hcz26_2
   try clear hcz28_0
   try clear hcz28_1
   try clear hcz28_2
   try clear hcz33_0
   try clear hcz33_1
   try clear hcz33_2
   try clear hcz38_0
   try clear hcz38_1
   try clear hcz38_2
   try clear hcz39_0
   try clear hcz39_1
   try clear hcz39_2
   try clear hcz40_0
   try clear hcz40_1
   try clear hcz40_2
   try clear hcz41_0
   try clear hcz41_1
   try clear hcz41_2
   try clear hcz6_0
   try clear hcz6_1
   try clear hcz6_2
   try clear hcz8_0
   try clear hcz8_1
   try clear hcz8_2
   try clear hfz13_0
   try clear hfz13_1
   try clear hfz13_2
   try clear hfz15_0
   try clear hfz15_1
   try clear hfz15_2
   try clear hfz20_0
   try clear hfz20_1
   try clear hfz20_2
   try clear hfz22_0
   try clear hfz22_1
   try clear hfz22_2
   try clear hfz26_0
   try clear hfz26_1
   try clear hfz26_2
   try clear hfz28_0
   try clear hfz28_1
   try clear hfz28_2
   try clear hfz33_0
   try clear hfz33_1
   try clear hfz33_2
   try clear hfz38_0
   try clear hfz38_1
   try clear hfz38_2
   try clear hfz39_0
   try clear hfz39_1
   try clear hfz39_2
   try clear hfz40_0
   try clear hfz40_1
   try clear hfz40_2
   try clear hfz41_0
   try clear hfz41_1
   try clear hfz41_2
   try clear hfz6_0
   try clear hfz6_1
   try clear hfz6_2
   try clear hfz8_0
   try clear hfz8_1
   try clear hfz8_2
   obtain ⟨kq,x78_30,rfl,HA,HJ30,HO_5,BK239,HB⟩:=hcut
   cases kq with
   | zero => exact absurd HA.out (by simp [spec_l01OK.j0])
   | succ kj30 =>
    have H:=HA.out;clear HA;simp only [spec_l01OK.j0] at H
    by_cases c42 : x78_30=true
    ·
     subst c42
     have H1 : (some false)=some r:=by rw [if_pos rfl] at H;exact H
     clear H;have H:=H1;clear H1;obtain rfl:=zU H
     go_wp2
     go_ret
     exact ⟨by first|rfl|(simp [yt,yu] <;> rfl)|(simp [*,yt,yu] <;> rfl),by repeat (with_reducible first|exact HB.out|apply za|apply zb|apply zc|refine zd ?_ GE239.out)⟩
    replace c42:=yb.mpr c42;subst c42;have H1 : (spec_l01OK.l0 kj30 a1 t242 0)=some r:=by rw [if_neg (show ¬ (false=true) by decide)] at H;exact H
    clear H;have H:=H1;clear H1;have H':=zh H;clear H
    go_wp2
    go_loopg [7] kj30 (fun kq v7 w' => ∃ (x7_2 : Int),v7 = .int .i64 x7_2∧Aside0 (spec_l01OK.l0 kq a1 t242 x7_2=some r)∧Aside0 (kq≤kj30)∧Aside0 (Kd.R k39 39 w' w.heap.size (fun k_ => k_≠gb239) v244 t242)∧Aside0 (w'.heap[gb239]? = some (.cells #[.int .i64 a0_0,.int .i64 a0_1,.string a0_2] 39 (0,0)))∧Aside0 (Below w.heap.size w w'))
    case atStart => exact ⟨(0),(by first|rfl|(simp;done)|(simp [*];done)),H',⟨ye _⟩,⟨by (with_reducible repeat (first|apply zm|apply zn|apply zo));exact HO_5.out⟩,⟨by (with_reducible repeat (first|refine ze ?_ _|refine zf ?_|refine zg ?_ _));exact BK239.out⟩,⟨by repeat (with_reducible first|exact HB.out|apply za|apply zb|apply zc|refine zd ?_ GE239.out)⟩⟩
    case round =>
     clear H'
     try clear c1
     try clear c2
     try clear p2
     try clear c3
     try clear c3b0
     try clear c3b1
     try clear c4
     try clear c4b0
     try clear c4b1
     try clear c5
     try clear c6
     try clear c9
     try clear c9b0
     try clear c9b1
     try clear c11
     try clear c16
     try clear c16b0
     try clear c16b1
     try clear c18
     try clear c23
     try clear c23b0
     try clear c23b1
     try clear c24
     try clear c24b0
     try clear c24b1
     try clear c29
     try clear c29b0
     try clear c29b1
     try clear c35
     try clear c35b0
     try clear c35b1
     try clear c36
     try clear c37
     try clear c37b0
     try clear c37b1
     try clear c42
     try clear hcz13_0
     try clear hcz13_1
     try clear hcz13_2
     try clear hcz15_0
     try clear hcz15_1
     try clear hcz15_2
     try clear hcz20_0
     try clear hcz20_1
     try clear hcz20_2
     try clear hcz22_0
     try clear hcz22_1
     try clear hcz22_2
     try clear hcz26_0
     try clear hcz26_1
     try clear hcz26_2
     try clear hcz28_0
     try clear hcz28_1
     try clear hcz28_2
     try clear hcz33_0
     try clear hcz33_1
     try clear hcz33_2
     try clear hcz38_0
     try clear hcz38_1
     try clear hcz38_2
     try clear hcz39_0
     try clear hcz39_1
     try clear hcz39_2
     try clear hcz40_0
     try clear hcz40_1
     try clear hcz40_2
     try clear hcz41_0
     try clear hcz41_1
     try clear hcz41_2
     try clear hcz6_0
     try clear hcz6_1
     try clear hcz6_2
     try clear hcz8_0
     try clear hcz8_1
     try clear hcz8_2
     try clear hfz13_0
     try clear hfz13_1
     try clear hfz13_2
     try clear hfz15_0
     try clear hfz15_1
     try clear hfz15_2
     try clear hfz20_0
     try clear hfz20_1
     try clear hfz20_2
     try clear hfz22_0
     try clear hfz22_1
     try clear hfz22_2
     try clear hfz26_0
     try clear hfz26_1
     try clear hfz26_2
     try clear hfz28_0
     try clear hfz28_1
     try clear hfz28_2
     try clear hfz33_0
     try clear hfz33_1
     try clear hfz33_2
     try clear hfz38_0
     try clear hfz38_1
     try clear hfz38_2
     try clear hfz39_0
     try clear hfz39_1
     try clear hfz39_2
     try clear hfz40_0
     try clear hfz40_1
     try clear hfz40_2
     try clear hfz41_0
     try clear hfz41_1
     try clear hfz41_2
     try clear hfz6_0
     try clear hfz6_1
     try clear hfz6_2
     try clear hfz8_0
     try clear hfz8_1
     try clear hfz8_2
     try clear p2
     obtain ⟨x7_2,rfl,HA,HK2,HO_5,BK239,HB⟩:=hrel
     cases gk with
     | zero => exact absurd HA.out (by simp [spec_l01OK.l0])
     | succ k2 =>
      have H:=HA.out;clear HA;simp only [spec_l01OK.l0] at H
      by_cases c43 : x7_2<(t242.length : Int)
      ·
       rw [if_pos c43] at H
       have c43b0 : decide (x7_2<(t242.length : Int))=true:=decide_eq_true c43;clear c43
       by_cases c44 : 0≤x7_2
       ·
        rw [if_pos c44] at H
        have c44b0 : decide (0≤x7_2)=true:=decide_eq_true c44;clear c44;replace H:=zT.mp H;obtain ⟨t247,A450,H⟩:=H;replace H : (if t247=true then (spec_l01OK.l0 k2 a1 t242 (wrap64 (x7_2 + 1))) else (some false))=some r:=H;have A45:=zh A450;clear A450
        by_cases c46 : t247=true
        ·
         subst c46
         have H1 : (spec_l01OK.l0 k2 a1 t242 (wrap64 (x7_2 + 1)))=some r:=by rw [if_pos rfl] at H;exact H
         clear H;have H:=H1;clear H1;have H':=zh H;clear H;obtain ⟨Ao47,co47,eo47⟩:=yk HO_5.out;subst eo47;have p246 : 0≤(x7_2 : Int):=zy (by first|(with_reducible assumption)|assumption);have q246 : x7_2<(t242.length : Int):=zy (by first|(with_reducible assumption)|assumption);obtain ⟨ad246,e246,hx246_0,hx246_1,hx246_2⟩:=at_T39 (yh HO_5.out).2.2 x7_2 p246 q246
         cases e246
         replace p246:=eq_true p246;replace q246:=eq_true q246
         go_wp2_with (first|((with_reducible refine zJ (f:=54) rfl ?_);refine yj (some 91) rfl rfl Tryd.func54 (by kernel_rfl) rfl #[.agg #[.int .i64 ((rd_T39 t242 x7_2).f0),.int .i64 ((rd_T39 t242 x7_2).f1),.string ((rd_T39 t242 x7_2).f2)],.int .i64 (wrap64 (a1 - 1))] rfl (by (try simp only [zt,zu,zv]);first|done|rfl|(simp only [zw,zx];rfl)|(simp only [yr,ys,zV,zW];rfl)) ?_;(with_reducible refine (ih k2 (by have:=HJ30.out;have:=HK2.out;omega)  ((rd_T39 t242 x7_2).f0) ((rd_T39 t242 x7_2).f1) ((rd_T39 t242 x7_2).f2) (wrap64 (a1 - 1)) true _ A45.out).mono ?_);rintro e w48 ⟨rfl,hb⟩;refine ⟨_,rfl,?_⟩;replace HO_5:=zh (yg (by (with_reducible repeat (first|apply zm|apply zn|apply zo));exact HO_5.out) hb);replace BK239:=zh (zD (g:=gb239) (o:=.cells #[.int .i64 a0_0,.int .i64 a0_1,.string a0_2] 39 (0,0)) (by (with_reducible repeat (first|refine ze ?_ _|refine zf ?_|refine zg ?_ _));exact BK239.out) hb);replace HB:=zh (zC (by repeat (with_reducible first|exact HB.out|apply za|apply zb|apply zc|refine zd ?_ GE239.out)) hb);(try clear hb);(try clear hb2);(try clear hk);(try clear hi)))
         go_roundg k2
         case measure => have:=HJ30.out;have:=HK2.out;omega
         case rel => exact ⟨(wrap64 (x7_2 + 1)),(by first|rfl|(simp;done)|(simp [*];done)),H',⟨by have:=HJ30.out;have:=HK2.out;omega⟩,⟨by (with_reducible repeat (first|apply zm|apply zn|apply zo));exact HO_5.out⟩,⟨by (with_reducible repeat (first|refine ze ?_ _|refine zf ?_|refine zg ?_ _));exact BK239.out⟩,⟨by repeat (with_reducible first|exact HB.out|apply za|apply zb|apply zc|refine zd ?_ GE239.out)⟩⟩
        replace c46:=yb.mpr c46;subst c46;have H1 : (some false)=some r:=by rw [if_neg (show ¬ (false=true) by decide)] at H;exact H
        clear H;have H:=H1;clear H1;obtain rfl:=zU H;obtain ⟨Ao49,co49,eo49⟩:=yk HO_5.out;subst eo49;have p246 : 0≤(x7_2 : Int):=zy (by first|(with_reducible assumption)|assumption);have q246 : x7_2<(t242.length : Int):=zy (by first|(with_reducible assumption)|assumption);obtain ⟨ad246,e246,hx246_0,hx246_1,hx246_2⟩:=at_T39 (yh HO_5.out).2.2 x7_2 p246 q246
        cases e246
        replace p246:=eq_true p246;replace q246:=eq_true q246
        go_wp2_with (first|((with_reducible refine zJ (f:=54) rfl ?_);refine yj (some 91) rfl rfl Tryd.func54 (by kernel_rfl) rfl #[.agg #[.int .i64 ((rd_T39 t242 x7_2).f0),.int .i64 ((rd_T39 t242 x7_2).f1),.string ((rd_T39 t242 x7_2).f2)],.int .i64 (wrap64 (a1 - 1))] rfl (by (try simp only [zt,zu,zv]);first|done|rfl|(simp only [zw,zx];rfl)|(simp only [yr,ys,zV,zW];rfl)) ?_;(with_reducible refine (ih k2 (by have:=HJ30.out;have:=HK2.out;omega)  ((rd_T39 t242 x7_2).f0) ((rd_T39 t242 x7_2).f1) ((rd_T39 t242 x7_2).f2) (wrap64 (a1 - 1)) false _ A45.out).mono ?_);rintro e w50 ⟨rfl,hb⟩;refine ⟨_,rfl,?_⟩;replace HO_5:=zh (yg (by (with_reducible repeat (first|apply zm|apply zn|apply zo));exact HO_5.out) hb);replace BK239:=zh (zD (g:=gb239) (o:=.cells #[.int .i64 a0_0,.int .i64 a0_1,.string a0_2] 39 (0,0)) (by (with_reducible repeat (first|refine ze ?_ _|refine zf ?_|refine zg ?_ _));exact BK239.out) hb);replace HB:=zh (zC (by repeat (with_reducible first|exact HB.out|apply za|apply zb|apply zc|refine zd ?_ GE239.out)) hb);(try clear hb);(try clear hb2);(try clear hk);(try clear hi)))
        go_ret
        exact ⟨by first|rfl|(simp [yt,yu] <;> rfl)|(simp [*,yt,yu] <;> rfl),by repeat (with_reducible first|exact HB.out|apply za|apply zb|apply zc|refine zd ?_ GE239.out)⟩
       rw [if_neg c44] at H;exact absurd H (by simp)
      rw [if_neg c43] at H;have c43b0 : decide (x7_2<(t242.length : Int))=false:=decide_eq_false c43;clear c43;obtain rfl:=zU H;obtain ⟨Ao51,co51,eo51⟩:=yk HO_5.out;subst eo51
      go_wp2
      go_ret
      exact ⟨by first|rfl|(simp [yt,yu] <;> rfl)|(simp [*,yt,yu] <;> rfl),by repeat (with_reducible first|exact HB.out|apply za|apply zb|apply zc|refine zd ?_ GE239.out)⟩
 rw [if_neg c29] at H;have c29b0 : (a0_0 == 4)=false:=zY.mpr c29;have c29b1 : (a0_0 != 4)=true:=zZ.mpr c29
 by_cases c52 : a0_0=5
 ·
  rw [if_pos c52] at H
  have c52b0 : (a0_0 == 5)=true:=ya.mpr c52;have c52b1 : (a0_0 != 5)=false:=zX.mpr c52;clear c52;replace H:=zT.mp H;obtain ⟨⟨t248,t249⟩,A530,H⟩:=H;replace H : (if a0_1=0 then (if t249=true then (if (a0_2.size : Int) > 300 then (spec_l01OK.j2 k a1 t248 true) else (spec_l01OK.j2 k a1 t248 (a1 == 0))) else (spec_l01OK.j2 k a1 t248 true)) else (spec_l01OK.j2 k a1 t248 true))=some r:=H;have A53:=zh A530;clear A530;have HC54:=zh H;clear H
  go_enter Tryd.func54,Tryd.ntmps54
  go_upto_region 22 with (first|((with_reducible refine zK (N:=2) rfl ?_);(try (refine yz (by rfl) ?_;dsimp only));refine zI ?hg (N:=2) ?hd (cs:=#[.int .i64 a0_0,.int .i64 a0_1,.string a0_2]) (t:=39) ?hr ?_;(case hd => rfl);(case hg => rfl);(case hr => first|(go_simp;done)|(go_simp;rfl));intro gb239 hg w55 hbox hb;have BK239:=zh (hbox);have GW239:=zh ((by rw [hg];exact (zB (by repeat (with_reducible first|exact HB.out|apply za|apply zb|apply zc))) : w.heap.size≤gb239));have GE239:=zh ((by rw [hg];exact (zB (by repeat (with_reducible first|exact HB.out|apply za|apply zb|apply zc))) : w.heap.size≤gb239));replace HB:=zh (zC (by repeat (with_reducible first|exact HB.out|apply za|apply zb|apply zc)) hb);clear hb hbox hg;have hcz56_0 : w55.cell? ⟨gb239,0,none⟩=some (.int .i64 a0_0):=(zz BK239.out 0).trans rfl;have hcz56_1 : w55.cell? ⟨gb239,1,none⟩=some (.int .i64 a0_1):=(zz BK239.out 1).trans rfl;have hcz56_2 : w55.cell? ⟨gb239,2,none⟩=some (.string a0_2):=(zz BK239.out 2).trans rfl;have hfz56_0:=zA BK239.out 0;have hfz56_1:=zA BK239.out 1;have hfz56_2:=zA BK239.out 2)|((with_reducible refine zJ (f:=67) rfl ?_);refine yj (some 98) rfl rfl Tryd.func67 (by kernel_rfl) rfl #[.string a0_2] rfl (by (try simp only [zt,zu,zv]);first|done|rfl|(simp only [zw,zx];rfl)|(simp only [yr,ys,zV,zW];rfl)) ?_;(with_reducible refine (spec_l01Fields.calls k  a0_2 t248 t249 _ A53.out).mono ?_);rintro e w57 ⟨v250,rfl,ho0,hb⟩;refine ⟨_,rfl,?_⟩;have HO251:=zh (yy ho0 (zB (by repeat (with_reducible first|exact HB.out|apply za|apply zb|apply zc|refine zd ?_ GE239.out))));replace BK239:=zh (zD (g:=gb239) (o:=.cells #[.int .i64 a0_0,.int .i64 a0_1,.string a0_2] 39 (0,0)) (by (with_reducible repeat (first|refine ze ?_ _|refine zf ?_|refine zg ?_ _));exact BK239.out) hb);replace HB:=zh (zC (by repeat (with_reducible first|exact HB.out|apply za|apply zb|apply zc|refine zd ?_ GE239.out)) hb);(try clear hb);(try clear hb2);(try clear hk);(try clear hi);(try clear ho0)))
  (try simp only [Act.put,zi,zj,zk])
  go_cut [117] (fun v117 wc => ∃ (kq : Nat) (x117_53 : Bool),v117 = .bool x117_53∧Aside0 (spec_l01OK.j2 kq a1 t248 x117_53=some r)∧Aside0 (kq≤k)∧Aside0 (Kd.R k92 92 wc w.heap.size (fun _ => True) v250 t248)∧Aside0 (wc.heap[gb239]? = some (.cells #[.int .i64 a0_0,.int .i64 a0_1,.string a0_2] 39 (0,0)))∧Aside0 (Below w.heap.size w wc))
  case first =>
   have H:=HC54.out;clear HC54
   by_cases c58 : a0_1=0
   ·
    rw [if_pos c58] at H
    have c58b0 : (a0_1 == 0)=true:=ya.mpr c58;have c58b1 : (a0_1 != 0)=false:=zX.mpr c58;clear c58;(first|rw [c58b0]|(simp only [zG,zH];rw [c58b0])|skip)
    by_cases c59 : t249=true
    ·
     subst c59
     have H1 : (if (a0_2.size : Int) > 300 then (spec_l01OK.j2 k a1 t248 true) else (spec_l01OK.j2 k a1 t248 (a1 == 0)))=some r:=by rw [if_pos rfl] at H;exact H
     clear H;have H:=H1;clear H1
     by_cases c60 : (a0_2.size : Int) > 300
     ·
      rw [if_pos c60] at H
      have c60b0 : decide (300<(a0_2.size : Int))=true:=decide_eq_true c60;have c60b1 : decide (300<a0_2.size)=true:=decide_eq_true (by omega);clear c60;have H':=zh H;clear H;have hcz61_0 : w57.cell? ⟨gb239,0,none⟩=some (.int .i64 a0_0):=(zz BK239.out 0).trans rfl;have hcz61_1 : w57.cell? ⟨gb239,1,none⟩=some (.int .i64 a0_1):=(zz BK239.out 1).trans rfl;have hcz61_2 : w57.cell? ⟨gb239,2,none⟩=some (.string a0_2):=(zz BK239.out 2).trans rfl;have hfz61_0:=zA BK239.out 0;have hfz61_1:=zA BK239.out 1;have hfz61_2:=zA BK239.out 2
      go_wp2
      go_meet
      case rel => exact ⟨_,(true),(by first|rfl|(simp;done)|(simp [*];done)),H',⟨by first|omega|exact ye _⟩,⟨by (with_reducible repeat (first|apply zm|apply zn|apply zo));exact HO251.out⟩,⟨by (with_reducible repeat (first|refine ze ?_ _|refine zf ?_|refine zg ?_ _));exact BK239.out⟩,⟨by repeat (with_reducible first|exact HB.out|apply za|apply zb|apply zc|refine zd ?_ GE239.out)⟩⟩
     rw [if_neg c60] at H;have c60b0 : decide (300<(a0_2.size : Int))=false:=decide_eq_false c60;have c60b1 : decide (300<a0_2.size)=false:=decide_eq_false (by omega);clear c60;have H':=zh H;clear H;have hcz62_0 : w57.cell? ⟨gb239,0,none⟩=some (.int .i64 a0_0):=(zz BK239.out 0).trans rfl;have hcz62_1 : w57.cell? ⟨gb239,1,none⟩=some (.int .i64 a0_1):=(zz BK239.out 1).trans rfl;have hcz62_2 : w57.cell? ⟨gb239,2,none⟩=some (.string a0_2):=(zz BK239.out 2).trans rfl;have hfz62_0:=zA BK239.out 0;have hfz62_1:=zA BK239.out 1;have hfz62_2:=zA BK239.out 2
     go_wp2
     go_meet
     case rel => exact ⟨_,((a1 == 0)),(by first|rfl|(simp;done)|(simp [*];done)),H',⟨by first|omega|exact ye _⟩,⟨by (with_reducible repeat (first|apply zm|apply zn|apply zo));exact HO251.out⟩,⟨by (with_reducible repeat (first|refine ze ?_ _|refine zf ?_|refine zg ?_ _));exact BK239.out⟩,⟨by repeat (with_reducible first|exact HB.out|apply za|apply zb|apply zc|refine zd ?_ GE239.out)⟩⟩
    replace c59:=yb.mpr c59;subst c59;have H1 : (spec_l01OK.j2 k a1 t248 true)=some r:=by rw [if_neg (show ¬ (false=true) by decide)] at H;exact H
    clear H;have H:=H1;clear H1;have H':=zh H;clear H;have hcz63_0 : w57.cell? ⟨gb239,0,none⟩=some (.int .i64 a0_0):=(zz BK239.out 0).trans rfl;have hcz63_1 : w57.cell? ⟨gb239,1,none⟩=some (.int .i64 a0_1):=(zz BK239.out 1).trans rfl;have hcz63_2 : w57.cell? ⟨gb239,2,none⟩=some (.string a0_2):=(zz BK239.out 2).trans rfl;have hfz63_0:=zA BK239.out 0;have hfz63_1:=zA BK239.out 1;have hfz63_2:=zA BK239.out 2
    go_wp2
    go_meet
    case rel => exact ⟨_,(true),(by first|rfl|(simp;done)|(simp [*];done)),H',⟨by first|omega|exact ye _⟩,⟨by (with_reducible repeat (first|apply zm|apply zn|apply zo));exact HO251.out⟩,⟨by (with_reducible repeat (first|refine ze ?_ _|refine zf ?_|refine zg ?_ _));exact BK239.out⟩,⟨by repeat (with_reducible first|exact HB.out|apply za|apply zb|apply zc|refine zd ?_ GE239.out)⟩⟩
   rw [if_neg c58] at H;have c58b0 : (a0_1 == 0)=false:=zY.mpr c58;have c58b1 : (a0_1 != 0)=true:=zZ.mpr c58;(first|rw [c58b0]|(simp only [zG,zH];rw [c58b0])|skip);have H':=zh H;clear H;have hcz64_0 : w57.cell? ⟨gb239,0,none⟩=some (.int .i64 a0_0):=(zz BK239.out 0).trans rfl;have hcz64_1 : w57.cell? ⟨gb239,1,none⟩=some (.int .i64 a0_1):=(zz BK239.out 1).trans rfl;have hcz64_2 : w57.cell? ⟨gb239,2,none⟩=some (.string a0_2):=(zz BK239.out 2).trans rfl;have hfz64_0:=zA BK239.out 0;have hfz64_1:=zA BK239.out 1;have hfz64_2:=zA BK239.out 2
   go_wp2
   go_meet
   case rel => exact ⟨_,(true),(by first|rfl|(simp;done)|(simp [*];done)),H',⟨by first|omega|exact ye _⟩,⟨by (with_reducible repeat (first|apply zm|apply zn|apply zo));exact HO251.out⟩,⟨by (with_reducible repeat (first|refine ze ?_ _|refine zf ?_|refine zg ?_ _));exact BK239.out⟩,⟨by repeat (with_reducible first|exact HB.out|apply za|apply zb|apply zc|refine zd ?_ GE239.out)⟩⟩
  case rest =>
   clear HC54
   try clear c1
   try clear c2
   try clear p2
   try clear q2
   try clear hx2
   try clear c3
   try clear c3b0
   try clear c3b1
   try clear c4
   try clear c4b0
   try clear c4b1
   try clear c5
   try clear c6
   try clear p6
   try clear c9
   try clear c9b0
   try clear c9b1
   try clear c11
   try clear c16
   try clear c16b0
   try clear c16b1
   try clear c18
   try clear c23
   try clear c23b0
   try clear c23b1
   try clear c24
   try clear c24b0
   try clear c24b1
   try clear p24
   try clear q24
   try clear hx24
   try clear c29
   try clear c29b0
   try clear c29b1
   try clear c35
   try clear c35b0
   try clear c35b1
   try clear c36
   try clear c37
   try clear c37b0
   try clear c37b1
   try clear c42
   try clear c43
   try clear c43b0
   try clear c44
   try clear c44b0
   try clear c46
   try clear c52
   try clear c52b0
   try clear c52b1
   try clear c54
   try clear c58
   try clear c58b0
   try clear c58b1
   try clear c59
   try clear c60
   try clear c60b0
   try clear c60b1
   try clear p64
   try clear hcz13_0
   try clear hcz13_1
   try clear hcz13_2
   try clear hcz15_0
   try clear hcz15_1
   try clear hcz15_2
   try clear hcz20_0
   try clear hcz20_1
   try clear hcz20_2
   try clear hcz22_0
   try clear hcz22_1
   try clear hcz22_2
   try clear hcz26_0
   try clear hcz26_1
   try clear hcz26_2
   try clear hcz28_0
   try clear hcz28_1
   try clear hcz28_2
   try clear hcz33_0
   try clear hcz33_1
   try clear hcz33_2
   try clear hcz38_0
   try clear hcz38_1
   try clear hcz38_2
   try clear hcz39_0
   try clear hcz39_1
   try clear hcz39_2
   try clear hcz40_0
   try clear hcz40_1
   try clear hcz40_2
   try clear hcz41_0
   try clear hcz41_1
   try clear hcz41_2
   try clear hcz56_0
   try clear hcz56_1
   try clear hcz56_2
   try clear hcz61_0
   try clear hcz61_1
   try clear hcz61_2
   try clear hcz62_0
   try clear hcz62_1
   try clear hcz62_2
   try clear hcz63_0
   try clear hcz63_1
   try clear hcz63_2
   try clear hcz64_0
   try clear hcz64_1
   try clear hcz64_2
   try clear hcz6_0
   try clear hcz6_1
   try clear hcz6_2
   try clear hcz8_0
   try clear hcz8_1
   try clear hcz8_2
   try clear hfz13_0
   try clear hfz13_1
   try clear hfz13_2
   try clear hfz15_0
   try clear hfz15_1
   try clear hfz15_2
   try clear hfz20_0
   try clear hfz20_1
   try clear hfz20_2
   try clear hfz22_0
   try clear hfz22_1
   try clear hfz22_2
   try clear hfz26_0
   try clear hfz26_1
   try clear hfz26_2
   try clear hfz28_0
   try clear hfz28_1
   try clear hfz28_2
   try clear hfz33_0
   try clear hfz33_1
   try clear hfz33_2
   try clear hfz38_0
   try clear hfz38_1
   try clear hfz38_2
   try clear hfz39_0
   try clear hfz39_1
   try clear hfz39_2
   try clear hfz40_0
   try clear hfz40_1
   try clear hfz40_2
   try clear hfz41_0
   try clear hfz41_1
   try clear hfz41_2
   try clear hfz56_0
   try clear hfz56_1
   try clear hfz56_2
   try clear hfz61_0
   try clear hfz61_1
   try clear hfz61_2
   try clear hfz62_0
   try clear hfz62_1
   try clear hfz62_2
   try clear hfz63_0
   try clear hfz63_1
   try clear hfz63_2
   try clear hfz64_0
   try clear hfz64_1
   try clear hfz64_2
   try clear hfz6_0
   try clear hfz6_1
   try clear hfz6_2
   try clear hfz8_0
   try clear hfz8_1
   try clear hfz8_2
   try clear hx246_0
   try clear hx246_1
   try clear hx246_2
   try clear p2
   try clear p246
   try clear q246
   obtain ⟨kq,x117_53,rfl,HA,HJ53,HO_8,BK239,HB⟩:=hcut
   cases kq with
   | zero => exact absurd HA.out (by simp [spec_l01OK.j2])
   | succ kj53 =>
    have H:=HA.out;clear HA;simp only [spec_l01OK.j2] at H
    by_cases c65 : x117_53=true
    ·
     subst c65
     have H1 : (some false)=some r:=by rw [if_pos rfl] at H;exact H
     clear H;have H:=H1;clear H1;obtain rfl:=zU H
     go_wp2
     go_ret
     exact ⟨by first|rfl|(simp [yt,yu] <;> rfl)|(simp [*,yt,yu] <;> rfl),by repeat (with_reducible first|exact HB.out|apply za|apply zb|apply zc|refine zd ?_ GE239.out)⟩
    replace c65:=yb.mpr c65;subst c65;have H1 : (spec_l01OK.l1 kj53 a1 t248 0)=some r:=by rw [if_neg (show ¬ (false=true) by decide)] at H;exact H
    clear H;have H:=H1;clear H1;have H':=zh H;clear H
    go_wp2
    go_loopg [10] kj53 (fun kq v10 w' => ∃ (x10_2 : Int),v10 = .int .i64 x10_2∧Aside0 (spec_l01OK.l1 kq a1 t248 x10_2=some r)∧Aside0 (kq≤kj53)∧Aside0 (Kd.R k92 92 w' w.heap.size (fun _ => True) v250 t248)∧Aside0 (w'.heap[gb239]? = some (.cells #[.int .i64 a0_0,.int .i64 a0_1,.string a0_2] 39 (0,0)))∧Aside0 (Below w.heap.size w w'))
    case atStart => exact ⟨(0),(by first|rfl|(simp;done)|(simp [*];done)),H',⟨ye _⟩,⟨by (with_reducible repeat (first|apply zm|apply zn|apply zo));exact HO_8.out⟩,⟨by (with_reducible repeat (first|refine ze ?_ _|refine zf ?_|refine zg ?_ _));exact BK239.out⟩,⟨by repeat (with_reducible first|exact HB.out|apply za|apply zb|apply zc|refine zd ?_ GE239.out)⟩⟩
    case round =>
     clear H'
     try clear c1
     try clear c2
     try clear p2
     try clear q2
     try clear hx2
     try clear c3
     try clear c3b0
     try clear c3b1
     try clear c4
     try clear c4b0
     try clear c4b1
     try clear c5
     try clear c6
     try clear p6
     try clear c9
     try clear c9b0
     try clear c9b1
     try clear c11
     try clear c16
     try clear c16b0
     try clear c16b1
     try clear c18
     try clear c23
     try clear c23b0
     try clear c23b1
     try clear c24
     try clear c24b0
     try clear c24b1
     try clear p24
     try clear q24
     try clear hx24
     try clear c29
     try clear c29b0
     try clear c29b1
     try clear c35
     try clear c35b0
     try clear c35b1
     try clear c36
     try clear c37
     try clear c37b0
     try clear c37b1
     try clear c42
     try clear c43
     try clear c43b0
     try clear c44
     try clear c44b0
     try clear c46
     try clear c52
     try clear c52b0
     try clear c52b1
     try clear c54
     try clear c58
     try clear c58b0
     try clear c58b1
     try clear c59
     try clear c60
     try clear c60b0
     try clear c60b1
     try clear p64
     try clear c65
     try clear hcz13_0
     try clear hcz13_1
     try clear hcz13_2
     try clear hcz15_0
     try clear hcz15_1
     try clear hcz15_2
     try clear hcz20_0
     try clear hcz20_1
     try clear hcz20_2
     try clear hcz22_0
     try clear hcz22_1
     try clear hcz22_2
     try clear hcz26_0
     try clear hcz26_1
     try clear hcz26_2
     try clear hcz28_0
     try clear hcz28_1
     try clear hcz28_2
     try clear hcz33_0
     try clear hcz33_1
     try clear hcz33_2
     try clear hcz38_0
     try clear hcz38_1
     try clear hcz38_2
     try clear hcz39_0
     try clear hcz39_1
     try clear hcz39_2
     try clear hcz40_0
     try clear hcz40_1
     try clear hcz40_2
     try clear hcz41_0
     try clear hcz41_1
     try clear hcz41_2
     try clear hcz56_0
     try clear hcz56_1
     try clear hcz56_2
     try clear hcz61_0
     try clear hcz61_1
     try clear hcz61_2
     try clear hcz62_0
     try clear hcz62_1
     try clear hcz62_2
     try clear hcz63_0
     try clear hcz63_1
     try clear hcz63_2
     try clear hcz64_0
     try clear hcz64_1
     try clear hcz64_2
     try clear hcz6_0
     try clear hcz6_1
     try clear hcz6_2
     try clear hcz8_0
     try clear hcz8_1
     try clear hcz8_2
     try clear hfz13_0
     try clear hfz13_1
     try clear hfz13_2
     try clear hfz15_0
     try clear hfz15_1
     try clear hfz15_2
     try clear hfz20_0
     try clear hfz20_1
     try clear hfz20_2
     try clear hfz22_0
     try clear hfz22_1
     try clear hfz22_2
     try clear hfz26_0
     try clear hfz26_1
     try clear hfz26_2
     try clear hfz28_0
     try clear hfz28_1
     try clear hfz28_2
     try clear hfz33_0
     try clear hfz33_1
     try clear hfz33_2
     try clear hfz38_0
     try clear hfz38_1
     try clear hfz38_2
     try clear hfz39_0
     try clear hfz39_1
     try clear hfz39_2
     try clear hfz40_0
     try clear hfz40_1
     try clear hfz40_2
     try clear hfz41_0
     try clear hfz41_1
     try clear hfz41_2
     try clear hfz56_0
     try clear hfz56_1
     try clear hfz56_2
     try clear hfz61_0
     try clear hfz61_1
     try clear hfz61_2
     try clear hfz62_0
     try clear hfz62_1
     try clear hfz62_2
     try clear hfz63_0
     try clear hfz63_1
     try clear hfz63_2
     try clear hfz64_0
     try clear hfz64_1
     try clear hfz64_2
     try clear hfz6_0
     try clear hfz6_1
     try clear hfz6_2
     try clear hfz8_0
     try clear hfz8_1
     try clear hfz8_2
     try clear hx246_0
     try clear hx246_1
     try clear hx246_2
     try clear p2
     try clear p24
     try clear p246
     try clear p6
     try clear p64
     try clear q2
     try clear q24
     try clear q246
     obtain ⟨x10_2,rfl,HA,HK2,HO_8,BK239,HB⟩:=hrel
     cases gk with
     | zero => exact absurd HA.out (by simp [spec_l01OK.l1])
     | succ k2 =>
      have H:=HA.out;clear HA;simp only [spec_l01OK.l1] at H
      by_cases c66 : x10_2<(t248.length : Int)
      ·
       rw [if_pos c66] at H
       have c66b0 : decide (x10_2<(t248.length : Int))=true:=decide_eq_true c66;clear c66
       by_cases c67 : 0≤x10_2
       ·
        rw [if_pos c67] at H
        have c67b0 : decide (0≤x10_2)=true:=decide_eq_true c67;clear c67;replace H:=zT.mp H;obtain ⟨t253,A680,H⟩:=H;replace H : (if t253=true then (if x10_2 > 0 then (if 0≤(wrap64 (x10_2 - 1)) then (if (wrap64 (x10_2 - 1))<(t248.length : Int) then (if ((Op.bytesLess (((rd_T92 t248 (wrap64 (x10_2 - 1))).f0).toList) (((rd_T92 t248 x10_2).f0).toList))=true) then ((spec_l01OK.f k2 ((rd_T92 t248 x10_2).f1.f0) ((rd_T92 t248 x10_2).f1.f1) ((rd_T92 t248 x10_2).f1.f2) (wrap64 (a1 - 1))).bind fun t257 => (if t257=true then (spec_l01OK.l1 k2 a1 t248 (wrap64 (x10_2 + 1))) else (some false))) else (some false)) else (none)) else (none)) else ((spec_l01OK.f k2 ((rd_T92 t248 x10_2).f1.f0) ((rd_T92 t248 x10_2).f1.f1) ((rd_T92 t248 x10_2).f1.f2) (wrap64 (a1 - 1))).bind fun t259 => (if t259=true then (spec_l01OK.l1 k2 a1 t248 (wrap64 (x10_2 + 1))) else (some false)))) else (some false))=some r:=H;have A68:=zh A680;clear A680
        by_cases c69 : t253=true
        ·
         subst c69
         have H1 : (if x10_2 > 0 then (if 0≤(wrap64 (x10_2 - 1)) then (if (wrap64 (x10_2 - 1))<(t248.length : Int) then (if ((Op.bytesLess (((rd_T92 t248 (wrap64 (x10_2 - 1))).f0).toList) (((rd_T92 t248 x10_2).f0).toList))=true) then ((spec_l01OK.f k2 ((rd_T92 t248 x10_2).f1.f0) ((rd_T92 t248 x10_2).f1.f1) ((rd_T92 t248 x10_2).f1.f2) (wrap64 (a1 - 1))).bind fun t257 => (if t257=true then (spec_l01OK.l1 k2 a1 t248 (wrap64 (x10_2 + 1))) else (some false))) else (some false)) else (none)) else (none)) else ((spec_l01OK.f k2 ((rd_T92 t248 x10_2).f1.f0) ((rd_T92 t248 x10_2).f1.f1) ((rd_T92 t248 x10_2).f1.f2) (wrap64 (a1 - 1))).bind fun t259 => (if t259=true then (spec_l01OK.l1 k2 a1 t248 (wrap64 (x10_2 + 1))) else (some false))))=some r:=by rw [if_pos rfl] at H;exact H
         clear H;have H:=H1;clear H1
         by_cases c70 : x10_2 > 0
         ·
          rw [if_pos c70] at H
          have c70b0 : decide (0<x10_2)=true:=decide_eq_true c70;clear c70;obtain ⟨ji71,hji71⟩ : ∃ j_ : Int,(wrap64 (x10_2 - 1))=j_:=⟨_,rfl⟩;replace H : (if 0≤(ji71) then (if (ji71)<(t248.length : Int) then (if ((Op.bytesLess (((rd_T92 t248 (ji71)).f0).toList) (((rd_T92 t248 x10_2).f0).toList))=true) then ((spec_l01OK.f k2 ((rd_T92 t248 x10_2).f1.f0) ((rd_T92 t248 x10_2).f1.f1) ((rd_T92 t248 x10_2).f1.f2) (wrap64 (a1 - 1))).bind fun t257 => (if t257=true then (spec_l01OK.l1 k2 a1 t248 (wrap64 (x10_2 + 1))) else (some false))) else (some false)) else (none)) else (none))=some r:=by first|(rw [hji71] at H;exact H)|(simp only [hji71] at H ⊢;exact H)
          (try rw [hji71] at A68);have hji71w : (IntKind.i64.wrap (x10_2 - 1))=ji71:=(zG _).trans hji71
          by_cases c72 : 0≤(ji71)
          ·
           rw [if_pos c72] at H
           have c72b0 : decide (0≤(ji71))=true:=decide_eq_true c72;clear c72
           by_cases c73 : (ji71)<(t248.length : Int)
           ·
            rw [if_pos c73] at H
            have c73b0 : decide ((ji71)<(t248.length : Int))=true:=decide_eq_true c73;clear c73
            by_cases c74 : ((Op.bytesLess (((rd_T92 t248 (ji71)).f0).toList) (((rd_T92 t248 x10_2).f0).toList))=true)
            ·
             rw [if_pos c74] at H
             have c74b0 : (Op.bytesLess (((rd_T92 t248 (ji71)).f0).toList) (((rd_T92 t248 x10_2).f0).toList))=true:=c74;clear c74;replace H:=zT.mp H;obtain ⟨t257,A750,H⟩:=H;replace H : (if t257=true then (spec_l01OK.l1 k2 a1 t248 (wrap64 (x10_2 + 1))) else (some false))=some r:=H;have A75:=zh A750;clear A750
             by_cases c76 : t257=true
             ·
              subst c76
              have H1 : (spec_l01OK.l1 k2 a1 t248 (wrap64 (x10_2 + 1)))=some r:=by rw [if_pos rfl] at H;exact H
              clear H;have H:=H1;clear H1;have H':=zh H;clear H;obtain ⟨Ao77,co77,eo77⟩:=yk HO_8.out;subst eo77
              try go_wp2
              replace HO_8:=zh (zo HO_8.out);replace BK239:=zh (zf BK239.out);replace HB:=zh (zc HB.out);have p252 : 0≤(x10_2 : Int):=zy (by first|(with_reducible assumption)|assumption);have q252 : x10_2<(t248.length : Int):=zy (by first|(with_reducible assumption)|assumption);obtain ⟨ad252,e252,hx252_0,hx252_1,hx252_2,hx252_3⟩:=at_T92 (yh HO_8.out).2.2 x10_2 p252 q252
              cases e252
              replace p252:=eq_true p252;replace q252:=eq_true q252;have p254 : 0≤((ji71) : Int):=zy (by first|(with_reducible assumption)|assumption);have q254 : (ji71)<(t248.length : Int):=zy (by first|(with_reducible assumption)|assumption);obtain ⟨ad254,e254,hx254_0,hx254_1,hx254_2,hx254_3⟩:=at_T92 (yh HO_8.out).2.2 (ji71) p254 q254;obtain rfl : ad252=ad254:=(by injection e254);replace p254:=eq_true p254;replace q254:=eq_true q254;have p255 : 0≤(x10_2 : Int):=zy (by first|(with_reducible assumption)|assumption);have q255 : x10_2<(t248.length : Int):=zy (by first|(with_reducible assumption)|assumption);obtain ⟨ad255,e255,hx255_0,hx255_1,hx255_2,hx255_3⟩:=at_T92 (yh HO_8.out).2.2 x10_2 p255 q255;obtain rfl : ad252=ad255:=(by injection e255);replace p255:=eq_true p255;replace q255:=eq_true q255;have p256 : 0≤(x10_2 : Int):=zy (by first|(with_reducible assumption)|assumption);have q256 : x10_2<(t248.length : Int):=zy (by first|(with_reducible assumption)|assumption);obtain ⟨ad256,e256,hx256_0,hx256_1,hx256_2,hx256_3⟩:=at_T92 (yh HO_8.out).2.2 x10_2 p256 q256;obtain rfl : ad252=ad256:=(by injection e256);replace p256:=eq_true p256;replace q256:=eq_true q256;refine start_ (n:=36) (S:=fun w' => w'.cell? (ad252.add ((x10_2).toNat * 4))=some (.string ((rd_T92 t248 x10_2).f0))∧w'.cell? ⟨(ad252.add ((x10_2).toNat * 4)).block,(ad252.add ((x10_2).toNat * 4)).off + 1,none⟩=some (.int .i64 ((rd_T92 t248 x10_2).f1.f0))∧w'.cell? ⟨(ad252.add ((x10_2).toNat * 4)).block,(ad252.add ((x10_2).toNat * 4)).off + 2,none⟩=some (.int .i64 ((rd_T92 t248 x10_2).f1.f1))∧w'.cell? ⟨(ad252.add ((x10_2).toNat * 4)).block,(ad252.add ((x10_2).toNat * 4)).off + 3,none⟩=some (.string ((rd_T92 t248 x10_2).f1.f2))∧w'.cell? (ad252.add (((ji71)).toNat * 4))=some (.string ((rd_T92 t248 (ji71)).f0))∧w'.cell? ⟨(ad252.add (((ji71)).toNat * 4)).block,(ad252.add (((ji71)).toNat * 4)).off + 1,none⟩=some (.int .i64 ((rd_T92 t248 (ji71)).f1.f0))∧w'.cell? ⟨(ad252.add (((ji71)).toNat * 4)).block,(ad252.add (((ji71)).toNat * 4)).off + 2,none⟩=some (.int .i64 ((rd_T92 t248 (ji71)).f1.f1))∧w'.cell? ⟨(ad252.add (((ji71)).toNat * 4)).block,(ad252.add (((ji71)).toNat * 4)).off + 3,none⟩=some (.string ((rd_T92 t248 (ji71)).f1.f2))∧w'.cell? (ad252.add ((x10_2).toNat * 4))=some (.string ((rd_T92 t248 x10_2).f0))∧w'.cell? ⟨(ad252.add ((x10_2).toNat * 4)).block,(ad252.add ((x10_2).toNat * 4)).off + 1,none⟩=some (.int .i64 ((rd_T92 t248 x10_2).f1.f0))∧w'.cell? ⟨(ad252.add ((x10_2).toNat * 4)).block,(ad252.add ((x10_2).toNat * 4)).off + 2,none⟩=some (.int .i64 ((rd_T92 t248 x10_2).f1.f1))∧w'.cell? ⟨(ad252.add ((x10_2).toNat * 4)).block,(ad252.add ((x10_2).toNat * 4)).off + 3,none⟩=some (.string ((rd_T92 t248 x10_2).f1.f2))∧w'.cell? (ad252.add ((x10_2).toNat * 4))=some (.string ((rd_T92 t248 x10_2).f0))∧w'.cell? ⟨(ad252.add ((x10_2).toNat * 4)).block,(ad252.add ((x10_2).toNat * 4)).off + 1,none⟩=some (.int .i64 ((rd_T92 t248 x10_2).f1.f0))∧w'.cell? ⟨(ad252.add ((x10_2).toNat * 4)).block,(ad252.add ((x10_2).toNat * 4)).off + 2,none⟩=some (.int .i64 ((rd_T92 t248 x10_2).f1.f1))∧w'.cell? ⟨(ad252.add ((x10_2).toNat * 4)).block,(ad252.add ((x10_2).toNat * 4)).off + 3,none⟩=some (.string ((rd_T92 t248 x10_2).f1.f2))) (ds:=[]) (bm_ 0 36) (by kernel_rfl) rfl rfl ⟨hx252_0,hx252_1,hx252_2,hx252_3,hx254_0,hx254_1,hx254_2,hx254_3,hx255_0,hx255_1,hx255_2,hx255_3,hx256_0,hx256_1,hx256_2,hx256_3⟩ (fun hHeld => ?_);refine with_tabW spec_l01OK.tab27 spec_l01OK.bits27 (fun HT_ HW_ => ?_);generalize wr.drew=w78 at HO_8 BK239 HB hx252_0 hx252_1 hx252_2 hx252_3 hx254_0 hx254_1 hx254_2 hx254_3 hx255_0 hx255_1 hx255_2 hx255_3 hx256_0 hx256_1 hx256_2 hx256_3 hHeld ⊢;refine pure_ (i:=0) (N:=some 124) (v:=?_) (a':=?_) (bm_ 1 36) rfl rfl (any_of HT_.out (by kernel_rfl)) (fun _ _ _ h => h) (Or.inl ⟨by rfl,?_⟩) ?_ ?_;rotate_left
              ·
               intro w'
               go_simp
               with_reducible rfl
              rotate_left
              ·
               simp only [Act.put,zi,zj,zk,zG,zH]
               rfl
              refine pure_ (i:=1) (N:=some 125) (v:=?_) (a':=?_) (bm_ 2 36) rfl rfl (any_of HT_.out (by kernel_rfl)) (fun _ _ _ h => h) (Or.inl ⟨by rfl,?_⟩) ?_ ?_;rotate_left
              ·
               intro w'
               go_simp
               with_reducible rfl
              rotate_left
              ·
               simp only [Act.put,zi,zj,zk,zG,zH]
               rfl
              refine pure_ (i:=2) (N:=some 126) (v:=?_) (a':=?_) (bm_ 3 36) rfl rfl (any_of HT_.out (by kernel_rfl)) (fun _ _ _ h => h) (Or.inl ⟨by rfl,?_⟩) ?_ ?_;rotate_left
              ·
               intro w'
               go_simp
               with_reducible rfl
              rotate_left
              ·
               simp only [Act.put,zi,zj,zk,zG,zH]
               rfl
              refine pure_ (i:=3) (N:=some 127) (v:=?_) (a':=?_) (bm_ 4 36) rfl rfl (any_of HT_.out (by kernel_rfl)) (fun _ _ _ h => h) (Or.inl ⟨by rfl,?_⟩) ?_ ?_;rotate_left
              ·
               intro w'
               go_simp
               with_reducible rfl
              rotate_left
              ·
               simp only [Act.put,zi,zj,zk,zG,zH]
               rfl
              refine take_ (i:=4) (N:=some 128) (v:=?_) (a':=?_) (bm_ 5 36) rfl rfl (yo HT_.out HW_.out (by kernel_rfl)) (fun _ _ _ h => h) (Or.inl ⟨by rfl,?_⟩) hHeld ?_ ?_;rotate_left
              ·
               rintro w' ⟨s0,s1,s2,s3,s4,s5,s6,s7,s8,s9,s10,s11,s12,s13,s14,s15⟩
               go_simp
               with_reducible rfl
              rotate_left
              ·
               simp only [Act.put,zi,zj,zk,zG,zH]
               rfl
              refine one_ (i:=5) (N:=some 129) (bm_ 6 36) rfl rfl (one_of HT_.out (by kernel_rfl)) (by decide) (fun K hK => ?_);refine goes_ Tryd.func28 (by kernel_rfl) rfl #[.string ((rd_T92 t248 x10_2).f0)] (by rfl) rfl rfl (by (try simp only [zt,zu,zv]);first|done|rfl|(simp only [zw,zx];rfl)|(simp only [yr,ys,zV,zW];rfl)) ?_
              with_reducible refine (spec_l01Name.calls k2  ((rd_T92 t248 x10_2).f0) true _ A68.out).mono ?_
              rintro e w' ⟨rfl,⟨nd,rfl⟩⟩;refine ⟨_,rfl,?_⟩;refine hK.out _ _ ⟨hHeld.1,hHeld.2.1,hHeld.2.2.1,hHeld.2.2.2.1,hHeld.2.2.2.2.1,hHeld.2.2.2.2.2.1,hHeld.2.2.2.2.2.2.1,hHeld.2.2.2.2.2.2.2.1,hHeld.2.2.2.2.2.2.2.2.1,hHeld.2.2.2.2.2.2.2.2.2.1,hHeld.2.2.2.2.2.2.2.2.2.2.1,hHeld.2.2.2.2.2.2.2.2.2.2.2.1,hHeld.2.2.2.2.2.2.2.2.2.2.2.2.1,hHeld.2.2.2.2.2.2.2.2.2.2.2.2.2.1,hHeld.2.2.2.2.2.2.2.2.2.2.2.2.2.2.1,hHeld.2.2.2.2.2.2.2.2.2.2.2.2.2.2.2⟩ (fun hHeld => ?_);clear hK K;refine norm_ (a':=?_) ?_ ?_;rotate_left
              ·
               show Act.put _ (some 129) _=_
               simp only [Act.put,zi,zj,zk,zG,zH]
               rfl
              refine pure_ (i:=6) (N:=some 130) (v:=?_) (a':=?_) (bm_ 7 36) rfl rfl (any_of HT_.out (by kernel_rfl)) (fun _ _ _ h => h) (Or.inl ⟨by rfl,?_⟩) ?_ ?_;rotate_left
              ·
               intro w'
               go_simp
               with_reducible rfl
              rotate_left
              ·
               simp only [Act.put,zi,zj,zk,zG,zH]
               rfl
              refine pure_ (i:=7) (N:=some 131) (v:=?_) (a':=?_) (bm_ 8 36) rfl rfl (any_of HT_.out (by kernel_rfl)) (fun _ _ _ h => h) (Or.inl ⟨by rfl,?_⟩) ?_ ?_;rotate_left
              ·
               intro w'
               go_simp
               with_reducible rfl
              rotate_left
              ·
               simp only [Act.put,zi,zj,zk,zG,zH]
               rfl
              refine pure_ (i:=8) (N:=some 132) (v:=?_) (a':=?_) (bm_ 9 36) rfl rfl (any_of HT_.out (by kernel_rfl)) (fun _ _ _ h => h) (Or.inl ⟨by rfl,?_⟩) ?_ ?_;rotate_left
              ·
               intro w'
               go_simp
               with_reducible rfl
              rotate_left
              ·
               simp only [Act.put,zi,zj,zk,zG,zH]
               rfl
              refine pure_ (i:=9) (N:=some 133) (v:=?_) (a':=?_) (bm_ 10 36) rfl rfl (any_of HT_.out (by kernel_rfl)) (fun _ _ _ h => h) (Or.inl ⟨by rfl,?_⟩) ?_ ?_;rotate_left
              ·
               intro w'
               go_simp
               with_reducible rfl
              rotate_left
              ·
               simp only [Act.put,zi,zj,zk,zG,zH]
               rfl
              refine pure_ (i:=10) (N:=some 134) (v:=?_) (a':=?_) (bm_ 11 36) rfl rfl (any_of HT_.out (by kernel_rfl)) (fun _ _ _ h => h) (Or.inl ⟨by rfl,?_⟩) ?_ ?_;rotate_left
              ·
               intro w'
               go_simp
               with_reducible rfl
              rotate_left
              ·
               simp only [Act.put,zi,zj,zk,zG,zH]
               rfl
              refine pure_ (i:=11) (N:=some 135) (v:=?_) (a':=?_) (bm_ 12 36) rfl rfl (any_of HT_.out (by kernel_rfl)) (fun _ _ _ h => h) (Or.inl ⟨by rfl,?_⟩) ?_ ?_;rotate_left
              ·
               intro w'
               go_simp
               with_reducible rfl
              rotate_left
              ·
               simp only [Act.put,zi,zj,zk,zG,zH]
               rfl
              refine pure_ (i:=12) (N:=some 136) (v:=?_) (a':=?_) (bm_ 13 36) rfl rfl (any_of HT_.out (by kernel_rfl)) (fun _ _ _ h => h) (Or.inl ⟨by rfl,?_⟩) ?_ ?_;rotate_left
              ·
               intro w'
               go_simp
               with_reducible rfl
              rotate_left
              ·
               simp only [Act.put,zi,zj,zk,zG,zH]
               rfl
              refine pure_ (i:=13) (N:=some 137) (v:=?_) (a':=?_) (bm_ 14 36) rfl rfl (any_of HT_.out (by kernel_rfl)) (fun _ _ _ h => h) (Or.inl ⟨by rfl,?_⟩) ?_ ?_;rotate_left
              ·
               intro w'
               go_simp
               with_reducible rfl
              rotate_left
              ·
               simp only [Act.put,zi,zj,zk,zG,zH]
               rfl
              refine pure_ (i:=14) (N:=some 138) (v:=?_) (a':=?_) (bm_ 15 36) rfl rfl (any_of HT_.out (by kernel_rfl)) (fun _ _ _ h => h) (Or.inl ⟨by rfl,?_⟩) ?_ ?_;rotate_left
              ·
               intro w'
               go_simp
               with_reducible rfl
              rotate_left
              ·
               simp only [Act.put,zi,zj,zk,zG,zH]
               rfl
              refine pure_ (i:=15) (N:=some 139) (v:=?_) (a':=?_) (bm_ 16 36) rfl rfl (any_of HT_.out (by kernel_rfl)) (fun _ _ _ h => h) (Or.inl ⟨by rfl,?_⟩) ?_ ?_;rotate_left
              ·
               intro w'
               go_simp
               with_reducible rfl
              rotate_left
              ·
               simp only [Act.put,zi,zj,zk,zG,zH]
               rfl
              refine pure_ (i:=17) (N:=some 141) (v:=?_) (a':=?_) #[true,true,true,true,true,true,true,true,true,true,true,true,true,true,true,true,false,true,false,false,false,false,false,false,false,false,false,false,false,false,false,false,false,false,false,false] rfl rfl (any_of HT_.out (by kernel_rfl)) (fun _ _ _ h => h) (Or.inl ⟨by rfl,?_⟩) ?_ ?_;rotate_left
              ·
               intro w'
               go_simp
               with_reducible rfl
              rotate_left
              ·
               simp only [Act.put,zi,zj,zk,zG,zH]
               rfl
              refine pure_ (i:=18) (N:=some 142) (v:=?_) (a':=?_) #[true,true,true,true,true,true,true,true,true,true,true,true,true,true,true,true,false,true,true,false,false,false,false,false,false,false,false,false,false,false,false,false,false,false,false,false] rfl rfl (any_of HT_.out (by kernel_rfl)) (fun _ _ _ h => h) (Or.inl ⟨by rfl,?_⟩) ?_ ?_;rotate_left
              ·
               intro w'
               go_simp
               with_reducible rfl
              rotate_left
              ·
               simp only [Act.put,zi,zj,zk,zG,zH]
               rfl
              refine pure_ (i:=19) (N:=some 143) (v:=?_) (a':=?_) #[true,true,true,true,true,true,true,true,true,true,true,true,true,true,true,true,false,true,true,true,false,false,false,false,false,false,false,false,false,false,false,false,false,false,false,false] rfl rfl (any_of HT_.out (by kernel_rfl)) (fun _ _ _ h => h) (Or.inl ⟨by rfl,?_⟩) ?_ ?_;rotate_left
              ·
               intro w'
               go_simp
               with_reducible rfl
              rotate_left
              ·
               simp only [Act.put,zi,zj,zk,zG,zH]
               rfl
              refine pure_ (i:=20) (N:=some 144) (v:=?_) (a':=?_) #[true,true,true,true,true,true,true,true,true,true,true,true,true,true,true,true,false,true,true,true,true,false,false,false,false,false,false,false,false,false,false,false,false,false,false,false] rfl rfl (any_of HT_.out (by kernel_rfl)) (fun _ _ _ h => h) (Or.inl ⟨by rfl,?_⟩) ?_ ?_;rotate_left
              ·
               intro w'
               go_simp
               with_reducible rfl
              rotate_left
              ·
               simp only [Act.put,zi,zj,zk,zG,zH]
               rfl
              refine take_ (i:=16) (N:=some 140) (v:=?_) (a':=?_) (bm_ 21 36) rfl rfl (yo HT_.out HW_.out (by kernel_rfl)) (fun _ _ _ h => h) (Or.inl ⟨by rfl,?_⟩) hHeld ?_ ?_;rotate_left
              ·
               rintro w' ⟨s0,s1,s2,s3,s4,s5,s6,s7,s8,s9,s10,s11,s12,s13,s14,s15⟩
               go_simp
               with_reducible rfl
              rotate_left
              ·
               simp only [Act.put,zi,zj,zk,zG,zH]
               rfl
              refine take_ (i:=21) (N:=some 145) (v:=?_) (a':=?_) (bm_ 22 36) rfl rfl (yo HT_.out HW_.out (by kernel_rfl)) (fun _ _ _ h => h) (Or.inl ⟨by rfl,?_⟩) hHeld ?_ ?_;rotate_left
              ·
               rintro w' ⟨s0,s1,s2,s3,s4,s5,s6,s7,s8,s9,s10,s11,s12,s13,s14,s15⟩
               go_simp
               with_reducible rfl
              rotate_left
              ·
               simp only [Act.put,zi,zj,zk,zG,zH]
               rfl
              refine pure_ (i:=22) (N:=some 146) (v:=?_) (a':=?_) (bm_ 23 36) rfl rfl (any_of HT_.out (by kernel_rfl)) (fun _ _ _ h => h) (Or.inl ⟨by rfl,?_⟩) ?_ ?_;rotate_left
              ·
               intro w'
               go_simp
               with_reducible rfl
              rotate_left
              ·
               simp only [Act.put,zi,zj,zk,zG,zH]
               rfl
              refine pure_ (i:=23) (N:=some 147) (v:=?_) (a':=?_) (bm_ 24 36) rfl rfl (any_of HT_.out (by kernel_rfl)) (fun _ _ _ h => h) (Or.inl ⟨by rfl,?_⟩) ?_ ?_;rotate_left
              ·
               intro w'
               go_simp
               with_reducible rfl
              rotate_left
              ·
               simp only [Act.put,zi,zj,zk,zG,zH]
               rfl
              refine pure_ (i:=24) (N:=some 148) (v:=?_) (a':=?_) (bm_ 25 36) rfl rfl (any_of HT_.out (by kernel_rfl)) (fun _ _ _ h => h) (Or.inl ⟨by rfl,?_⟩) ?_ ?_;rotate_left
              ·
               intro w'
               go_simp
               with_reducible rfl
              rotate_left
              ·
               simp only [Act.put,zi,zj,zk,zG,zH]
               rfl
              refine pure_ (i:=25) (N:=some 149) (v:=?_) (a':=?_) (bm_ 26 36) rfl rfl (any_of HT_.out (by kernel_rfl)) (fun _ _ _ h => h) (Or.inl ⟨by rfl,?_⟩) ?_ ?_;rotate_left
              ·
               intro w'
               go_simp
               with_reducible rfl
              rotate_left
              ·
               simp only [Act.put,zi,zj,zk,zG,zH]
               rfl
              refine pure_ (i:=26) (N:=some 150) (v:=?_) (a':=?_) (bm_ 27 36) rfl rfl (any_of HT_.out (by kernel_rfl)) (fun _ _ _ h => h) (Or.inl ⟨by rfl,?_⟩) ?_ ?_;rotate_left
              ·
               intro w'
               go_simp
               with_reducible rfl
              rotate_left
              ·
               simp only [Act.put,zi,zj,zk,zG,zH]
               rfl
              refine pure_ (i:=27) (N:=some 151) (v:=?_) (a':=?_) (bm_ 28 36) rfl rfl (any_of HT_.out (by kernel_rfl)) (fun _ _ _ h => h) (Or.inl ⟨by rfl,?_⟩) ?_ ?_;rotate_left
              ·
               intro w'
               go_simp
               with_reducible rfl
              rotate_left
              ·
               simp only [Act.put,zi,zj,zk,zG,zH]
               rfl
              refine pure_ (i:=28) (N:=some 152) (v:=?_) (a':=?_) (bm_ 29 36) rfl rfl (any_of HT_.out (by kernel_rfl)) (fun _ _ _ h => h) (Or.inl ⟨by rfl,?_⟩) ?_ ?_;rotate_left
              ·
               intro w'
               go_simp
               with_reducible rfl
              rotate_left
              ·
               simp only [Act.put,zi,zj,zk,zG,zH]
               rfl
              refine pure_ (i:=29) (N:=some 153) (v:=?_) (a':=?_) (bm_ 30 36) rfl rfl (any_of HT_.out (by kernel_rfl)) (fun _ _ _ h => h) (Or.inl ⟨by rfl,?_⟩) ?_ ?_;rotate_left
              ·
               intro w'
               go_simp
               with_reducible rfl
              rotate_left
              ·
               simp only [Act.put,zi,zj,zk,zG,zH]
               rfl
              refine pure_ (i:=31) (N:=some 155) (v:=?_) (a':=?_) #[true,true,true,true,true,true,true,true,true,true,true,true,true,true,true,true,true,true,true,true,true,true,true,true,true,true,true,true,true,true,false,true,false,false,false,false] rfl rfl (any_of HT_.out (by kernel_rfl)) (fun _ _ _ h => h) (Or.inl ⟨by rfl,?_⟩) ?_ ?_;rotate_left
              ·
               intro w'
               go_simp
               with_reducible rfl
              rotate_left
              ·
               simp only [Act.put,zi,zj,zk,zG,zH]
               rfl
              refine pure_ (i:=32) (N:=some 156) (v:=?_) (a':=?_) #[true,true,true,true,true,true,true,true,true,true,true,true,true,true,true,true,true,true,true,true,true,true,true,true,true,true,true,true,true,true,false,true,true,false,false,false] rfl rfl (any_of HT_.out (by kernel_rfl)) (fun _ _ _ h => h) (Or.inl ⟨by rfl,?_⟩) ?_ ?_;rotate_left
              ·
               intro w'
               go_simp
               with_reducible rfl
              rotate_left
              ·
               simp only [Act.put,zi,zj,zk,zG,zH]
               rfl
              refine take_ (i:=30) (N:=some 154) (v:=?_) (a':=?_) (bm_ 33 36) rfl rfl (yo HT_.out HW_.out (by kernel_rfl)) (fun _ _ _ h => h) (Or.inl ⟨by rfl,?_⟩) hHeld ?_ ?_;rotate_left
              ·
               rintro w' ⟨s0,s1,s2,s3,s4,s5,s6,s7,s8,s9,s10,s11,s12,s13,s14,s15⟩
               go_simp
               with_reducible rfl
              rotate_left
              ·
               simp only [Act.put,zi,zj,zk,zG,zH]
               rfl
              refine one_ (i:=33) (N:=some 157) (bm_ 34 36) rfl rfl (one_of HT_.out (by kernel_rfl)) (by decide) (fun K hK => ?_);refine goes_ Tryd.func54 (by kernel_rfl) rfl #[.agg #[.int .i64 ((rd_T92 t248 x10_2).f1.f0),.int .i64 ((rd_T92 t248 x10_2).f1.f1),.string ((rd_T92 t248 x10_2).f1.f2)],.int .i64 (wrap64 (a1 - 1))] (by rfl) rfl rfl (by (try simp only [zt,zu,zv]);first|done|rfl|(simp only [zw,zx];rfl)|(simp only [yr,ys,zV,zW];rfl)) ?_
              with_reducible refine (ih k2 (by have:=HJ53.out;have:=HK2.out;omega)  ((rd_T92 t248 x10_2).f1.f0) ((rd_T92 t248 x10_2).f1.f1) ((rd_T92 t248 x10_2).f1.f2) (wrap64 (a1 - 1)) true _ A75.out).mono ?_
              rintro e w79 ⟨rfl,hb⟩;have HS0_:=(hb.cell (zl _ _ (hHeld.1))).trans (hHeld.1);have HS1_:=(hb.cell (zl _ _ (hHeld.2.1))).trans (hHeld.2.1);have HS2_:=(hb.cell (zl _ _ (hHeld.2.2.1))).trans (hHeld.2.2.1);have HS3_:=(hb.cell (zl _ _ (hHeld.2.2.2.1))).trans (hHeld.2.2.2.1);have HS4_:=(hb.cell (zl _ _ (hHeld.2.2.2.2.1))).trans (hHeld.2.2.2.2.1);have HS5_:=(hb.cell (zl _ _ (hHeld.2.2.2.2.2.1))).trans (hHeld.2.2.2.2.2.1);have HS6_:=(hb.cell (zl _ _ (hHeld.2.2.2.2.2.2.1))).trans (hHeld.2.2.2.2.2.2.1);have HS7_:=(hb.cell (zl _ _ (hHeld.2.2.2.2.2.2.2.1))).trans (hHeld.2.2.2.2.2.2.2.1);have HS8_:=(hb.cell (zl _ _ (hHeld.2.2.2.2.2.2.2.2.1))).trans (hHeld.2.2.2.2.2.2.2.2.1);have HS9_:=(hb.cell (zl _ _ (hHeld.2.2.2.2.2.2.2.2.2.1))).trans (hHeld.2.2.2.2.2.2.2.2.2.1);have HS10_:=(hb.cell (zl _ _ (hHeld.2.2.2.2.2.2.2.2.2.2.1))).trans (hHeld.2.2.2.2.2.2.2.2.2.2.1);have HS11_:=(hb.cell (zl _ _ (hHeld.2.2.2.2.2.2.2.2.2.2.2.1))).trans (hHeld.2.2.2.2.2.2.2.2.2.2.2.1);have HS12_:=(hb.cell (zl _ _ (hHeld.2.2.2.2.2.2.2.2.2.2.2.2.1))).trans (hHeld.2.2.2.2.2.2.2.2.2.2.2.2.1);have HS13_:=(hb.cell (zl _ _ (hHeld.2.2.2.2.2.2.2.2.2.2.2.2.2.1))).trans (hHeld.2.2.2.2.2.2.2.2.2.2.2.2.2.1);have HS14_:=(hb.cell (zl _ _ (hHeld.2.2.2.2.2.2.2.2.2.2.2.2.2.2.1))).trans (hHeld.2.2.2.2.2.2.2.2.2.2.2.2.2.2.1);have HS15_:=(hb.cell (zl _ _ (hHeld.2.2.2.2.2.2.2.2.2.2.2.2.2.2.2))).trans (hHeld.2.2.2.2.2.2.2.2.2.2.2.2.2.2.2);refine ⟨_,rfl,?_⟩;replace HO_8:=zh (yg (by (with_reducible repeat (first|apply zm|apply zn|apply zo));exact HO_8.out) hb);replace BK239:=zh (zD (g:=gb239) (o:=.cells #[.int .i64 a0_0,.int .i64 a0_1,.string a0_2] 39 (0,0)) (by (with_reducible repeat (first|refine ze ?_ _|refine zf ?_|refine zg ?_ _));exact BK239.out) hb);replace HB:=zh (zC (by repeat (with_reducible first|exact HB.out|apply za|apply zb|apply zc|refine zd ?_ GE239.out)) hb);(try clear hb);(try clear hb2);(try clear hk);(try clear hi);refine hK.out _ _ ⟨HS0_,HS1_,HS2_,HS3_,HS4_,HS5_,HS6_,HS7_,HS8_,HS9_,HS10_,HS11_,HS12_,HS13_,HS14_,HS15_⟩ (fun hHeld => ?_);clear hK K;refine norm_ (a':=?_) ?_ ?_;rotate_left
              ·
               show Act.put _ (some 157) _=_
               simp only [Act.put,zi,zj,zk,zG,zH]
               rfl
              refine pure_ (i:=34) (N:=some 158) (v:=?_) (a':=?_) (bm_ 35 36) rfl rfl (any_of HT_.out (by kernel_rfl)) (fun _ _ _ h => h) (Or.inl ⟨by rfl,?_⟩) ?_ ?_;rotate_left
              ·
               intro w'
               go_simp
               with_reducible rfl
              rotate_left
              ·
               simp only [Act.put,zi,zj,zk,zG,zH]
               rfl
              refine pure_ (i:=35) (N:=some 159) (v:=?_) (a':=?_) (bm_ 36 36) rfl rfl (any_of HT_.out (by kernel_rfl)) (fun _ _ _ h => h) (Or.inl ⟨by rfl,?_⟩) ?_ ?_;rotate_left
              ·
               intro w'
               go_simp
               with_reducible rfl
              rotate_left
              ·
               simp only [Act.put,zi,zj,zk,zG,zH]
               rfl
              refine done_ (done_of HT_.out (by kernel_rfl)) ?_
              try go_wp2
              go_roundg k2
              case measure => have:=HJ53.out;have:=HK2.out;omega
              case rel => exact ⟨(wrap64 (x10_2 + 1)),(by first|rfl|(simp;done)|(simp [*];done)),H',⟨by have:=HJ53.out;have:=HK2.out;omega⟩,⟨by (with_reducible repeat (first|apply zm|apply zn|apply zo));exact HO_8.out⟩,⟨by (with_reducible repeat (first|refine ze ?_ _|refine zf ?_|refine zg ?_ _));exact BK239.out⟩,⟨by repeat (with_reducible first|exact HB.out|apply za|apply zb|apply zc|refine zd ?_ GE239.out)⟩⟩
             replace c76:=yb.mpr c76;subst c76;have H1 : (some false)=some r:=by rw [if_neg (show ¬ (false=true) by decide)] at H;exact H
             clear H;have H:=H1;clear H1;obtain rfl:=zU H;obtain ⟨Ao80,co80,eo80⟩:=yk HO_8.out;subst eo80
             try go_wp2
             replace HO_8:=zh (zo HO_8.out);replace BK239:=zh (zf BK239.out);replace HB:=zh (zc HB.out);have p252 : 0≤(x10_2 : Int):=zy (by first|(with_reducible assumption)|assumption);have q252 : x10_2<(t248.length : Int):=zy (by first|(with_reducible assumption)|assumption);obtain ⟨ad252,e252,hx252_0,hx252_1,hx252_2,hx252_3⟩:=at_T92 (yh HO_8.out).2.2 x10_2 p252 q252
             cases e252
             replace p252:=eq_true p252;replace q252:=eq_true q252;have p254 : 0≤((ji71) : Int):=zy (by first|(with_reducible assumption)|assumption);have q254 : (ji71)<(t248.length : Int):=zy (by first|(with_reducible assumption)|assumption);obtain ⟨ad254,e254,hx254_0,hx254_1,hx254_2,hx254_3⟩:=at_T92 (yh HO_8.out).2.2 (ji71) p254 q254;obtain rfl : ad252=ad254:=(by injection e254);replace p254:=eq_true p254;replace q254:=eq_true q254;have p255 : 0≤(x10_2 : Int):=zy (by first|(with_reducible assumption)|assumption);have q255 : x10_2<(t248.length : Int):=zy (by first|(with_reducible assumption)|assumption);obtain ⟨ad255,e255,hx255_0,hx255_1,hx255_2,hx255_3⟩:=at_T92 (yh HO_8.out).2.2 x10_2 p255 q255;obtain rfl : ad252=ad255:=(by injection e255);replace p255:=eq_true p255;replace q255:=eq_true q255;have p256 : 0≤(x10_2 : Int):=zy (by first|(with_reducible assumption)|assumption);have q256 : x10_2<(t248.length : Int):=zy (by first|(with_reducible assumption)|assumption);obtain ⟨ad256,e256,hx256_0,hx256_1,hx256_2,hx256_3⟩:=at_T92 (yh HO_8.out).2.2 x10_2 p256 q256;obtain rfl : ad252=ad256:=(by injection e256);replace p256:=eq_true p256;replace q256:=eq_true q256;refine start_ (n:=36) (S:=fun w' => w'.cell? (ad252.add ((x10_2).toNat * 4))=some (.string ((rd_T92 t248 x10_2).f0))∧w'.cell? ⟨(ad252.add ((x10_2).toNat * 4)).block,(ad252.add ((x10_2).toNat * 4)).off + 1,none⟩=some (.int .i64 ((rd_T92 t248 x10_2).f1.f0))∧w'.cell? ⟨(ad252.add ((x10_2).toNat * 4)).block,(ad252.add ((x10_2).toNat * 4)).off + 2,none⟩=some (.int .i64 ((rd_T92 t248 x10_2).f1.f1))∧w'.cell? ⟨(ad252.add ((x10_2).toNat * 4)).block,(ad252.add ((x10_2).toNat * 4)).off + 3,none⟩=some (.string ((rd_T92 t248 x10_2).f1.f2))∧w'.cell? (ad252.add (((ji71)).toNat * 4))=some (.string ((rd_T92 t248 (ji71)).f0))∧w'.cell? ⟨(ad252.add (((ji71)).toNat * 4)).block,(ad252.add (((ji71)).toNat * 4)).off + 1,none⟩=some (.int .i64 ((rd_T92 t248 (ji71)).f1.f0))∧w'.cell? ⟨(ad252.add (((ji71)).toNat * 4)).block,(ad252.add (((ji71)).toNat * 4)).off + 2,none⟩=some (.int .i64 ((rd_T92 t248 (ji71)).f1.f1))∧w'.cell? ⟨(ad252.add (((ji71)).toNat * 4)).block,(ad252.add (((ji71)).toNat * 4)).off + 3,none⟩=some (.string ((rd_T92 t248 (ji71)).f1.f2))∧w'.cell? (ad252.add ((x10_2).toNat * 4))=some (.string ((rd_T92 t248 x10_2).f0))∧w'.cell? ⟨(ad252.add ((x10_2).toNat * 4)).block,(ad252.add ((x10_2).toNat * 4)).off + 1,none⟩=some (.int .i64 ((rd_T92 t248 x10_2).f1.f0))∧w'.cell? ⟨(ad252.add ((x10_2).toNat * 4)).block,(ad252.add ((x10_2).toNat * 4)).off + 2,none⟩=some (.int .i64 ((rd_T92 t248 x10_2).f1.f1))∧w'.cell? ⟨(ad252.add ((x10_2).toNat * 4)).block,(ad252.add ((x10_2).toNat * 4)).off + 3,none⟩=some (.string ((rd_T92 t248 x10_2).f1.f2))∧w'.cell? (ad252.add ((x10_2).toNat * 4))=some (.string ((rd_T92 t248 x10_2).f0))∧w'.cell? ⟨(ad252.add ((x10_2).toNat * 4)).block,(ad252.add ((x10_2).toNat * 4)).off + 1,none⟩=some (.int .i64 ((rd_T92 t248 x10_2).f1.f0))∧w'.cell? ⟨(ad252.add ((x10_2).toNat * 4)).block,(ad252.add ((x10_2).toNat * 4)).off + 2,none⟩=some (.int .i64 ((rd_T92 t248 x10_2).f1.f1))∧w'.cell? ⟨(ad252.add ((x10_2).toNat * 4)).block,(ad252.add ((x10_2).toNat * 4)).off + 3,none⟩=some (.string ((rd_T92 t248 x10_2).f1.f2))) (ds:=[]) (bm_ 0 36) (by kernel_rfl) rfl rfl ⟨hx252_0,hx252_1,hx252_2,hx252_3,hx254_0,hx254_1,hx254_2,hx254_3,hx255_0,hx255_1,hx255_2,hx255_3,hx256_0,hx256_1,hx256_2,hx256_3⟩ (fun hHeld => ?_);refine with_tabW spec_l01OK.tab27 spec_l01OK.bits27 (fun HT_ HW_ => ?_);generalize wr.drew=w81 at HO_8 BK239 HB hx252_0 hx252_1 hx252_2 hx252_3 hx254_0 hx254_1 hx254_2 hx254_3 hx255_0 hx255_1 hx255_2 hx255_3 hx256_0 hx256_1 hx256_2 hx256_3 hHeld ⊢;refine pure_ (i:=0) (N:=some 124) (v:=?_) (a':=?_) (bm_ 1 36) rfl rfl (any_of HT_.out (by kernel_rfl)) (fun _ _ _ h => h) (Or.inl ⟨by rfl,?_⟩) ?_ ?_;rotate_left
             ·
              intro w'
              go_simp
              with_reducible rfl
             rotate_left
             ·
              simp only [Act.put,zi,zj,zk,zG,zH]
              rfl
             refine pure_ (i:=1) (N:=some 125) (v:=?_) (a':=?_) (bm_ 2 36) rfl rfl (any_of HT_.out (by kernel_rfl)) (fun _ _ _ h => h) (Or.inl ⟨by rfl,?_⟩) ?_ ?_;rotate_left
             ·
              intro w'
              go_simp
              with_reducible rfl
             rotate_left
             ·
              simp only [Act.put,zi,zj,zk,zG,zH]
              rfl
             refine pure_ (i:=2) (N:=some 126) (v:=?_) (a':=?_) (bm_ 3 36) rfl rfl (any_of HT_.out (by kernel_rfl)) (fun _ _ _ h => h) (Or.inl ⟨by rfl,?_⟩) ?_ ?_;rotate_left
             ·
              intro w'
              go_simp
              with_reducible rfl
             rotate_left
             ·
              simp only [Act.put,zi,zj,zk,zG,zH]
              rfl
             refine pure_ (i:=3) (N:=some 127) (v:=?_) (a':=?_) (bm_ 4 36) rfl rfl (any_of HT_.out (by kernel_rfl)) (fun _ _ _ h => h) (Or.inl ⟨by rfl,?_⟩) ?_ ?_;rotate_left
             ·
              intro w'
              go_simp
              with_reducible rfl
             rotate_left
             ·
              simp only [Act.put,zi,zj,zk,zG,zH]
              rfl
             refine take_ (i:=4) (N:=some 128) (v:=?_) (a':=?_) (bm_ 5 36) rfl rfl (yo HT_.out HW_.out (by kernel_rfl)) (fun _ _ _ h => h) (Or.inl ⟨by rfl,?_⟩) hHeld ?_ ?_;rotate_left
             ·
              rintro w' ⟨s0,s1,s2,s3,s4,s5,s6,s7,s8,s9,s10,s11,s12,s13,s14,s15⟩
              go_simp
              with_reducible rfl
             rotate_left
             ·
              simp only [Act.put,zi,zj,zk,zG,zH]
              rfl
             refine one_ (i:=5) (N:=some 129) (bm_ 6 36) rfl rfl (one_of HT_.out (by kernel_rfl)) (by decide) (fun K hK => ?_);refine goes_ Tryd.func28 (by kernel_rfl) rfl #[.string ((rd_T92 t248 x10_2).f0)] (by rfl) rfl rfl (by (try simp only [zt,zu,zv]);first|done|rfl|(simp only [zw,zx];rfl)|(simp only [yr,ys,zV,zW];rfl)) ?_
             with_reducible refine (spec_l01Name.calls k2  ((rd_T92 t248 x10_2).f0) true _ A68.out).mono ?_
             rintro e w' ⟨rfl,⟨nd,rfl⟩⟩;refine ⟨_,rfl,?_⟩;refine hK.out _ _ ⟨hHeld.1,hHeld.2.1,hHeld.2.2.1,hHeld.2.2.2.1,hHeld.2.2.2.2.1,hHeld.2.2.2.2.2.1,hHeld.2.2.2.2.2.2.1,hHeld.2.2.2.2.2.2.2.1,hHeld.2.2.2.2.2.2.2.2.1,hHeld.2.2.2.2.2.2.2.2.2.1,hHeld.2.2.2.2.2.2.2.2.2.2.1,hHeld.2.2.2.2.2.2.2.2.2.2.2.1,hHeld.2.2.2.2.2.2.2.2.2.2.2.2.1,hHeld.2.2.2.2.2.2.2.2.2.2.2.2.2.1,hHeld.2.2.2.2.2.2.2.2.2.2.2.2.2.2.1,hHeld.2.2.2.2.2.2.2.2.2.2.2.2.2.2.2⟩ (fun hHeld => ?_);clear hK K;refine norm_ (a':=?_) ?_ ?_;rotate_left
             ·
              show Act.put _ (some 129) _=_
              simp only [Act.put,zi,zj,zk,zG,zH]
              rfl
             refine pure_ (i:=6) (N:=some 130) (v:=?_) (a':=?_) (bm_ 7 36) rfl rfl (any_of HT_.out (by kernel_rfl)) (fun _ _ _ h => h) (Or.inl ⟨by rfl,?_⟩) ?_ ?_;rotate_left
             ·
              intro w'
              go_simp
              with_reducible rfl
             rotate_left
             ·
              simp only [Act.put,zi,zj,zk,zG,zH]
              rfl
             refine pure_ (i:=7) (N:=some 131) (v:=?_) (a':=?_) (bm_ 8 36) rfl rfl (any_of HT_.out (by kernel_rfl)) (fun _ _ _ h => h) (Or.inl ⟨by rfl,?_⟩) ?_ ?_;rotate_left
             ·
              intro w'
              go_simp
              with_reducible rfl
             rotate_left
             ·
              simp only [Act.put,zi,zj,zk,zG,zH]
              rfl
             refine pure_ (i:=8) (N:=some 132) (v:=?_) (a':=?_) (bm_ 9 36) rfl rfl (any_of HT_.out (by kernel_rfl)) (fun _ _ _ h => h) (Or.inl ⟨by rfl,?_⟩) ?_ ?_;rotate_left
             ·
              intro w'
              go_simp
              with_reducible rfl
             rotate_left
             ·
              simp only [Act.put,zi,zj,zk,zG,zH]
              rfl
             refine pure_ (i:=9) (N:=some 133) (v:=?_) (a':=?_) (bm_ 10 36) rfl rfl (any_of HT_.out (by kernel_rfl)) (fun _ _ _ h => h) (Or.inl ⟨by rfl,?_⟩) ?_ ?_;rotate_left
             ·
              intro w'
              go_simp
              with_reducible rfl
             rotate_left
             ·
              simp only [Act.put,zi,zj,zk,zG,zH]
              rfl
             refine pure_ (i:=10) (N:=some 134) (v:=?_) (a':=?_) (bm_ 11 36) rfl rfl (any_of HT_.out (by kernel_rfl)) (fun _ _ _ h => h) (Or.inl ⟨by rfl,?_⟩) ?_ ?_;rotate_left
             ·
              intro w'
              go_simp
              with_reducible rfl
             rotate_left
             ·
              simp only [Act.put,zi,zj,zk,zG,zH]
              rfl
             refine pure_ (i:=11) (N:=some 135) (v:=?_) (a':=?_) (bm_ 12 36) rfl rfl (any_of HT_.out (by kernel_rfl)) (fun _ _ _ h => h) (Or.inl ⟨by rfl,?_⟩) ?_ ?_;rotate_left
             ·
              intro w'
              go_simp
              with_reducible rfl
             rotate_left
             ·
              simp only [Act.put,zi,zj,zk,zG,zH]
              rfl
             refine pure_ (i:=12) (N:=some 136) (v:=?_) (a':=?_) (bm_ 13 36) rfl rfl (any_of HT_.out (by kernel_rfl)) (fun _ _ _ h => h) (Or.inl ⟨by rfl,?_⟩) ?_ ?_;rotate_left
             ·
              intro w'
              go_simp
              with_reducible rfl
             rotate_left
             ·
              simp only [Act.put,zi,zj,zk,zG,zH]
              rfl
             refine pure_ (i:=13) (N:=some 137) (v:=?_) (a':=?_) (bm_ 14 36) rfl rfl (any_of HT_.out (by kernel_rfl)) (fun _ _ _ h => h) (Or.inl ⟨by rfl,?_⟩) ?_ ?_;rotate_left
             ·
              intro w'
              go_simp
              with_reducible rfl
             rotate_left
             ·
              simp only [Act.put,zi,zj,zk,zG,zH]
              rfl
             refine pure_ (i:=14) (N:=some 138) (v:=?_) (a':=?_) (bm_ 15 36) rfl rfl (any_of HT_.out (by kernel_rfl)) (fun _ _ _ h => h) (Or.inl ⟨by rfl,?_⟩) ?_ ?_;rotate_left
             ·
              intro w'
              go_simp
              with_reducible rfl
             rotate_left
             ·
              simp only [Act.put,zi,zj,zk,zG,zH]
              rfl
             refine pure_ (i:=15) (N:=some 139) (v:=?_) (a':=?_) (bm_ 16 36) rfl rfl (any_of HT_.out (by kernel_rfl)) (fun _ _ _ h => h) (Or.inl ⟨by rfl,?_⟩) ?_ ?_;rotate_left
             ·
              intro w'
              go_simp
              with_reducible rfl
             rotate_left
             ·
              simp only [Act.put,zi,zj,zk,zG,zH]
              rfl
             refine pure_ (i:=17) (N:=some 141) (v:=?_) (a':=?_) #[true,true,true,true,true,true,true,true,true,true,true,true,true,true,true,true,false,true,false,false,false,false,false,false,false,false,false,false,false,false,false,false,false,false,false,false] rfl rfl (any_of HT_.out (by kernel_rfl)) (fun _ _ _ h => h) (Or.inl ⟨by rfl,?_⟩) ?_ ?_;rotate_left
             ·
              intro w'
              go_simp
              with_reducible rfl
             rotate_left
             ·
              simp only [Act.put,zi,zj,zk,zG,zH]
              rfl
             refine pure_ (i:=18) (N:=some 142) (v:=?_) (a':=?_) #[true,true,true,true,true,true,true,true,true,true,true,true,true,true,true,true,false,true,true,false,false,false,false,false,false,false,false,false,false,false,false,false,false,false,false,false] rfl rfl (any_of HT_.out (by kernel_rfl)) (fun _ _ _ h => h) (Or.inl ⟨by rfl,?_⟩) ?_ ?_;rotate_left
             ·
              intro w'
              go_simp
              with_reducible rfl
             rotate_left
             ·
              simp only [Act.put,zi,zj,zk,zG,zH]
              rfl
             refine pure_ (i:=19) (N:=some 143) (v:=?_) (a':=?_) #[true,true,true,true,true,true,true,true,true,true,true,true,true,true,true,true,false,true,true,true,false,false,false,false,false,false,false,false,false,false,false,false,false,false,false,false] rfl rfl (any_of HT_.out (by kernel_rfl)) (fun _ _ _ h => h) (Or.inl ⟨by rfl,?_⟩) ?_ ?_;rotate_left
             ·
              intro w'
              go_simp
              with_reducible rfl
             rotate_left
             ·
              simp only [Act.put,zi,zj,zk,zG,zH]
              rfl
             refine pure_ (i:=20) (N:=some 144) (v:=?_) (a':=?_) #[true,true,true,true,true,true,true,true,true,true,true,true,true,true,true,true,false,true,true,true,true,false,false,false,false,false,false,false,false,false,false,false,false,false,false,false] rfl rfl (any_of HT_.out (by kernel_rfl)) (fun _ _ _ h => h) (Or.inl ⟨by rfl,?_⟩) ?_ ?_;rotate_left
             ·
              intro w'
              go_simp
              with_reducible rfl
             rotate_left
             ·
              simp only [Act.put,zi,zj,zk,zG,zH]
              rfl
             refine take_ (i:=16) (N:=some 140) (v:=?_) (a':=?_) (bm_ 21 36) rfl rfl (yo HT_.out HW_.out (by kernel_rfl)) (fun _ _ _ h => h) (Or.inl ⟨by rfl,?_⟩) hHeld ?_ ?_;rotate_left
             ·
              rintro w' ⟨s0,s1,s2,s3,s4,s5,s6,s7,s8,s9,s10,s11,s12,s13,s14,s15⟩
              go_simp
              with_reducible rfl
             rotate_left
             ·
              simp only [Act.put,zi,zj,zk,zG,zH]
              rfl
             refine take_ (i:=21) (N:=some 145) (v:=?_) (a':=?_) (bm_ 22 36) rfl rfl (yo HT_.out HW_.out (by kernel_rfl)) (fun _ _ _ h => h) (Or.inl ⟨by rfl,?_⟩) hHeld ?_ ?_;rotate_left
             ·
              rintro w' ⟨s0,s1,s2,s3,s4,s5,s6,s7,s8,s9,s10,s11,s12,s13,s14,s15⟩
              go_simp
              with_reducible rfl
             rotate_left
             ·
              simp only [Act.put,zi,zj,zk,zG,zH]
              rfl
             refine pure_ (i:=22) (N:=some 146) (v:=?_) (a':=?_) (bm_ 23 36) rfl rfl (any_of HT_.out (by kernel_rfl)) (fun _ _ _ h => h) (Or.inl ⟨by rfl,?_⟩) ?_ ?_;rotate_left
             ·
              intro w'
              go_simp
              with_reducible rfl
             rotate_left
             ·
              simp only [Act.put,zi,zj,zk,zG,zH]
              rfl
             refine pure_ (i:=23) (N:=some 147) (v:=?_) (a':=?_) (bm_ 24 36) rfl rfl (any_of HT_.out (by kernel_rfl)) (fun _ _ _ h => h) (Or.inl ⟨by rfl,?_⟩) ?_ ?_;rotate_left
             ·
              intro w'
              go_simp
              with_reducible rfl
             rotate_left
             ·
              simp only [Act.put,zi,zj,zk,zG,zH]
              rfl
             refine pure_ (i:=24) (N:=some 148) (v:=?_) (a':=?_) (bm_ 25 36) rfl rfl (any_of HT_.out (by kernel_rfl)) (fun _ _ _ h => h) (Or.inl ⟨by rfl,?_⟩) ?_ ?_;rotate_left
             ·
              intro w'
              go_simp
              with_reducible rfl
             rotate_left
             ·
              simp only [Act.put,zi,zj,zk,zG,zH]
              rfl
             refine pure_ (i:=25) (N:=some 149) (v:=?_) (a':=?_) (bm_ 26 36) rfl rfl (any_of HT_.out (by kernel_rfl)) (fun _ _ _ h => h) (Or.inl ⟨by rfl,?_⟩) ?_ ?_;rotate_left
             ·
              intro w'
              go_simp
              with_reducible rfl
             rotate_left
             ·
              simp only [Act.put,zi,zj,zk,zG,zH]
              rfl
             refine pure_ (i:=26) (N:=some 150) (v:=?_) (a':=?_) (bm_ 27 36) rfl rfl (any_of HT_.out (by kernel_rfl)) (fun _ _ _ h => h) (Or.inl ⟨by rfl,?_⟩) ?_ ?_;rotate_left
             ·
              intro w'
              go_simp
              with_reducible rfl
             rotate_left
             ·
              simp only [Act.put,zi,zj,zk,zG,zH]
              rfl
             refine pure_ (i:=27) (N:=some 151) (v:=?_) (a':=?_) (bm_ 28 36) rfl rfl (any_of HT_.out (by kernel_rfl)) (fun _ _ _ h => h) (Or.inl ⟨by rfl,?_⟩) ?_ ?_;rotate_left
             ·
              intro w'
              go_simp
              with_reducible rfl
             rotate_left
             ·
              simp only [Act.put,zi,zj,zk,zG,zH]
              rfl
             refine pure_ (i:=28) (N:=some 152) (v:=?_) (a':=?_) (bm_ 29 36) rfl rfl (any_of HT_.out (by kernel_rfl)) (fun _ _ _ h => h) (Or.inl ⟨by rfl,?_⟩) ?_ ?_;rotate_left
             ·
              intro w'
              go_simp
              with_reducible rfl
             rotate_left
             ·
              simp only [Act.put,zi,zj,zk,zG,zH]
              rfl
             refine pure_ (i:=29) (N:=some 153) (v:=?_) (a':=?_) (bm_ 30 36) rfl rfl (any_of HT_.out (by kernel_rfl)) (fun _ _ _ h => h) (Or.inl ⟨by rfl,?_⟩) ?_ ?_;rotate_left
             ·
              intro w'
              go_simp
              with_reducible rfl
             rotate_left
             ·
              simp only [Act.put,zi,zj,zk,zG,zH]
              rfl
             refine pure_ (i:=31) (N:=some 155) (v:=?_) (a':=?_) #[true,true,true,true,true,true,true,true,true,true,true,true,true,true,true,true,true,true,true,true,true,true,true,true,true,true,true,true,true,true,false,true,false,false,false,false] rfl rfl (any_of HT_.out (by kernel_rfl)) (fun _ _ _ h => h) (Or.inl ⟨by rfl,?_⟩) ?_ ?_;rotate_left
             ·
              intro w'
              go_simp
              with_reducible rfl
             rotate_left
             ·
              simp only [Act.put,zi,zj,zk,zG,zH]
              rfl
             refine pure_ (i:=32) (N:=some 156) (v:=?_) (a':=?_) #[true,true,true,true,true,true,true,true,true,true,true,true,true,true,true,true,true,true,true,true,true,true,true,true,true,true,true,true,true,true,false,true,true,false,false,false] rfl rfl (any_of HT_.out (by kernel_rfl)) (fun _ _ _ h => h) (Or.inl ⟨by rfl,?_⟩) ?_ ?_;rotate_left
             ·
              intro w'
              go_simp
              with_reducible rfl
             rotate_left
             ·
              simp only [Act.put,zi,zj,zk,zG,zH]
              rfl
             refine take_ (i:=30) (N:=some 154) (v:=?_) (a':=?_) (bm_ 33 36) rfl rfl (yo HT_.out HW_.out (by kernel_rfl)) (fun _ _ _ h => h) (Or.inl ⟨by rfl,?_⟩) hHeld ?_ ?_;rotate_left
             ·
              rintro w' ⟨s0,s1,s2,s3,s4,s5,s6,s7,s8,s9,s10,s11,s12,s13,s14,s15⟩
              go_simp
              with_reducible rfl
             rotate_left
             ·
              simp only [Act.put,zi,zj,zk,zG,zH]
              rfl
             refine one_ (i:=33) (N:=some 157) (bm_ 34 36) rfl rfl (one_of HT_.out (by kernel_rfl)) (by decide) (fun K hK => ?_);refine goes_ Tryd.func54 (by kernel_rfl) rfl #[.agg #[.int .i64 ((rd_T92 t248 x10_2).f1.f0),.int .i64 ((rd_T92 t248 x10_2).f1.f1),.string ((rd_T92 t248 x10_2).f1.f2)],.int .i64 (wrap64 (a1 - 1))] (by rfl) rfl rfl (by (try simp only [zt,zu,zv]);first|done|rfl|(simp only [zw,zx];rfl)|(simp only [yr,ys,zV,zW];rfl)) ?_
             with_reducible refine (ih k2 (by have:=HJ53.out;have:=HK2.out;omega)  ((rd_T92 t248 x10_2).f1.f0) ((rd_T92 t248 x10_2).f1.f1) ((rd_T92 t248 x10_2).f1.f2) (wrap64 (a1 - 1)) false _ A75.out).mono ?_
             rintro e w82 ⟨rfl,hb⟩;have HS0_:=(hb.cell (zl _ _ (hHeld.1))).trans (hHeld.1);have HS1_:=(hb.cell (zl _ _ (hHeld.2.1))).trans (hHeld.2.1);have HS2_:=(hb.cell (zl _ _ (hHeld.2.2.1))).trans (hHeld.2.2.1);have HS3_:=(hb.cell (zl _ _ (hHeld.2.2.2.1))).trans (hHeld.2.2.2.1);have HS4_:=(hb.cell (zl _ _ (hHeld.2.2.2.2.1))).trans (hHeld.2.2.2.2.1);have HS5_:=(hb.cell (zl _ _ (hHeld.2.2.2.2.2.1))).trans (hHeld.2.2.2.2.2.1);have HS6_:=(hb.cell (zl _ _ (hHeld.2.2.2.2.2.2.1))).trans (hHeld.2.2.2.2.2.2.1);have HS7_:=(hb.cell (zl _ _ (hHeld.2.2.2.2.2.2.2.1))).trans (hHeld.2.2.2.2.2.2.2.1);have HS8_:=(hb.cell (zl _ _ (hHeld.2.2.2.2.2.2.2.2.1))).trans (hHeld.2.2.2.2.2.2.2.2.1);have HS9_:=(hb.cell (zl _ _ (hHeld.2.2.2.2.2.2.2.2.2.1))).trans (hHeld.2.2.2.2.2.2.2.2.2.1);have HS10_:=(hb.cell (zl _ _ (hHeld.2.2.2.2.2.2.2.2.2.2.1))).trans (hHeld.2.2.2.2.2.2.2.2.2.2.1);have HS11_:=(hb.cell (zl _ _ (hHeld.2.2.2.2.2.2.2.2.2.2.2.1))).trans (hHeld.2.2.2.2.2.2.2.2.2.2.2.1);have HS12_:=(hb.cell (zl _ _ (hHeld.2.2.2.2.2.2.2.2.2.2.2.2.1))).trans (hHeld.2.2.2.2.2.2.2.2.2.2.2.2.1);have HS13_:=(hb.cell (zl _ _ (hHeld.2.2.2.2.2.2.2.2.2.2.2.2.2.1))).trans (hHeld.2.2.2.2.2.2.2.2.2.2.2.2.2.1);have HS14_:=(hb.cell (zl _ _ (hHeld.2.2.2.2.2.2.2.2.2.2.2.2.2.2.1))).trans (hHeld.2.2.2.2.2.2.2.2.2.2.2.2.2.2.1);have HS15_:=(hb.cell (zl _ _ (hHeld.2.2.2.2.2.2.2.2.2.2.2.2.2.2.2))).trans (hHeld.2.2.2.2.2.2.2.2.2.2.2.2.2.2.2);refine ⟨_,rfl,?_⟩;replace HO_8:=zh (yg (by (with_reducible repeat (first|apply zm|apply zn|apply zo));exact HO_8.out) hb);replace BK239:=zh (zD (g:=gb239) (o:=.cells #[.int .i64 a0_0,.int .i64 a0_1,.string a0_2] 39 (0,0)) (by (with_reducible repeat (first|refine ze ?_ _|refine zf ?_|refine zg ?_ _));exact BK239.out) hb);replace HB:=zh (zC (by repeat (with_reducible first|exact HB.out|apply za|apply zb|apply zc|refine zd ?_ GE239.out)) hb);(try clear hb);(try clear hb2);(try clear hk);(try clear hi);refine hK.out _ _ ⟨HS0_,HS1_,HS2_,HS3_,HS4_,HS5_,HS6_,HS7_,HS8_,HS9_,HS10_,HS11_,HS12_,HS13_,HS14_,HS15_⟩ (fun hHeld => ?_);clear hK K;refine norm_ (a':=?_) ?_ ?_;rotate_left
             ·
              show Act.put _ (some 157) _=_
              simp only [Act.put,zi,zj,zk,zG,zH]
              rfl
             refine pure_ (i:=34) (N:=some 158) (v:=?_) (a':=?_) (bm_ 35 36) rfl rfl (any_of HT_.out (by kernel_rfl)) (fun _ _ _ h => h) (Or.inl ⟨by rfl,?_⟩) ?_ ?_;rotate_left
             ·
              intro w'
              go_simp
              with_reducible rfl
             rotate_left
             ·
              simp only [Act.put,zi,zj,zk,zG,zH]
              rfl
             refine pure_ (i:=35) (N:=some 159) (v:=?_) (a':=?_) (bm_ 36 36) rfl rfl (any_of HT_.out (by kernel_rfl)) (fun _ _ _ h => h) (Or.inl ⟨by rfl,?_⟩) ?_ ?_;rotate_left
             ·
              intro w'
              go_simp
              with_reducible rfl
             rotate_left
             ·
              simp only [Act.put,zi,zj,zk,zG,zH]
              rfl
             refine done_ (done_of HT_.out (by kernel_rfl)) ?_
             try go_wp2
             go_ret
             exact ⟨by first|rfl|(simp [yt,yu] <;> rfl)|(simp only [← hji71];first|rfl|(simp [yt,yu] <;> rfl))|(simp [*,yt,yu] <;> rfl),by repeat (with_reducible first|exact HB.out|apply za|apply zb|apply zc|refine zd ?_ GE239.out)⟩
            rw [if_neg c74] at H;have c74b0 : (Op.bytesLess (((rd_T92 t248 (ji71)).f0).toList) (((rd_T92 t248 x10_2).f0).toList))=false:=by simpa using c74
            clear c74;obtain rfl:=zU H;obtain ⟨Ao83,co83,eo83⟩:=yk HO_8.out;subst eo83
            try go_wp2
            replace HO_8:=zh (zo HO_8.out);replace BK239:=zh (zf BK239.out);replace HB:=zh (zc HB.out);have p252 : 0≤(x10_2 : Int):=zy (by first|(with_reducible assumption)|assumption);have q252 : x10_2<(t248.length : Int):=zy (by first|(with_reducible assumption)|assumption);obtain ⟨ad252,e252,hx252_0,hx252_1,hx252_2,hx252_3⟩:=at_T92 (yh HO_8.out).2.2 x10_2 p252 q252
            cases e252
            replace p252:=eq_true p252;replace q252:=eq_true q252;have p254 : 0≤((ji71) : Int):=zy (by first|(with_reducible assumption)|assumption);have q254 : (ji71)<(t248.length : Int):=zy (by first|(with_reducible assumption)|assumption);obtain ⟨ad254,e254,hx254_0,hx254_1,hx254_2,hx254_3⟩:=at_T92 (yh HO_8.out).2.2 (ji71) p254 q254;obtain rfl : ad252=ad254:=(by injection e254);replace p254:=eq_true p254;replace q254:=eq_true q254;have p255 : 0≤(x10_2 : Int):=zy (by first|(with_reducible assumption)|assumption);have q255 : x10_2<(t248.length : Int):=zy (by first|(with_reducible assumption)|assumption);obtain ⟨ad255,e255,hx255_0,hx255_1,hx255_2,hx255_3⟩:=at_T92 (yh HO_8.out).2.2 x10_2 p255 q255;obtain rfl : ad252=ad255:=(by injection e255);replace p255:=eq_true p255;replace q255:=eq_true q255;refine start_ (n:=36) (S:=fun w' => w'.cell? (ad252.add ((x10_2).toNat * 4))=some (.string ((rd_T92 t248 x10_2).f0))∧w'.cell? ⟨(ad252.add ((x10_2).toNat * 4)).block,(ad252.add ((x10_2).toNat * 4)).off + 1,none⟩=some (.int .i64 ((rd_T92 t248 x10_2).f1.f0))∧w'.cell? ⟨(ad252.add ((x10_2).toNat * 4)).block,(ad252.add ((x10_2).toNat * 4)).off + 2,none⟩=some (.int .i64 ((rd_T92 t248 x10_2).f1.f1))∧w'.cell? ⟨(ad252.add ((x10_2).toNat * 4)).block,(ad252.add ((x10_2).toNat * 4)).off + 3,none⟩=some (.string ((rd_T92 t248 x10_2).f1.f2))∧w'.cell? (ad252.add (((ji71)).toNat * 4))=some (.string ((rd_T92 t248 (ji71)).f0))∧w'.cell? ⟨(ad252.add (((ji71)).toNat * 4)).block,(ad252.add (((ji71)).toNat * 4)).off + 1,none⟩=some (.int .i64 ((rd_T92 t248 (ji71)).f1.f0))∧w'.cell? ⟨(ad252.add (((ji71)).toNat * 4)).block,(ad252.add (((ji71)).toNat * 4)).off + 2,none⟩=some (.int .i64 ((rd_T92 t248 (ji71)).f1.f1))∧w'.cell? ⟨(ad252.add (((ji71)).toNat * 4)).block,(ad252.add (((ji71)).toNat * 4)).off + 3,none⟩=some (.string ((rd_T92 t248 (ji71)).f1.f2))∧w'.cell? (ad252.add ((x10_2).toNat * 4))=some (.string ((rd_T92 t248 x10_2).f0))∧w'.cell? ⟨(ad252.add ((x10_2).toNat * 4)).block,(ad252.add ((x10_2).toNat * 4)).off + 1,none⟩=some (.int .i64 ((rd_T92 t248 x10_2).f1.f0))∧w'.cell? ⟨(ad252.add ((x10_2).toNat * 4)).block,(ad252.add ((x10_2).toNat * 4)).off + 2,none⟩=some (.int .i64 ((rd_T92 t248 x10_2).f1.f1))∧w'.cell? ⟨(ad252.add ((x10_2).toNat * 4)).block,(ad252.add ((x10_2).toNat * 4)).off + 3,none⟩=some (.string ((rd_T92 t248 x10_2).f1.f2))) (ds:=[]) (bm_ 0 36) (by kernel_rfl) rfl rfl ⟨hx252_0,hx252_1,hx252_2,hx252_3,hx254_0,hx254_1,hx254_2,hx254_3,hx255_0,hx255_1,hx255_2,hx255_3⟩ (fun hHeld => ?_);refine with_tabW spec_l01OK.tab27 spec_l01OK.bits27 (fun HT_ HW_ => ?_);generalize wr.drew=w84 at HO_8 BK239 HB hx252_0 hx252_1 hx252_2 hx252_3 hx254_0 hx254_1 hx254_2 hx254_3 hx255_0 hx255_1 hx255_2 hx255_3 hHeld ⊢;refine pure_ (i:=0) (N:=some 124) (v:=?_) (a':=?_) (bm_ 1 36) rfl rfl (any_of HT_.out (by kernel_rfl)) (fun _ _ _ h => h) (Or.inl ⟨by rfl,?_⟩) ?_ ?_;rotate_left
            ·
             intro w'
             go_simp
             with_reducible rfl
            rotate_left
            ·
             simp only [Act.put,zi,zj,zk,zG,zH]
             rfl
            refine pure_ (i:=1) (N:=some 125) (v:=?_) (a':=?_) (bm_ 2 36) rfl rfl (any_of HT_.out (by kernel_rfl)) (fun _ _ _ h => h) (Or.inl ⟨by rfl,?_⟩) ?_ ?_;rotate_left
            ·
             intro w'
             go_simp
             with_reducible rfl
            rotate_left
            ·
             simp only [Act.put,zi,zj,zk,zG,zH]
             rfl
            refine pure_ (i:=2) (N:=some 126) (v:=?_) (a':=?_) (bm_ 3 36) rfl rfl (any_of HT_.out (by kernel_rfl)) (fun _ _ _ h => h) (Or.inl ⟨by rfl,?_⟩) ?_ ?_;rotate_left
            ·
             intro w'
             go_simp
             with_reducible rfl
            rotate_left
            ·
             simp only [Act.put,zi,zj,zk,zG,zH]
             rfl
            refine pure_ (i:=3) (N:=some 127) (v:=?_) (a':=?_) (bm_ 4 36) rfl rfl (any_of HT_.out (by kernel_rfl)) (fun _ _ _ h => h) (Or.inl ⟨by rfl,?_⟩) ?_ ?_;rotate_left
            ·
             intro w'
             go_simp
             with_reducible rfl
            rotate_left
            ·
             simp only [Act.put,zi,zj,zk,zG,zH]
             rfl
            refine take_ (i:=4) (N:=some 128) (v:=?_) (a':=?_) (bm_ 5 36) rfl rfl (yo HT_.out HW_.out (by kernel_rfl)) (fun _ _ _ h => h) (Or.inl ⟨by rfl,?_⟩) hHeld ?_ ?_;rotate_left
            ·
             rintro w' ⟨s0,s1,s2,s3,s4,s5,s6,s7,s8,s9,s10,s11⟩
             go_simp
             with_reducible rfl
            rotate_left
            ·
             simp only [Act.put,zi,zj,zk,zG,zH]
             rfl
            refine one_ (i:=5) (N:=some 129) (bm_ 6 36) rfl rfl (one_of HT_.out (by kernel_rfl)) (by decide) (fun K hK => ?_);refine goes_ Tryd.func28 (by kernel_rfl) rfl #[.string ((rd_T92 t248 x10_2).f0)] (by rfl) rfl rfl (by (try simp only [zt,zu,zv]);first|done|rfl|(simp only [zw,zx];rfl)|(simp only [yr,ys,zV,zW];rfl)) ?_
            with_reducible refine (spec_l01Name.calls k2  ((rd_T92 t248 x10_2).f0) true _ A68.out).mono ?_
            rintro e w' ⟨rfl,⟨nd,rfl⟩⟩;refine ⟨_,rfl,?_⟩;refine hK.out _ _ ⟨hHeld.1,hHeld.2.1,hHeld.2.2.1,hHeld.2.2.2.1,hHeld.2.2.2.2.1,hHeld.2.2.2.2.2.1,hHeld.2.2.2.2.2.2.1,hHeld.2.2.2.2.2.2.2.1,hHeld.2.2.2.2.2.2.2.2.1,hHeld.2.2.2.2.2.2.2.2.2.1,hHeld.2.2.2.2.2.2.2.2.2.2.1,hHeld.2.2.2.2.2.2.2.2.2.2.2⟩ (fun hHeld => ?_);clear hK K;refine norm_ (a':=?_) ?_ ?_;rotate_left
            ·
             show Act.put _ (some 129) _=_
             simp only [Act.put,zi,zj,zk,zG,zH]
             rfl
            refine pure_ (i:=6) (N:=some 130) (v:=?_) (a':=?_) (bm_ 7 36) rfl rfl (any_of HT_.out (by kernel_rfl)) (fun _ _ _ h => h) (Or.inl ⟨by rfl,?_⟩) ?_ ?_;rotate_left
            ·
             intro w'
             go_simp
             with_reducible rfl
            rotate_left
            ·
             simp only [Act.put,zi,zj,zk,zG,zH]
             rfl
            refine pure_ (i:=7) (N:=some 131) (v:=?_) (a':=?_) (bm_ 8 36) rfl rfl (any_of HT_.out (by kernel_rfl)) (fun _ _ _ h => h) (Or.inl ⟨by rfl,?_⟩) ?_ ?_;rotate_left
            ·
             intro w'
             go_simp
             with_reducible rfl
            rotate_left
            ·
             simp only [Act.put,zi,zj,zk,zG,zH]
             rfl
            refine pure_ (i:=8) (N:=some 132) (v:=?_) (a':=?_) (bm_ 9 36) rfl rfl (any_of HT_.out (by kernel_rfl)) (fun _ _ _ h => h) (Or.inl ⟨by rfl,?_⟩) ?_ ?_;rotate_left
            ·
             intro w'
             go_simp
             with_reducible rfl
            rotate_left
            ·
             simp only [Act.put,zi,zj,zk,zG,zH]
             rfl
            refine pure_ (i:=9) (N:=some 133) (v:=?_) (a':=?_) (bm_ 10 36) rfl rfl (any_of HT_.out (by kernel_rfl)) (fun _ _ _ h => h) (Or.inl ⟨by rfl,?_⟩) ?_ ?_;rotate_left
            ·
             intro w'
             go_simp
             with_reducible rfl
            rotate_left
            ·
             simp only [Act.put,zi,zj,zk,zG,zH]
             rfl
            refine pure_ (i:=10) (N:=some 134) (v:=?_) (a':=?_) (bm_ 11 36) rfl rfl (any_of HT_.out (by kernel_rfl)) (fun _ _ _ h => h) (Or.inl ⟨by rfl,?_⟩) ?_ ?_;rotate_left
            ·
             intro w'
             go_simp
             with_reducible rfl
            rotate_left
            ·
             simp only [Act.put,zi,zj,zk,zG,zH]
             rfl
            refine pure_ (i:=11) (N:=some 135) (v:=?_) (a':=?_) (bm_ 12 36) rfl rfl (any_of HT_.out (by kernel_rfl)) (fun _ _ _ h => h) (Or.inl ⟨by rfl,?_⟩) ?_ ?_;rotate_left
            ·
             intro w'
             go_simp
             with_reducible rfl
            rotate_left
            ·
             simp only [Act.put,zi,zj,zk,zG,zH]
             rfl
            refine pure_ (i:=12) (N:=some 136) (v:=?_) (a':=?_) (bm_ 13 36) rfl rfl (any_of HT_.out (by kernel_rfl)) (fun _ _ _ h => h) (Or.inl ⟨by rfl,?_⟩) ?_ ?_;rotate_left
            ·
             intro w'
             go_simp
             with_reducible rfl
            rotate_left
            ·
             simp only [Act.put,zi,zj,zk,zG,zH]
             rfl
            refine pure_ (i:=13) (N:=some 137) (v:=?_) (a':=?_) (bm_ 14 36) rfl rfl (any_of HT_.out (by kernel_rfl)) (fun _ _ _ h => h) (Or.inl ⟨by rfl,?_⟩) ?_ ?_;rotate_left
            ·
             intro w'
             go_simp
             with_reducible rfl
            rotate_left
            ·
             simp only [Act.put,zi,zj,zk,zG,zH]
             rfl
            refine pure_ (i:=14) (N:=some 138) (v:=?_) (a':=?_) (bm_ 15 36) rfl rfl (any_of HT_.out (by kernel_rfl)) (fun _ _ _ h => h) (Or.inl ⟨by rfl,?_⟩) ?_ ?_;rotate_left
            ·
             intro w'
             go_simp
             with_reducible rfl
            rotate_left
            ·
             simp only [Act.put,zi,zj,zk,zG,zH]
             rfl
            refine pure_ (i:=15) (N:=some 139) (v:=?_) (a':=?_) (bm_ 16 36) rfl rfl (any_of HT_.out (by kernel_rfl)) (fun _ _ _ h => h) (Or.inl ⟨by rfl,?_⟩) ?_ ?_;rotate_left
            ·
             intro w'
             go_simp
             with_reducible rfl
            rotate_left
            ·
             simp only [Act.put,zi,zj,zk,zG,zH]
             rfl
            refine pure_ (i:=17) (N:=some 141) (v:=?_) (a':=?_) #[true,true,true,true,true,true,true,true,true,true,true,true,true,true,true,true,false,true,false,false,false,false,false,false,false,false,false,false,false,false,false,false,false,false,false,false] rfl rfl (any_of HT_.out (by kernel_rfl)) (fun _ _ _ h => h) (Or.inl ⟨by rfl,?_⟩) ?_ ?_;rotate_left
            ·
             intro w'
             go_simp
             with_reducible rfl
            rotate_left
            ·
             simp only [Act.put,zi,zj,zk,zG,zH]
             rfl
            refine pure_ (i:=18) (N:=some 142) (v:=?_) (a':=?_) #[true,true,true,true,true,true,true,true,true,true,true,true,true,true,true,true,false,true,true,false,false,false,false,false,false,false,false,false,false,false,false,false,false,false,false,false] rfl rfl (any_of HT_.out (by kernel_rfl)) (fun _ _ _ h => h) (Or.inl ⟨by rfl,?_⟩) ?_ ?_;rotate_left
            ·
             intro w'
             go_simp
             with_reducible rfl
            rotate_left
            ·
             simp only [Act.put,zi,zj,zk,zG,zH]
             rfl
            refine pure_ (i:=19) (N:=some 143) (v:=?_) (a':=?_) #[true,true,true,true,true,true,true,true,true,true,true,true,true,true,true,true,false,true,true,true,false,false,false,false,false,false,false,false,false,false,false,false,false,false,false,false] rfl rfl (any_of HT_.out (by kernel_rfl)) (fun _ _ _ h => h) (Or.inl ⟨by rfl,?_⟩) ?_ ?_;rotate_left
            ·
             intro w'
             go_simp
             with_reducible rfl
            rotate_left
            ·
             simp only [Act.put,zi,zj,zk,zG,zH]
             rfl
            refine pure_ (i:=20) (N:=some 144) (v:=?_) (a':=?_) #[true,true,true,true,true,true,true,true,true,true,true,true,true,true,true,true,false,true,true,true,true,false,false,false,false,false,false,false,false,false,false,false,false,false,false,false] rfl rfl (any_of HT_.out (by kernel_rfl)) (fun _ _ _ h => h) (Or.inl ⟨by rfl,?_⟩) ?_ ?_;rotate_left
            ·
             intro w'
             go_simp
             with_reducible rfl
            rotate_left
            ·
             simp only [Act.put,zi,zj,zk,zG,zH]
             rfl
            refine take_ (i:=16) (N:=some 140) (v:=?_) (a':=?_) (bm_ 21 36) rfl rfl (yo HT_.out HW_.out (by kernel_rfl)) (fun _ _ _ h => h) (Or.inl ⟨by rfl,?_⟩) hHeld ?_ ?_;rotate_left
            ·
             rintro w' ⟨s0,s1,s2,s3,s4,s5,s6,s7,s8,s9,s10,s11⟩
             go_simp
             with_reducible rfl
            rotate_left
            ·
             simp only [Act.put,zi,zj,zk,zG,zH]
             rfl
            refine take_ (i:=21) (N:=some 145) (v:=?_) (a':=?_) (bm_ 22 36) rfl rfl (yo HT_.out HW_.out (by kernel_rfl)) (fun _ _ _ h => h) (Or.inl ⟨by rfl,?_⟩) hHeld ?_ ?_;rotate_left
            ·
             rintro w' ⟨s0,s1,s2,s3,s4,s5,s6,s7,s8,s9,s10,s11⟩
             go_simp
             with_reducible rfl
            rotate_left
            ·
             simp only [Act.put,zi,zj,zk,zG,zH]
             rfl
            refine pure_ (i:=22) (N:=some 146) (v:=?_) (a':=?_) (bm_ 23 36) rfl rfl (any_of HT_.out (by kernel_rfl)) (fun _ _ _ h => h) (Or.inl ⟨by rfl,?_⟩) ?_ ?_;rotate_left
            ·
             intro w'
             go_simp
             with_reducible rfl
            rotate_left
            ·
             simp only [Act.put,zi,zj,zk,zG,zH]
             rfl
            refine pure_ (i:=23) (N:=some 147) (v:=?_) (a':=?_) (bm_ 24 36) rfl rfl (any_of HT_.out (by kernel_rfl)) (fun _ _ _ h => h) (Or.inl ⟨by rfl,?_⟩) ?_ ?_;rotate_left
            ·
             intro w'
             go_simp
             with_reducible rfl
            rotate_left
            ·
             simp only [Act.put,zi,zj,zk,zG,zH]
             rfl
            refine pure_ (i:=24) (N:=some 148) (v:=?_) (a':=?_) (bm_ 25 36) rfl rfl (any_of HT_.out (by kernel_rfl)) (fun _ _ _ h => h) (Or.inl ⟨by rfl,?_⟩) ?_ ?_;rotate_left
            ·
             intro w'
             go_simp
             with_reducible rfl
            rotate_left
            ·
             simp only [Act.put,zi,zj,zk,zG,zH]
             rfl
            refine pure_ (i:=25) (N:=some 149) (v:=?_) (a':=?_) (bm_ 26 36) rfl rfl (any_of HT_.out (by kernel_rfl)) (fun _ _ _ h => h) (Or.inl ⟨by rfl,?_⟩) ?_ ?_;rotate_left
            ·
             intro w'
             go_simp
             with_reducible rfl
            rotate_left
            ·
             simp only [Act.put,zi,zj,zk,zG,zH]
             rfl
            refine pure_ (i:=26) (N:=some 150) (v:=undef) (a':=?_) (bm_ 27 36) rfl rfl (any_of HT_.out (by kernel_rfl)) (fun _ _ _ h => h) (Or.inr ⟨by rfl,rfl⟩) ?_ ?_;rotate_left
            ·
             simp only [Act.put,zi,zj,zk,zG,zH]
             rfl
            refine pure_ (i:=27) (N:=some 151) (v:=undef) (a':=?_) (bm_ 28 36) rfl rfl (any_of HT_.out (by kernel_rfl)) (fun _ _ _ h => h) (Or.inr ⟨by rfl,rfl⟩) ?_ ?_;rotate_left
            ·
             simp only [Act.put,zi,zj,zk,zG,zH]
             rfl
            refine pure_ (i:=28) (N:=some 152) (v:=undef) (a':=?_) (bm_ 29 36) rfl rfl (any_of HT_.out (by kernel_rfl)) (fun _ _ _ h => h) (Or.inr ⟨by rfl,rfl⟩) ?_ ?_;rotate_left
            ·
             simp only [Act.put,zi,zj,zk,zG,zH]
             rfl
            refine pure_ (i:=29) (N:=some 153) (v:=undef) (a':=?_) (bm_ 30 36) rfl rfl (any_of HT_.out (by kernel_rfl)) (fun _ _ _ h => h) (Or.inr ⟨by rfl,rfl⟩) ?_ ?_;rotate_left
            ·
             simp only [Act.put,zi,zj,zk,zG,zH]
             rfl
            refine pure_ (i:=30) (N:=some 154) (v:=undef) (a':=?_) (bm_ 31 36) rfl rfl (any_of HT_.out (by kernel_rfl)) (fun _ _ _ h => h) (Or.inr ⟨by rfl,rfl⟩) ?_ ?_;rotate_left
            ·
             simp only [Act.put,zi,zj,zk,zG,zH]
             rfl
            refine pure_ (i:=31) (N:=some 155) (v:=undef) (a':=?_) (bm_ 32 36) rfl rfl (any_of HT_.out (by kernel_rfl)) (fun _ _ _ h => h) (Or.inr ⟨by rfl,rfl⟩) ?_ ?_;rotate_left
            ·
             simp only [Act.put,zi,zj,zk,zG,zH]
             rfl
            refine pure_ (i:=32) (N:=some 156) (v:=undef) (a':=?_) (bm_ 33 36) rfl rfl (any_of HT_.out (by kernel_rfl)) (fun _ _ _ h => h) (Or.inr ⟨by rfl,rfl⟩) ?_ ?_;rotate_left
            ·
             simp only [Act.put,zi,zj,zk,zG,zH]
             rfl
            refine pure_ (i:=33) (N:=some 157) (v:=undef) (a':=?_) (bm_ 34 36) rfl rfl (any_of HT_.out (by kernel_rfl)) (fun _ _ _ h => h) (Or.inr ⟨by rfl,rfl⟩) ?_ ?_;rotate_left
            ·
             simp only [Act.put,zi,zj,zk,zG,zH]
             rfl
            refine pure_ (i:=34) (N:=some 158) (v:=undef) (a':=?_) (bm_ 35 36) rfl rfl (any_of HT_.out (by kernel_rfl)) (fun _ _ _ h => h) (Or.inr ⟨by rfl,rfl⟩) ?_ ?_;rotate_left
            ·
             simp only [Act.put,zi,zj,zk,zG,zH]
             rfl
            refine pure_ (i:=35) (N:=some 159) (v:=?_) (a':=?_) (bm_ 36 36) rfl rfl (any_of HT_.out (by kernel_rfl)) (fun _ _ _ h => h) (Or.inl ⟨by rfl,?_⟩) ?_ ?_;rotate_left
            ·
             intro w'
             go_simp
             with_reducible rfl
            rotate_left
            ·
             simp only [Act.put,zi,zj,zk,zG,zH]
             rfl
            refine done_ (done_of HT_.out (by kernel_rfl)) ?_
            try go_wp2
            go_ret
            exact ⟨by first|rfl|(simp [yt,yu] <;> rfl)|(simp only [← hji71];first|rfl|(simp [yt,yu] <;> rfl))|(simp [*,yt,yu] <;> rfl),by repeat (with_reducible first|exact HB.out|apply za|apply zb|apply zc|refine zd ?_ GE239.out)⟩
           rw [if_neg c73] at H;exact absurd H (by simp)
          rw [if_neg c72] at H;exact absurd H (by simp)
         rw [if_neg c70] at H;have c70b0 : decide (0<x10_2)=false:=decide_eq_false c70;clear c70;replace H:=zT.mp H;obtain ⟨t259,A850,H⟩:=H;replace H : (if t259=true then (spec_l01OK.l1 k2 a1 t248 (wrap64 (x10_2 + 1))) else (some false))=some r:=H;have A85:=zh A850;clear A850
         by_cases c86 : t259=true
         ·
          subst c86
          have H1 : (spec_l01OK.l1 k2 a1 t248 (wrap64 (x10_2 + 1)))=some r:=by rw [if_pos rfl] at H;exact H
          clear H;have H:=H1;clear H1;have H':=zh H;clear H;obtain ⟨Ao87,co87,eo87⟩:=yk HO_8.out;subst eo87
          try go_wp2
          replace HO_8:=zh (zo HO_8.out);replace BK239:=zh (zf BK239.out);replace HB:=zh (zc HB.out);have p252 : 0≤(x10_2 : Int):=zy (by first|(with_reducible assumption)|assumption);have q252 : x10_2<(t248.length : Int):=zy (by first|(with_reducible assumption)|assumption);obtain ⟨ad252,e252,hx252_0,hx252_1,hx252_2,hx252_3⟩:=at_T92 (yh HO_8.out).2.2 x10_2 p252 q252
          cases e252
          replace p252:=eq_true p252;replace q252:=eq_true q252;have p258 : 0≤(x10_2 : Int):=zy (by first|(with_reducible assumption)|assumption);have q258 : x10_2<(t248.length : Int):=zy (by first|(with_reducible assumption)|assumption);obtain ⟨ad258,e258,hx258_0,hx258_1,hx258_2,hx258_3⟩:=at_T92 (yh HO_8.out).2.2 x10_2 p258 q258;obtain rfl : ad252=ad258:=(by injection e258);replace p258:=eq_true p258;replace q258:=eq_true q258;refine start_ (n:=36) (S:=fun w' => w'.cell? (ad252.add ((x10_2).toNat * 4))=some (.string ((rd_T92 t248 x10_2).f0))∧w'.cell? ⟨(ad252.add ((x10_2).toNat * 4)).block,(ad252.add ((x10_2).toNat * 4)).off + 1,none⟩=some (.int .i64 ((rd_T92 t248 x10_2).f1.f0))∧w'.cell? ⟨(ad252.add ((x10_2).toNat * 4)).block,(ad252.add ((x10_2).toNat * 4)).off + 2,none⟩=some (.int .i64 ((rd_T92 t248 x10_2).f1.f1))∧w'.cell? ⟨(ad252.add ((x10_2).toNat * 4)).block,(ad252.add ((x10_2).toNat * 4)).off + 3,none⟩=some (.string ((rd_T92 t248 x10_2).f1.f2))∧w'.cell? (ad252.add ((x10_2).toNat * 4))=some (.string ((rd_T92 t248 x10_2).f0))∧w'.cell? ⟨(ad252.add ((x10_2).toNat * 4)).block,(ad252.add ((x10_2).toNat * 4)).off + 1,none⟩=some (.int .i64 ((rd_T92 t248 x10_2).f1.f0))∧w'.cell? ⟨(ad252.add ((x10_2).toNat * 4)).block,(ad252.add ((x10_2).toNat * 4)).off + 2,none⟩=some (.int .i64 ((rd_T92 t248 x10_2).f1.f1))∧w'.cell? ⟨(ad252.add ((x10_2).toNat * 4)).block,(ad252.add ((x10_2).toNat * 4)).off + 3,none⟩=some (.string ((rd_T92 t248 x10_2).f1.f2))) (ds:=[]) (bm_ 0 36) (by kernel_rfl) rfl rfl ⟨hx252_0,hx252_1,hx252_2,hx252_3,hx258_0,hx258_1,hx258_2,hx258_3⟩ (fun hHeld => ?_);refine with_tabW spec_l01OK.tab27 spec_l01OK.bits27 (fun HT_ HW_ => ?_);generalize wr.drew=w88 at HO_8 BK239 HB hx252_0 hx252_1 hx252_2 hx252_3 hx258_0 hx258_1 hx258_2 hx258_3 hHeld ⊢;refine pure_ (i:=0) (N:=some 124) (v:=?_) (a':=?_) (bm_ 1 36) rfl rfl (any_of HT_.out (by kernel_rfl)) (fun _ _ _ h => h) (Or.inl ⟨by rfl,?_⟩) ?_ ?_;rotate_left
          ·
           intro w'
           go_simp
           with_reducible rfl
          rotate_left
          ·
           simp only [Act.put,zi,zj,zk,zG,zH]
           rfl
          refine pure_ (i:=1) (N:=some 125) (v:=?_) (a':=?_) (bm_ 2 36) rfl rfl (any_of HT_.out (by kernel_rfl)) (fun _ _ _ h => h) (Or.inl ⟨by rfl,?_⟩) ?_ ?_;rotate_left
          ·
           intro w'
           go_simp
           with_reducible rfl
          rotate_left
          ·
           simp only [Act.put,zi,zj,zk,zG,zH]
           rfl
          refine pure_ (i:=2) (N:=some 126) (v:=?_) (a':=?_) (bm_ 3 36) rfl rfl (any_of HT_.out (by kernel_rfl)) (fun _ _ _ h => h) (Or.inl ⟨by rfl,?_⟩) ?_ ?_;rotate_left
          ·
           intro w'
           go_simp
           with_reducible rfl
          rotate_left
          ·
           simp only [Act.put,zi,zj,zk,zG,zH]
           rfl
          refine pure_ (i:=3) (N:=some 127) (v:=?_) (a':=?_) (bm_ 4 36) rfl rfl (any_of HT_.out (by kernel_rfl)) (fun _ _ _ h => h) (Or.inl ⟨by rfl,?_⟩) ?_ ?_;rotate_left
          ·
           intro w'
           go_simp
           with_reducible rfl
          rotate_left
          ·
           simp only [Act.put,zi,zj,zk,zG,zH]
           rfl
          refine take_ (i:=4) (N:=some 128) (v:=?_) (a':=?_) (bm_ 5 36) rfl rfl (yo HT_.out HW_.out (by kernel_rfl)) (fun _ _ _ h => h) (Or.inl ⟨by rfl,?_⟩) hHeld ?_ ?_;rotate_left
          ·
           rintro w' ⟨s0,s1,s2,s3,s4,s5,s6,s7⟩
           go_simp
           with_reducible rfl
          rotate_left
          ·
           simp only [Act.put,zi,zj,zk,zG,zH]
           rfl
          refine one_ (i:=5) (N:=some 129) (bm_ 6 36) rfl rfl (one_of HT_.out (by kernel_rfl)) (by decide) (fun K hK => ?_);refine goes_ Tryd.func28 (by kernel_rfl) rfl #[.string ((rd_T92 t248 x10_2).f0)] (by rfl) rfl rfl (by (try simp only [zt,zu,zv]);first|done|rfl|(simp only [zw,zx];rfl)|(simp only [yr,ys,zV,zW];rfl)) ?_
          with_reducible refine (spec_l01Name.calls k2  ((rd_T92 t248 x10_2).f0) true _ A68.out).mono ?_
          rintro e w' ⟨rfl,⟨nd,rfl⟩⟩;refine ⟨_,rfl,?_⟩;refine hK.out _ _ ⟨hHeld.1,hHeld.2.1,hHeld.2.2.1,hHeld.2.2.2.1,hHeld.2.2.2.2.1,hHeld.2.2.2.2.2.1,hHeld.2.2.2.2.2.2.1,hHeld.2.2.2.2.2.2.2⟩ (fun hHeld => ?_);clear hK K;refine norm_ (a':=?_) ?_ ?_;rotate_left
          ·
           show Act.put _ (some 129) _=_
           simp only [Act.put,zi,zj,zk,zG,zH]
           rfl
          refine pure_ (i:=6) (N:=some 130) (v:=?_) (a':=?_) (bm_ 7 36) rfl rfl (any_of HT_.out (by kernel_rfl)) (fun _ _ _ h => h) (Or.inl ⟨by rfl,?_⟩) ?_ ?_;rotate_left
          ·
           intro w'
           go_simp
           with_reducible rfl
          rotate_left
          ·
           simp only [Act.put,zi,zj,zk,zG,zH]
           rfl
          refine pure_ (i:=7) (N:=some 131) (v:=?_) (a':=?_) (bm_ 8 36) rfl rfl (any_of HT_.out (by kernel_rfl)) (fun _ _ _ h => h) (Or.inl ⟨by rfl,?_⟩) ?_ ?_;rotate_left
          ·
           intro w'
           go_simp
           with_reducible rfl
          rotate_left
          ·
           simp only [Act.put,zi,zj,zk,zG,zH]
           rfl
          refine pure_ (i:=8) (N:=some 132) (v:=?_) (a':=?_) (bm_ 9 36) rfl rfl (any_of HT_.out (by kernel_rfl)) (fun _ _ _ h => h) (Or.inl ⟨by rfl,?_⟩) ?_ ?_;rotate_left
          ·
           intro w'
           go_simp
           with_reducible rfl
          rotate_left
          ·
           simp only [Act.put,zi,zj,zk,zG,zH]
           rfl
          refine pure_ (i:=9) (N:=some 133) (v:=?_) (a':=?_) (bm_ 10 36) rfl rfl (any_of HT_.out (by kernel_rfl)) (fun _ _ _ h => h) (Or.inl ⟨by rfl,?_⟩) ?_ ?_;rotate_left
          ·
           intro w'
           go_simp
           with_reducible rfl
          rotate_left
          ·
           simp only [Act.put,zi,zj,zk,zG,zH]
           rfl
          refine pure_ (i:=10) (N:=some 134) (v:=?_) (a':=?_) (bm_ 11 36) rfl rfl (any_of HT_.out (by kernel_rfl)) (fun _ _ _ h => h) (Or.inl ⟨by rfl,?_⟩) ?_ ?_;rotate_left
          ·
           intro w'
           go_simp
           with_reducible rfl
          rotate_left
          ·
           simp only [Act.put,zi,zj,zk,zG,zH]
           rfl
          refine pure_ (i:=11) (N:=some 135) (v:=undef) (a':=?_) (bm_ 12 36) rfl rfl (any_of HT_.out (by kernel_rfl)) (fun _ _ _ h => h) (Or.inr ⟨by rfl,rfl⟩) ?_ ?_;rotate_left
          ·
           simp only [Act.put,zi,zj,zk,zG,zH]
           rfl
          refine pure_ (i:=12) (N:=some 136) (v:=undef) (a':=?_) (bm_ 13 36) rfl rfl (any_of HT_.out (by kernel_rfl)) (fun _ _ _ h => h) (Or.inr ⟨by rfl,rfl⟩) ?_ ?_;rotate_left
          ·
           simp only [Act.put,zi,zj,zk,zG,zH]
           rfl
          refine pure_ (i:=13) (N:=some 137) (v:=undef) (a':=?_) (bm_ 14 36) rfl rfl (any_of HT_.out (by kernel_rfl)) (fun _ _ _ h => h) (Or.inr ⟨by rfl,rfl⟩) ?_ ?_;rotate_left
          ·
           simp only [Act.put,zi,zj,zk,zG,zH]
           rfl
          refine pure_ (i:=14) (N:=some 138) (v:=undef) (a':=?_) (bm_ 15 36) rfl rfl (any_of HT_.out (by kernel_rfl)) (fun _ _ _ h => h) (Or.inr ⟨by rfl,rfl⟩) ?_ ?_;rotate_left
          ·
           simp only [Act.put,zi,zj,zk,zG,zH]
           rfl
          refine pure_ (i:=15) (N:=some 139) (v:=undef) (a':=?_) (bm_ 16 36) rfl rfl (any_of HT_.out (by kernel_rfl)) (fun _ _ _ h => h) (Or.inr ⟨by rfl,rfl⟩) ?_ ?_;rotate_left
          ·
           simp only [Act.put,zi,zj,zk,zG,zH]
           rfl
          refine pure_ (i:=16) (N:=some 140) (v:=undef) (a':=?_) (bm_ 17 36) rfl rfl (any_of HT_.out (by kernel_rfl)) (fun _ _ _ h => h) (Or.inr ⟨by rfl,rfl⟩) ?_ ?_;rotate_left
          ·
           simp only [Act.put,zi,zj,zk,zG,zH]
           rfl
          refine pure_ (i:=17) (N:=some 141) (v:=undef) (a':=?_) (bm_ 18 36) rfl rfl (any_of HT_.out (by kernel_rfl)) (fun _ _ _ h => h) (Or.inr ⟨by rfl,rfl⟩) ?_ ?_;rotate_left
          ·
           simp only [Act.put,zi,zj,zk,zG,zH]
           rfl
          refine pure_ (i:=18) (N:=some 142) (v:=undef) (a':=?_) (bm_ 19 36) rfl rfl (any_of HT_.out (by kernel_rfl)) (fun _ _ _ h => h) (Or.inr ⟨by rfl,rfl⟩) ?_ ?_;rotate_left
          ·
           simp only [Act.put,zi,zj,zk,zG,zH]
           rfl
          refine pure_ (i:=19) (N:=some 143) (v:=undef) (a':=?_) (bm_ 20 36) rfl rfl (any_of HT_.out (by kernel_rfl)) (fun _ _ _ h => h) (Or.inr ⟨by rfl,rfl⟩) ?_ ?_;rotate_left
          ·
           simp only [Act.put,zi,zj,zk,zG,zH]
           rfl
          refine pure_ (i:=20) (N:=some 144) (v:=undef) (a':=?_) (bm_ 21 36) rfl rfl (any_of HT_.out (by kernel_rfl)) (fun _ _ _ h => h) (Or.inr ⟨by rfl,rfl⟩) ?_ ?_;rotate_left
          ·
           simp only [Act.put,zi,zj,zk,zG,zH]
           rfl
          refine pure_ (i:=21) (N:=some 145) (v:=undef) (a':=?_) (bm_ 22 36) rfl rfl (any_of HT_.out (by kernel_rfl)) (fun _ _ _ h => h) (Or.inr ⟨by rfl,rfl⟩) ?_ ?_;rotate_left
          ·
           simp only [Act.put,zi,zj,zk,zG,zH]
           rfl
          refine pure_ (i:=22) (N:=some 146) (v:=undef) (a':=?_) (bm_ 23 36) rfl rfl (any_of HT_.out (by kernel_rfl)) (fun _ _ _ h => h) (Or.inr ⟨by rfl,rfl⟩) ?_ ?_;rotate_left
          ·
           simp only [Act.put,zi,zj,zk,zG,zH]
           rfl
          refine pure_ (i:=23) (N:=some 147) (v:=?_) (a':=?_) (bm_ 24 36) rfl rfl (any_of HT_.out (by kernel_rfl)) (fun _ _ _ h => h) (Or.inl ⟨by rfl,?_⟩) ?_ ?_;rotate_left
          ·
           intro w'
           go_simp
           with_reducible rfl
          rotate_left
          ·
           simp only [Act.put,zi,zj,zk,zG,zH]
           rfl
          refine pure_ (i:=24) (N:=some 148) (v:=?_) (a':=?_) (bm_ 25 36) rfl rfl (any_of HT_.out (by kernel_rfl)) (fun _ _ _ h => h) (Or.inl ⟨by rfl,?_⟩) ?_ ?_;rotate_left
          ·
           intro w'
           go_simp
           with_reducible rfl
          rotate_left
          ·
           simp only [Act.put,zi,zj,zk,zG,zH]
           rfl
          refine pure_ (i:=25) (N:=some 149) (v:=?_) (a':=?_) (bm_ 26 36) rfl rfl (any_of HT_.out (by kernel_rfl)) (fun _ _ _ h => h) (Or.inl ⟨by rfl,?_⟩) ?_ ?_;rotate_left
          ·
           intro w'
           go_simp
           with_reducible rfl
          rotate_left
          ·
           simp only [Act.put,zi,zj,zk,zG,zH]
           rfl
          refine pure_ (i:=26) (N:=some 150) (v:=?_) (a':=?_) (bm_ 27 36) rfl rfl (any_of HT_.out (by kernel_rfl)) (fun _ _ _ h => h) (Or.inl ⟨by rfl,?_⟩) ?_ ?_;rotate_left
          ·
           intro w'
           go_simp
           with_reducible rfl
          rotate_left
          ·
           simp only [Act.put,zi,zj,zk,zG,zH]
           rfl
          refine pure_ (i:=27) (N:=some 151) (v:=?_) (a':=?_) (bm_ 28 36) rfl rfl (any_of HT_.out (by kernel_rfl)) (fun _ _ _ h => h) (Or.inl ⟨by rfl,?_⟩) ?_ ?_;rotate_left
          ·
           intro w'
           go_simp
           with_reducible rfl
          rotate_left
          ·
           simp only [Act.put,zi,zj,zk,zG,zH]
           rfl
          refine pure_ (i:=28) (N:=some 152) (v:=?_) (a':=?_) (bm_ 29 36) rfl rfl (any_of HT_.out (by kernel_rfl)) (fun _ _ _ h => h) (Or.inl ⟨by rfl,?_⟩) ?_ ?_;rotate_left
          ·
           intro w'
           go_simp
           with_reducible rfl
          rotate_left
          ·
           simp only [Act.put,zi,zj,zk,zG,zH]
           rfl
          refine pure_ (i:=29) (N:=some 153) (v:=?_) (a':=?_) (bm_ 30 36) rfl rfl (any_of HT_.out (by kernel_rfl)) (fun _ _ _ h => h) (Or.inl ⟨by rfl,?_⟩) ?_ ?_;rotate_left
          ·
           intro w'
           go_simp
           with_reducible rfl
          rotate_left
          ·
           simp only [Act.put,zi,zj,zk,zG,zH]
           rfl
          refine pure_ (i:=31) (N:=some 155) (v:=?_) (a':=?_) #[true,true,true,true,true,true,true,true,true,true,true,true,true,true,true,true,true,true,true,true,true,true,true,true,true,true,true,true,true,true,false,true,false,false,false,false] rfl rfl (any_of HT_.out (by kernel_rfl)) (fun _ _ _ h => h) (Or.inl ⟨by rfl,?_⟩) ?_ ?_;rotate_left
          ·
           intro w'
           go_simp
           with_reducible rfl
          rotate_left
          ·
           simp only [Act.put,zi,zj,zk,zG,zH]
           rfl
          refine pure_ (i:=32) (N:=some 156) (v:=?_) (a':=?_) #[true,true,true,true,true,true,true,true,true,true,true,true,true,true,true,true,true,true,true,true,true,true,true,true,true,true,true,true,true,true,false,true,true,false,false,false] rfl rfl (any_of HT_.out (by kernel_rfl)) (fun _ _ _ h => h) (Or.inl ⟨by rfl,?_⟩) ?_ ?_;rotate_left
          ·
           intro w'
           go_simp
           with_reducible rfl
          rotate_left
          ·
           simp only [Act.put,zi,zj,zk,zG,zH]
           rfl
          refine take_ (i:=30) (N:=some 154) (v:=?_) (a':=?_) (bm_ 33 36) rfl rfl (yo HT_.out HW_.out (by kernel_rfl)) (fun _ _ _ h => h) (Or.inl ⟨by rfl,?_⟩) hHeld ?_ ?_;rotate_left
          ·
           rintro w' ⟨s0,s1,s2,s3,s4,s5,s6,s7⟩
           go_simp
           with_reducible rfl
          rotate_left
          ·
           simp only [Act.put,zi,zj,zk,zG,zH]
           rfl
          refine one_ (i:=33) (N:=some 157) (bm_ 34 36) rfl rfl (one_of HT_.out (by kernel_rfl)) (by decide) (fun K hK => ?_);refine goes_ Tryd.func54 (by kernel_rfl) rfl #[.agg #[.int .i64 ((rd_T92 t248 x10_2).f1.f0),.int .i64 ((rd_T92 t248 x10_2).f1.f1),.string ((rd_T92 t248 x10_2).f1.f2)],.int .i64 (wrap64 (a1 - 1))] (by rfl) rfl rfl (by (try simp only [zt,zu,zv]);first|done|rfl|(simp only [zw,zx];rfl)|(simp only [yr,ys,zV,zW];rfl)) ?_
          with_reducible refine (ih k2 (by have:=HJ53.out;have:=HK2.out;omega)  ((rd_T92 t248 x10_2).f1.f0) ((rd_T92 t248 x10_2).f1.f1) ((rd_T92 t248 x10_2).f1.f2) (wrap64 (a1 - 1)) true _ A85.out).mono ?_
          rintro e w89 ⟨rfl,hb⟩;have HS0_:=(hb.cell (zl _ _ (hHeld.1))).trans (hHeld.1);have HS1_:=(hb.cell (zl _ _ (hHeld.2.1))).trans (hHeld.2.1);have HS2_:=(hb.cell (zl _ _ (hHeld.2.2.1))).trans (hHeld.2.2.1);have HS3_:=(hb.cell (zl _ _ (hHeld.2.2.2.1))).trans (hHeld.2.2.2.1);have HS4_:=(hb.cell (zl _ _ (hHeld.2.2.2.2.1))).trans (hHeld.2.2.2.2.1);have HS5_:=(hb.cell (zl _ _ (hHeld.2.2.2.2.2.1))).trans (hHeld.2.2.2.2.2.1);have HS6_:=(hb.cell (zl _ _ (hHeld.2.2.2.2.2.2.1))).trans (hHeld.2.2.2.2.2.2.1);have HS7_:=(hb.cell (zl _ _ (hHeld.2.2.2.2.2.2.2))).trans (hHeld.2.2.2.2.2.2.2);refine ⟨_,rfl,?_⟩;replace HO_8:=zh (yg (by (with_reducible repeat (first|apply zm|apply zn|apply zo));exact HO_8.out) hb);replace BK239:=zh (zD (g:=gb239) (o:=.cells #[.int .i64 a0_0,.int .i64 a0_1,.string a0_2] 39 (0,0)) (by (with_reducible repeat (first|refine ze ?_ _|refine zf ?_|refine zg ?_ _));exact BK239.out) hb);replace HB:=zh (zC (by repeat (with_reducible first|exact HB.out|apply za|apply zb|apply zc|refine zd ?_ GE239.out)) hb);(try clear hb);(try clear hb2);(try clear hk);(try clear hi);refine hK.out _ _ ⟨HS0_,HS1_,HS2_,HS3_,HS4_,HS5_,HS6_,HS7_⟩ (fun hHeld => ?_);clear hK K;refine norm_ (a':=?_) ?_ ?_;rotate_left
          ·
           show Act.put _ (some 157) _=_
           simp only [Act.put,zi,zj,zk,zG,zH]
           rfl
          refine pure_ (i:=34) (N:=some 158) (v:=?_) (a':=?_) (bm_ 35 36) rfl rfl (any_of HT_.out (by kernel_rfl)) (fun _ _ _ h => h) (Or.inl ⟨by rfl,?_⟩) ?_ ?_;rotate_left
          ·
           intro w'
           go_simp
           with_reducible rfl
          rotate_left
          ·
           simp only [Act.put,zi,zj,zk,zG,zH]
           rfl
          refine pure_ (i:=35) (N:=some 159) (v:=?_) (a':=?_) (bm_ 36 36) rfl rfl (any_of HT_.out (by kernel_rfl)) (fun _ _ _ h => h) (Or.inl ⟨by rfl,?_⟩) ?_ ?_;rotate_left
          ·
           intro w'
           go_simp
           with_reducible rfl
          rotate_left
          ·
           simp only [Act.put,zi,zj,zk,zG,zH]
           rfl
          refine done_ (done_of HT_.out (by kernel_rfl)) ?_
          try go_wp2
          go_roundg k2
          case measure => have:=HJ53.out;have:=HK2.out;omega
          case rel => exact ⟨(wrap64 (x10_2 + 1)),(by first|rfl|(simp;done)|(simp [*];done)),H',⟨by have:=HJ53.out;have:=HK2.out;omega⟩,⟨by (with_reducible repeat (first|apply zm|apply zn|apply zo));exact HO_8.out⟩,⟨by (with_reducible repeat (first|refine ze ?_ _|refine zf ?_|refine zg ?_ _));exact BK239.out⟩,⟨by repeat (with_reducible first|exact HB.out|apply za|apply zb|apply zc|refine zd ?_ GE239.out)⟩⟩
         replace c86:=yb.mpr c86;subst c86;have H1 : (some false)=some r:=by rw [if_neg (show ¬ (false=true) by decide)] at H;exact H
         clear H;have H:=H1;clear H1;obtain rfl:=zU H;obtain ⟨Ao90,co90,eo90⟩:=yk HO_8.out;subst eo90
         try go_wp2
         replace HO_8:=zh (zo HO_8.out);replace BK239:=zh (zf BK239.out);replace HB:=zh (zc HB.out);have p252 : 0≤(x10_2 : Int):=zy (by first|(with_reducible assumption)|assumption);have q252 : x10_2<(t248.length : Int):=zy (by first|(with_reducible assumption)|assumption);obtain ⟨ad252,e252,hx252_0,hx252_1,hx252_2,hx252_3⟩:=at_T92 (yh HO_8.out).2.2 x10_2 p252 q252
         cases e252
         replace p252:=eq_true p252;replace q252:=eq_true q252;have p258 : 0≤(x10_2 : Int):=zy (by first|(with_reducible assumption)|assumption);have q258 : x10_2<(t248.length : Int):=zy (by first|(with_reducible assumption)|assumption);obtain ⟨ad258,e258,hx258_0,hx258_1,hx258_2,hx258_3⟩:=at_T92 (yh HO_8.out).2.2 x10_2 p258 q258;obtain rfl : ad252=ad258:=(by injection e258);replace p258:=eq_true p258;replace q258:=eq_true q258;refine start_ (n:=36) (S:=fun w' => w'.cell? (ad252.add ((x10_2).toNat * 4))=some (.string ((rd_T92 t248 x10_2).f0))∧w'.cell? ⟨(ad252.add ((x10_2).toNat * 4)).block,(ad252.add ((x10_2).toNat * 4)).off + 1,none⟩=some (.int .i64 ((rd_T92 t248 x10_2).f1.f0))∧w'.cell? ⟨(ad252.add ((x10_2).toNat * 4)).block,(ad252.add ((x10_2).toNat * 4)).off + 2,none⟩=some (.int .i64 ((rd_T92 t248 x10_2).f1.f1))∧w'.cell? ⟨(ad252.add ((x10_2).toNat * 4)).block,(ad252.add ((x10_2).toNat * 4)).off + 3,none⟩=some (.string ((rd_T92 t248 x10_2).f1.f2))∧w'.cell? (ad252.add ((x10_2).toNat * 4))=some (.string ((rd_T92 t248 x10_2).f0))∧w'.cell? ⟨(ad252.add ((x10_2).toNat * 4)).block,(ad252.add ((x10_2).toNat * 4)).off + 1,none⟩=some (.int .i64 ((rd_T92 t248 x10_2).f1.f0))∧w'.cell? ⟨(ad252.add ((x10_2).toNat * 4)).block,(ad252.add ((x10_2).toNat * 4)).off + 2,none⟩=some (.int .i64 ((rd_T92 t248 x10_2).f1.f1))∧w'.cell? ⟨(ad252.add ((x10_2).toNat * 4)).block,(ad252.add ((x10_2).toNat * 4)).off + 3,none⟩=some (.string ((rd_T92 t248 x10_2).f1.f2))) (ds:=[]) (bm_ 0 36) (by kernel_rfl) rfl rfl ⟨hx252_0,hx252_1,hx252_2,hx252_3,hx258_0,hx258_1,hx258_2,hx258_3⟩ (fun hHeld => ?_);refine with_tabW spec_l01OK.tab27 spec_l01OK.bits27 (fun HT_ HW_ => ?_);generalize wr.drew=w91 at HO_8 BK239 HB hx252_0 hx252_1 hx252_2 hx252_3 hx258_0 hx258_1 hx258_2 hx258_3 hHeld ⊢;refine pure_ (i:=0) (N:=some 124) (v:=?_) (a':=?_) (bm_ 1 36) rfl rfl (any_of HT_.out (by kernel_rfl)) (fun _ _ _ h => h) (Or.inl ⟨by rfl,?_⟩) ?_ ?_;rotate_left
         ·
          intro w'
          go_simp
          with_reducible rfl
         rotate_left
         ·
          simp only [Act.put,zi,zj,zk,zG,zH]
          rfl
         refine pure_ (i:=1) (N:=some 125) (v:=?_) (a':=?_) (bm_ 2 36) rfl rfl (any_of HT_.out (by kernel_rfl)) (fun _ _ _ h => h) (Or.inl ⟨by rfl,?_⟩) ?_ ?_;rotate_left
         ·
          intro w'
          go_simp
          with_reducible rfl
         rotate_left
         ·
          simp only [Act.put,zi,zj,zk,zG,zH]
          rfl
         refine pure_ (i:=2) (N:=some 126) (v:=?_) (a':=?_) (bm_ 3 36) rfl rfl (any_of HT_.out (by kernel_rfl)) (fun _ _ _ h => h) (Or.inl ⟨by rfl,?_⟩) ?_ ?_;rotate_left
         ·
          intro w'
          go_simp
          with_reducible rfl
         rotate_left
         ·
          simp only [Act.put,zi,zj,zk,zG,zH]
          rfl
         refine pure_ (i:=3) (N:=some 127) (v:=?_) (a':=?_) (bm_ 4 36) rfl rfl (any_of HT_.out (by kernel_rfl)) (fun _ _ _ h => h) (Or.inl ⟨by rfl,?_⟩) ?_ ?_;rotate_left
         ·
          intro w'
          go_simp
          with_reducible rfl
         rotate_left
         ·
          simp only [Act.put,zi,zj,zk,zG,zH]
          rfl
         refine take_ (i:=4) (N:=some 128) (v:=?_) (a':=?_) (bm_ 5 36) rfl rfl (yo HT_.out HW_.out (by kernel_rfl)) (fun _ _ _ h => h) (Or.inl ⟨by rfl,?_⟩) hHeld ?_ ?_;rotate_left
         ·
          rintro w' ⟨s0,s1,s2,s3,s4,s5,s6,s7⟩
          go_simp
          with_reducible rfl
         rotate_left
         ·
          simp only [Act.put,zi,zj,zk,zG,zH]
          rfl
         refine one_ (i:=5) (N:=some 129) (bm_ 6 36) rfl rfl (one_of HT_.out (by kernel_rfl)) (by decide) (fun K hK => ?_);refine goes_ Tryd.func28 (by kernel_rfl) rfl #[.string ((rd_T92 t248 x10_2).f0)] (by rfl) rfl rfl (by (try simp only [zt,zu,zv]);first|done|rfl|(simp only [zw,zx];rfl)|(simp only [yr,ys,zV,zW];rfl)) ?_
         with_reducible refine (spec_l01Name.calls k2  ((rd_T92 t248 x10_2).f0) true _ A68.out).mono ?_
         rintro e w' ⟨rfl,⟨nd,rfl⟩⟩;refine ⟨_,rfl,?_⟩;refine hK.out _ _ ⟨hHeld.1,hHeld.2.1,hHeld.2.2.1,hHeld.2.2.2.1,hHeld.2.2.2.2.1,hHeld.2.2.2.2.2.1,hHeld.2.2.2.2.2.2.1,hHeld.2.2.2.2.2.2.2⟩ (fun hHeld => ?_);clear hK K;refine norm_ (a':=?_) ?_ ?_;rotate_left
         ·
          show Act.put _ (some 129) _=_
          simp only [Act.put,zi,zj,zk,zG,zH]
          rfl
         refine pure_ (i:=6) (N:=some 130) (v:=?_) (a':=?_) (bm_ 7 36) rfl rfl (any_of HT_.out (by kernel_rfl)) (fun _ _ _ h => h) (Or.inl ⟨by rfl,?_⟩) ?_ ?_;rotate_left
         ·
          intro w'
          go_simp
          with_reducible rfl
         rotate_left
         ·
          simp only [Act.put,zi,zj,zk,zG,zH]
          rfl
         refine pure_ (i:=7) (N:=some 131) (v:=?_) (a':=?_) (bm_ 8 36) rfl rfl (any_of HT_.out (by kernel_rfl)) (fun _ _ _ h => h) (Or.inl ⟨by rfl,?_⟩) ?_ ?_;rotate_left
         ·
          intro w'
          go_simp
          with_reducible rfl
         rotate_left
         ·
          simp only [Act.put,zi,zj,zk,zG,zH]
          rfl
         refine pure_ (i:=8) (N:=some 132) (v:=?_) (a':=?_) (bm_ 9 36) rfl rfl (any_of HT_.out (by kernel_rfl)) (fun _ _ _ h => h) (Or.inl ⟨by rfl,?_⟩) ?_ ?_;rotate_left
         ·
          intro w'
          go_simp
          with_reducible rfl
         rotate_left
         ·
          simp only [Act.put,zi,zj,zk,zG,zH]
          rfl
         refine pure_ (i:=9) (N:=some 133) (v:=?_) (a':=?_) (bm_ 10 36) rfl rfl (any_of HT_.out (by kernel_rfl)) (fun _ _ _ h => h) (Or.inl ⟨by rfl,?_⟩) ?_ ?_;rotate_left
         ·
          intro w'
          go_simp
          with_reducible rfl
         rotate_left
         ·
          simp only [Act.put,zi,zj,zk,zG,zH]
          rfl
         refine pure_ (i:=10) (N:=some 134) (v:=?_) (a':=?_) (bm_ 11 36) rfl rfl (any_of HT_.out (by kernel_rfl)) (fun _ _ _ h => h) (Or.inl ⟨by rfl,?_⟩) ?_ ?_;rotate_left
         ·
          intro w'
          go_simp
          with_reducible rfl
         rotate_left
         ·
          simp only [Act.put,zi,zj,zk,zG,zH]
          rfl
         refine pure_ (i:=11) (N:=some 135) (v:=undef) (a':=?_) (bm_ 12 36) rfl rfl (any_of HT_.out (by kernel_rfl)) (fun _ _ _ h => h) (Or.inr ⟨by rfl,rfl⟩) ?_ ?_;rotate_left
         ·
          simp only [Act.put,zi,zj,zk,zG,zH]
          rfl
         refine pure_ (i:=12) (N:=some 136) (v:=undef) (a':=?_) (bm_ 13 36) rfl rfl (any_of HT_.out (by kernel_rfl)) (fun _ _ _ h => h) (Or.inr ⟨by rfl,rfl⟩) ?_ ?_;rotate_left
         ·
          simp only [Act.put,zi,zj,zk,zG,zH]
          rfl
         refine pure_ (i:=13) (N:=some 137) (v:=undef) (a':=?_) (bm_ 14 36) rfl rfl (any_of HT_.out (by kernel_rfl)) (fun _ _ _ h => h) (Or.inr ⟨by rfl,rfl⟩) ?_ ?_;rotate_left
         ·
          simp only [Act.put,zi,zj,zk,zG,zH]
          rfl
         refine pure_ (i:=14) (N:=some 138) (v:=undef) (a':=?_) (bm_ 15 36) rfl rfl (any_of HT_.out (by kernel_rfl)) (fun _ _ _ h => h) (Or.inr ⟨by rfl,rfl⟩) ?_ ?_;rotate_left
         ·
          simp only [Act.put,zi,zj,zk,zG,zH]
          rfl
         refine pure_ (i:=15) (N:=some 139) (v:=undef) (a':=?_) (bm_ 16 36) rfl rfl (any_of HT_.out (by kernel_rfl)) (fun _ _ _ h => h) (Or.inr ⟨by rfl,rfl⟩) ?_ ?_;rotate_left
         ·
          simp only [Act.put,zi,zj,zk,zG,zH]
          rfl
         refine pure_ (i:=16) (N:=some 140) (v:=undef) (a':=?_) (bm_ 17 36) rfl rfl (any_of HT_.out (by kernel_rfl)) (fun _ _ _ h => h) (Or.inr ⟨by rfl,rfl⟩) ?_ ?_;rotate_left
         ·
          simp only [Act.put,zi,zj,zk,zG,zH]
          rfl
         refine pure_ (i:=17) (N:=some 141) (v:=undef) (a':=?_) (bm_ 18 36) rfl rfl (any_of HT_.out (by kernel_rfl)) (fun _ _ _ h => h) (Or.inr ⟨by rfl,rfl⟩) ?_ ?_;rotate_left
         ·
          simp only [Act.put,zi,zj,zk,zG,zH]
          rfl
         refine pure_ (i:=18) (N:=some 142) (v:=undef) (a':=?_) (bm_ 19 36) rfl rfl (any_of HT_.out (by kernel_rfl)) (fun _ _ _ h => h) (Or.inr ⟨by rfl,rfl⟩) ?_ ?_;rotate_left
         ·
          simp only [Act.put,zi,zj,zk,zG,zH]
          rfl
         refine pure_ (i:=19) (N:=some 143) (v:=undef) (a':=?_) (bm_ 20 36) rfl rfl (any_of HT_.out (by kernel_rfl)) (fun _ _ _ h => h) (Or.inr ⟨by rfl,rfl⟩) ?_ ?_;rotate_left
         ·
          simp only [Act.put,zi,zj,zk,zG,zH]
          rfl
         refine pure_ (i:=20) (N:=some 144) (v:=undef) (a':=?_) (bm_ 21 36) rfl rfl (any_of HT_.out (by kernel_rfl)) (fun _ _ _ h => h) (Or.inr ⟨by rfl,rfl⟩) ?_ ?_;rotate_left
         ·
          simp only [Act.put,zi,zj,zk,zG,zH]
          rfl
         refine pure_ (i:=21) (N:=some 145) (v:=undef) (a':=?_) (bm_ 22 36) rfl rfl (any_of HT_.out (by kernel_rfl)) (fun _ _ _ h => h) (Or.inr ⟨by rfl,rfl⟩) ?_ ?_;rotate_left
         ·
          simp only [Act.put,zi,zj,zk,zG,zH]
          rfl
         refine pure_ (i:=22) (N:=some 146) (v:=undef) (a':=?_) (bm_ 23 36) rfl rfl (any_of HT_.out (by kernel_rfl)) (fun _ _ _ h => h) (Or.inr ⟨by rfl,rfl⟩) ?_ ?_;rotate_left
         ·
          simp only [Act.put,zi,zj,zk,zG,zH]
          rfl
         refine pure_ (i:=23) (N:=some 147) (v:=?_) (a':=?_) (bm_ 24 36) rfl rfl (any_of HT_.out (by kernel_rfl)) (fun _ _ _ h => h) (Or.inl ⟨by rfl,?_⟩) ?_ ?_;rotate_left
         ·
          intro w'
          go_simp
          with_reducible rfl
         rotate_left
         ·
          simp only [Act.put,zi,zj,zk,zG,zH]
          rfl
         refine pure_ (i:=24) (N:=some 148) (v:=?_) (a':=?_) (bm_ 25 36) rfl rfl (any_of HT_.out (by kernel_rfl)) (fun _ _ _ h => h) (Or.inl ⟨by rfl,?_⟩) ?_ ?_;rotate_left
         ·
          intro w'
          go_simp
          with_reducible rfl
         rotate_left
         ·
          simp only [Act.put,zi,zj,zk,zG,zH]
          rfl
         refine pure_ (i:=25) (N:=some 149) (v:=?_) (a':=?_) (bm_ 26 36) rfl rfl (any_of HT_.out (by kernel_rfl)) (fun _ _ _ h => h) (Or.inl ⟨by rfl,?_⟩) ?_ ?_;rotate_left
         ·
          intro w'
          go_simp
          with_reducible rfl
         rotate_left
         ·
          simp only [Act.put,zi,zj,zk,zG,zH]
          rfl
         refine pure_ (i:=26) (N:=some 150) (v:=?_) (a':=?_) (bm_ 27 36) rfl rfl (any_of HT_.out (by kernel_rfl)) (fun _ _ _ h => h) (Or.inl ⟨by rfl,?_⟩) ?_ ?_;rotate_left
         ·
          intro w'
          go_simp
          with_reducible rfl
         rotate_left
         ·
          simp only [Act.put,zi,zj,zk,zG,zH]
          rfl
         refine pure_ (i:=27) (N:=some 151) (v:=?_) (a':=?_) (bm_ 28 36) rfl rfl (any_of HT_.out (by kernel_rfl)) (fun _ _ _ h => h) (Or.inl ⟨by rfl,?_⟩) ?_ ?_;rotate_left
         ·
          intro w'
          go_simp
          with_reducible rfl
         rotate_left
         ·
          simp only [Act.put,zi,zj,zk,zG,zH]
          rfl
         refine pure_ (i:=28) (N:=some 152) (v:=?_) (a':=?_) (bm_ 29 36) rfl rfl (any_of HT_.out (by kernel_rfl)) (fun _ _ _ h => h) (Or.inl ⟨by rfl,?_⟩) ?_ ?_;rotate_left
         ·
          intro w'
          go_simp
          with_reducible rfl
         rotate_left
         ·
          simp only [Act.put,zi,zj,zk,zG,zH]
          rfl
         refine pure_ (i:=29) (N:=some 153) (v:=?_) (a':=?_) (bm_ 30 36) rfl rfl (any_of HT_.out (by kernel_rfl)) (fun _ _ _ h => h) (Or.inl ⟨by rfl,?_⟩) ?_ ?_;rotate_left
         ·
          intro w'
          go_simp
          with_reducible rfl
         rotate_left
         ·
          simp only [Act.put,zi,zj,zk,zG,zH]
          rfl
         refine pure_ (i:=31) (N:=some 155) (v:=?_) (a':=?_) #[true,true,true,true,true,true,true,true,true,true,true,true,true,true,true,true,true,true,true,true,true,true,true,true,true,true,true,true,true,true,false,true,false,false,false,false] rfl rfl (any_of HT_.out (by kernel_rfl)) (fun _ _ _ h => h) (Or.inl ⟨by rfl,?_⟩) ?_ ?_;rotate_left
         ·
          intro w'
          go_simp
          with_reducible rfl
         rotate_left
         ·
          simp only [Act.put,zi,zj,zk,zG,zH]
          rfl
         refine pure_ (i:=32) (N:=some 156) (v:=?_) (a':=?_) #[true,true,true,true,true,true,true,true,true,true,true,true,true,true,true,true,true,true,true,true,true,true,true,true,true,true,true,true,true,true,false,true,true,false,false,false] rfl rfl (any_of HT_.out (by kernel_rfl)) (fun _ _ _ h => h) (Or.inl ⟨by rfl,?_⟩) ?_ ?_;rotate_left
         ·
          intro w'
          go_simp
          with_reducible rfl
         rotate_left
         ·
          simp only [Act.put,zi,zj,zk,zG,zH]
          rfl
         refine take_ (i:=30) (N:=some 154) (v:=?_) (a':=?_) (bm_ 33 36) rfl rfl (yo HT_.out HW_.out (by kernel_rfl)) (fun _ _ _ h => h) (Or.inl ⟨by rfl,?_⟩) hHeld ?_ ?_;rotate_left
         ·
          rintro w' ⟨s0,s1,s2,s3,s4,s5,s6,s7⟩
          go_simp
          with_reducible rfl
         rotate_left
         ·
          simp only [Act.put,zi,zj,zk,zG,zH]
          rfl
         refine one_ (i:=33) (N:=some 157) (bm_ 34 36) rfl rfl (one_of HT_.out (by kernel_rfl)) (by decide) (fun K hK => ?_);refine goes_ Tryd.func54 (by kernel_rfl) rfl #[.agg #[.int .i64 ((rd_T92 t248 x10_2).f1.f0),.int .i64 ((rd_T92 t248 x10_2).f1.f1),.string ((rd_T92 t248 x10_2).f1.f2)],.int .i64 (wrap64 (a1 - 1))] (by rfl) rfl rfl (by (try simp only [zt,zu,zv]);first|done|rfl|(simp only [zw,zx];rfl)|(simp only [yr,ys,zV,zW];rfl)) ?_
         with_reducible refine (ih k2 (by have:=HJ53.out;have:=HK2.out;omega)  ((rd_T92 t248 x10_2).f1.f0) ((rd_T92 t248 x10_2).f1.f1) ((rd_T92 t248 x10_2).f1.f2) (wrap64 (a1 - 1)) false _ A85.out).mono ?_
         rintro e w92 ⟨rfl,hb⟩;have HS0_:=(hb.cell (zl _ _ (hHeld.1))).trans (hHeld.1);have HS1_:=(hb.cell (zl _ _ (hHeld.2.1))).trans (hHeld.2.1);have HS2_:=(hb.cell (zl _ _ (hHeld.2.2.1))).trans (hHeld.2.2.1);have HS3_:=(hb.cell (zl _ _ (hHeld.2.2.2.1))).trans (hHeld.2.2.2.1);have HS4_:=(hb.cell (zl _ _ (hHeld.2.2.2.2.1))).trans (hHeld.2.2.2.2.1);have HS5_:=(hb.cell (zl _ _ (hHeld.2.2.2.2.2.1))).trans (hHeld.2.2.2.2.2.1);have HS6_:=(hb.cell (zl _ _ (hHeld.2.2.2.2.2.2.1))).trans (hHeld.2.2.2.2.2.2.1);have HS7_:=(hb.cell (zl _ _ (hHeld.2.2.2.2.2.2.2))).trans (hHeld.2.2.2.2.2.2.2);refine ⟨_,rfl,?_⟩;replace HO_8:=zh (yg (by (with_reducible repeat (first|apply zm|apply zn|apply zo));exact HO_8.out) hb);replace BK239:=zh (zD (g:=gb239) (o:=.cells #[.int .i64 a0_0,.int .i64 a0_1,.string a0_2] 39 (0,0)) (by (with_reducible repeat (first|refine ze ?_ _|refine zf ?_|refine zg ?_ _));exact BK239.out) hb);replace HB:=zh (zC (by repeat (with_reducible first|exact HB.out|apply za|apply zb|apply zc|refine zd ?_ GE239.out)) hb);(try clear hb);(try clear hb2);(try clear hk);(try clear hi);refine hK.out _ _ ⟨HS0_,HS1_,HS2_,HS3_,HS4_,HS5_,HS6_,HS7_⟩ (fun hHeld => ?_);clear hK K;refine norm_ (a':=?_) ?_ ?_;rotate_left
         ·
          show Act.put _ (some 157) _=_
          simp only [Act.put,zi,zj,zk,zG,zH]
          rfl
         refine pure_ (i:=34) (N:=some 158) (v:=?_) (a':=?_) (bm_ 35 36) rfl rfl (any_of HT_.out (by kernel_rfl)) (fun _ _ _ h => h) (Or.inl ⟨by rfl,?_⟩) ?_ ?_;rotate_left
         ·
          intro w'
          go_simp
          with_reducible rfl
         rotate_left
         ·
          simp only [Act.put,zi,zj,zk,zG,zH]
          rfl
         refine pure_ (i:=35) (N:=some 159) (v:=?_) (a':=?_) (bm_ 36 36) rfl rfl (any_of HT_.out (by kernel_rfl)) (fun _ _ _ h => h) (Or.inl ⟨by rfl,?_⟩) ?_ ?_;rotate_left
         ·
          intro w'
          go_simp
          with_reducible rfl
         rotate_left
         ·
          simp only [Act.put,zi,zj,zk,zG,zH]
          rfl
         refine done_ (done_of HT_.out (by kernel_rfl)) ?_
         try go_wp2
         go_ret
         exact ⟨by first|rfl|(simp [yt,yu] <;> rfl)|(simp [*,yt,yu] <;> rfl),by repeat (with_reducible first|exact HB.out|apply za|apply zb|apply zc|refine zd ?_ GE239.out)⟩
        replace c69:=yb.mpr c69;subst c69;have H1 : (some false)=some r:=by rw [if_neg (show ¬ (false=true) by decide)] at H;exact H
        clear H;have H:=H1;clear H1;obtain rfl:=zU H;obtain ⟨Ao93,co93,eo93⟩:=yk HO_8.out;subst eo93
        try go_wp2
        replace HO_8:=zh (zo HO_8.out);replace BK239:=zh (zf BK239.out);replace HB:=zh (zc HB.out);have p252 : 0≤(x10_2 : Int):=zy (by first|(with_reducible assumption)|assumption);have q252 : x10_2<(t248.length : Int):=zy (by first|(with_reducible assumption)|assumption);obtain ⟨ad252,e252,hx252_0,hx252_1,hx252_2,hx252_3⟩:=at_T92 (yh HO_8.out).2.2 x10_2 p252 q252
        cases e252
        replace p252:=eq_true p252;replace q252:=eq_true q252;refine start_ (n:=36) (S:=fun w' => w'.cell? (ad252.add ((x10_2).toNat * 4))=some (.string ((rd_T92 t248 x10_2).f0))∧w'.cell? ⟨(ad252.add ((x10_2).toNat * 4)).block,(ad252.add ((x10_2).toNat * 4)).off + 1,none⟩=some (.int .i64 ((rd_T92 t248 x10_2).f1.f0))∧w'.cell? ⟨(ad252.add ((x10_2).toNat * 4)).block,(ad252.add ((x10_2).toNat * 4)).off + 2,none⟩=some (.int .i64 ((rd_T92 t248 x10_2).f1.f1))∧w'.cell? ⟨(ad252.add ((x10_2).toNat * 4)).block,(ad252.add ((x10_2).toNat * 4)).off + 3,none⟩=some (.string ((rd_T92 t248 x10_2).f1.f2))) (ds:=[]) (bm_ 0 36) (by kernel_rfl) rfl rfl ⟨hx252_0,hx252_1,hx252_2,hx252_3⟩ (fun hHeld => ?_);refine with_tabW spec_l01OK.tab27 spec_l01OK.bits27 (fun HT_ HW_ => ?_);generalize wr.drew=w94 at HO_8 BK239 HB hx252_0 hx252_1 hx252_2 hx252_3 hHeld ⊢;refine pure_ (i:=0) (N:=some 124) (v:=?_) (a':=?_) (bm_ 1 36) rfl rfl (any_of HT_.out (by kernel_rfl)) (fun _ _ _ h => h) (Or.inl ⟨by rfl,?_⟩) ?_ ?_;rotate_left
        ·
         intro w'
         go_simp
         with_reducible rfl
        rotate_left
        ·
         simp only [Act.put,zi,zj,zk,zG,zH]
         rfl
        refine pure_ (i:=1) (N:=some 125) (v:=?_) (a':=?_) (bm_ 2 36) rfl rfl (any_of HT_.out (by kernel_rfl)) (fun _ _ _ h => h) (Or.inl ⟨by rfl,?_⟩) ?_ ?_;rotate_left
        ·
         intro w'
         go_simp
         with_reducible rfl
        rotate_left
        ·
         simp only [Act.put,zi,zj,zk,zG,zH]
         rfl
        refine pure_ (i:=2) (N:=some 126) (v:=?_) (a':=?_) (bm_ 3 36) rfl rfl (any_of HT_.out (by kernel_rfl)) (fun _ _ _ h => h) (Or.inl ⟨by rfl,?_⟩) ?_ ?_;rotate_left
        ·
         intro w'
         go_simp
         with_reducible rfl
        rotate_left
        ·
         simp only [Act.put,zi,zj,zk,zG,zH]
         rfl
        refine pure_ (i:=3) (N:=some 127) (v:=?_) (a':=?_) (bm_ 4 36) rfl rfl (any_of HT_.out (by kernel_rfl)) (fun _ _ _ h => h) (Or.inl ⟨by rfl,?_⟩) ?_ ?_;rotate_left
        ·
         intro w'
         go_simp
         with_reducible rfl
        rotate_left
        ·
         simp only [Act.put,zi,zj,zk,zG,zH]
         rfl
        refine take_ (i:=4) (N:=some 128) (v:=?_) (a':=?_) (bm_ 5 36) rfl rfl (yo HT_.out HW_.out (by kernel_rfl)) (fun _ _ _ h => h) (Or.inl ⟨by rfl,?_⟩) hHeld ?_ ?_;rotate_left
        ·
         rintro w' ⟨s0,s1,s2,s3⟩
         go_simp
         with_reducible rfl
        rotate_left
        ·
         simp only [Act.put,zi,zj,zk,zG,zH]
         rfl
        refine one_ (i:=5) (N:=some 129) (bm_ 6 36) rfl rfl (one_of HT_.out (by kernel_rfl)) (by decide) (fun K hK => ?_);refine goes_ Tryd.func28 (by kernel_rfl) rfl #[.string ((rd_T92 t248 x10_2).f0)] (by rfl) rfl rfl (by (try simp only [zt,zu,zv]);first|done|rfl|(simp only [zw,zx];rfl)|(simp only [yr,ys,zV,zW];rfl)) ?_
        with_reducible refine (spec_l01Name.calls k2  ((rd_T92 t248 x10_2).f0) false _ A68.out).mono ?_
        rintro e w' ⟨rfl,⟨nd,rfl⟩⟩;refine ⟨_,rfl,?_⟩;refine hK.out _ _ ⟨hHeld.1,hHeld.2.1,hHeld.2.2.1,hHeld.2.2.2⟩ (fun hHeld => ?_);clear hK K;refine norm_ (a':=?_) ?_ ?_;rotate_left
        ·
         show Act.put _ (some 129) _=_
         simp only [Act.put,zi,zj,zk,zG,zH]
         rfl
        refine pure_ (i:=6) (N:=some 130) (v:=?_) (a':=?_) (bm_ 7 36) rfl rfl (any_of HT_.out (by kernel_rfl)) (fun _ _ _ h => h) (Or.inl ⟨by rfl,?_⟩) ?_ ?_;rotate_left
        ·
         intro w'
         go_simp
         with_reducible rfl
        rotate_left
        ·
         simp only [Act.put,zi,zj,zk,zG,zH]
         rfl
        refine pure_ (i:=7) (N:=some 131) (v:=?_) (a':=?_) (bm_ 8 36) rfl rfl (any_of HT_.out (by kernel_rfl)) (fun _ _ _ h => h) (Or.inl ⟨by rfl,?_⟩) ?_ ?_;rotate_left
        ·
         intro w'
         go_simp
         with_reducible rfl
        rotate_left
        ·
         simp only [Act.put,zi,zj,zk,zG,zH]
         rfl
        refine pure_ (i:=8) (N:=some 132) (v:=undef) (a':=?_) (bm_ 9 36) rfl rfl (any_of HT_.out (by kernel_rfl)) (fun _ _ _ h => h) (Or.inr ⟨by rfl,rfl⟩) ?_ ?_;rotate_left
        ·
         simp only [Act.put,zi,zj,zk,zG,zH]
         rfl
        refine pure_ (i:=9) (N:=some 133) (v:=undef) (a':=?_) (bm_ 10 36) rfl rfl (any_of HT_.out (by kernel_rfl)) (fun _ _ _ h => h) (Or.inr ⟨by rfl,rfl⟩) ?_ ?_;rotate_left
        ·
         simp only [Act.put,zi,zj,zk,zG,zH]
         rfl
        refine pure_ (i:=10) (N:=some 134) (v:=undef) (a':=?_) (bm_ 11 36) rfl rfl (any_of HT_.out (by kernel_rfl)) (fun _ _ _ h => h) (Or.inr ⟨by rfl,rfl⟩) ?_ ?_;rotate_left
        ·
         simp only [Act.put,zi,zj,zk,zG,zH]
         rfl
        refine pure_ (i:=11) (N:=some 135) (v:=undef) (a':=?_) (bm_ 12 36) rfl rfl (any_of HT_.out (by kernel_rfl)) (fun _ _ _ h => h) (Or.inr ⟨by rfl,rfl⟩) ?_ ?_;rotate_left
        ·
         simp only [Act.put,zi,zj,zk,zG,zH]
         rfl
        refine pure_ (i:=12) (N:=some 136) (v:=undef) (a':=?_) (bm_ 13 36) rfl rfl (any_of HT_.out (by kernel_rfl)) (fun _ _ _ h => h) (Or.inr ⟨by rfl,rfl⟩) ?_ ?_;rotate_left
        ·
         simp only [Act.put,zi,zj,zk,zG,zH]
         rfl
        refine pure_ (i:=13) (N:=some 137) (v:=undef) (a':=?_) (bm_ 14 36) rfl rfl (any_of HT_.out (by kernel_rfl)) (fun _ _ _ h => h) (Or.inr ⟨by rfl,rfl⟩) ?_ ?_;rotate_left
        ·
         simp only [Act.put,zi,zj,zk,zG,zH]
         rfl
        refine pure_ (i:=14) (N:=some 138) (v:=undef) (a':=?_) (bm_ 15 36) rfl rfl (any_of HT_.out (by kernel_rfl)) (fun _ _ _ h => h) (Or.inr ⟨by rfl,rfl⟩) ?_ ?_;rotate_left
        ·
         simp only [Act.put,zi,zj,zk,zG,zH]
         rfl
        refine pure_ (i:=15) (N:=some 139) (v:=undef) (a':=?_) (bm_ 16 36) rfl rfl (any_of HT_.out (by kernel_rfl)) (fun _ _ _ h => h) (Or.inr ⟨by rfl,rfl⟩) ?_ ?_;rotate_left
        ·
         simp only [Act.put,zi,zj,zk,zG,zH]
         rfl
        refine pure_ (i:=16) (N:=some 140) (v:=undef) (a':=?_) (bm_ 17 36) rfl rfl (any_of HT_.out (by kernel_rfl)) (fun _ _ _ h => h) (Or.inr ⟨by rfl,rfl⟩) ?_ ?_;rotate_left
        ·
         simp only [Act.put,zi,zj,zk,zG,zH]
         rfl
        refine pure_ (i:=17) (N:=some 141) (v:=undef) (a':=?_) (bm_ 18 36) rfl rfl (any_of HT_.out (by kernel_rfl)) (fun _ _ _ h => h) (Or.inr ⟨by rfl,rfl⟩) ?_ ?_;rotate_left
        ·
         simp only [Act.put,zi,zj,zk,zG,zH]
         rfl
        refine pure_ (i:=18) (N:=some 142) (v:=undef) (a':=?_) (bm_ 19 36) rfl rfl (any_of HT_.out (by kernel_rfl)) (fun _ _ _ h => h) (Or.inr ⟨by rfl,rfl⟩) ?_ ?_;rotate_left
        ·
         simp only [Act.put,zi,zj,zk,zG,zH]
         rfl
        refine pure_ (i:=19) (N:=some 143) (v:=undef) (a':=?_) (bm_ 20 36) rfl rfl (any_of HT_.out (by kernel_rfl)) (fun _ _ _ h => h) (Or.inr ⟨by rfl,rfl⟩) ?_ ?_;rotate_left
        ·
         simp only [Act.put,zi,zj,zk,zG,zH]
         rfl
        refine pure_ (i:=20) (N:=some 144) (v:=undef) (a':=?_) (bm_ 21 36) rfl rfl (any_of HT_.out (by kernel_rfl)) (fun _ _ _ h => h) (Or.inr ⟨by rfl,rfl⟩) ?_ ?_;rotate_left
        ·
         simp only [Act.put,zi,zj,zk,zG,zH]
         rfl
        refine pure_ (i:=21) (N:=some 145) (v:=undef) (a':=?_) (bm_ 22 36) rfl rfl (any_of HT_.out (by kernel_rfl)) (fun _ _ _ h => h) (Or.inr ⟨by rfl,rfl⟩) ?_ ?_;rotate_left
        ·
         simp only [Act.put,zi,zj,zk,zG,zH]
         rfl
        refine pure_ (i:=22) (N:=some 146) (v:=undef) (a':=?_) (bm_ 23 36) rfl rfl (any_of HT_.out (by kernel_rfl)) (fun _ _ _ h => h) (Or.inr ⟨by rfl,rfl⟩) ?_ ?_;rotate_left
        ·
         simp only [Act.put,zi,zj,zk,zG,zH]
         rfl
        refine pure_ (i:=23) (N:=some 147) (v:=undef) (a':=?_) (bm_ 24 36) rfl rfl (any_of HT_.out (by kernel_rfl)) (fun _ _ _ h => h) (Or.inr ⟨by rfl,rfl⟩) ?_ ?_;rotate_left
        ·
         simp only [Act.put,zi,zj,zk,zG,zH]
         rfl
        refine pure_ (i:=24) (N:=some 148) (v:=?_) (a':=?_) (bm_ 25 36) rfl rfl (any_of HT_.out (by kernel_rfl)) (fun _ _ _ h => h) (Or.inl ⟨by rfl,?_⟩) ?_ ?_;rotate_left
        ·
         intro w'
         go_simp
         with_reducible rfl
        rotate_left
        ·
         simp only [Act.put,zi,zj,zk,zG,zH]
         rfl
        refine pure_ (i:=25) (N:=some 149) (v:=?_) (a':=?_) (bm_ 26 36) rfl rfl (any_of HT_.out (by kernel_rfl)) (fun _ _ _ h => h) (Or.inl ⟨by rfl,?_⟩) ?_ ?_;rotate_left
        ·
         intro w'
         go_simp
         with_reducible rfl
        rotate_left
        ·
         simp only [Act.put,zi,zj,zk,zG,zH]
         rfl
        refine pure_ (i:=26) (N:=some 150) (v:=undef) (a':=?_) (bm_ 27 36) rfl rfl (any_of HT_.out (by kernel_rfl)) (fun _ _ _ h => h) (Or.inr ⟨by rfl,rfl⟩) ?_ ?_;rotate_left
        ·
         simp only [Act.put,zi,zj,zk,zG,zH]
         rfl
        refine pure_ (i:=27) (N:=some 151) (v:=undef) (a':=?_) (bm_ 28 36) rfl rfl (any_of HT_.out (by kernel_rfl)) (fun _ _ _ h => h) (Or.inr ⟨by rfl,rfl⟩) ?_ ?_;rotate_left
        ·
         simp only [Act.put,zi,zj,zk,zG,zH]
         rfl
        refine pure_ (i:=28) (N:=some 152) (v:=undef) (a':=?_) (bm_ 29 36) rfl rfl (any_of HT_.out (by kernel_rfl)) (fun _ _ _ h => h) (Or.inr ⟨by rfl,rfl⟩) ?_ ?_;rotate_left
        ·
         simp only [Act.put,zi,zj,zk,zG,zH]
         rfl
        refine pure_ (i:=29) (N:=some 153) (v:=undef) (a':=?_) (bm_ 30 36) rfl rfl (any_of HT_.out (by kernel_rfl)) (fun _ _ _ h => h) (Or.inr ⟨by rfl,rfl⟩) ?_ ?_;rotate_left
        ·
         simp only [Act.put,zi,zj,zk,zG,zH]
         rfl
        refine pure_ (i:=30) (N:=some 154) (v:=undef) (a':=?_) (bm_ 31 36) rfl rfl (any_of HT_.out (by kernel_rfl)) (fun _ _ _ h => h) (Or.inr ⟨by rfl,rfl⟩) ?_ ?_;rotate_left
        ·
         simp only [Act.put,zi,zj,zk,zG,zH]
         rfl
        refine pure_ (i:=31) (N:=some 155) (v:=undef) (a':=?_) (bm_ 32 36) rfl rfl (any_of HT_.out (by kernel_rfl)) (fun _ _ _ h => h) (Or.inr ⟨by rfl,rfl⟩) ?_ ?_;rotate_left
        ·
         simp only [Act.put,zi,zj,zk,zG,zH]
         rfl
        refine pure_ (i:=32) (N:=some 156) (v:=undef) (a':=?_) (bm_ 33 36) rfl rfl (any_of HT_.out (by kernel_rfl)) (fun _ _ _ h => h) (Or.inr ⟨by rfl,rfl⟩) ?_ ?_;rotate_left
        ·
         simp only [Act.put,zi,zj,zk,zG,zH]
         rfl
        refine pure_ (i:=33) (N:=some 157) (v:=undef) (a':=?_) (bm_ 34 36) rfl rfl (any_of HT_.out (by kernel_rfl)) (fun _ _ _ h => h) (Or.inr ⟨by rfl,rfl⟩) ?_ ?_;rotate_left
        ·
         simp only [Act.put,zi,zj,zk,zG,zH]
         rfl
        refine pure_ (i:=34) (N:=some 158) (v:=undef) (a':=?_) (bm_ 35 36) rfl rfl (any_of HT_.out (by kernel_rfl)) (fun _ _ _ h => h) (Or.inr ⟨by rfl,rfl⟩) ?_ ?_;rotate_left
        ·
         simp only [Act.put,zi,zj,zk,zG,zH]
         rfl
        refine pure_ (i:=35) (N:=some 159) (v:=?_) (a':=?_) (bm_ 36 36) rfl rfl (any_of HT_.out (by kernel_rfl)) (fun _ _ _ h => h) (Or.inl ⟨by rfl,?_⟩) ?_ ?_;rotate_left
        ·
         intro w'
         go_simp
         with_reducible rfl
        rotate_left
        ·
         simp only [Act.put,zi,zj,zk,zG,zH]
         rfl
        refine done_ (done_of HT_.out (by kernel_rfl)) ?_
        try go_wp2
        go_ret
        exact ⟨by first|rfl|(simp [yt,yu] <;> rfl)|(simp [*,yt,yu] <;> rfl),by repeat (with_reducible first|exact HB.out|apply za|apply zb|apply zc|refine zd ?_ GE239.out)⟩
       rw [if_neg c67] at H;exact absurd H (by simp)
      rw [if_neg c66] at H;have c66b0 : decide (x10_2<(t248.length : Int))=false:=decide_eq_false c66;clear c66;obtain rfl:=zU H;obtain ⟨Ao95,co95,eo95⟩:=yk HO_8.out;subst eo95
      go_wp2
      go_ret
      exact ⟨by first|rfl|(simp [yt,yu] <;> rfl)|(simp [*,yt,yu] <;> rfl),by repeat (with_reducible first|exact HB.out|apply za|apply zb|apply zc|refine zd ?_ GE239.out)⟩
 rw [if_neg c52] at H;have c52b0 : (a0_0 == 5)=false:=zY.mpr c52;have c52b1 : (a0_0 != 5)=true:=zZ.mpr c52;obtain rfl:=zU H
 go_enter Tryd.func54,Tryd.ntmps54
 go_wp2_with (first|((with_reducible refine zK (N:=2) rfl ?_);(try (refine yz (by rfl) ?_;dsimp only));refine zI ?hg (N:=2) ?hd (cs:=#[.int .i64 a0_0,.int .i64 a0_1,.string a0_2]) (t:=39) ?hr ?_;(case hd => rfl);(case hg => rfl);(case hr => first|(go_simp;done)|(go_simp;rfl));intro gb239 hg w96 hbox hb;have BK239:=zh (hbox);have GW239:=zh ((by rw [hg];exact (zB (by repeat (with_reducible first|exact HB.out|apply za|apply zb|apply zc))) : w.heap.size≤gb239));have GE239:=zh ((by rw [hg];exact (zB (by repeat (with_reducible first|exact HB.out|apply za|apply zb|apply zc))) : w.heap.size≤gb239));replace HB:=zh (zC (by repeat (with_reducible first|exact HB.out|apply za|apply zb|apply zc)) hb);clear hb hbox hg;have hcz97_0 : w96.cell? ⟨gb239,0,none⟩=some (.int .i64 a0_0):=(zz BK239.out 0).trans rfl;have hcz97_1 : w96.cell? ⟨gb239,1,none⟩=some (.int .i64 a0_1):=(zz BK239.out 1).trans rfl;have hcz97_2 : w96.cell? ⟨gb239,2,none⟩=some (.string a0_2):=(zz BK239.out 2).trans rfl;have hfz97_0:=zA BK239.out 0;have hfz97_1:=zA BK239.out 1;have hfz97_2:=zA BK239.out 2))
 go_ret
 exact ⟨by first|rfl|(simp [yt,yu] <;> rfl)|(simp [*,yt,yu] <;> rfl),by repeat (with_reducible first|exact HB.out|apply za|apply zb|apply zc|refine zd ?_ GE239.out)⟩

end Go.Proofs.YthjgfjlogilleaaDoor.Q
end
section
namespace Go.Proofs.YthjgfjlogilleaaDoor.Q
open Go.RowKit Go.Proofs.YthjgfjlogilleaaDoorW.PrintWords Go.Proofs.YthjgfjlogilleaaDoorW.PrintLast Go.Proofs.YthjgfjlogilleaaDoorW.PrintMore
attribute [local go_sem] max2_int min2_int max_two min_two max_three min_three max_four min_four max2_str min2_str str_geq str_gtr str_leq   -- for this text's walks alone
set_option linter.unusedVariables false
set_option linter.unusedSimpArgs false

def spec_ValueOK.f (k : Nat) (a0_0 : Int) (a0_1 : Int) (a0_2 : ByteArray) : Option (Bool):=if (a0_2.size : Int)≤65536 then ((spec_l01OK.f k a0_0 a0_1 a0_2 5).bind fun t261 => (some t261)) else (some false)
theorem spec_ValueOK.mono : ∀ a0 a1 a2 k,LeO (spec_ValueOK.f k a0 a1 a2) (spec_ValueOK.f (k + 1) a0 a1 a2):=by
 intro a0 a1 a2 k;unfold spec_ValueOK.f
 repeat' first|(with_reducible exact spec_l01OK.mono _ _ _ _ _)|(with_reducible exact zQ _)|(with_reducible exact zN _)|(with_reducible refine zP ?_ ?_)|(with_reducible refine zO ?_ (fun _ => ?_))|refine zP ?_ ?_|refine zO ?_ (fun _ => ?_)
set_option maxHeartbeats 8000000 in
set_option maxRecDepth 100000 in
theorem spec_ValueOK.calls (k : Nat) (a0_0 : Int) (a0_1 : Int) (a0_2 : ByteArray) (r : Bool) (w : World) (h : spec_ValueOK.f k a0_0 a0_1 a0_2=some r) :
  Calls Tryd.prog 38 #[.agg #[.int .i64 a0_0,.int .i64 a0_1,.string a0_2]] w fun e w' => e = .returned (.bool r)∧Below w.heap.size w w':=by
 have hu39:=Tryd.underlying39;have HB:=zh (Below.refl w.heap.size w);have H : (if (a0_2.size : Int)≤65536 then ((spec_l01OK.f k a0_0 a0_1 a0_2 5).bind fun t261 => (some t261)) else (some false))=some r:=h;clear h
 by_cases c2 : (a0_2.size : Int)≤65536
 ·
  rw [if_pos c2] at H
  have c2b0 : decide ((a0_2.size : Int)≤65536)=true:=decide_eq_true c2;have c2b1 : decide (a0_2.size≤65536)=true:=decide_eq_true (by omega);clear c2;replace H:=zT.mp H;obtain ⟨t261,A30,H⟩:=H;replace H : (some t261)=some r:=H;have A3:=zh A30;clear A30;obtain rfl:=zU H
  go_enter Tryd.func38,Tryd.ntmps38
  go_wp2_with (first|((with_reducible refine zK (N:=1) rfl ?_);refine zI ?hg (N:=1) ?hd (cs:=#[.int .i64 a0_0,.int .i64 a0_1,.string a0_2]) (t:=39) ?hr ?_;(case hd => rfl);(case hg => rfl);(case hr => first|(go_simp;done)|(go_simp;rfl));intro gb260 hg w4 hbox hb;have BK260:=zh (hbox);have GW260:=zh ((by rw [hg];exact (zB (by repeat (with_reducible first|exact HB.out|apply za|apply zb|apply zc))) : w.heap.size≤gb260));have GE260:=zh ((by rw [hg];exact (zB (by repeat (with_reducible first|exact HB.out|apply za|apply zb|apply zc))) : w.heap.size≤gb260));replace HB:=zh (zC (by repeat (with_reducible first|exact HB.out|apply za|apply zb|apply zc)) hb);clear hb hbox hg;have hcz5_0 : w4.cell? ⟨gb260,0,none⟩=some (.int .i64 a0_0):=(zz BK260.out 0).trans rfl;have hcz5_1 : w4.cell? ⟨gb260,1,none⟩=some (.int .i64 a0_1):=(zz BK260.out 1).trans rfl;have hcz5_2 : w4.cell? ⟨gb260,2,none⟩=some (.string a0_2):=(zz BK260.out 2).trans rfl;have hfz5_0:=zA BK260.out 0;have hfz5_1:=zA BK260.out 1;have hfz5_2:=zA BK260.out 2)|(go_at_call 54;(with_reducible refine (spec_l01OK.calls k  a0_0 a0_1 a0_2 5 t261 _ A3.out).mono ?_);rintro e w6 ⟨rfl,hb⟩;replace BK260:=zh (zD (g:=gb260) (o:=.cells #[.int .i64 a0_0,.int .i64 a0_1,.string a0_2] 39 (0,0)) (by (with_reducible repeat (first|refine ze ?_ _|refine zf ?_|refine zg ?_ _));exact BK260.out) hb);replace HB:=zh (zC (by repeat (with_reducible first|exact HB.out|apply za|apply zb|apply zc|refine zd ?_ GE260.out)) hb);(try clear hb);(try clear hb2);(try clear hk);(try clear hi)))
  go_ret
  exact ⟨by first|rfl|(simp [yt,yu] <;> rfl)|(simp [*,yt,yu] <;> rfl),by repeat (with_reducible first|exact HB.out|apply za|apply zb|apply zc|refine zd ?_ GE260.out)⟩
 rw [if_neg c2] at H;have c2b0 : decide ((a0_2.size : Int)≤65536)=false:=decide_eq_false c2;have c2b1 : decide (a0_2.size≤65536)=false:=decide_eq_false (by omega);clear c2;obtain rfl:=zU H
 go_enter Tryd.func38,Tryd.ntmps38
 go_wp2_with (first|((with_reducible refine zK (N:=1) rfl ?_);refine zI ?hg (N:=1) ?hd (cs:=#[.int .i64 a0_0,.int .i64 a0_1,.string a0_2]) (t:=39) ?hr ?_;(case hd => rfl);(case hg => rfl);(case hr => first|(go_simp;done)|(go_simp;rfl));intro gb260 hg w7 hbox hb;have BK260:=zh (hbox);have GW260:=zh ((by rw [hg];exact (zB (by repeat (with_reducible first|exact HB.out|apply za|apply zb|apply zc))) : w.heap.size≤gb260));have GE260:=zh ((by rw [hg];exact (zB (by repeat (with_reducible first|exact HB.out|apply za|apply zb|apply zc))) : w.heap.size≤gb260));replace HB:=zh (zC (by repeat (with_reducible first|exact HB.out|apply za|apply zb|apply zc)) hb);clear hb hbox hg;have hcz8_0 : w7.cell? ⟨gb260,0,none⟩=some (.int .i64 a0_0):=(zz BK260.out 0).trans rfl;have hcz8_1 : w7.cell? ⟨gb260,1,none⟩=some (.int .i64 a0_1):=(zz BK260.out 1).trans rfl;have hcz8_2 : w7.cell? ⟨gb260,2,none⟩=some (.string a0_2):=(zz BK260.out 2).trans rfl;have hfz8_0:=zA BK260.out 0;have hfz8_1:=zA BK260.out 1;have hfz8_2:=zA BK260.out 2))
 go_ret
 exact ⟨by first|rfl|(simp [yt,yu] <;> rfl)|(simp [*,yt,yu] <;> rfl),by repeat (with_reducible first|exact HB.out|apply za|apply zb|apply zc|refine zd ?_ GE260.out)⟩

end Go.Proofs.YthjgfjlogilleaaDoor.Q
end
section
namespace Go.Proofs.YthjgfjlogilleaaDoor.Q
open Go.RowKit Go.Proofs.YthjgfjlogilleaaDoorW.PrintWords Go.Proofs.YthjgfjlogilleaaDoorW.PrintLast Go.Proofs.YthjgfjlogilleaaDoorW.PrintMore
attribute [local go_sem] max2_int min2_int max_two min_two max_three min_three max_four min_four max2_str min2_str str_geq str_gtr str_leq
set_option linter.unusedVariables false
set_option linter.unusedSimpArgs false

theorem eqA39 (d : Nat) (w : World) (x0 y0 : Int) (x1 y1 : Int) (x2 y2 : ByteArray) :
  (Op.equalIn (d + 2) 39 (.agg #[.int .i64 x0,.int .i64 x1,.string x2]) (.agg #[.int .i64 y0,.int .i64 y1,.string y2])).run Tryd.prog w = .ok (x0 == y0 && (x1 == y1 && (x2.toList == y2.toList))) w:=by
 refine eqA_of Tryd.underlying39 (by kernel_rfl) ?_;refine eqf_cons (by rfl) (by go_simp;rfl) (by go_simp;rfl) (by go_simp) ?_;refine eqf_cons (by rfl) (by go_simp;rfl) (by go_simp;rfl) (by go_simp) ?_;exact eqf_last (by rfl) (by go_simp;rfl) (by go_simp;rfl) (by go_simp)
end Go.Proofs.YthjgfjlogilleaaDoor.Q
end
section
namespace Go.Proofs.YthjgfjlogilleaaDoor.Q
open Go.RowKit Go.Proofs.YthjgfjlogilleaaDoorW.PrintWords Go.Proofs.YthjgfjlogilleaaDoorW.PrintLast Go.Proofs.YthjgfjlogilleaaDoorW.PrintMore
attribute [local go_sem] max2_int min2_int max_two min_two max_three min_three max_four min_four max2_str min2_str str_geq str_gtr str_leq   -- for this text's walks alone
set_option linter.unusedVariables false
set_option linter.unusedSimpArgs false

attribute [local go_sem high] eqA39
def spec_UpdateOK.j0 : Nat→Bool→Int→ByteArray→Int→Int→ByteArray→Option (Bool)
 | 0,_,_,_,_,_,_ => none
 | k + 1,x29,x263000,x263001,x263002,x263003,x263004 => if x29=true then (some false) else (if x263000=2 then (some (x263002 == 0 && (x263003 == 0 && (x263004.toList == ([] : List UInt8))))) else (if x263000=3 then (some (x263002 == 2)) else (some true)))
def spec_UpdateOK.f (k : Nat) (a0_0 : Int) (a0_1 : ByteArray) (a0_2 : Int) (a0_3 : Int) (a0_4 : ByteArray) : Option (Bool):=(spec_l01In.f a0_0 1 5).bind fun t263 => (if t263=true then (if (a0_1.size : Int) > 65536 then (spec_UpdateOK.j0 k true a0_0 a0_1 a0_2 a0_3 a0_4) else ((spec_PathOK.f k a0_1).bind fun t264 => (if t264=true then (if a0_1.toList=([105,100] : List UInt8) then (spec_UpdateOK.j0 k true a0_0 a0_1 a0_2 a0_3 a0_4) else ((spec_ValueOK.f k a0_2 a0_3 a0_4).bind fun t265 => (spec_UpdateOK.j0 k (!t265) a0_0 a0_1 a0_2 a0_3 a0_4))) else (spec_UpdateOK.j0 k true a0_0 a0_1 a0_2 a0_3 a0_4)))) else (spec_UpdateOK.j0 k true a0_0 a0_1 a0_2 a0_3 a0_4))
theorem spec_UpdateOK.mono_l : ∀ k,(∀ y0 y1 y2 y3 y4 y5,LeO (spec_UpdateOK.j0 k y0 y1 y2 y3 y4 y5) (spec_UpdateOK.j0 (k + 1) y0 y1 y2 y3 y4 y5))
 | 0 => fun _ _ _ _ _ _ r h => by simp [spec_UpdateOK.j0] at h
 | k + 1 => by
  have ih0:=spec_UpdateOK.mono_l k;intro y0 y1 y2 y3 y4 y5;unfold spec_UpdateOK.j0
  repeat' first|(with_reducible exact ih0 _ _ _ _ _ _)|(with_reducible exact spec_PathOK.mono _ _)|(with_reducible exact spec_ValueOK.mono _ _ _ _)|(with_reducible exact zQ _)|(with_reducible exact zN _)|(with_reducible refine zP ?_ ?_)|(with_reducible refine zO ?_ (fun _ => ?_))|refine zP ?_ ?_|refine zO ?_ (fun _ => ?_)
theorem spec_UpdateOK.mono : ∀ a0 a1 a2 a3 a4 k,LeO (spec_UpdateOK.f k a0 a1 a2 a3 a4) (spec_UpdateOK.f (k + 1) a0 a1 a2 a3 a4):=by
 intro a0 a1 a2 a3 a4 k;have ih0:=spec_UpdateOK.mono_l k;unfold spec_UpdateOK.f
 repeat' first|(with_reducible exact ih0 _ _ _ _ _ _)|(with_reducible exact spec_PathOK.mono _ _)|(with_reducible exact spec_ValueOK.mono _ _ _ _)|(with_reducible exact zQ _)|(with_reducible exact zN _)|(with_reducible refine zP ?_ ?_)|(with_reducible refine zO ?_ (fun _ => ?_))|refine zP ?_ ?_|refine zO ?_ (fun _ => ?_)
set_option maxHeartbeats 8000000 in
set_option maxRecDepth 100000 in
theorem spec_UpdateOK.calls (k : Nat) (a0_0 : Int) (a0_1 : ByteArray) (a0_2 : Int) (a0_3 : Int) (a0_4 : ByteArray) (r : Bool) (w : World) (h : spec_UpdateOK.f k a0_0 a0_1 a0_2 a0_3 a0_4=some r) :
  Calls Tryd.prog 13 #[.agg #[.int .i64 a0_0,.string a0_1,.int .i64 a0_2,.int .i64 a0_3,.string a0_4]] w fun e w' => e = .returned (.bool r)∧Below w.heap.size w w':=by
 have hu41:=Tryd.underlying41;have hu39:=Tryd.underlying39;have HB:=zh (Below.refl w.heap.size w);have H : ((spec_l01In.f a0_0 1 5).bind fun t263 => (if t263=true then (if (a0_1.size : Int) > 65536 then (spec_UpdateOK.j0 k true a0_0 a0_1 a0_2 a0_3 a0_4) else ((spec_PathOK.f k a0_1).bind fun t264 => (if t264=true then (if a0_1.toList=([105,100] : List UInt8) then (spec_UpdateOK.j0 k true a0_0 a0_1 a0_2 a0_3 a0_4) else ((spec_ValueOK.f k a0_2 a0_3 a0_4).bind fun t265 => (spec_UpdateOK.j0 k (!t265) a0_0 a0_1 a0_2 a0_3 a0_4))) else (spec_UpdateOK.j0 k true a0_0 a0_1 a0_2 a0_3 a0_4)))) else (spec_UpdateOK.j0 k true a0_0 a0_1 a0_2 a0_3 a0_4)))=some r:=h;clear h;have HC2:=zh H;clear H
 go_enter Tryd.func13,Tryd.ntmps13
 go_upto_region 1 with (first|((with_reducible refine zK (N:=1) rfl ?_);(try (refine yz (by rfl) ?_;dsimp only));refine zI ?hg (N:=1) ?hd (cs:=#[.int .i64 a0_0,.string a0_1,.int .i64 a0_2,.int .i64 a0_3,.string a0_4]) (t:=41) ?hr ?_;(case hd => rfl);(case hg => rfl);(case hr => first|(go_simp;done)|(go_simp;rfl));intro gb262 hg w3 hbox hb;have BK262:=zh (hbox);have GW262:=zh ((by rw [hg];exact (zB (by repeat (with_reducible first|exact HB.out|apply za|apply zb|apply zc))) : w.heap.size≤gb262));have GE262:=zh ((by rw [hg];exact (zB (by repeat (with_reducible first|exact HB.out|apply za|apply zb|apply zc))) : w.heap.size≤gb262));replace HB:=zh (zC (by repeat (with_reducible first|exact HB.out|apply za|apply zb|apply zc)) hb);clear hb hbox hg))
 (try simp only [Act.put,zi,zj,zk])
 go_cut [29] (fun v29 wc => ∃ (kq : Nat) (x29_1 : Bool),v29 = .bool x29_1∧Aside0 (spec_UpdateOK.j0 kq x29_1 a0_0 a0_1 a0_2 a0_3 a0_4=some r)∧Aside0 (kq≤k)∧Aside0 (wc.heap[gb262]? = some (.cells #[.int .i64 a0_0,.string a0_1,.int .i64 a0_2,.int .i64 a0_3,.string a0_4] 41 (0,0)))∧Aside0 (Below w.heap.size w wc))
 case first =>
  have H:=HC2.out;clear HC2;replace H:=zT.mp H;obtain ⟨t263,A40,H⟩:=H;replace H : (if t263=true then (if (a0_1.size : Int) > 65536 then (spec_UpdateOK.j0 k true a0_0 a0_1 a0_2 a0_3 a0_4) else ((spec_PathOK.f k a0_1).bind fun t264 => (if t264=true then (if a0_1.toList=([105,100] : List UInt8) then (spec_UpdateOK.j0 k true a0_0 a0_1 a0_2 a0_3 a0_4) else ((spec_ValueOK.f k a0_2 a0_3 a0_4).bind fun t265 => (spec_UpdateOK.j0 k (!t265) a0_0 a0_1 a0_2 a0_3 a0_4))) else (spec_UpdateOK.j0 k true a0_0 a0_1 a0_2 a0_3 a0_4)))) else (spec_UpdateOK.j0 k true a0_0 a0_1 a0_2 a0_3 a0_4))=some r:=H;have A4:=zh A40;clear A40
  by_cases c5 : t263=true
  ·
   subst c5
   have H1 : (if (a0_1.size : Int) > 65536 then (spec_UpdateOK.j0 k true a0_0 a0_1 a0_2 a0_3 a0_4) else ((spec_PathOK.f k a0_1).bind fun t264 => (if t264=true then (if a0_1.toList=([105,100] : List UInt8) then (spec_UpdateOK.j0 k true a0_0 a0_1 a0_2 a0_3 a0_4) else ((spec_ValueOK.f k a0_2 a0_3 a0_4).bind fun t265 => (spec_UpdateOK.j0 k (!t265) a0_0 a0_1 a0_2 a0_3 a0_4))) else (spec_UpdateOK.j0 k true a0_0 a0_1 a0_2 a0_3 a0_4))))=some r:=by rw [if_pos rfl] at H;exact H
   clear H;have H:=H1;clear H1
   by_cases c6 : (a0_1.size : Int) > 65536
   ·
    rw [if_pos c6] at H
    have c6b0 : decide (65536<(a0_1.size : Int))=true:=decide_eq_true c6;have c6b1 : decide (65536<a0_1.size)=true:=decide_eq_true (by omega);clear c6;(first|rw [c6b0]|(simp only [zG,zH];rw [c6b0])|skip);have H':=zh H;clear H;have hcz7_0 : w3.cell? ⟨gb262,0,none⟩=some (.int .i64 a0_0):=(zz BK262.out 0).trans rfl;have hcz7_1 : w3.cell? ⟨gb262,1,none⟩=some (.string a0_1):=(zz BK262.out 1).trans rfl;have hcz7_2 : w3.cell? ⟨gb262,2,none⟩=some (.int .i64 a0_2):=(zz BK262.out 2).trans rfl;have hcz7_3 : w3.cell? ⟨gb262,3,none⟩=some (.int .i64 a0_3):=(zz BK262.out 3).trans rfl;have hcz7_4 : w3.cell? ⟨gb262,4,none⟩=some (.string a0_4):=(zz BK262.out 4).trans rfl;have hfz7_0:=zA BK262.out 0;have hfz7_1:=zA BK262.out 1;have hfz7_2:=zA BK262.out 2;have hfz7_3:=zA BK262.out 3;have hfz7_4:=zA BK262.out 4
    go_wp2_with (first|((with_reducible refine zJ (f:=29) rfl ?_);refine yj (some 5) rfl rfl Tryd.func29 (by kernel_rfl) rfl #[.int .i64 a0_0,.int .i64 1,.int .i64 5] rfl (by (try simp only [zt,zu,zv]);first|done|rfl|(simp only [zw,zx];rfl)|(simp only [yr,ys,zV,zW];rfl)) ?_;(with_reducible refine (spec_l01In.calls  a0_0 1 5 true _ A4.out).mono ?_);rintro e w' ⟨rfl,⟨nd,rfl⟩⟩;refine ⟨_,rfl,?_⟩))
    go_meet
    case rel => exact ⟨_,(true),(by first|rfl|(simp;done)|(simp [*];done)),H',⟨by first|omega|exact ye _⟩,⟨by (with_reducible repeat (first|refine ze ?_ _|refine zf ?_|refine zg ?_ _));exact BK262.out⟩,⟨by repeat (with_reducible first|exact HB.out|apply za|apply zb|apply zc|refine zd ?_ GE262.out)⟩⟩
   rw [if_neg c6] at H;have c6b0 : decide (65536<(a0_1.size : Int))=false:=decide_eq_false c6;have c6b1 : decide (65536<a0_1.size)=false:=decide_eq_false (by omega);clear c6;(first|rw [c6b0]|(simp only [zG,zH];rw [c6b0])|skip);replace H:=zT.mp H;obtain ⟨t264,A80,H⟩:=H;replace H : (if t264=true then (if a0_1.toList=([105,100] : List UInt8) then (spec_UpdateOK.j0 k true a0_0 a0_1 a0_2 a0_3 a0_4) else ((spec_ValueOK.f k a0_2 a0_3 a0_4).bind fun t265 => (spec_UpdateOK.j0 k (!t265) a0_0 a0_1 a0_2 a0_3 a0_4))) else (spec_UpdateOK.j0 k true a0_0 a0_1 a0_2 a0_3 a0_4))=some r:=H;have A8:=zh A80;clear A80
   by_cases c9 : t264=true
   ·
    subst c9
    have H1 : (if a0_1.toList=([105,100] : List UInt8) then (spec_UpdateOK.j0 k true a0_0 a0_1 a0_2 a0_3 a0_4) else ((spec_ValueOK.f k a0_2 a0_3 a0_4).bind fun t265 => (spec_UpdateOK.j0 k (!t265) a0_0 a0_1 a0_2 a0_3 a0_4)))=some r:=by rw [if_pos rfl] at H;exact H
    clear H;have H:=H1;clear H1
    by_cases c10 : a0_1.toList=([105,100] : List UInt8)
    ·
     rw [if_pos c10] at H
     have c10b0 : (a0_1.toList == ([105,100] : List UInt8))=true:=ya.mpr c10;have c10b1 : (a0_1.toList != ([105,100] : List UInt8))=false:=zX.mpr c10;clear c10;have H':=zh H;clear H;have hcz11_0 : w3.cell? ⟨gb262,0,none⟩=some (.int .i64 a0_0):=(zz BK262.out 0).trans rfl;have hcz11_1 : w3.cell? ⟨gb262,1,none⟩=some (.string a0_1):=(zz BK262.out 1).trans rfl;have hcz11_2 : w3.cell? ⟨gb262,2,none⟩=some (.int .i64 a0_2):=(zz BK262.out 2).trans rfl;have hcz11_3 : w3.cell? ⟨gb262,3,none⟩=some (.int .i64 a0_3):=(zz BK262.out 3).trans rfl;have hcz11_4 : w3.cell? ⟨gb262,4,none⟩=some (.string a0_4):=(zz BK262.out 4).trans rfl;have hfz11_0:=zA BK262.out 0;have hfz11_1:=zA BK262.out 1;have hfz11_2:=zA BK262.out 2;have hfz11_3:=zA BK262.out 3;have hfz11_4:=zA BK262.out 4
     go_wp2_with (first|((with_reducible refine zJ (f:=29) rfl ?_);refine yj (some 5) rfl rfl Tryd.func29 (by kernel_rfl) rfl #[.int .i64 a0_0,.int .i64 1,.int .i64 5] rfl (by (try simp only [zt,zu,zv]);first|done|rfl|(simp only [zw,zx];rfl)|(simp only [yr,ys,zV,zW];rfl)) ?_;(with_reducible refine (spec_l01In.calls  a0_0 1 5 true _ A4.out).mono ?_);rintro e w' ⟨rfl,⟨nd,rfl⟩⟩;refine ⟨_,rfl,?_⟩)|(go_at_call 30;(with_reducible refine (spec_PathOK.calls k  a0_1 true _ A8.out).mono ?_);rintro e w12 ⟨rfl,hb⟩;replace BK262:=zh (zD (g:=gb262) (o:=.cells #[.int .i64 a0_0,.string a0_1,.int .i64 a0_2,.int .i64 a0_3,.string a0_4] 41 (0,0)) (by (with_reducible repeat (first|refine ze ?_ _|refine zf ?_|refine zg ?_ _));exact BK262.out) hb);replace HB:=zh (zC (by repeat (with_reducible first|exact HB.out|apply za|apply zb|apply zc|refine zd ?_ GE262.out)) hb);(try clear hb);(try clear hb2);(try clear hk);(try clear hi);have hcz13_0 : w12.cell? ⟨gb262,0,none⟩=some (.int .i64 a0_0):=(zz BK262.out 0).trans rfl;have hcz13_1 : w12.cell? ⟨gb262,1,none⟩=some (.string a0_1):=(zz BK262.out 1).trans rfl;have hcz13_2 : w12.cell? ⟨gb262,2,none⟩=some (.int .i64 a0_2):=(zz BK262.out 2).trans rfl;have hcz13_3 : w12.cell? ⟨gb262,3,none⟩=some (.int .i64 a0_3):=(zz BK262.out 3).trans rfl;have hcz13_4 : w12.cell? ⟨gb262,4,none⟩=some (.string a0_4):=(zz BK262.out 4).trans rfl;have hfz13_0:=zA BK262.out 0;have hfz13_1:=zA BK262.out 1;have hfz13_2:=zA BK262.out 2;have hfz13_3:=zA BK262.out 3;have hfz13_4:=zA BK262.out 4))
     go_meet
     case rel => exact ⟨_,(true),(by first|rfl|(simp;done)|(simp [*];done)),H',⟨by first|omega|exact ye _⟩,⟨by (with_reducible repeat (first|refine ze ?_ _|refine zf ?_|refine zg ?_ _));exact BK262.out⟩,⟨by repeat (with_reducible first|exact HB.out|apply za|apply zb|apply zc|refine zd ?_ GE262.out)⟩⟩
    rw [if_neg c10] at H;have c10b0 : (a0_1.toList == ([105,100] : List UInt8))=false:=zY.mpr c10;have c10b1 : (a0_1.toList != ([105,100] : List UInt8))=true:=zZ.mpr c10;replace H:=zT.mp H;obtain ⟨t265,A140,H⟩:=H;replace H : (spec_UpdateOK.j0 k (!t265) a0_0 a0_1 a0_2 a0_3 a0_4)=some r:=H;have A14:=zh A140;clear A140;have H':=zh H;clear H;have hcz15_0 : w3.cell? ⟨gb262,0,none⟩=some (.int .i64 a0_0):=(zz BK262.out 0).trans rfl;have hcz15_1 : w3.cell? ⟨gb262,1,none⟩=some (.string a0_1):=(zz BK262.out 1).trans rfl;have hcz15_2 : w3.cell? ⟨gb262,2,none⟩=some (.int .i64 a0_2):=(zz BK262.out 2).trans rfl;have hcz15_3 : w3.cell? ⟨gb262,3,none⟩=some (.int .i64 a0_3):=(zz BK262.out 3).trans rfl;have hcz15_4 : w3.cell? ⟨gb262,4,none⟩=some (.string a0_4):=(zz BK262.out 4).trans rfl;have hfz15_0:=zA BK262.out 0;have hfz15_1:=zA BK262.out 1;have hfz15_2:=zA BK262.out 2;have hfz15_3:=zA BK262.out 3;have hfz15_4:=zA BK262.out 4
    go_wp2_with (first|((with_reducible refine zJ (f:=29) rfl ?_);refine yj (some 5) rfl rfl Tryd.func29 (by kernel_rfl) rfl #[.int .i64 a0_0,.int .i64 1,.int .i64 5] rfl (by (try simp only [zt,zu,zv]);first|done|rfl|(simp only [zw,zx];rfl)|(simp only [yr,ys,zV,zW];rfl)) ?_;(with_reducible refine (spec_l01In.calls  a0_0 1 5 true _ A4.out).mono ?_);rintro e w' ⟨rfl,⟨nd,rfl⟩⟩;refine ⟨_,rfl,?_⟩)|(go_at_call 30;(with_reducible refine (spec_PathOK.calls k  a0_1 true _ A8.out).mono ?_);rintro e w16 ⟨rfl,hb⟩;replace BK262:=zh (zD (g:=gb262) (o:=.cells #[.int .i64 a0_0,.string a0_1,.int .i64 a0_2,.int .i64 a0_3,.string a0_4] 41 (0,0)) (by (with_reducible repeat (first|refine ze ?_ _|refine zf ?_|refine zg ?_ _));exact BK262.out) hb);replace HB:=zh (zC (by repeat (with_reducible first|exact HB.out|apply za|apply zb|apply zc|refine zd ?_ GE262.out)) hb);(try clear hb);(try clear hb2);(try clear hk);(try clear hi);have hcz17_0 : w16.cell? ⟨gb262,0,none⟩=some (.int .i64 a0_0):=(zz BK262.out 0).trans rfl;have hcz17_1 : w16.cell? ⟨gb262,1,none⟩=some (.string a0_1):=(zz BK262.out 1).trans rfl;have hcz17_2 : w16.cell? ⟨gb262,2,none⟩=some (.int .i64 a0_2):=(zz BK262.out 2).trans rfl;have hcz17_3 : w16.cell? ⟨gb262,3,none⟩=some (.int .i64 a0_3):=(zz BK262.out 3).trans rfl;have hcz17_4 : w16.cell? ⟨gb262,4,none⟩=some (.string a0_4):=(zz BK262.out 4).trans rfl;have hfz17_0:=zA BK262.out 0;have hfz17_1:=zA BK262.out 1;have hfz17_2:=zA BK262.out 2;have hfz17_3:=zA BK262.out 3;have hfz17_4:=zA BK262.out 4)|(go_at_call 38;(with_reducible refine (spec_ValueOK.calls k  a0_2 a0_3 a0_4 t265 _ A14.out).mono ?_);rintro e w18 ⟨rfl,hb⟩;replace BK262:=zh (zD (g:=gb262) (o:=.cells #[.int .i64 a0_0,.string a0_1,.int .i64 a0_2,.int .i64 a0_3,.string a0_4] 41 (0,0)) (by (with_reducible repeat (first|refine ze ?_ _|refine zf ?_|refine zg ?_ _));exact BK262.out) hb);replace HB:=zh (zC (by repeat (with_reducible first|exact HB.out|apply za|apply zb|apply zc|refine zd ?_ GE262.out)) hb);(try clear hb);(try clear hb2);(try clear hk);(try clear hi)))
    go_meet
    case rel => exact ⟨_,(!t265),(by first|rfl|(simp;done)|(simp [*];done)),H',⟨by first|omega|exact ye _⟩,⟨by (with_reducible repeat (first|refine ze ?_ _|refine zf ?_|refine zg ?_ _));exact BK262.out⟩,⟨by repeat (with_reducible first|exact HB.out|apply za|apply zb|apply zc|refine zd ?_ GE262.out)⟩⟩
   replace c9:=yb.mpr c9;subst c9;have H1 : (spec_UpdateOK.j0 k true a0_0 a0_1 a0_2 a0_3 a0_4)=some r:=by rw [if_neg (show ¬ (false=true) by decide)] at H;exact H
   clear H;have H:=H1;clear H1;have H':=zh H;clear H;have hcz19_0 : w3.cell? ⟨gb262,0,none⟩=some (.int .i64 a0_0):=(zz BK262.out 0).trans rfl;have hcz19_1 : w3.cell? ⟨gb262,1,none⟩=some (.string a0_1):=(zz BK262.out 1).trans rfl;have hcz19_2 : w3.cell? ⟨gb262,2,none⟩=some (.int .i64 a0_2):=(zz BK262.out 2).trans rfl;have hcz19_3 : w3.cell? ⟨gb262,3,none⟩=some (.int .i64 a0_3):=(zz BK262.out 3).trans rfl;have hcz19_4 : w3.cell? ⟨gb262,4,none⟩=some (.string a0_4):=(zz BK262.out 4).trans rfl;have hfz19_0:=zA BK262.out 0;have hfz19_1:=zA BK262.out 1;have hfz19_2:=zA BK262.out 2;have hfz19_3:=zA BK262.out 3;have hfz19_4:=zA BK262.out 4
   go_wp2_with (first|((with_reducible refine zJ (f:=29) rfl ?_);refine yj (some 5) rfl rfl Tryd.func29 (by kernel_rfl) rfl #[.int .i64 a0_0,.int .i64 1,.int .i64 5] rfl (by (try simp only [zt,zu,zv]);first|done|rfl|(simp only [zw,zx];rfl)|(simp only [yr,ys,zV,zW];rfl)) ?_;(with_reducible refine (spec_l01In.calls  a0_0 1 5 true _ A4.out).mono ?_);rintro e w' ⟨rfl,⟨nd,rfl⟩⟩;refine ⟨_,rfl,?_⟩)|(go_at_call 30;(with_reducible refine (spec_PathOK.calls k  a0_1 false _ A8.out).mono ?_);rintro e w20 ⟨rfl,hb⟩;replace BK262:=zh (zD (g:=gb262) (o:=.cells #[.int .i64 a0_0,.string a0_1,.int .i64 a0_2,.int .i64 a0_3,.string a0_4] 41 (0,0)) (by (with_reducible repeat (first|refine ze ?_ _|refine zf ?_|refine zg ?_ _));exact BK262.out) hb);replace HB:=zh (zC (by repeat (with_reducible first|exact HB.out|apply za|apply zb|apply zc|refine zd ?_ GE262.out)) hb);(try clear hb);(try clear hb2);(try clear hk);(try clear hi)))
   go_meet
   case rel => exact ⟨_,(true),(by first|rfl|(simp;done)|(simp [*];done)),H',⟨by first|omega|exact ye _⟩,⟨by (with_reducible repeat (first|refine ze ?_ _|refine zf ?_|refine zg ?_ _));exact BK262.out⟩,⟨by repeat (with_reducible first|exact HB.out|apply za|apply zb|apply zc|refine zd ?_ GE262.out)⟩⟩
  replace c5:=yb.mpr c5;subst c5;have H1 : (spec_UpdateOK.j0 k true a0_0 a0_1 a0_2 a0_3 a0_4)=some r:=by rw [if_neg (show ¬ (false=true) by decide)] at H;exact H
  clear H;have H:=H1;clear H1;have H':=zh H;clear H;have hcz21_0 : w3.cell? ⟨gb262,0,none⟩=some (.int .i64 a0_0):=(zz BK262.out 0).trans rfl;have hcz21_1 : w3.cell? ⟨gb262,1,none⟩=some (.string a0_1):=(zz BK262.out 1).trans rfl;have hcz21_2 : w3.cell? ⟨gb262,2,none⟩=some (.int .i64 a0_2):=(zz BK262.out 2).trans rfl;have hcz21_3 : w3.cell? ⟨gb262,3,none⟩=some (.int .i64 a0_3):=(zz BK262.out 3).trans rfl;have hcz21_4 : w3.cell? ⟨gb262,4,none⟩=some (.string a0_4):=(zz BK262.out 4).trans rfl;have hfz21_0:=zA BK262.out 0;have hfz21_1:=zA BK262.out 1;have hfz21_2:=zA BK262.out 2;have hfz21_3:=zA BK262.out 3;have hfz21_4:=zA BK262.out 4
  go_wp2_with (first|((with_reducible refine zJ (f:=29) rfl ?_);refine yj (some 5) rfl rfl Tryd.func29 (by kernel_rfl) rfl #[.int .i64 a0_0,.int .i64 1,.int .i64 5] rfl (by (try simp only [zt,zu,zv]);first|done|rfl|(simp only [zw,zx];rfl)|(simp only [yr,ys,zV,zW];rfl)) ?_;(with_reducible refine (spec_l01In.calls  a0_0 1 5 false _ A4.out).mono ?_);rintro e w' ⟨rfl,⟨nd,rfl⟩⟩;refine ⟨_,rfl,?_⟩))
  go_meet
  case rel => exact ⟨_,(true),(by first|rfl|(simp;done)|(simp [*];done)),H',⟨by first|omega|exact ye _⟩,⟨by (with_reducible repeat (first|refine ze ?_ _|refine zf ?_|refine zg ?_ _));exact BK262.out⟩,⟨by repeat (with_reducible first|exact HB.out|apply za|apply zb|apply zc|refine zd ?_ GE262.out)⟩⟩
 case rest =>
  clear HC2
  try clear c1
  try clear c2
  try clear p2
  try clear c5
  try clear c6
  try clear c6b0
  try clear c6b1
  try clear c9
  try clear c10
  try clear c10b0
  try clear c10b1
  try clear c13
  try clear hcz11_0
  try clear hcz11_1
  try clear hcz11_2
  try clear hcz11_3
  try clear hcz11_4
  try clear hcz13_0
  try clear hcz13_1
  try clear hcz13_2
  try clear hcz13_3
  try clear hcz13_4
  try clear hcz15_0
  try clear hcz15_1
  try clear hcz15_2
  try clear hcz15_3
  try clear hcz15_4
  try clear hcz17_0
  try clear hcz17_1
  try clear hcz17_2
  try clear hcz17_3
  try clear hcz17_4
  try clear hcz19_0
  try clear hcz19_1
  try clear hcz19_2
  try clear hcz19_3
  try clear hcz19_4
  try clear hcz21_0
  try clear hcz21_1
  try clear hcz21_2
  try clear hcz21_3
  try clear hcz21_4
  try clear hcz7_0
  try clear hcz7_1
  try clear hcz7_2
  try clear hcz7_3
  try clear hcz7_4
  try clear hfz11_0
  try clear hfz11_1
  try clear hfz11_2
  try clear hfz11_3
  try clear hfz11_4
  try clear hfz13_0
  try clear hfz13_1
  try clear hfz13_2
  try clear hfz13_3
  try clear hfz13_4
  try clear hfz15_0
  try clear hfz15_1
  try clear hfz15_2
  try clear hfz15_3
  try clear hfz15_4
  try clear hfz17_0
  try clear hfz17_1
  try clear hfz17_2
  try clear hfz17_3
  try clear hfz17_4
  try clear hfz19_0
  try clear hfz19_1
  try clear hfz19_2
  try clear hfz19_3
  try clear hfz19_4
  try clear hfz21_0
  try clear hfz21_1
  try clear hfz21_2
  try clear hfz21_3
  try clear hfz21_4
  try clear hfz7_0
  try clear hfz7_1
  try clear hfz7_2
  try clear hfz7_3
  try clear hfz7_4
  obtain ⟨kq,x29_1,rfl,HA,HJ1,BK262,HB⟩:=hcut
  cases kq with
  | zero => exact absurd HA.out (by simp [spec_UpdateOK.j0])
  | succ kj1 =>
   have H:=HA.out;clear HA;simp only [spec_UpdateOK.j0] at H
   by_cases c22 : x29_1=true
   ·
    subst c22
    have H1 : (some false)=some r:=by rw [if_pos rfl] at H;exact H
    clear H;have H:=H1;clear H1;obtain rfl:=zU H
    go_wp2
    go_ret
    exact ⟨by first|rfl|(simp [yt,yu] <;> rfl)|(simp [*,yt,yu] <;> rfl),by repeat (with_reducible first|exact HB.out|apply za|apply zb|apply zc|refine zd ?_ GE262.out)⟩
   replace c22:=yb.mpr c22;subst c22;have H1 : (if a0_0=2 then (some (a0_2 == 0 && (a0_3 == 0 && (a0_4.toList == ([] : List UInt8))))) else (if a0_0=3 then (some (a0_2 == 2)) else (some true)))=some r:=by rw [if_neg (show ¬ (false=true) by decide)] at H;exact H
   clear H;have H:=H1;clear H1
   by_cases c23 : a0_0=2
   ·
    rw [if_pos c23] at H
    have c23b0 : (a0_0 == 2)=true:=ya.mpr c23;have c23b1 : (a0_0 != 2)=false:=zX.mpr c23;clear c23;obtain rfl:=zU H;have hcz24_0 : wc.cell? ⟨gb262,0,none⟩=some (.int .i64 a0_0):=(zz BK262.out 0).trans rfl;have hcz24_1 : wc.cell? ⟨gb262,1,none⟩=some (.string a0_1):=(zz BK262.out 1).trans rfl;have hcz24_2 : wc.cell? ⟨gb262,2,none⟩=some (.int .i64 a0_2):=(zz BK262.out 2).trans rfl;have hcz24_3 : wc.cell? ⟨gb262,3,none⟩=some (.int .i64 a0_3):=(zz BK262.out 3).trans rfl;have hcz24_4 : wc.cell? ⟨gb262,4,none⟩=some (.string a0_4):=(zz BK262.out 4).trans rfl;have hfz24_0:=zA BK262.out 0;have hfz24_1:=zA BK262.out 1;have hfz24_2:=zA BK262.out 2;have hfz24_3:=zA BK262.out 3;have hfz24_4:=zA BK262.out 4
    go_wp2
    go_ret
    exact ⟨by first|rfl|(simp [yt,yu] <;> rfl)|(simp [*,yt,yu] <;> rfl),by repeat (with_reducible first|exact HB.out|apply za|apply zb|apply zc|refine zd ?_ GE262.out)⟩
   rw [if_neg c23] at H;have c23b0 : (a0_0 == 2)=false:=zY.mpr c23;have c23b1 : (a0_0 != 2)=true:=zZ.mpr c23
   by_cases c25 : a0_0=3
   ·
    rw [if_pos c25] at H
    have c25b0 : (a0_0 == 3)=true:=ya.mpr c25;have c25b1 : (a0_0 != 3)=false:=zX.mpr c25;clear c25;obtain rfl:=zU H;have hcz26_0 : wc.cell? ⟨gb262,0,none⟩=some (.int .i64 a0_0):=(zz BK262.out 0).trans rfl;have hcz26_1 : wc.cell? ⟨gb262,1,none⟩=some (.string a0_1):=(zz BK262.out 1).trans rfl;have hcz26_2 : wc.cell? ⟨gb262,2,none⟩=some (.int .i64 a0_2):=(zz BK262.out 2).trans rfl;have hcz26_3 : wc.cell? ⟨gb262,3,none⟩=some (.int .i64 a0_3):=(zz BK262.out 3).trans rfl;have hcz26_4 : wc.cell? ⟨gb262,4,none⟩=some (.string a0_4):=(zz BK262.out 4).trans rfl;have hfz26_0:=zA BK262.out 0;have hfz26_1:=zA BK262.out 1;have hfz26_2:=zA BK262.out 2;have hfz26_3:=zA BK262.out 3;have hfz26_4:=zA BK262.out 4
    go_wp2
    go_ret
    exact ⟨by first|rfl|(simp [yt,yu] <;> rfl)|(simp [*,yt,yu] <;> rfl),by repeat (with_reducible first|exact HB.out|apply za|apply zb|apply zc|refine zd ?_ GE262.out)⟩
   rw [if_neg c25] at H;have c25b0 : (a0_0 == 3)=false:=zY.mpr c25;have c25b1 : (a0_0 != 3)=true:=zZ.mpr c25;obtain rfl:=zU H;have hcz27_0 : wc.cell? ⟨gb262,0,none⟩=some (.int .i64 a0_0):=(zz BK262.out 0).trans rfl;have hcz27_1 : wc.cell? ⟨gb262,1,none⟩=some (.string a0_1):=(zz BK262.out 1).trans rfl;have hcz27_2 : wc.cell? ⟨gb262,2,none⟩=some (.int .i64 a0_2):=(zz BK262.out 2).trans rfl;have hcz27_3 : wc.cell? ⟨gb262,3,none⟩=some (.int .i64 a0_3):=(zz BK262.out 3).trans rfl;have hcz27_4 : wc.cell? ⟨gb262,4,none⟩=some (.string a0_4):=(zz BK262.out 4).trans rfl;have hfz27_0:=zA BK262.out 0;have hfz27_1:=zA BK262.out 1;have hfz27_2:=zA BK262.out 2;have hfz27_3:=zA BK262.out 3;have hfz27_4:=zA BK262.out 4
   go_wp2
   go_ret
   exact ⟨by first|rfl|(simp [yt,yu] <;> rfl)|(simp [*,yt,yu] <;> rfl),by repeat (with_reducible first|exact HB.out|apply za|apply zb|apply zc|refine zd ?_ GE262.out)⟩

end Go.Proofs.YthjgfjlogilleaaDoor.Q
end
section
namespace Go.Proofs.YthjgfjlogilleaaDoor.Q
open Go.RowKit Go.Proofs.YthjgfjlogilleaaDoorW.PrintWords Go.Proofs.YthjgfjlogilleaaDoorW.PrintLast Go.Proofs.YthjgfjlogilleaaDoorW.PrintMore
attribute [local go_sem] max2_int min2_int max_two min_two max_three min_three max_four min_four max2_str min2_str str_geq str_gtr str_leq   -- for this text's walks alone
set_option linter.unusedVariables false
set_option linter.unusedSimpArgs false

def laws_toValue.f (a0_0 : Int) (a0_1 : Int) (a0_2 : ByteArray) : Option (Int×Int×ByteArray):=some (a0_0,a0_1,a0_2)
set_option maxHeartbeats 8000000 in
set_option maxRecDepth 100000 in
theorem laws_toValue.calls (a0_0 : Int) (a0_1 : Int) (a0_2 : ByteArray) (r1 : Int) (r2 : Int) (r3 : ByteArray) (w : World) (h : laws_toValue.f a0_0 a0_1 a0_2=some (r1,r2,r3)) :
  Calls Tryd.prog 22 #[.agg #[.int .i64 a0_0,.int .i64 a0_1,.string a0_2]] w fun e w' => e = .returned (.agg #[.int .i64 r1,.int .i64 r2,.string r3])∧Below w.heap.size w w':=by
 have hu34:=Tryd.underlying34;have hu39:=Tryd.underlying39;have HB:=zh (Below.refl w.heap.size w);have H : (some (a0_0,a0_1,a0_2))=some (r1,r2,r3):=h;clear h;simp only [Option.some.injEq,Prod.mk.injEq] at H;obtain ⟨rfl,rfl,rfl⟩:=H
 go_enter Tryd.func22,Tryd.ntmps22
 go_wp2_with (first|((with_reducible refine zK (N:=1) rfl ?_);refine zI ?hg (N:=1) ?hd (cs:=#[.int .i64 a0_0,.int .i64 a0_1,.string a0_2]) (t:=34) ?hr ?_;(case hd => rfl);(case hg => rfl);(case hr => first|(go_simp;done)|(go_simp;rfl));intro gb266 hg w2 hbox hb;have BK266:=zh (hbox);have GW266:=zh ((by rw [hg];exact (zB (by repeat (with_reducible first|exact HB.out|apply za|apply zb|apply zc))) : w.heap.size≤gb266));have GE266:=zh ((by rw [hg];exact (zB (by repeat (with_reducible first|exact HB.out|apply za|apply zb|apply zc))) : w.heap.size≤gb266));replace HB:=zh (zC (by repeat (with_reducible first|exact HB.out|apply za|apply zb|apply zc)) hb);clear hb hbox hg)|((with_reducible refine zK (N:=2) rfl ?_);refine zI ?hg (N:=2) ?hd (cs:=#[.int .i64 0,.int .i64 0,.string (⟨#[]⟩ : ByteArray)]) (t:=39) ?hr ?_;(case hd => rfl);(case hg => rfl);(case hr => first|(go_simp;done)|(go_simp;rfl));intro gb267 hg w3 hbox hb;have BK267:=zh (hbox);have GW267:=zh ((by rw [hg];exact (zB (by repeat (with_reducible first|exact HB.out|apply za|apply zb|apply zc|refine zd ?_ GE266.out))) : w.heap.size≤gb267));have GE267:=zh ((by rw [hg];exact (zB (by repeat (with_reducible first|exact HB.out|apply za|apply zb|apply zc|refine zd ?_ GE266.out))) : w.heap.size≤gb267));replace HB:=zh (zC (by repeat (with_reducible first|exact HB.out|apply za|apply zb|apply zc|refine zd ?_ GE266.out)) hb);have NB266_267:=zh ((by rw [hg];exact yc (yi (g:=gb266) (o:=.cells #[.int .i64 a0_0,.int .i64 a0_1,.string a0_2] 34 (0,0)) (by (with_reducible repeat (first|refine ze ?_ _|refine zf ?_|refine zg ?_ _));exact BK266.out)) : gb266≠gb267));have NB267_266:=zh ((by rw [hg];exact yd (yi (g:=gb266) (o:=.cells #[.int .i64 a0_0,.int .i64 a0_1,.string a0_2] 34 (0,0)) (by (with_reducible repeat (first|refine ze ?_ _|refine zf ?_|refine zg ?_ _));exact BK266.out)) : gb267≠gb266));replace BK266:=zh (zD (g:=gb266) (o:=.cells #[.int .i64 a0_0,.int .i64 a0_1,.string a0_2] 34 (0,0)) (by (with_reducible repeat (first|refine ze ?_ _|refine zf ?_|refine zg ?_ _));exact BK266.out) hb);clear hb hbox hg)|((with_reducible refine zK (N:=3) rfl ?_);refine zI ?hg (N:=3) ?hd (cs:=#[.int .i64 0,.int .i64 0,.string (⟨#[]⟩ : ByteArray)]) (t:=39) ?hr ?_;(case hd => rfl);(case hg => rfl);(case hr => first|(go_simp;done)|(go_simp;rfl));intro gb268 hg w4 hbox hb;have BK268:=zh (hbox);have GW268:=zh ((by rw [hg];exact (zB (by repeat (with_reducible first|exact HB.out|apply za|apply zb|apply zc|refine zd ?_ GE266.out|refine zd ?_ GE267.out))) : w.heap.size≤gb268));have GE268:=zh ((by rw [hg];exact (zB (by repeat (with_reducible first|exact HB.out|apply za|apply zb|apply zc|refine zd ?_ GE266.out|refine zd ?_ GE267.out))) : w.heap.size≤gb268));replace HB:=zh (zC (by repeat (with_reducible first|exact HB.out|apply za|apply zb|apply zc|refine zd ?_ GE266.out|refine zd ?_ GE267.out)) hb);have NB266_268:=zh ((by rw [hg];exact yc (yi (g:=gb266) (o:=.cells #[.int .i64 a0_0,.int .i64 a0_1,.string a0_2] 34 (0,0)) (by (with_reducible repeat (first|refine ze ?_ _|refine zf ?_|refine zg ?_ _));exact BK266.out)) : gb266≠gb268));have NB268_266:=zh ((by rw [hg];exact yd (yi (g:=gb266) (o:=.cells #[.int .i64 a0_0,.int .i64 a0_1,.string a0_2] 34 (0,0)) (by (with_reducible repeat (first|refine ze ?_ _|refine zf ?_|refine zg ?_ _));exact BK266.out)) : gb268≠gb266));replace BK266:=zh (zD (g:=gb266) (o:=.cells #[.int .i64 a0_0,.int .i64 a0_1,.string a0_2] 34 (0,0)) (by (with_reducible repeat (first|refine ze ?_ _|refine zf ?_|refine zg ?_ _));exact BK266.out) hb);have NB267_268:=zh ((by rw [hg];exact yc (yi (g:=gb267) (o:=.cells #[.int .i64 0,.int .i64 0,.string (⟨#[]⟩ : ByteArray)] 39 (0,0)) (by (with_reducible repeat (first|refine ze ?_ _|refine zf ?_|refine zg ?_ _));exact BK267.out)) : gb267≠gb268));have NB268_267:=zh ((by rw [hg];exact yd (yi (g:=gb267) (o:=.cells #[.int .i64 0,.int .i64 0,.string (⟨#[]⟩ : ByteArray)] 39 (0,0)) (by (with_reducible repeat (first|refine ze ?_ _|refine zf ?_|refine zg ?_ _));exact BK267.out)) : gb268≠gb267));replace BK267:=zh (zD (g:=gb267) (o:=.cells #[.int .i64 0,.int .i64 0,.string (⟨#[]⟩ : ByteArray)] 39 (0,0)) (by (with_reducible repeat (first|refine ze ?_ _|refine zf ?_|refine zg ?_ _));exact BK267.out) hb);clear hb hbox hg;have hnb5:=NB266_267.out;have hnc5:=NB267_266.out;have hnb6:=NB266_268.out;have hnc6:=NB268_266.out;have hcz7_0 : w4.cell? ⟨gb266,0,none⟩=some (.int .i64 a0_0):=(zz BK266.out 0).trans rfl;have hcz7_1 : w4.cell? ⟨gb266,1,none⟩=some (.int .i64 a0_1):=(zz BK266.out 1).trans rfl;have hcz7_2 : w4.cell? ⟨gb266,2,none⟩=some (.string a0_2):=(zz BK266.out 2).trans rfl;have hfz7_0:=zA BK266.out 0;have hfz7_1:=zA BK266.out 1;have hfz7_2:=zA BK266.out 2;have hnb8:=NB268_267.out;have hnc8:=NB267_268.out;have hcz9_0 : w4.cell? ⟨gb268,0,none⟩=some (.int .i64 0):=(zz BK268.out 0).trans rfl;have hcz9_1 : w4.cell? ⟨gb268,1,none⟩=some (.int .i64 0):=(zz BK268.out 1).trans rfl;have hcz9_2 : w4.cell? ⟨gb268,2,none⟩=some (.string (⟨#[]⟩ : ByteArray)):=(zz BK268.out 2).trans rfl;have hfz9_0:=zA BK268.out 0;have hfz9_1:=zA BK268.out 1;have hfz9_2:=zA BK268.out 2;have hcz10_0 : w4.cell? ⟨gb267,0,none⟩=some (.int .i64 0):=(zz BK267.out 0).trans rfl;have hcz10_1 : w4.cell? ⟨gb267,1,none⟩=some (.int .i64 0):=(zz BK267.out 1).trans rfl;have hcz10_2 : w4.cell? ⟨gb267,2,none⟩=some (.string (⟨#[]⟩ : ByteArray)):=(zz BK267.out 2).trans rfl;have hfz10_0:=zA BK267.out 0;have hfz10_1:=zA BK267.out 1;have hfz10_2:=zA BK267.out 2))
 refine bodyPost_ret (results_cell_row rfl _ _ gb267 39 #[.int .i64 a0_0,.int .i64 a0_1,.string a0_2] (0,0) _ rfl (by (with_reducible repeat (first|refine ze ?_ _|refine zf ?_|refine zg ?_ _));refine zL (cs:=#[.int .i64 a0_0,.int .i64 a0_1,.string (⟨#[]⟩ : ByteArray)]) ?_ 2 _ rfl;(with_reducible repeat (first|refine ze ?_ _|refine zf ?_|refine zg ?_ _));refine zL (cs:=#[.int .i64 a0_0,.int .i64 0,.string (⟨#[]⟩ : ByteArray)]) ?_ 1 _ rfl;(with_reducible repeat (first|refine ze ?_ _|refine zf ?_|refine zg ?_ _));refine zL (cs:=#[.int .i64 0,.int .i64 0,.string (⟨#[]⟩ : ByteArray)]) ?_ 0 _ rfl;(with_reducible repeat (first|refine ze ?_ _|refine zf ?_|refine zg ?_ _));refine zS ?_ NB267_268.out _;(with_reducible repeat (first|refine ze ?_ _|refine zf ?_|refine zg ?_ _));refine zS ?_ NB267_268.out _;(with_reducible repeat (first|refine ze ?_ _|refine zf ?_|refine zg ?_ _));refine zS ?_ NB267_268.out _;(with_reducible repeat (first|refine ze ?_ _|refine zf ?_|refine zg ?_ _));exact BK267.out) Tryd.underlying39 rfl (by kernel_rfl)) rfl ?_;exact ⟨by first|rfl|(simp [yt,yu] <;> rfl)|(simp [*,yt,yu] <;> rfl),by repeat (with_reducible first|exact HB.out|apply za|apply zb|apply zc|refine zd ?_ GE266.out|refine zd ?_ GE267.out|refine zd ?_ GE268.out)⟩

end Go.Proofs.YthjgfjlogilleaaDoor.Q
end
section
namespace Go.Proofs.YthjgfjlogilleaaDoor.Q
open Go.RowKit Go.Proofs.YthjgfjlogilleaaDoorW.PrintWords Go.Proofs.YthjgfjlogilleaaDoorW.PrintLast Go.Proofs.YthjgfjlogilleaaDoorW.PrintMore
attribute [local go_sem] max2_int min2_int max_two min_two max_three min_three max_four min_four max2_str min2_str str_geq str_gtr str_leq   -- for this text's walks alone
set_option linter.unusedVariables false
set_option linter.unusedSimpArgs false

def laws_toUpdate.f (a0_0 : Int) (a0_1 : ByteArray) (a0_2 : Int) (a0_3 : Int) (a0_4 : ByteArray) : Option (Int×ByteArray×Int×Int×ByteArray):=(laws_toValue.f a0_2 a0_3 a0_4).bind fun bt272 => (some (a0_0,a0_1,bt272.1,bt272.2.1,bt272.2.2))
set_option maxHeartbeats 8000000 in
set_option maxRecDepth 100000 in
theorem laws_toUpdate.calls (a0_0 : Int) (a0_1 : ByteArray) (a0_2 : Int) (a0_3 : Int) (a0_4 : ByteArray) (r1 : Int) (r2 : ByteArray) (r3 : Int) (r4 : Int) (r5 : ByteArray) (w : World) (h : laws_toUpdate.f a0_0 a0_1 a0_2 a0_3 a0_4=some (r1,r2,r3,r4,r5)) :
  Calls Tryd.prog 14 #[.agg #[.int .i64 a0_0,.string a0_1,.int .i64 a0_2,.int .i64 a0_3,.string a0_4]] w fun e w' => e = .returned (.agg #[.int .i64 r1,.string r2,.int .i64 r3,.int .i64 r4,.string r5])∧Below w.heap.size w w':=by
 have hu36:=Tryd.underlying36;have hu41:=Tryd.underlying41;have hu34:=Tryd.underlying34;have hu39:=Tryd.underlying39;have HB:=zh (Below.refl w.heap.size w);have H : ((laws_toValue.f a0_2 a0_3 a0_4).bind fun bt272 => (some (a0_0,a0_1,bt272.1,bt272.2.1,bt272.2.2)))=some (r1,r2,r3,r4,r5):=h;clear h;replace H:=zT.mp H;obtain ⟨⟨t272,t273,t274⟩,A20,H⟩:=H;replace H : (some (a0_0,a0_1,t272,t273,t274))=some (r1,r2,r3,r4,r5):=H;have A2:=zh A20;clear A20;simp only [Option.some.injEq,Prod.mk.injEq] at H;obtain ⟨rfl,rfl,rfl,rfl,rfl⟩:=H
 go_enter Tryd.func14,Tryd.ntmps14
 go_wp2_with (first|((with_reducible refine zK (N:=1) rfl ?_);refine zI ?hg (N:=1) ?hd (cs:=#[.int .i64 a0_0,.string a0_1,.int .i64 a0_2,.int .i64 a0_3,.string a0_4]) (t:=36) ?hr ?_;(case hd => rfl);(case hg => rfl);(case hr => first|(go_simp;done)|(go_simp;rfl));intro gb269 hg w3 hbox hb;have BK269:=zh (hbox);have GW269:=zh ((by rw [hg];exact (zB (by repeat (with_reducible first|exact HB.out|apply za|apply zb|apply zc))) : w.heap.size≤gb269));have GE269:=zh ((by rw [hg];exact (zB (by repeat (with_reducible first|exact HB.out|apply za|apply zb|apply zc))) : w.heap.size≤gb269));replace HB:=zh (zC (by repeat (with_reducible first|exact HB.out|apply za|apply zb|apply zc)) hb);clear hb hbox hg)|((with_reducible refine zK (N:=2) rfl ?_);refine zI ?hg (N:=2) ?hd (cs:=#[.int .i64 0,.string (⟨#[]⟩ : ByteArray),.int .i64 0,.int .i64 0,.string (⟨#[]⟩ : ByteArray)]) (t:=41) ?hr ?_;(case hd => rfl);(case hg => rfl);(case hr => first|(go_simp;done)|(go_simp;rfl));intro gb270 hg w4 hbox hb;have BK270:=zh (hbox);have GW270:=zh ((by rw [hg];exact (zB (by repeat (with_reducible first|exact HB.out|apply za|apply zb|apply zc|refine zd ?_ GE269.out))) : w.heap.size≤gb270));have GE270:=zh ((by rw [hg];exact (zB (by repeat (with_reducible first|exact HB.out|apply za|apply zb|apply zc|refine zd ?_ GE269.out))) : w.heap.size≤gb270));replace HB:=zh (zC (by repeat (with_reducible first|exact HB.out|apply za|apply zb|apply zc|refine zd ?_ GE269.out)) hb);have NB269_270:=zh ((by rw [hg];exact yc (yi (g:=gb269) (o:=.cells #[.int .i64 a0_0,.string a0_1,.int .i64 a0_2,.int .i64 a0_3,.string a0_4] 36 (0,0)) (by (with_reducible repeat (first|refine ze ?_ _|refine zf ?_|refine zg ?_ _));exact BK269.out)) : gb269≠gb270));have NB270_269:=zh ((by rw [hg];exact yd (yi (g:=gb269) (o:=.cells #[.int .i64 a0_0,.string a0_1,.int .i64 a0_2,.int .i64 a0_3,.string a0_4] 36 (0,0)) (by (with_reducible repeat (first|refine ze ?_ _|refine zf ?_|refine zg ?_ _));exact BK269.out)) : gb270≠gb269));replace BK269:=zh (zD (g:=gb269) (o:=.cells #[.int .i64 a0_0,.string a0_1,.int .i64 a0_2,.int .i64 a0_3,.string a0_4] 36 (0,0)) (by (with_reducible repeat (first|refine ze ?_ _|refine zf ?_|refine zg ?_ _));exact BK269.out) hb);clear hb hbox hg)|((with_reducible refine zK (N:=3) rfl ?_);refine zI ?hg (N:=3) ?hd (cs:=#[.int .i64 0,.string (⟨#[]⟩ : ByteArray),.int .i64 0,.int .i64 0,.string (⟨#[]⟩ : ByteArray)]) (t:=41) ?hr ?_;(case hd => rfl);(case hg => rfl);(case hr => first|(go_simp;done)|(go_simp;rfl));intro gb271 hg w5 hbox hb;have BK271:=zh (hbox);have GW271:=zh ((by rw [hg];exact (zB (by repeat (with_reducible first|exact HB.out|apply za|apply zb|apply zc|refine zd ?_ GE269.out|refine zd ?_ GE270.out))) : w.heap.size≤gb271));have GE271:=zh ((by rw [hg];exact (zB (by repeat (with_reducible first|exact HB.out|apply za|apply zb|apply zc|refine zd ?_ GE269.out|refine zd ?_ GE270.out))) : w.heap.size≤gb271));replace HB:=zh (zC (by repeat (with_reducible first|exact HB.out|apply za|apply zb|apply zc|refine zd ?_ GE269.out|refine zd ?_ GE270.out)) hb);have NB269_271:=zh ((by rw [hg];exact yc (yi (g:=gb269) (o:=.cells #[.int .i64 a0_0,.string a0_1,.int .i64 a0_2,.int .i64 a0_3,.string a0_4] 36 (0,0)) (by (with_reducible repeat (first|refine ze ?_ _|refine zf ?_|refine zg ?_ _));exact BK269.out)) : gb269≠gb271));have NB271_269:=zh ((by rw [hg];exact yd (yi (g:=gb269) (o:=.cells #[.int .i64 a0_0,.string a0_1,.int .i64 a0_2,.int .i64 a0_3,.string a0_4] 36 (0,0)) (by (with_reducible repeat (first|refine ze ?_ _|refine zf ?_|refine zg ?_ _));exact BK269.out)) : gb271≠gb269));replace BK269:=zh (zD (g:=gb269) (o:=.cells #[.int .i64 a0_0,.string a0_1,.int .i64 a0_2,.int .i64 a0_3,.string a0_4] 36 (0,0)) (by (with_reducible repeat (first|refine ze ?_ _|refine zf ?_|refine zg ?_ _));exact BK269.out) hb);have NB270_271:=zh ((by rw [hg];exact yc (yi (g:=gb270) (o:=.cells #[.int .i64 0,.string (⟨#[]⟩ : ByteArray),.int .i64 0,.int .i64 0,.string (⟨#[]⟩ : ByteArray)] 41 (0,0)) (by (with_reducible repeat (first|refine ze ?_ _|refine zf ?_|refine zg ?_ _));exact BK270.out)) : gb270≠gb271));have NB271_270:=zh ((by rw [hg];exact yd (yi (g:=gb270) (o:=.cells #[.int .i64 0,.string (⟨#[]⟩ : ByteArray),.int .i64 0,.int .i64 0,.string (⟨#[]⟩ : ByteArray)] 41 (0,0)) (by (with_reducible repeat (first|refine ze ?_ _|refine zf ?_|refine zg ?_ _));exact BK270.out)) : gb271≠gb270));replace BK270:=zh (zD (g:=gb270) (o:=.cells #[.int .i64 0,.string (⟨#[]⟩ : ByteArray),.int .i64 0,.int .i64 0,.string (⟨#[]⟩ : ByteArray)] 41 (0,0)) (by (with_reducible repeat (first|refine ze ?_ _|refine zf ?_|refine zg ?_ _));exact BK270.out) hb);clear hb hbox hg;have hnb6:=NB269_270.out;have hnc6:=NB270_269.out;have hnb7:=NB269_271.out;have hnc7:=NB271_269.out;have hcz8_0 : w5.cell? ⟨gb269,0,none⟩=some (.int .i64 a0_0):=(zz BK269.out 0).trans rfl;have hcz8_1 : w5.cell? ⟨gb269,1,none⟩=some (.string a0_1):=(zz BK269.out 1).trans rfl;have hcz8_2 : w5.cell? ⟨gb269,2,none⟩=some (.int .i64 a0_2):=(zz BK269.out 2).trans rfl;have hcz8_3 : w5.cell? ⟨gb269,3,none⟩=some (.int .i64 a0_3):=(zz BK269.out 3).trans rfl;have hcz8_4 : w5.cell? ⟨gb269,4,none⟩=some (.string a0_4):=(zz BK269.out 4).trans rfl;have hfz8_0:=zA BK269.out 0;have hfz8_1:=zA BK269.out 1;have hfz8_2:=zA BK269.out 2;have hfz8_3:=zA BK269.out 3;have hfz8_4:=zA BK269.out 4;have hnb9:=NB271_270.out;have hnc9:=NB270_271.out;have hcz10_0 : w5.cell? ⟨gb271,0,none⟩=some (.int .i64 0):=(zz BK271.out 0).trans rfl;have hcz10_1 : w5.cell? ⟨gb271,1,none⟩=some (.string (⟨#[]⟩ : ByteArray)):=(zz BK271.out 1).trans rfl;have hcz10_2 : w5.cell? ⟨gb271,2,none⟩=some (.int .i64 0):=(zz BK271.out 2).trans rfl;have hcz10_3 : w5.cell? ⟨gb271,3,none⟩=some (.int .i64 0):=(zz BK271.out 3).trans rfl;have hcz10_4 : w5.cell? ⟨gb271,4,none⟩=some (.string (⟨#[]⟩ : ByteArray)):=(zz BK271.out 4).trans rfl;have hfz10_0:=zA BK271.out 0;have hfz10_1:=zA BK271.out 1;have hfz10_2:=zA BK271.out 2;have hfz10_3:=zA BK271.out 3;have hfz10_4:=zA BK271.out 4)|((with_reducible refine zJ (f:=22) rfl ?_);refine yj (some 12) rfl rfl Tryd.func22 (by kernel_rfl) rfl #[.agg #[.int .i64 a0_2,.int .i64 a0_3,.string a0_4]] rfl (by (try simp only [zt,zu,zv]);first|done|rfl|(simp only [zw,zx];rfl)|(simp only [yr,ys,zV,zW];rfl)) ?_;(with_reducible refine (laws_toValue.calls  a0_2 a0_3 a0_4 t272 t273 t274 _ A2.out).mono ?_);rintro e w11 ⟨rfl,hb⟩;refine ⟨_,rfl,?_⟩;replace BK269:=zh (zD (g:=gb269) (o:=.cells #[.int .i64 a0_0,.string a0_1,.int .i64 a0_2,.int .i64 a0_3,.string a0_4] 36 (0,0)) (by (with_reducible repeat (first|refine ze ?_ _|refine zf ?_|refine zg ?_ _));refine zS ?_ NB269_271.out _;(with_reducible repeat (first|refine ze ?_ _|refine zf ?_|refine zg ?_ _));refine zS ?_ NB269_271.out _;(with_reducible repeat (first|refine ze ?_ _|refine zf ?_|refine zg ?_ _));exact BK269.out) hb);replace BK270:=zh (zD (g:=gb270) (o:=.cells #[.int .i64 0,.string (⟨#[]⟩ : ByteArray),.int .i64 0,.int .i64 0,.string (⟨#[]⟩ : ByteArray)] 41 (0,0)) (by (with_reducible repeat (first|refine ze ?_ _|refine zf ?_|refine zg ?_ _));refine zS ?_ NB270_271.out _;(with_reducible repeat (first|refine ze ?_ _|refine zf ?_|refine zg ?_ _));refine zS ?_ NB270_271.out _;(with_reducible repeat (first|refine ze ?_ _|refine zf ?_|refine zg ?_ _));exact BK270.out) hb);replace BK271:=zh (zD (g:=gb271) (o:=.cells #[.int .i64 a0_0,.string a0_1,.int .i64 0,.int .i64 0,.string (⟨#[]⟩ : ByteArray)] 41 (0,0)) (by (with_reducible repeat (first|refine ze ?_ _|refine zf ?_|refine zg ?_ _));refine zL (cs:=#[.int .i64 a0_0,.string (⟨#[]⟩ : ByteArray),.int .i64 0,.int .i64 0,.string (⟨#[]⟩ : ByteArray)]) ?_ 1 _ rfl;(with_reducible repeat (first|refine ze ?_ _|refine zf ?_|refine zg ?_ _));refine zL (cs:=#[.int .i64 0,.string (⟨#[]⟩ : ByteArray),.int .i64 0,.int .i64 0,.string (⟨#[]⟩ : ByteArray)]) ?_ 0 _ rfl;(with_reducible repeat (first|refine ze ?_ _|refine zf ?_|refine zg ?_ _));exact BK271.out) hb);replace HB:=zh (zC (by repeat (with_reducible first|exact HB.out|apply za|apply zb|apply zc|refine zd ?_ GE269.out|refine zd ?_ GE270.out|refine zd ?_ GE271.out)) hb);(try clear hb);(try clear hb2);(try clear hk);(try clear hi);have hcz12_0 : w11.cell? ⟨gb271,0,none⟩=some (.int .i64 a0_0):=(zz BK271.out 0).trans rfl;have hcz12_1 : w11.cell? ⟨gb271,1,none⟩=some (.string a0_1):=(zz BK271.out 1).trans rfl;have hcz12_2 : w11.cell? ⟨gb271,2,none⟩=some (.int .i64 0):=(zz BK271.out 2).trans rfl;have hcz12_3 : w11.cell? ⟨gb271,3,none⟩=some (.int .i64 0):=(zz BK271.out 3).trans rfl;have hcz12_4 : w11.cell? ⟨gb271,4,none⟩=some (.string (⟨#[]⟩ : ByteArray)):=(zz BK271.out 4).trans rfl;have hfz12_0:=zA BK271.out 0;have hfz12_1:=zA BK271.out 1;have hfz12_2:=zA BK271.out 2;have hfz12_3:=zA BK271.out 3;have hfz12_4:=zA BK271.out 4;have hcz13_0 : w11.cell? ⟨gb270,0,none⟩=some (.int .i64 0):=(zz BK270.out 0).trans rfl;have hcz13_1 : w11.cell? ⟨gb270,1,none⟩=some (.string (⟨#[]⟩ : ByteArray)):=(zz BK270.out 1).trans rfl;have hcz13_2 : w11.cell? ⟨gb270,2,none⟩=some (.int .i64 0):=(zz BK270.out 2).trans rfl;have hcz13_3 : w11.cell? ⟨gb270,3,none⟩=some (.int .i64 0):=(zz BK270.out 3).trans rfl;have hcz13_4 : w11.cell? ⟨gb270,4,none⟩=some (.string (⟨#[]⟩ : ByteArray)):=(zz BK270.out 4).trans rfl;have hfz13_0:=zA BK270.out 0;have hfz13_1:=zA BK270.out 1;have hfz13_2:=zA BK270.out 2;have hfz13_3:=zA BK270.out 3;have hfz13_4:=zA BK270.out 4))
 refine bodyPost_ret (results_cell_row rfl _ _ gb270 41 #[.int .i64 a0_0,.string a0_1,.int .i64 t272,.int .i64 t273,.string t274] (0,0) _ rfl (by (with_reducible repeat (first|refine ze ?_ _|refine zf ?_|refine zg ?_ _));refine zL (cs:=#[.int .i64 a0_0,.string a0_1,.int .i64 t272,.int .i64 t273,.string (⟨#[]⟩ : ByteArray)]) ?_ 4 _ rfl;(with_reducible repeat (first|refine ze ?_ _|refine zf ?_|refine zg ?_ _));refine zL (cs:=#[.int .i64 a0_0,.string a0_1,.int .i64 t272,.int .i64 0,.string (⟨#[]⟩ : ByteArray)]) ?_ 3 _ rfl;(with_reducible repeat (first|refine ze ?_ _|refine zf ?_|refine zg ?_ _));refine zL (cs:=#[.int .i64 a0_0,.string a0_1,.int .i64 0,.int .i64 0,.string (⟨#[]⟩ : ByteArray)]) ?_ 2 _ rfl;(with_reducible repeat (first|refine ze ?_ _|refine zf ?_|refine zg ?_ _));refine zL (cs:=#[.int .i64 a0_0,.string (⟨#[]⟩ : ByteArray),.int .i64 0,.int .i64 0,.string (⟨#[]⟩ : ByteArray)]) ?_ 1 _ rfl;(with_reducible repeat (first|refine ze ?_ _|refine zf ?_|refine zg ?_ _));refine zL (cs:=#[.int .i64 0,.string (⟨#[]⟩ : ByteArray),.int .i64 0,.int .i64 0,.string (⟨#[]⟩ : ByteArray)]) ?_ 0 _ rfl;(with_reducible repeat (first|refine ze ?_ _|refine zf ?_|refine zg ?_ _));refine zS ?_ NB270_271.out _;(with_reducible repeat (first|refine ze ?_ _|refine zf ?_|refine zg ?_ _));refine zS ?_ NB270_271.out _;(with_reducible repeat (first|refine ze ?_ _|refine zf ?_|refine zg ?_ _));refine zS ?_ NB270_271.out _;(with_reducible repeat (first|refine ze ?_ _|refine zf ?_|refine zg ?_ _));exact BK270.out) Tryd.underlying41 rfl (by kernel_rfl)) rfl ?_;exact ⟨by first|rfl|(simp [yt,yu] <;> rfl)|(simp [*,yt,yu] <;> rfl),by repeat (with_reducible first|exact HB.out|apply za|apply zb|apply zc|refine zd ?_ GE269.out|refine zd ?_ GE270.out|refine zd ?_ GE271.out)⟩

end Go.Proofs.YthjgfjlogilleaaDoor.Q
end
section
namespace Go.Proofs.YthjgfjlogilleaaDoor.Q
open Go.RowKit Go.Proofs.YthjgfjlogilleaaDoorW.PrintWords Go.Proofs.YthjgfjlogilleaaDoorW.PrintLast Go.Proofs.YthjgfjlogilleaaDoorW.PrintMore
attribute [local go_sem] max2_int min2_int max_two min_two max_three min_three max_four min_four max2_str min2_str str_geq str_gtr str_leq
set_option linter.unusedVariables false
set_option linter.unusedSimpArgs false

def strings_Split.f (a0 : ByteArray) (a1 : ByteArray) : Option (List ByteArray):=if a1.size=1 then (if a0.size<4294967281 then (some (pieces a0 a1)) else (none)) else (none)
theorem strings_Split.calls (a0 : ByteArray) (a1 : ByteArray) (r : List ByteArray) (w : World) (h : strings_Split.f a0 a1=some r) :
  Calls Tryd.prog 55 #[.string a0,.string a1] w fun e w' => ∃ v0_ : Value,e = .returned (v0_)∧Kd.R Kd.string 9 w' w.heap.size (fun _ => True) v0_ r∧Below w.heap.size w w':=by
 unfold strings_Split.f at h
 by_cases h0 : a1.size=1
 ·
  rw [if_pos h0] at h
  by_cases h1 : a0.size<4294967281
  ·
   rw [if_pos h1] at h
   obtain rfl:=zU h;obtain ⟨c,rfl⟩:=Lib.one_byte a1 h0;exact split_one a0 c w h1
  rw [if_neg h1] at h;exact absurd h (by simp)
 rw [if_neg h0] at h;exact absurd h (by simp)

end Go.Proofs.YthjgfjlogilleaaDoor.Q
end
section
namespace Go.Proofs.YthjgfjlogilleaaDoor.Q
open Go.RowKit Go.Proofs.YthjgfjlogilleaaDoorW.PrintWords Go.Proofs.YthjgfjlogilleaaDoorW.PrintLast Go.Proofs.YthjgfjlogilleaaDoorW.PrintMore
attribute [local go_sem] max2_int min2_int max_two min_two max_three min_three max_four min_four max2_str min2_str str_geq str_gtr str_leq   -- for this text's walks alone
set_option linter.unusedVariables false
set_option linter.unusedSimpArgs false

def impl_inRange.f (a0 : Int) (a1 : Int) (a2 : Int) : Option (Bool):=if a1≤a0 then (some (decide (a0≤a2))) else (some false)
set_option maxHeartbeats 8000000 in
set_option maxRecDepth 100000 in
theorem impl_inRange.calls (a0 : Int) (a1 : Int) (a2 : Int) (r : Bool) (w : World) (h : impl_inRange.f a0 a1 a2=some r) :
  Calls Tryd.prog 33 #[.int .i64 a0,.int .i64 a1,.int .i64 a2] w fun e w' => e = .returned (.bool r)∧Drawn0 w w':=by
 have H : (if a1≤a0 then (some (decide (a0≤a2))) else (some false))=some r:=h;clear h
 by_cases c4 : a1≤a0
 ·
  rw [if_pos c4] at H
  have c4b0 : decide (a1≤a0)=true:=decide_eq_true c4;clear c4;obtain rfl:=zU H
  go_enter Tryd.func33,Tryd.ntmps33
  go_wp2
  go_ret
  exact ⟨by first|rfl|(simp;done)|(simp [*];done),by repeat (first|exact yp _|apply yq)⟩
 rw [if_neg c4] at H;have c4b0 : decide (a1≤a0)=false:=decide_eq_false c4;clear c4;obtain rfl:=zU H
 go_enter Tryd.func33,Tryd.ntmps33
 go_wp2
 go_ret
 exact ⟨by first|rfl|(simp;done)|(simp [*];done),by repeat (first|exact yp _|apply yq)⟩

end Go.Proofs.YthjgfjlogilleaaDoor.Q
end
section
namespace Go.Proofs.YthjgfjlogilleaaDoor.Q
open Go.RowKit Go.Proofs.YthjgfjlogilleaaDoorW.PrintWords Go.Proofs.YthjgfjlogilleaaDoorW.PrintLast Go.Proofs.YthjgfjlogilleaaDoorW.PrintMore
attribute [local go_sem] max2_int min2_int max_two min_two max_three min_three max_four min_four max2_str min2_str str_geq str_gtr str_leq   -- for this text's walks alone
set_option linter.unusedVariables false
set_option linter.unusedSimpArgs false

def impl_isLetter.f (a0 : Int) : Option (Bool):=if a0 ≥ 97 then (if a0≤122 then (some true) else (if a0 ≥ 65 then (if a0≤90 then (some true) else (some (a0 == 95))) else (some (a0 == 95)))) else (if a0 ≥ 65 then (if a0≤90 then (some true) else (some (a0 == 95))) else (some (a0 == 95)))
set_option maxHeartbeats 8000000 in
set_option maxRecDepth 100000 in
theorem impl_isLetter.calls (a0 : Int) (r : Bool) (w : World) (h : impl_isLetter.f a0=some r) :
  Calls Tryd.prog 64 #[.int .u8 a0] w fun e w' => e = .returned (.bool r)∧Drawn0 w w':=by
 have H : (if a0 ≥ 97 then (if a0≤122 then (some true) else (if a0 ≥ 65 then (if a0≤90 then (some true) else (some (a0 == 95))) else (some (a0 == 95)))) else (if a0 ≥ 65 then (if a0≤90 then (some true) else (some (a0 == 95))) else (some (a0 == 95))))=some r:=h;clear h
 by_cases c2 : a0 ≥ 97
 ·
  rw [if_pos c2] at H
  have c2b0 : decide (97≤a0)=true:=decide_eq_true c2;clear c2
  by_cases c3 : a0≤122
  ·
   rw [if_pos c3] at H
   have c3b0 : decide (a0≤122)=true:=decide_eq_true c3;clear c3;obtain rfl:=zU H
   go_enter Tryd.func64,Tryd.ntmps64
   go_wp2
   go_ret
   exact ⟨by first|rfl|(simp;done)|(simp [*];done),by repeat (first|exact yp _|apply yq)⟩
  rw [if_neg c3] at H;have c3b0 : decide (a0≤122)=false:=decide_eq_false c3;clear c3
  by_cases c4 : a0 ≥ 65
  ·
   rw [if_pos c4] at H
   have c4b0 : decide (65≤a0)=true:=decide_eq_true c4;clear c4
   by_cases c5 : a0≤90
   ·
    rw [if_pos c5] at H
    have c5b0 : decide (a0≤90)=true:=decide_eq_true c5;clear c5;obtain rfl:=zU H
    go_enter Tryd.func64,Tryd.ntmps64
    go_wp2
    go_ret
    exact ⟨by first|rfl|(simp;done)|(simp [*];done),by repeat (first|exact yp _|apply yq)⟩
   rw [if_neg c5] at H;have c5b0 : decide (a0≤90)=false:=decide_eq_false c5;clear c5;obtain rfl:=zU H
   go_enter Tryd.func64,Tryd.ntmps64
   go_wp2
   go_ret
   exact ⟨by first|rfl|(simp;done)|(simp [*];done),by repeat (first|exact yp _|apply yq)⟩
  rw [if_neg c4] at H;have c4b0 : decide (65≤a0)=false:=decide_eq_false c4;clear c4;obtain rfl:=zU H
  go_enter Tryd.func64,Tryd.ntmps64
  go_wp2
  go_ret
  exact ⟨by first|rfl|(simp;done)|(simp [*];done),by repeat (first|exact yp _|apply yq)⟩
 rw [if_neg c2] at H;have c2b0 : decide (97≤a0)=false:=decide_eq_false c2;clear c2
 by_cases c6 : a0 ≥ 65
 ·
  rw [if_pos c6] at H
  have c6b0 : decide (65≤a0)=true:=decide_eq_true c6;clear c6
  by_cases c7 : a0≤90
  ·
   rw [if_pos c7] at H
   have c7b0 : decide (a0≤90)=true:=decide_eq_true c7;clear c7;obtain rfl:=zU H
   go_enter Tryd.func64,Tryd.ntmps64
   go_wp2
   go_ret
   exact ⟨by first|rfl|(simp;done)|(simp [*];done),by repeat (first|exact yp _|apply yq)⟩
  rw [if_neg c7] at H;have c7b0 : decide (a0≤90)=false:=decide_eq_false c7;clear c7;obtain rfl:=zU H
  go_enter Tryd.func64,Tryd.ntmps64
  go_wp2
  go_ret
  exact ⟨by first|rfl|(simp;done)|(simp [*];done),by repeat (first|exact yp _|apply yq)⟩
 rw [if_neg c6] at H;have c6b0 : decide (65≤a0)=false:=decide_eq_false c6;clear c6;obtain rfl:=zU H
 go_enter Tryd.func64,Tryd.ntmps64
 go_wp2
 go_ret
 exact ⟨by first|rfl|(simp;done)|(simp [*];done),by repeat (first|exact yp _|apply yq)⟩

end Go.Proofs.YthjgfjlogilleaaDoor.Q
end
section
namespace Go.Proofs.YthjgfjlogilleaaDoor.Q
open Go.RowKit Go.Proofs.YthjgfjlogilleaaDoorW.PrintWords Go.Proofs.YthjgfjlogilleaaDoorW.PrintLast Go.Proofs.YthjgfjlogilleaaDoorW.PrintMore
attribute [local go_sem] max2_int min2_int max_two min_two max_three min_three max_four min_four max2_str min2_str str_geq str_gtr str_leq   -- for this text's walks alone
set_option linter.unusedVariables false
set_option linter.unusedSimpArgs false

def impl_isDigit.f (a0 : Int) : Option (Bool):=if a0 ≥ 48 then (some (decide (a0≤57))) else (some false)
set_option maxHeartbeats 8000000 in
set_option maxRecDepth 100000 in
theorem impl_isDigit.calls (a0 : Int) (r : Bool) (w : World) (h : impl_isDigit.f a0=some r) :
  Calls Tryd.prog 65 #[.int .u8 a0] w fun e w' => e = .returned (.bool r)∧Drawn0 w w':=by
 have H : (if a0 ≥ 48 then (some (decide (a0≤57))) else (some false))=some r:=h;clear h
 by_cases c2 : a0 ≥ 48
 ·
  rw [if_pos c2] at H
  have c2b0 : decide (48≤a0)=true:=decide_eq_true c2;clear c2;obtain rfl:=zU H
  go_enter Tryd.func65,Tryd.ntmps65
  go_wp2
  go_ret
  exact ⟨by first|rfl|(simp;done)|(simp [*];done),by repeat (first|exact yp _|apply yq)⟩
 rw [if_neg c2] at H;have c2b0 : decide (48≤a0)=false:=decide_eq_false c2;clear c2;obtain rfl:=zU H
 go_enter Tryd.func65,Tryd.ntmps65
 go_wp2
 go_ret
 exact ⟨by first|rfl|(simp;done)|(simp [*];done),by repeat (first|exact yp _|apply yq)⟩

end Go.Proofs.YthjgfjlogilleaaDoor.Q
end
section
namespace Go.Proofs.YthjgfjlogilleaaDoor.Q
open Go.RowKit Go.Proofs.YthjgfjlogilleaaDoorW.PrintWords Go.Proofs.YthjgfjlogilleaaDoorW.PrintLast Go.Proofs.YthjgfjlogilleaaDoorW.PrintMore
attribute [local go_sem] max2_int min2_int max_two min_two max_three min_three max_four min_four max2_str min2_str str_geq str_gtr str_leq   -- for this text's walks alone
set_option linter.unusedVariables false
set_option linter.unusedSimpArgs false

def impl_NameOK.l0 : Nat→ByteArray→Int→Int→Option (Bool)
 | 0,_,_,_ => none
 | k + 1,x0,x5,x6 => if x6<x5 then (if 0≤x6 then (if x6<(x0.size : Int) then ((impl_isLetter.f (bt x0 x6)).bind fun t149 => (if t149=true then (impl_NameOK.l0 k x0 x5 (wrap64 (x6 + 1))) else ((impl_isDigit.f (bt x0 x6)).bind fun t150 => (if t150=true then (if x6=0 then (some false) else (impl_NameOK.l0 k x0 x5 (wrap64 (x6 + 1)))) else (some false))))) else (none)) else (none)) else ((impl_inRange.f (x0.size : Int) 1 40).bind fun t148 => (some t148))
def impl_NameOK.f (k : Nat) (a0 : ByteArray) : Option (Bool):=impl_NameOK.l0 k a0 (a0.size : Int) 0
theorem impl_NameOK.mono_l : ∀ k,(∀ y0 y1 y2,LeO (impl_NameOK.l0 k y0 y1 y2) (impl_NameOK.l0 (k + 1) y0 y1 y2))
 | 0 => fun _ _ _ r h => by simp [impl_NameOK.l0] at h
 | k + 1 => by
  have ih0:=impl_NameOK.mono_l k;intro y0 y1 y2;unfold impl_NameOK.l0
  repeat' first|(with_reducible exact ih0 _ _ _)|(with_reducible exact zQ _)|(with_reducible exact zN _)|(with_reducible refine zP ?_ ?_)|(with_reducible refine zO ?_ (fun _ => ?_))|refine zP ?_ ?_|refine zO ?_ (fun _ => ?_)
theorem impl_NameOK.mono : ∀ a0 k,LeO (impl_NameOK.f k a0) (impl_NameOK.f (k + 1) a0):=by
 intro a0 k;have ih0:=impl_NameOK.mono_l k;unfold impl_NameOK.f
 repeat' first|(with_reducible exact ih0 _ _ _)|(with_reducible exact zQ _)|(with_reducible exact zN _)|(with_reducible refine zP ?_ ?_)|(with_reducible refine zO ?_ (fun _ => ?_))|refine zP ?_ ?_|refine zO ?_ (fun _ => ?_)
set_option maxHeartbeats 8000000 in
set_option maxRecDepth 100000 in
theorem impl_NameOK.calls (k : Nat) (a0 : ByteArray) (r : Bool) (w : World) (h : impl_NameOK.f k a0=some r) :
  Calls Tryd.prog 51 #[.string a0] w fun e w' => e = .returned (.bool r)∧Drawn0 w w':=by
 have H : (impl_NameOK.l0 k a0 (a0.size : Int) 0)=some r:=h;clear h;have H':=zh H;clear H
 go_enter Tryd.func51,Tryd.ntmps51
 go_wp2
 go_loopg [6] k (fun kq v6 w' => ∃ (x6_1 : Int),v6 = .int .i64 x6_1∧Aside0 (impl_NameOK.l0 kq a0 (a0.size : Int) x6_1=some r)∧Aside0 (kq≤k)∧Drawn0 w w')
 case atStart => exact ⟨(0),(by first|rfl|(simp;done)|(simp [*];done)),H',⟨ye _⟩,by repeat (first|exact yp _|apply yq)⟩
 case round =>
  clear H';obtain ⟨x6_1,rfl,HA,HK1,⟨m1,rfl⟩⟩:=hrel
  cases gk with
  | zero => exact absurd HA.out (by simp [impl_NameOK.l0])
  | succ k1 =>
   have H:=HA.out;clear HA;simp only [impl_NameOK.l0] at H
   by_cases c2 : x6_1<(a0.size : Int)
   ·
    rw [if_pos c2] at H
    have c2b0 : decide (x6_1<(a0.size : Int))=true:=decide_eq_true c2;clear c2
    by_cases c3 : 0≤x6_1
    ·
     rw [if_pos c3] at H
     have c3b0 : decide (0≤x6_1)=true:=decide_eq_true c3;clear c3
     by_cases c4 : x6_1<(a0.size : Int)
     ·
      rw [if_pos c4] at H
      have c4b0 : decide (x6_1<(a0.size : Int))=true:=decide_eq_true c4;clear c4;replace H:=zT.mp H;obtain ⟨t149,A60,H⟩:=H;replace H : (if t149=true then (impl_NameOK.l0 k1 a0 (a0.size : Int) (wrap64 (x6_1 + 1))) else ((impl_isDigit.f (bt a0 x6_1)).bind fun t150 => (if t150=true then (if x6_1=0 then (some false) else (impl_NameOK.l0 k1 a0 (a0.size : Int) (wrap64 (x6_1 + 1)))) else (some false))))=some r:=H;have A6:=zh A60;clear A60
      by_cases c7 : t149=true
      ·
       subst c7
       have H1 : (impl_NameOK.l0 k1 a0 (a0.size : Int) (wrap64 (x6_1 + 1)))=some r:=by rw [if_pos rfl] at H;exact H
       clear H;have H:=H1;clear H1;have H':=zh H;clear H;have p5 : 0≤(x6_1 : Int):=zy (by first|(with_reducible assumption)|assumption);have q5 : x6_1<(a0.size : Int):=zy (by first|(with_reducible assumption)|assumption);have hx5:=bt_at a0 x6_1;replace p5:=eq_true p5;replace q5:=eq_true q5
       go_wp2_with (first|((with_reducible refine zJ (f:=64) rfl ?_);refine yj (some 12) rfl rfl Tryd.func64 (by kernel_rfl) rfl #[.int .u8 (bt a0 x6_1)] rfl (by (try simp only [zt,zu,zv]);first|done|rfl|(simp only [zw,zx];rfl)|(simp only [yr,ys,zV,zW];rfl)) ?_;(with_reducible refine (impl_isLetter.calls  (bt a0 x6_1) true _ A6.out).mono ?_);rintro e w' ⟨rfl,⟨nd,rfl⟩⟩;refine ⟨_,rfl,?_⟩))
       go_roundg k1
       case measure => have:=HK1.out;omega
       case rel => exact ⟨(wrap64 (x6_1 + 1)),(by first|rfl|(simp;done)|(simp [*];done)),H',⟨by have:=HK1.out;omega⟩,by repeat (first|exact yp _|apply yq)⟩
      replace c7:=yb.mpr c7;subst c7;have H1 : ((impl_isDigit.f (bt a0 x6_1)).bind fun t150 => (if t150=true then (if x6_1=0 then (some false) else (impl_NameOK.l0 k1 a0 (a0.size : Int) (wrap64 (x6_1 + 1)))) else (some false)))=some r:=by rw [if_neg (show ¬ (false=true) by decide)] at H;exact H
      clear H;have H:=H1;clear H1;replace H:=zT.mp H;obtain ⟨t150,A90,H⟩:=H;replace H : (if t150=true then (if x6_1=0 then (some false) else (impl_NameOK.l0 k1 a0 (a0.size : Int) (wrap64 (x6_1 + 1)))) else (some false))=some r:=H;have A9:=zh A90;clear A90
      by_cases c10 : t150=true
      ·
       subst c10
       have H1 : (if x6_1=0 then (some false) else (impl_NameOK.l0 k1 a0 (a0.size : Int) (wrap64 (x6_1 + 1))))=some r:=by rw [if_pos rfl] at H;exact H
       clear H;have H:=H1;clear H1
       by_cases c11 : x6_1=0
       ·
        rw [if_pos c11] at H
        have c11b0 : (x6_1 == 0)=true:=ya.mpr c11;have c11b1 : (x6_1 != 0)=false:=zX.mpr c11;clear c11;obtain rfl:=zU H;have p5 : 0≤(x6_1 : Int):=zy (by first|(with_reducible assumption)|assumption);have q5 : x6_1<(a0.size : Int):=zy (by first|(with_reducible assumption)|assumption);have hx5:=bt_at a0 x6_1;replace p5:=eq_true p5;replace q5:=eq_true q5
        go_wp2_with (first|((with_reducible refine zJ (f:=64) rfl ?_);refine yj (some 12) rfl rfl Tryd.func64 (by kernel_rfl) rfl #[.int .u8 (bt a0 x6_1)] rfl (by (try simp only [zt,zu,zv]);first|done|rfl|(simp only [zw,zx];rfl)|(simp only [yr,ys,zV,zW];rfl)) ?_;(with_reducible refine (impl_isLetter.calls  (bt a0 x6_1) false _ A6.out).mono ?_);rintro e w' ⟨rfl,⟨nd,rfl⟩⟩;refine ⟨_,rfl,?_⟩;have p8 : 0≤(x6_1 : Int):=zy (by first|(with_reducible assumption)|assumption);have q8 : x6_1<(a0.size : Int):=zy (by first|(with_reducible assumption)|assumption);have hx8:=bt_at a0 x6_1;replace p8:=eq_true p8;replace q8:=eq_true q8)|(go_at_call 65;(with_reducible refine (impl_isDigit.calls  (bt a0 x6_1) true _ A9.out).mono ?_);rintro e w' ⟨rfl,⟨nd,rfl⟩⟩))
        go_ret
        exact ⟨by first|rfl|(simp;done)|(simp [*];done),by repeat (first|exact yp _|apply yq)⟩
       rw [if_neg c11] at H;have c11b0 : (x6_1 == 0)=false:=zY.mpr c11;have c11b1 : (x6_1 != 0)=true:=zZ.mpr c11;have H':=zh H;clear H;have p5 : 0≤(x6_1 : Int):=zy (by first|(with_reducible assumption)|assumption);have q5 : x6_1<(a0.size : Int):=zy (by first|(with_reducible assumption)|assumption);have hx5:=bt_at a0 x6_1;replace p5:=eq_true p5;replace q5:=eq_true q5
       go_wp2_with (first|((with_reducible refine zJ (f:=64) rfl ?_);refine yj (some 12) rfl rfl Tryd.func64 (by kernel_rfl) rfl #[.int .u8 (bt a0 x6_1)] rfl (by (try simp only [zt,zu,zv]);first|done|rfl|(simp only [zw,zx];rfl)|(simp only [yr,ys,zV,zW];rfl)) ?_;(with_reducible refine (impl_isLetter.calls  (bt a0 x6_1) false _ A6.out).mono ?_);rintro e w' ⟨rfl,⟨nd,rfl⟩⟩;refine ⟨_,rfl,?_⟩;have p8 : 0≤(x6_1 : Int):=zy (by first|(with_reducible assumption)|assumption);have q8 : x6_1<(a0.size : Int):=zy (by first|(with_reducible assumption)|assumption);have hx8:=bt_at a0 x6_1;replace p8:=eq_true p8;replace q8:=eq_true q8)|(go_at_call 65;(with_reducible refine (impl_isDigit.calls  (bt a0 x6_1) true _ A9.out).mono ?_);rintro e w' ⟨rfl,⟨nd,rfl⟩⟩))
       go_roundg k1
       case measure => have:=HK1.out;omega
       case rel => exact ⟨(wrap64 (x6_1 + 1)),(by first|rfl|(simp;done)|(simp [*];done)),H',⟨by have:=HK1.out;omega⟩,by repeat (first|exact yp _|apply yq)⟩
      replace c10:=yb.mpr c10;subst c10;have H1 : (some false)=some r:=by rw [if_neg (show ¬ (false=true) by decide)] at H;exact H
      clear H;have H:=H1;clear H1;obtain rfl:=zU H;have p5 : 0≤(x6_1 : Int):=zy (by first|(with_reducible assumption)|assumption);have q5 : x6_1<(a0.size : Int):=zy (by first|(with_reducible assumption)|assumption);have hx5:=bt_at a0 x6_1;replace p5:=eq_true p5;replace q5:=eq_true q5
      go_wp2_with (first|((with_reducible refine zJ (f:=64) rfl ?_);refine yj (some 12) rfl rfl Tryd.func64 (by kernel_rfl) rfl #[.int .u8 (bt a0 x6_1)] rfl (by (try simp only [zt,zu,zv]);first|done|rfl|(simp only [zw,zx];rfl)|(simp only [yr,ys,zV,zW];rfl)) ?_;(with_reducible refine (impl_isLetter.calls  (bt a0 x6_1) false _ A6.out).mono ?_);rintro e w' ⟨rfl,⟨nd,rfl⟩⟩;refine ⟨_,rfl,?_⟩;have p8 : 0≤(x6_1 : Int):=zy (by first|(with_reducible assumption)|assumption);have q8 : x6_1<(a0.size : Int):=zy (by first|(with_reducible assumption)|assumption);have hx8:=bt_at a0 x6_1;replace p8:=eq_true p8;replace q8:=eq_true q8)|(go_at_call 65;(with_reducible refine (impl_isDigit.calls  (bt a0 x6_1) false _ A9.out).mono ?_);rintro e w' ⟨rfl,⟨nd,rfl⟩⟩))
      go_ret
      exact ⟨by first|rfl|(simp;done)|(simp [*];done),by repeat (first|exact yp _|apply yq)⟩
     rw [if_neg c4] at H;exact absurd H (by simp)
    rw [if_neg c3] at H;exact absurd H (by simp)
   rw [if_neg c2] at H;have c2b0 : decide (x6_1<(a0.size : Int))=false:=decide_eq_false c2;clear c2;replace H:=zT.mp H;obtain ⟨t148,A120,H⟩:=H;replace H : (some t148)=some r:=H;have A12:=zh A120;clear A120;obtain rfl:=zU H
   go_wp2_with (first|((with_reducible refine zJ (f:=33) rfl ?_);refine yj (some 28) rfl rfl Tryd.func33 (by kernel_rfl) rfl #[.int .i64 (a0.size : Int),.int .i64 1,.int .i64 40] rfl (by (try simp only [zt,zu,zv]);first|done|rfl|(simp only [zw,zx];rfl)|(simp only [yr,ys,zV,zW];rfl)) ?_;(with_reducible refine (impl_inRange.calls  (a0.size : Int) 1 40 t148 _ A12.out).mono ?_);rintro e w' ⟨rfl,⟨nd,rfl⟩⟩;refine ⟨_,rfl,?_⟩))
   go_ret
   exact ⟨by first|rfl|(simp;done)|(simp [*];done),by repeat (first|exact yp _|apply yq)⟩

end Go.Proofs.YthjgfjlogilleaaDoor.Q
end
section
namespace Go.Proofs.YthjgfjlogilleaaDoor.Q
open Go.RowKit Go.Proofs.YthjgfjlogilleaaDoorW.PrintWords Go.Proofs.YthjgfjlogilleaaDoorW.PrintLast Go.Proofs.YthjgfjlogilleaaDoorW.PrintMore
attribute [local go_sem] max2_int min2_int max_two min_two max_three min_three max_four min_four max2_str min2_str str_geq str_gtr str_leq   -- for this text's walks alone
set_option linter.unusedVariables false
set_option linter.unusedSimpArgs false

def impl_isShort.f (k : Nat) (a0 : ByteArray) : Option (Bool):=if (a0.size : Int)≤12 then ((impl_NameOK.f k a0).bind fun t151 => (some t151)) else (some false)
theorem impl_isShort.mono : ∀ a0 k,LeO (impl_isShort.f k a0) (impl_isShort.f (k + 1) a0):=by
 intro a0 k;unfold impl_isShort.f
 repeat' first|(with_reducible exact impl_NameOK.mono _ _)|(with_reducible exact zQ _)|(with_reducible exact zN _)|(with_reducible refine zP ?_ ?_)|(with_reducible refine zO ?_ (fun _ => ?_))|refine zP ?_ ?_|refine zO ?_ (fun _ => ?_)
set_option maxHeartbeats 8000000 in
set_option maxRecDepth 100000 in
theorem impl_isShort.calls (k : Nat) (a0 : ByteArray) (r : Bool) (w : World) (h : impl_isShort.f k a0=some r) :
  Calls Tryd.prog 32 #[.string a0] w fun e w' => e = .returned (.bool r)∧Drawn0 w w':=by
 have H : (if (a0.size : Int)≤12 then ((impl_NameOK.f k a0).bind fun t151 => (some t151)) else (some false))=some r:=h;clear h
 by_cases c2 : (a0.size : Int)≤12
 ·
  rw [if_pos c2] at H
  have c2b0 : decide ((a0.size : Int)≤12)=true:=decide_eq_true c2;have c2b1 : decide (a0.size≤12)=true:=decide_eq_true (by omega);clear c2;replace H:=zT.mp H;obtain ⟨t151,A30,H⟩:=H;replace H : (some t151)=some r:=H;have A3:=zh A30;clear A30;obtain rfl:=zU H
  go_enter Tryd.func32,Tryd.ntmps32
  go_wp2_with (first|(go_at_call 51;(with_reducible refine (impl_NameOK.calls k  a0 t151 _ A3.out).mono ?_);rintro e w' ⟨rfl,⟨nd,rfl⟩⟩))
  go_ret
  exact ⟨by first|rfl|(simp;done)|(simp [*];done),by repeat (first|exact yp _|apply yq)⟩
 rw [if_neg c2] at H;have c2b0 : decide ((a0.size : Int)≤12)=false:=decide_eq_false c2;have c2b1 : decide (a0.size≤12)=false:=decide_eq_false (by omega);clear c2;obtain rfl:=zU H
 go_enter Tryd.func32,Tryd.ntmps32
 go_wp2
 go_ret
 exact ⟨by first|rfl|(simp;done)|(simp [*];done),by repeat (first|exact yp _|apply yq)⟩

end Go.Proofs.YthjgfjlogilleaaDoor.Q
end
section
namespace Go.Proofs.YthjgfjlogilleaaDoor.Q
open Go.RowKit Go.Proofs.YthjgfjlogilleaaDoorW.PrintWords Go.Proofs.YthjgfjlogilleaaDoorW.PrintLast Go.Proofs.YthjgfjlogilleaaDoorW.PrintMore
attribute [local go_sem] max2_int min2_int max_two min_two max_three min_three max_four min_four max2_str min2_str str_geq str_gtr str_leq   -- for this text's walks alone
set_option linter.unusedVariables false
set_option linter.unusedSimpArgs false

def impl_PathOK_1.f (k : Nat) (a0 : ByteArray) : Option (Bool):=(impl_isShort.f k a0).bind fun t152 => (some (!t152))
theorem impl_PathOK_1.mono : ∀ a0 k,LeO (impl_PathOK_1.f k a0) (impl_PathOK_1.f (k + 1) a0):=by
 intro a0 k;unfold impl_PathOK_1.f
 repeat' first|(with_reducible exact impl_isShort.mono _ _)|(with_reducible exact zQ _)|(with_reducible exact zN _)|(with_reducible refine zP ?_ ?_)|(with_reducible refine zO ?_ (fun _ => ?_))|refine zP ?_ ?_|refine zO ?_ (fun _ => ?_)
set_option maxHeartbeats 8000000 in
set_option maxRecDepth 100000 in
theorem impl_PathOK_1.calls (k : Nat) (a0 : ByteArray) (r : Bool) (w : World) (h : impl_PathOK_1.f k a0=some r) :
  Calls Tryd.prog 57 #[.string a0] w fun e w' => e = .returned (.bool r)∧Drawn0 w w':=by
 have H : ((impl_isShort.f k a0).bind fun t152 => (some (!t152)))=some r:=h;clear h;replace H:=zT.mp H;obtain ⟨t152,A20,H⟩:=H;replace H : (some (!t152))=some r:=H;have A2:=zh A20;clear A20;obtain rfl:=zU H
 go_enter Tryd.func57,Tryd.ntmps57
 go_wp2_with (first|((with_reducible refine zJ (f:=32) rfl ?_);refine yj (some 4) rfl rfl Tryd.func32 (by kernel_rfl) rfl #[.string a0] rfl (by (try simp only [zt,zu,zv]);first|done|rfl|(simp only [zw,zx];rfl)|(simp only [yr,ys,zV,zW];rfl)) ?_;(with_reducible refine (impl_isShort.calls k  a0 t152 _ A2.out).mono ?_);rintro e w' ⟨rfl,⟨nd,rfl⟩⟩;refine ⟨_,rfl,?_⟩))
 go_ret
 exact ⟨by first|rfl|(simp;done)|(simp [*];done),by repeat (first|exact yp _|apply yq)⟩

end Go.Proofs.YthjgfjlogilleaaDoor.Q
end
section
namespace Go.Proofs.YthjgfjlogilleaaDoor.Q
open Go.RowKit Go.Proofs.YthjgfjlogilleaaDoorW.PrintWords Go.Proofs.YthjgfjlogilleaaDoorW.PrintLast Go.Proofs.YthjgfjlogilleaaDoorW.PrintMore
attribute [local go_sem] max2_int min2_int max_two min_two max_three min_three max_four min_four max2_str min2_str str_geq str_gtr str_leq   -- for this text's walks alone
set_option linter.unusedVariables false
set_option linter.unusedSimpArgs false

def slices_IndexFunc_string_string_at_PathOK_1.l0 : Nat→List ByteArray→Int→Int→Option (Int)
 | 0,_,_,_ => none
 | k + 1,x0,x7,x8 => if x8<x7 then (if 0≤x8 then (if x8<(x0.length : Int) then ((impl_PathOK_1.f k (rdOf ByteArray.empty x0 x8)).bind fun t154 => (if t154=true then (some x8) else (slices_IndexFunc_string_string_at_PathOK_1.l0 k x0 x7 (wrap64 (x8 + 1))))) else (none)) else (none)) else (some (-1))
def slices_IndexFunc_string_string_at_PathOK_1.f (k : Nat) (l0 : List ByteArray)  : Option (Int):=slices_IndexFunc_string_string_at_PathOK_1.l0 k l0 (l0.length : Int) 0
theorem slices_IndexFunc_string_string_at_PathOK_1.mono_l : ∀ k,(∀ y0 y1 y2,LeO (slices_IndexFunc_string_string_at_PathOK_1.l0 k y0 y1 y2) (slices_IndexFunc_string_string_at_PathOK_1.l0 (k + 1) y0 y1 y2))
 | 0 => fun _ _ _ r h => by simp [slices_IndexFunc_string_string_at_PathOK_1.l0] at h
 | k + 1 => by
  have ih0:=slices_IndexFunc_string_string_at_PathOK_1.mono_l k;intro y0 y1 y2;unfold slices_IndexFunc_string_string_at_PathOK_1.l0
  repeat' first|(with_reducible exact ih0 _ _ _)|(with_reducible exact impl_PathOK_1.mono _ _)|(with_reducible exact zQ _)|(with_reducible exact zN _)|(with_reducible refine zP ?_ ?_)|(with_reducible refine zO ?_ (fun _ => ?_))|refine zP ?_ ?_|refine zO ?_ (fun _ => ?_)
theorem slices_IndexFunc_string_string_at_PathOK_1.mono : ∀ a0 k,LeO (slices_IndexFunc_string_string_at_PathOK_1.f k a0) (slices_IndexFunc_string_string_at_PathOK_1.f (k + 1) a0):=by
 intro a0 k;have ih0:=slices_IndexFunc_string_string_at_PathOK_1.mono_l k;unfold slices_IndexFunc_string_string_at_PathOK_1.f
 repeat' first|(with_reducible exact ih0 _ _ _)|(with_reducible exact impl_PathOK_1.mono _ _)|(with_reducible exact zQ _)|(with_reducible exact zN _)|(with_reducible refine zP ?_ ?_)|(with_reducible refine zO ?_ (fun _ => ?_))|refine zP ?_ ?_|refine zO ?_ (fun _ => ?_)
set_option maxHeartbeats 8000000 in
set_option maxRecDepth 100000 in
theorem slices_IndexFunc_string_string_at_PathOK_1.calls (k : Nat) (A0 : Option Addr) (c0 : Nat) (l0 : List ByteArray)  (r : Int) (w : World) (hr0 : Kd.C Kd.string w A0 l0.length l0) (hc0 : l0.length≤c0) (h : slices_IndexFunc_string_string_at_PathOK_1.f k l0=some r) :
  Calls Tryd.prog 69 #[.slice A0 l0.length c0,.func (.func 57) #[] #[]] w fun e w' => e = .returned (.int .i64 r)∧Drawn0 w w':=by
 have HR0:=zh hr0;have HC0:=zh hc0;clear hr0 hc0;have H : (slices_IndexFunc_string_string_at_PathOK_1.l0 k l0 (l0.length : Int) 0)=some r:=h;clear h;have H':=zh H;clear H
 go_enter Tryd.func69,Tryd.ntmps69
 go_wp2
 go_loopg [8] k (fun kq v8 w' => ∃ (x8_1 : Int),v8 = .int .i64 x8_1∧Aside0 (slices_IndexFunc_string_string_at_PathOK_1.l0 kq l0 (l0.length : Int) x8_1=some r)∧Aside0 (kq≤k)∧Drawn0 w w')
 case atStart => exact ⟨(0),(by first|rfl|(simp;done)|(simp [*];done)),H',⟨ye _⟩,by repeat (first|exact yp _|apply yq)⟩
 case round =>
  clear H'
  try clear p2
  obtain ⟨x8_1,rfl,HA,HK1,⟨m1,rfl⟩⟩:=hrel
  cases gk with
  | zero => exact absurd HA.out (by simp [slices_IndexFunc_string_string_at_PathOK_1.l0])
  | succ k1 =>
   have H:=HA.out;clear HA;simp only [slices_IndexFunc_string_string_at_PathOK_1.l0] at H
   by_cases c3 : x8_1<(l0.length : Int)
   ·
    rw [if_pos c3] at H
    have c3b0 : decide (x8_1<(l0.length : Int))=true:=decide_eq_true c3;clear c3
    by_cases c4 : 0≤x8_1
    ·
     rw [if_pos c4] at H
     have c4b0 : decide (0≤x8_1)=true:=decide_eq_true c4;clear c4
     by_cases c5 : x8_1<(l0.length : Int)
     ·
      rw [if_pos c5] at H
      have c5b0 : decide (x8_1<(l0.length : Int))=true:=decide_eq_true c5;clear c5;replace H:=zT.mp H;obtain ⟨t154,A60,H⟩:=H;replace H : (if t154=true then (some x8_1) else (slices_IndexFunc_string_string_at_PathOK_1.l0 k1 l0 (l0.length : Int) (wrap64 (x8_1 + 1))))=some r:=H;have A6:=zh A60;clear A60
      by_cases c7 : t154=true
      ·
       subst c7
       have H1 : (some x8_1)=some r:=by rw [if_pos rfl] at H;exact H
       clear H;have H:=H1;clear H1;obtain rfl:=zU H;have p153 : 0≤(x8_1 : Int):=zy (by first|(with_reducible assumption)|assumption);have q153 : x8_1<(l0.length : Int):=zy (by first|(with_reducible assumption)|assumption);obtain ⟨ad153,e153,hx153_0⟩:=Kd.at_string HR0.out x8_1 p153 q153
       cases e153
       replace p153:=eq_true p153;replace q153:=eq_true q153
       go_wp2_with (first|(go_at_call 57;(with_reducible refine (impl_PathOK_1.calls k1  (rdOf ByteArray.empty l0 x8_1) true _ A6.out).mono ?_);rintro e w' ⟨rfl,⟨nd,rfl⟩⟩))
       go_ret
       exact ⟨by first|rfl|(simp;done)|(simp [*];done),by repeat (first|exact yp _|apply yq)⟩
      replace c7:=yb.mpr c7;subst c7;have H1 : (slices_IndexFunc_string_string_at_PathOK_1.l0 k1 l0 (l0.length : Int) (wrap64 (x8_1 + 1)))=some r:=by rw [if_neg (show ¬ (false=true) by decide)] at H;exact H
      clear H;have H:=H1;clear H1;have H':=zh H;clear H;have p153 : 0≤(x8_1 : Int):=zy (by first|(with_reducible assumption)|assumption);have q153 : x8_1<(l0.length : Int):=zy (by first|(with_reducible assumption)|assumption);obtain ⟨ad153,e153,hx153_0⟩:=Kd.at_string HR0.out x8_1 p153 q153
      cases e153
      replace p153:=eq_true p153;replace q153:=eq_true q153
      go_wp2_with (first|(go_at_call 57;(with_reducible refine (impl_PathOK_1.calls k1  (rdOf ByteArray.empty l0 x8_1) false _ A6.out).mono ?_);rintro e w' ⟨rfl,⟨nd,rfl⟩⟩))
      go_roundg k1
      case measure => have:=HK1.out;omega
      case rel => exact ⟨(wrap64 (x8_1 + 1)),(by first|rfl|(simp;done)|(simp [*];done)),H',⟨by have:=HK1.out;omega⟩,by repeat (first|exact yp _|apply yq)⟩
     rw [if_neg c5] at H;exact absurd H (by simp)
    rw [if_neg c4] at H;exact absurd H (by simp)
   rw [if_neg c3] at H;have c3b0 : decide (x8_1<(l0.length : Int))=false:=decide_eq_false c3;clear c3;obtain rfl:=zU H
   go_wp2
   go_ret
   exact ⟨by first|rfl|(simp;done)|(simp [*];done),by repeat (first|exact yp _|apply yq)⟩

end Go.Proofs.YthjgfjlogilleaaDoor.Q
end
section
namespace Go.Proofs.YthjgfjlogilleaaDoor.Q
open Go.RowKit Go.Proofs.YthjgfjlogilleaaDoorW.PrintWords Go.Proofs.YthjgfjlogilleaaDoorW.PrintLast Go.Proofs.YthjgfjlogilleaaDoorW.PrintMore
attribute [local go_sem] max2_int min2_int max_two min_two max_three min_three max_four min_four max2_str min2_str str_geq str_gtr str_leq   -- for this text's walks alone
set_option linter.unusedVariables false
set_option linter.unusedSimpArgs false

def slices_ContainsFunc_string_string_at_PathOK_1.f (k : Nat) (l0 : List ByteArray)  : Option (Bool):=(slices_IndexFunc_string_string_at_PathOK_1.f k l0).bind fun t155 => (some (decide (t155 ≥ 0)))
theorem slices_ContainsFunc_string_string_at_PathOK_1.mono : ∀ a0 k,LeO (slices_ContainsFunc_string_string_at_PathOK_1.f k a0) (slices_ContainsFunc_string_string_at_PathOK_1.f (k + 1) a0):=by
 intro a0 k;unfold slices_ContainsFunc_string_string_at_PathOK_1.f
 repeat' first|(with_reducible exact slices_IndexFunc_string_string_at_PathOK_1.mono _ _)|(with_reducible exact zQ _)|(with_reducible exact zN _)|(with_reducible refine zP ?_ ?_)|(with_reducible refine zO ?_ (fun _ => ?_))|refine zP ?_ ?_|refine zO ?_ (fun _ => ?_)
set_option maxHeartbeats 8000000 in
set_option maxRecDepth 100000 in
theorem slices_ContainsFunc_string_string_at_PathOK_1.calls (k : Nat) (A0 : Option Addr) (c0 : Nat) (l0 : List ByteArray)  (r : Bool) (w : World) (hr0 : Kd.C Kd.string w A0 l0.length l0) (hc0 : l0.length≤c0) (h : slices_ContainsFunc_string_string_at_PathOK_1.f k l0=some r) :
  Calls Tryd.prog 56 #[.slice A0 l0.length c0,.func (.func 57) #[] #[]] w fun e w' => e = .returned (.bool r)∧Drawn0 w w':=by
 have HR0:=zh hr0;have HC0:=zh hc0;clear hr0 hc0;have H : ((slices_IndexFunc_string_string_at_PathOK_1.f k l0).bind fun t155 => (some (decide (t155 ≥ 0))))=some r:=h;clear h;replace H:=zT.mp H;obtain ⟨t155,A30,H⟩:=H;replace H : (some (decide (t155 ≥ 0)))=some r:=H;have A3:=zh A30;clear A30;obtain rfl:=zU H
 go_enter Tryd.func56,Tryd.ntmps56
 go_wp2_with (first|((with_reducible refine zJ (f:=69) rfl ?_);refine yj (some 7) rfl rfl Tryd.func69 (by kernel_rfl) rfl #[.slice A0 l0.length c0,.func (.func 57) #[] #[]] rfl (by (try simp only [zt,zu,zv]);first|done|rfl|(simp only [zw,zx];rfl)|(simp only [yr,ys,zV,zW];rfl)) ?_;(with_reducible refine (slices_IndexFunc_string_string_at_PathOK_1.calls k  _ _ l0  t155 _ ?side1 ?side2 A3.out).mono ?_);(case side1 => repeat (first|exact HR0.out|(with_reducible refine Kd.C_alloc ?_ _)|(with_reducible refine Kd.C_drewN ?_ _)|(with_reducible refine Kd.C_drew ?_)));(case side2 => exact HC0.out);rintro e w' ⟨rfl,⟨nd,rfl⟩⟩;refine ⟨_,rfl,?_⟩))
 go_ret
 exact ⟨by first|rfl|(simp;done)|(simp [*];done),by repeat (first|exact yp _|apply yq)⟩

end Go.Proofs.YthjgfjlogilleaaDoor.Q
end
section
namespace Go.Proofs.YthjgfjlogilleaaDoor.Q
open Go.RowKit Go.Proofs.YthjgfjlogilleaaDoorW.PrintWords Go.Proofs.YthjgfjlogilleaaDoorW.PrintLast Go.Proofs.YthjgfjlogilleaaDoorW.PrintMore
attribute [local go_sem] max2_int min2_int max_two min_two max_three min_three max_four min_four max2_str min2_str str_geq str_gtr str_leq   -- for this text's walks alone
set_option linter.unusedVariables false
set_option linter.unusedSimpArgs false

def impl_PathOK.f (k : Nat) (a0 : ByteArray) : Option (Bool):=(strings_Split.f a0 (⟨#[46]⟩ : ByteArray)).bind fun t156 => (if (a0.size : Int)≤50 then (if (t156.length : Int)≤4 then ((slices_ContainsFunc_string_string_at_PathOK_1.f k t156).bind fun t159 => (some (!t159))) else (some false)) else (some false))
theorem impl_PathOK.mono : ∀ a0 k,LeO (impl_PathOK.f k a0) (impl_PathOK.f (k + 1) a0):=by
 intro a0 k;unfold impl_PathOK.f
 repeat' first|(with_reducible exact slices_ContainsFunc_string_string_at_PathOK_1.mono _ _)|(with_reducible exact zQ _)|(with_reducible exact zN _)|(with_reducible refine zP ?_ ?_)|(with_reducible refine zO ?_ (fun _ => ?_))|refine zP ?_ ?_|refine zO ?_ (fun _ => ?_)
set_option maxHeartbeats 8000000 in
set_option maxRecDepth 100000 in
theorem impl_PathOK.calls (k : Nat) (a0 : ByteArray) (r : Bool) (w : World) (h : impl_PathOK.f k a0=some r) :
  Calls Tryd.prog 39 #[.string a0] w fun e w' => e = .returned (.bool r)∧Below w.heap.size w w':=by
 have HB:=zh (Below.refl w.heap.size w);have H : ((strings_Split.f a0 (⟨#[46]⟩ : ByteArray)).bind fun t156 => (if (a0.size : Int)≤50 then (if (t156.length : Int)≤4 then ((slices_ContainsFunc_string_string_at_PathOK_1.f k t156).bind fun t159 => (some (!t159))) else (some false)) else (some false)))=some r:=h;clear h;replace H:=zT.mp H;obtain ⟨t156,A20,H⟩:=H;replace H : (if (a0.size : Int)≤50 then (if (t156.length : Int)≤4 then ((slices_ContainsFunc_string_string_at_PathOK_1.f k t156).bind fun t159 => (some (!t159))) else (some false)) else (some false))=some r:=H;have A2:=zh A20;clear A20
 by_cases c3 : (a0.size : Int)≤50
 ·
  rw [if_pos c3] at H
  have c3b0 : decide ((a0.size : Int)≤50)=true:=decide_eq_true c3;have c3b1 : decide (a0.size≤50)=true:=decide_eq_true (by omega);clear c3
  by_cases c4 : (t156.length : Int)≤4
  ·
   rw [if_pos c4] at H
   have c4b0 : decide ((t156.length : Int)≤4)=true:=decide_eq_true c4;have c4b1 : decide (t156.length≤4)=true:=decide_eq_true (by omega);clear c4;replace H:=zT.mp H;obtain ⟨t159,A50,H⟩:=H;replace H : (some (!t159))=some r:=H;have A5:=zh A50;clear A50;obtain rfl:=zU H
   go_enter Tryd.func39,Tryd.ntmps39
   go_wp2_with (first|((with_reducible refine zJ (f:=55) rfl ?_);refine yj (some 5) rfl rfl Tryd.func55 (by kernel_rfl) rfl #[.string a0,.string (⟨#[46]⟩ : ByteArray)] rfl (by (try simp only [zt,zu,zv]);first|done|rfl|(simp only [zw,zx];rfl)|(simp only [yr,ys,zV,zW];rfl)) ?_;(with_reducible refine (strings_Split.calls  a0 (⟨#[46]⟩ : ByteArray) t156 _ A2.out).mono ?_);rintro e w6 ⟨v157,rfl,ho0,hb⟩;refine ⟨_,rfl,?_⟩;have HO158:=zh (yy ho0 (zB (by repeat (with_reducible first|exact HB.out|apply za|apply zb|apply zc))));replace HB:=zh (zC (by repeat (with_reducible first|exact HB.out|apply za|apply zb|apply zc)) hb);(try clear hb);(try clear hb2);(try clear hk);(try clear hi);(try clear ho0);obtain ⟨Ao7,co7,eo7⟩:=yk HO158.out;subst eo7)|(go_at_call 56;(with_reducible refine (slices_ContainsFunc_string_string_at_PathOK_1.calls k  _ _ t156  t159 _ ?side1 ?side2 A5.out).mono ?_);(case side1 => repeat (first|exact (yh HO158.out).2.2|(with_reducible refine Kd.C_alloc ?_ _)|(with_reducible refine Kd.C_drewN ?_ _)|(with_reducible refine Kd.C_drew ?_)));(case side2 => exact (yh HO158.out).2.1);rintro e w' ⟨rfl,⟨nd,rfl⟩⟩))
   go_ret
   exact ⟨by first|rfl|(simp [yt,yu] <;> rfl)|(simp [*,yt,yu] <;> rfl),by repeat (with_reducible first|exact HB.out|apply za|apply zb|apply zc)⟩
  rw [if_neg c4] at H;have c4b0 : decide ((t156.length : Int)≤4)=false:=decide_eq_false c4;have c4b1 : decide (t156.length≤4)=false:=decide_eq_false (by omega);clear c4;obtain rfl:=zU H
  go_enter Tryd.func39,Tryd.ntmps39
  go_wp2_with (first|((with_reducible refine zJ (f:=55) rfl ?_);refine yj (some 5) rfl rfl Tryd.func55 (by kernel_rfl) rfl #[.string a0,.string (⟨#[46]⟩ : ByteArray)] rfl (by (try simp only [zt,zu,zv]);first|done|rfl|(simp only [zw,zx];rfl)|(simp only [yr,ys,zV,zW];rfl)) ?_;(with_reducible refine (strings_Split.calls  a0 (⟨#[46]⟩ : ByteArray) t156 _ A2.out).mono ?_);rintro e w8 ⟨v157,rfl,ho0,hb⟩;refine ⟨_,rfl,?_⟩;have HO158:=zh (yy ho0 (zB (by repeat (with_reducible first|exact HB.out|apply za|apply zb|apply zc))));replace HB:=zh (zC (by repeat (with_reducible first|exact HB.out|apply za|apply zb|apply zc)) hb);(try clear hb);(try clear hb2);(try clear hk);(try clear hi);(try clear ho0);obtain ⟨Ao9,co9,eo9⟩:=yk HO158.out;subst eo9))
  go_ret
  exact ⟨by first|rfl|(simp [yt,yu] <;> rfl)|(simp [*,yt,yu] <;> rfl),by repeat (with_reducible first|exact HB.out|apply za|apply zb|apply zc)⟩
 rw [if_neg c3] at H;have c3b0 : decide ((a0.size : Int)≤50)=false:=decide_eq_false c3;have c3b1 : decide (a0.size≤50)=false:=decide_eq_false (by omega);clear c3;obtain rfl:=zU H
 go_enter Tryd.func39,Tryd.ntmps39
 go_wp2_with (first|((with_reducible refine zJ (f:=55) rfl ?_);refine yj (some 5) rfl rfl Tryd.func55 (by kernel_rfl) rfl #[.string a0,.string (⟨#[46]⟩ : ByteArray)] rfl (by (try simp only [zt,zu,zv]);first|done|rfl|(simp only [zw,zx];rfl)|(simp only [yr,ys,zV,zW];rfl)) ?_;(with_reducible refine (strings_Split.calls  a0 (⟨#[46]⟩ : ByteArray) t156 _ A2.out).mono ?_);rintro e w10 ⟨v157,rfl,ho0,hb⟩;refine ⟨_,rfl,?_⟩;have HO158:=zh (yy ho0 (zB (by repeat (with_reducible first|exact HB.out|apply za|apply zb|apply zc))));replace HB:=zh (zC (by repeat (with_reducible first|exact HB.out|apply za|apply zb|apply zc)) hb);(try clear hb);(try clear hb2);(try clear hk);(try clear hi);(try clear ho0)))
 go_ret
 exact ⟨by first|rfl|(simp [yt,yu] <;> rfl)|(simp [*,yt,yu] <;> rfl),by repeat (with_reducible first|exact HB.out|apply za|apply zb|apply zc)⟩

end Go.Proofs.YthjgfjlogilleaaDoor.Q
end
section
namespace Go.Proofs.YthjgfjlogilleaaDoor.Q
open Go.RowKit Go.Proofs.YthjgfjlogilleaaDoorW.PrintWords Go.Proofs.YthjgfjlogilleaaDoorW.PrintLast Go.Proofs.YthjgfjlogilleaaDoorW.PrintMore
attribute [local go_sem] max2_int min2_int max_two min_two max_three min_three max_four min_four max2_str min2_str str_geq str_gtr str_leq   -- for this text's walks alone
set_option linter.unusedVariables false
set_option linter.unusedSimpArgs false

def impl_isNumber.f (a0 : Int) : Option (Bool):=(impl_inRange.f a0 (-1000000000000) 1000000000000).bind fun t275 => (some t275)
set_option maxHeartbeats 8000000 in
set_option maxRecDepth 100000 in
theorem impl_isNumber.calls (a0 : Int) (r : Bool) (w : World) (h : impl_isNumber.f a0=some r) :
  Calls Tryd.prog 70 #[.int .i64 a0] w fun e w' => e = .returned (.bool r)∧Drawn0 w w':=by
 have H : ((impl_inRange.f a0 (-1000000000000) 1000000000000).bind fun t275 => (some t275))=some r:=h;clear h;replace H:=zT.mp H;obtain ⟨t275,A20,H⟩:=H;replace H : (some t275)=some r:=H;have A2:=zh A20;clear A20;obtain rfl:=zU H
 go_enter Tryd.func70,Tryd.ntmps70
 go_wp2_with (first|((with_reducible refine zJ (f:=33) rfl ?_);refine yj (some 4) rfl rfl Tryd.func33 (by kernel_rfl) rfl #[.int .i64 a0,.int .i64 (-1000000000000),.int .i64 1000000000000] rfl (by (try simp only [zt,zu,zv]);first|done|rfl|(simp only [zw,zx];rfl)|(simp only [yr,ys,zV,zW];rfl)) ?_;(with_reducible refine (impl_inRange.calls  a0 (-1000000000000) 1000000000000 t275 _ A2.out).mono ?_);rintro e w' ⟨rfl,⟨nd,rfl⟩⟩;refine ⟨_,rfl,?_⟩))
 go_ret
 exact ⟨by first|rfl|(simp;done)|(simp [*];done),by repeat (first|exact yp _|apply yq)⟩

end Go.Proofs.YthjgfjlogilleaaDoor.Q
end
section
namespace Go.Proofs.YthjgfjlogilleaaDoor.Q
open Go.RowKit Go.Proofs.YthjgfjlogilleaaDoorW.PrintWords Go.Proofs.YthjgfjlogilleaaDoorW.PrintLast Go.Proofs.YthjgfjlogilleaaDoorW.PrintMore
attribute [local go_sem] max2_int min2_int max_two min_two max_three min_three max_four min_four max2_str min2_str str_geq str_gtr str_leq
set_option linter.unusedVariables false
set_option linter.unusedSimpArgs false

def strings_Repeat.f (a0 : ByteArray) (a1 : Int) : Option (ByteArray):=if 0≤a1 then (if a0.size * a1.toNat≤140737488355328 then (if a1≤9223372036854775807 then (some ⟨(Lib.repeatL a0.data.toList a1.toNat).toArray⟩) else (none)) else (none)) else (none)
theorem strings_Repeat.calls (a0 : ByteArray) (a1 : Int) (r : ByteArray) (w : World) (h : strings_Repeat.f a0 a1=some r) :
  Calls Tryd.prog 103 #[.string a0,.int .i64 a1] w fun e w' => e = .returned (.string r)∧Below w.heap.size w w':=by
 unfold strings_Repeat.f at h
 by_cases h0 : 0≤a1
 ·
  rw [if_pos h0] at h
  by_cases h1 : a0.size * a1.toNat≤140737488355328
  ·
   rw [if_pos h1] at h
   by_cases h2 : a1≤9223372036854775807
   ·
    rw [if_pos h2] at h
    obtain rfl:=zU h;have:=Tryd.strings_Repeat a0 a1.toNat w (by omega) h1;rw [Int.toNat_of_nonneg h0] at this;exact this
   rw [if_neg h2] at h;exact absurd h (by simp)
  rw [if_neg h1] at h;exact absurd h (by simp)
 rw [if_neg h0] at h;exact absurd h (by simp)

end Go.Proofs.YthjgfjlogilleaaDoor.Q
end

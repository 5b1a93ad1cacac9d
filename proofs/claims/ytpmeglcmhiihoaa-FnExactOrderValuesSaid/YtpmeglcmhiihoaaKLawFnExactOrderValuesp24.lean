/- Texts of this claim, merged by a program of this session. -/
import Derived.Test.YtpmeglcmhiihoaaKLawFnExactOrderValuesp22
import Derived.Test.YtpmeglcmhiihoaaKLawFnExactOrderValuesp23
section
namespace Go.Proofs.Ytpmeglcmhiihoaa.Q
open Go.RowKit Go.Proofs.YtpmeglcmhiihoaaW.PrintWords Go.Proofs.YtpmeglcmhiihoaaW.PrintLast Go.Proofs.YtpmeglcmhiihoaaW.PrintMore
attribute [local go_sem] max2_int min2_int max_two min_two max_three min_three max_four min_four max2_str min2_str str_geq str_gtr str_leq   -- for this text's walks alone
set_option linter.unusedVariables false
set_option linter.unusedSimpArgs false

mutual
def spec_l01Order.l0 : Nat→List (S26)→List (S26)→Int→Option (Int)
 | 0,_,_,_ => none
 | k + 1,x5,x7,x9 => if x9<(x5.length : Int) then (spec_l01Order.j1 k x5 x7 x9 (decide (x9<(x7.length : Int)))) else (spec_l01Order.j1 k x5 x7 x9 false)
def spec_l01Order.j1 : Nat→List (S26)→List (S26)→Int→Bool→Option (Int)
 | 0,_,_,_,_ => none
 | k + 1,x5,x7,x9,x88 => if x88=true then (if 0≤x9 then (if x9<(x5.length : Int) then (if x9<(x7.length : Int) then ((spec_l01Order.f k ((rd_T26 x5 x9).f0) ((rd_T26 x5 x9).f1) ((rd_T26 x5 x9).f2) ((rd_T26 x7 x9).f0) ((rd_T26 x7 x9).f1) ((rd_T26 x7 x9).f2)).bind fun t618 => (if t618=0 then (spec_l01Order.l0 k x5 x7 (wrap64 (x9 + 1))) else (some t618))) else (none)) else (none)) else (none)) else ((spec_l01Bit.f (decide ((x5.length : Int) > (x7.length : Int)))).bind fun t619 => (some (wrap64 ((wrap64 (2 * t619)) - 1))))
def spec_l01Order.l1 : Nat→List (S68)→List (S68)→Int→Option (Int)
 | 0,_,_,_ => none
 | k + 1,x11,x13,x15 => if x15<(x11.length : Int) then (spec_l01Order.j3 k x11 x13 x15 (decide (x15<(x13.length : Int)))) else (spec_l01Order.j3 k x11 x13 x15 false)
def spec_l01Order.j3 : Nat→List (S68)→List (S68)→Int→Bool→Option (Int)
 | 0,_,_,_,_ => none
 | k + 1,x11,x13,x15,x132 => if x132=true then (if 0≤x15 then (if x15<(x11.length : Int) then (if x15<(x13.length : Int) then (if ((rd_T68 x11 x15).f0).toList=((rd_T68 x13 x15).f0).toList then ((spec_l01Order.f k ((rd_T68 x11 x15).f1.f0) ((rd_T68 x11 x15).f1.f1) ((rd_T68 x11 x15).f1.f2) ((rd_T68 x13 x15).f1.f0) ((rd_T68 x13 x15).f1.f1) ((rd_T68 x13 x15).f1.f2)).bind fun t635 => (if t635=0 then (spec_l01Order.l1 k x11 x13 (wrap64 (x15 + 1))) else (some t635))) else ((spec_l01Bit.f (Op.bytesLess (((rd_T68 x13 x15).f0).toList) (((rd_T68 x11 x15).f0).toList))).bind fun t638 => (some (wrap64 ((wrap64 (2 * t638)) - 1))))) else (none)) else (none)) else (none)) else ((spec_l01Bit.f (decide ((x11.length : Int) > (x13.length : Int)))).bind fun t630 => (some (wrap64 ((wrap64 (2 * t630)) - 1))))
def spec_l01Order.f : Nat→Int→Int→ByteArray→Int→Int→ByteArray→Option (Int)
 | 0,_,_,_,_,_,_ => none
 | k + 1,a0_0,a0_1,a0_2,a1_0,a1_1,a1_2 => if a0_0=a1_0 then (if a0_1=a1_1 then (if a0_2.toList=a1_2.toList then (some 0) else (if a0_0=3 then ((spec_l01Bit.f (Op.bytesLess a1_2.toList a0_2.toList)).bind fun t607 => (some (wrap64 ((wrap64 (2 * t607)) - 1)))) else (if a0_0=4 then ((spec_l01Items.f k a0_2).bind fun bt608 => ((spec_l01Items.f k a1_2).bind fun bt612 => (spec_l01Order.l0 k bt608.1 bt612.1 0))) else ((spec_l01Fields.f k a0_2).bind fun bt622 => ((spec_l01Fields.f k a1_2).bind fun bt626 => (spec_l01Order.l1 k bt622.1 bt626.1 0)))))) else ((spec_l01Bit.f (decide (a0_1 > a1_1))).bind fun t620 => (some (wrap64 ((wrap64 (2 * t620)) - 1))))) else ((spec_l01Bit.f (decide (a0_0 > a1_0))).bind fun t621 => (some (wrap64 ((wrap64 (2 * t621)) - 1))))
end
theorem spec_l01Order.mono_l : ∀ k,(∀ y0 y1 y2 y3 y4 y5,LeO (spec_l01Order.f k y0 y1 y2 y3 y4 y5) (spec_l01Order.f (k + 1) y0 y1 y2 y3 y4 y5))∧(∀ y0 y1 y2,LeO (spec_l01Order.l0 k y0 y1 y2) (spec_l01Order.l0 (k + 1) y0 y1 y2))∧(∀ y0 y1 y2 y3,LeO (spec_l01Order.j1 k y0 y1 y2 y3) (spec_l01Order.j1 (k + 1) y0 y1 y2 y3))∧(∀ y0 y1 y2,LeO (spec_l01Order.l1 k y0 y1 y2) (spec_l01Order.l1 (k + 1) y0 y1 y2))∧(∀ y0 y1 y2 y3,LeO (spec_l01Order.j3 k y0 y1 y2 y3) (spec_l01Order.j3 (k + 1) y0 y1 y2 y3))
 | 0 => ⟨fun _ _ _ _ _ _ r h => by simp [spec_l01Order.f] at h,fun _ _ _ r h => by simp [spec_l01Order.l0] at h,fun _ _ _ _ r h => by simp [spec_l01Order.j1] at h,fun _ _ _ r h => by simp [spec_l01Order.l1] at h,fun _ _ _ _ r h => by simp [spec_l01Order.j3] at h⟩
 | k + 1 => by
  obtain ⟨ih0,ih1,ih2,ih3,ih4⟩:=spec_l01Order.mono_l k;refine ⟨?_,?_,?_,?_,?_⟩
  ·
   intro y0 y1 y2 y3 y4 y5
   unfold spec_l01Order.f
   repeat' first|(with_reducible exact ih0 _ _ _ _ _ _)|(with_reducible exact ih1 _ _ _)|(with_reducible exact ih2 _ _ _ _)|(with_reducible exact ih3 _ _ _)|(with_reducible exact ih4 _ _ _ _)|(with_reducible exact spec_l01Items.mono _ _)|(with_reducible exact spec_l01Fields.mono _ _)|(with_reducible exact zQ _)|(with_reducible exact zN _)|(with_reducible refine zP ?_ ?_)|(with_reducible refine zO ?_ (fun _ => ?_))|refine zP ?_ ?_|refine zO ?_ (fun _ => ?_)
  ·
   intro y0 y1 y2
   unfold spec_l01Order.l0
   repeat' first|(with_reducible exact ih0 _ _ _ _ _ _)|(with_reducible exact ih1 _ _ _)|(with_reducible exact ih2 _ _ _ _)|(with_reducible exact ih3 _ _ _)|(with_reducible exact ih4 _ _ _ _)|(with_reducible exact spec_l01Items.mono _ _)|(with_reducible exact spec_l01Fields.mono _ _)|(with_reducible exact zQ _)|(with_reducible exact zN _)|(with_reducible refine zP ?_ ?_)|(with_reducible refine zO ?_ (fun _ => ?_))|refine zP ?_ ?_|refine zO ?_ (fun _ => ?_)
  ·
   intro y0 y1 y2 y3
   unfold spec_l01Order.j1
   repeat' first|(with_reducible exact ih0 _ _ _ _ _ _)|(with_reducible exact ih1 _ _ _)|(with_reducible exact ih2 _ _ _ _)|(with_reducible exact ih3 _ _ _)|(with_reducible exact ih4 _ _ _ _)|(with_reducible exact spec_l01Items.mono _ _)|(with_reducible exact spec_l01Fields.mono _ _)|(with_reducible exact zQ _)|(with_reducible exact zN _)|(with_reducible refine zP ?_ ?_)|(with_reducible refine zO ?_ (fun _ => ?_))|refine zP ?_ ?_|refine zO ?_ (fun _ => ?_)
  ·
   intro y0 y1 y2
   unfold spec_l01Order.l1
   repeat' first|(with_reducible exact ih0 _ _ _ _ _ _)|(with_reducible exact ih1 _ _ _)|(with_reducible exact ih2 _ _ _ _)|(with_reducible exact ih3 _ _ _)|(with_reducible exact ih4 _ _ _ _)|(with_reducible exact spec_l01Items.mono _ _)|(with_reducible exact spec_l01Fields.mono _ _)|(with_reducible exact zQ _)|(with_reducible exact zN _)|(with_reducible refine zP ?_ ?_)|(with_reducible refine zO ?_ (fun _ => ?_))|refine zP ?_ ?_|refine zO ?_ (fun _ => ?_)
  intro y0 y1 y2 y3;unfold spec_l01Order.j3
  repeat' first|(with_reducible exact ih0 _ _ _ _ _ _)|(with_reducible exact ih1 _ _ _)|(with_reducible exact ih2 _ _ _ _)|(with_reducible exact ih3 _ _ _)|(with_reducible exact ih4 _ _ _ _)|(with_reducible exact spec_l01Items.mono _ _)|(with_reducible exact spec_l01Fields.mono _ _)|(with_reducible exact zQ _)|(with_reducible exact zN _)|(with_reducible refine zP ?_ ?_)|(with_reducible refine zO ?_ (fun _ => ?_))|refine zP ?_ ?_|refine zO ?_ (fun _ => ?_)
theorem spec_l01Order.mono : ∀ a0 a1 a2 a3 a4 a5 k,LeO (spec_l01Order.f k a0 a1 a2 a3 a4 a5) (spec_l01Order.f (k + 1) a0 a1 a2 a3 a4 a5):=by
 intro a0 a1 a2 a3 a4 a5 k;obtain ⟨ih0,ih1,ih2,ih3,ih4⟩:=spec_l01Order.mono_l k;exact ih0 a0 a1 a2 a3 a4 a5
def spec_l01Order.T15 : Bool×List (List Nat×List Nat):=(true,[([],[]),([],[]),([0,1],[0,1]),([2],[2]),([],[]),([],[]),([4,5],[4,5]),([6],[6]),([3,7],[3,7]),([8,8,0,1,2,3,4,5,6,7,8],[8])])
def spec_l01Order.B15 : List Nat:=[0,0,3,7,0,0,48,112,255,511]
theorem spec_l01Order.tab15 : rtab .any (opsOf Try.f67 15)=spec_l01Order.T15:=by kernel_rfl
theorem spec_l01Order.bits15 : waitsOk spec_l01Order.T15.2 spec_l01Order.B15=true:=by kernel_rfl
def spec_l01Order.T24 : Bool×List (List Nat×List Nat):=(true,[([],[]),([],[]),([0,1],[0,1]),([2],[2]),([3],[3]),([],[]),([],[]),([5,6],[5,6]),([7],[7]),([8],[8]),([4,9],[4,9])])
def spec_l01Order.B24 : List Nat:=[0,0,3,7,15,0,0,96,224,480,1023]
theorem spec_l01Order.tab24 : rtab .any (opsOf Try.f67 24)=spec_l01Order.T24:=by kernel_rfl
theorem spec_l01Order.bits24 : waitsOk spec_l01Order.T24.2 spec_l01Order.B24=true:=by kernel_rfl
def spec_l01Order.T25 : Bool×List (List Nat×List Nat):=(true,[([],[]),([],[]),([0,1],[0,1]),([2],[2]),([3],[3]),([],[]),([],[]),([5,6],[5,6]),([7],[7]),([8],[8]),([4,9],[4,9]),([10],[10]),([11],[11]),([12],[12]),([13,11,0,1,2,3,4,5,6,7,8,9,10,11,12,13],[13])])
def spec_l01Order.B25 : List Nat:=[0,0,3,7,15,0,0,96,224,480,1023,2047,4095,8191,16383]
theorem spec_l01Order.tab25 : rtab .any (opsOf Try.f67 25)=spec_l01Order.T25:=by kernel_rfl
theorem spec_l01Order.bits25 : waitsOk spec_l01Order.T25.2 spec_l01Order.B25=true:=by kernel_rfl
def spec_l01Order.T26 : Bool×List (List Nat×List Nat):=(true,[([],[]),([],[]),([0,1],[0,1]),([2],[2]),([3],[3]),([],[]),([],[]),([5,6],[5,6]),([7],[7]),([8],[8]),([4,9],[4,9]),([10,10,0,1,2,3,4,5,6,7,8,9,10],[10])])
def spec_l01Order.B26 : List Nat:=[0,0,3,7,15,0,0,96,224,480,1023,2047]
theorem spec_l01Order.tab26 : rtab .any (opsOf Try.f67 26)=spec_l01Order.T26:=by kernel_rfl
theorem spec_l01Order.bits26 : waitsOk spec_l01Order.T26.2 spec_l01Order.B26=true:=by kernel_rfl
set_option maxHeartbeats 8000000 in
set_option maxRecDepth 100000 in
theorem spec_l01Order.calls (k : Nat) : ∀ (a0_0 : Int) (a0_1 : Int) (a0_2 : ByteArray) (a1_0 : Int) (a1_1 : Int) (a1_2 : ByteArray) (r : Int) (w : World) (h : spec_l01Order.f k a0_0 a0_1 a0_2 a1_0 a1_1 a1_2=some r),
  Calls Try.prog 67 #[.agg #[.int .i64 a0_0,.int .i64 a0_1,.string a0_2],.agg #[.int .i64 a1_0,.int .i64 a1_1,.string a1_2]] w fun e w' => e = .returned (.int .i64 r)∧Below w.heap.size w w':=by
 induction k using Nat.strongRecOn with
 | _ k ih =>
 intro a0_0 a0_1 a0_2 a1_0 a1_1 a1_2 r w h
 cases k with
 | zero => exact absurd h (by simp [spec_l01Order.f])
 | succ k =>
 simp only [spec_l01Order.f] at h;have hu26:=Try.underlying26;have HB:=zh (Below.refl w.heap.size w);have H : (if a0_0=a1_0 then (if a0_1=a1_1 then (if a0_2.toList=a1_2.toList then (some 0) else (if a0_0=3 then ((spec_l01Bit.f (Op.bytesLess a1_2.toList a0_2.toList)).bind fun t607 => (some (wrap64 ((wrap64 (2 * t607)) - 1)))) else (if a0_0=4 then ((spec_l01Items.f k a0_2).bind fun bt608 => ((spec_l01Items.f k a1_2).bind fun bt612 => (spec_l01Order.l0 k bt608.1 bt612.1 0))) else ((spec_l01Fields.f k a0_2).bind fun bt622 => ((spec_l01Fields.f k a1_2).bind fun bt626 => (spec_l01Order.l1 k bt622.1 bt626.1 0)))))) else ((spec_l01Bit.f (decide (a0_1 > a1_1))).bind fun t620 => (some (wrap64 ((wrap64 (2 * t620)) - 1))))) else ((spec_l01Bit.f (decide (a0_0 > a1_0))).bind fun t621 => (some (wrap64 ((wrap64 (2 * t621)) - 1)))))=some r:=h;clear h
 by_cases c3 : a0_0=a1_0
 ·
  rw [if_pos c3] at H
  have c3b0 : (a0_0 == a1_0)=true:=ya.mpr c3;have c3b1 : (a0_0 != a1_0)=false:=zX.mpr c3;clear c3
  by_cases c4 : a0_1=a1_1
  ·
   rw [if_pos c4] at H
   have c4b0 : (a0_1 == a1_1)=true:=ya.mpr c4;have c4b1 : (a0_1 != a1_1)=false:=zX.mpr c4;clear c4
   by_cases c5 : a0_2.toList=a1_2.toList
   ·
    rw [if_pos c5] at H
    have c5b0 : (a0_2.toList == a1_2.toList)=true:=ya.mpr c5;have c5b1 : (a0_2.toList != a1_2.toList)=false:=zX.mpr c5;clear c5;obtain rfl:=zU H
    go_enter Try.func67,Try.ntmps67
    go_wp2_with (first|((with_reducible refine zK (N:=2) rfl ?_);(try (refine yz (by rfl) ?_;dsimp only));refine zI ?hg (N:=2) ?hd (cs:=#[.int .i64 a0_0,.int .i64 a0_1,.string a0_2]) (t:=26) ?hr ?_;(case hd => rfl);(case hg => rfl);(case hr => first|(go_simp;done)|(go_simp;rfl));intro gb605 hg w6 hbox hb;have BK605:=zh (hbox);have GW605:=zh ((by rw [hg];exact (zB (by repeat (with_reducible first|exact HB.out|apply za|apply zb|apply zc))) : w.heap.size≤gb605));have GE605:=zh ((by rw [hg];exact (zB (by repeat (with_reducible first|exact HB.out|apply za|apply zb|apply zc))) : w.heap.size≤gb605));replace HB:=zh (zC (by repeat (with_reducible first|exact HB.out|apply za|apply zb|apply zc)) hb);clear hb hbox hg)|((with_reducible refine zK (N:=3) rfl ?_);(try (refine yz (by rfl) ?_;dsimp only));refine zI ?hg (N:=3) ?hd (cs:=#[.int .i64 a1_0,.int .i64 a1_1,.string a1_2]) (t:=26) ?hr ?_;(case hd => rfl);(case hg => rfl);(case hr => first|(go_simp;done)|(go_simp;rfl));intro gb606 hg w7 hbox hb;have BK606:=zh (hbox);have GW606:=zh ((by rw [hg];exact (zB (by repeat (with_reducible first|exact HB.out|apply za|apply zb|apply zc|refine zd ?_ GE605.out))) : w.heap.size≤gb606));have GE606:=zh ((by rw [hg];exact (zB (by repeat (with_reducible first|exact HB.out|apply za|apply zb|apply zc|refine zd ?_ GE605.out))) : w.heap.size≤gb606));replace HB:=zh (zC (by repeat (with_reducible first|exact HB.out|apply za|apply zb|apply zc|refine zd ?_ GE605.out)) hb);have NB605_606:=zh ((by rw [hg];exact yc (yi (g:=gb605) (o:=.cells #[.int .i64 a0_0,.int .i64 a0_1,.string a0_2] 26 (0,0)) (by (with_reducible repeat (first|refine ze ?_ _|refine zf ?_|refine zg ?_ _));exact BK605.out)) : gb605≠gb606));have NB606_605:=zh ((by rw [hg];exact yd (yi (g:=gb605) (o:=.cells #[.int .i64 a0_0,.int .i64 a0_1,.string a0_2] 26 (0,0)) (by (with_reducible repeat (first|refine ze ?_ _|refine zf ?_|refine zg ?_ _));exact BK605.out)) : gb606≠gb605));replace BK605:=zh (zD (g:=gb605) (o:=.cells #[.int .i64 a0_0,.int .i64 a0_1,.string a0_2] 26 (0,0)) (by (with_reducible repeat (first|refine ze ?_ _|refine zf ?_|refine zg ?_ _));exact BK605.out) hb);clear hb hbox hg;have hnb8:=NB605_606.out;have hnc8:=NB606_605.out;have hcz9_0 : w7.cell? ⟨gb605,0,none⟩=some (.int .i64 a0_0):=(zz BK605.out 0).trans rfl;have hcz9_1 : w7.cell? ⟨gb605,1,none⟩=some (.int .i64 a0_1):=(zz BK605.out 1).trans rfl;have hcz9_2 : w7.cell? ⟨gb605,2,none⟩=some (.string a0_2):=(zz BK605.out 2).trans rfl;have hfz9_0:=zA BK605.out 0;have hfz9_1:=zA BK605.out 1;have hfz9_2:=zA BK605.out 2;have hcz10_0 : w7.cell? ⟨gb606,0,none⟩=some (.int .i64 a1_0):=(zz BK606.out 0).trans rfl;have hcz10_1 : w7.cell? ⟨gb606,1,none⟩=some (.int .i64 a1_1):=(zz BK606.out 1).trans rfl;have hcz10_2 : w7.cell? ⟨gb606,2,none⟩=some (.string a1_2):=(zz BK606.out 2).trans rfl;have hfz10_0:=zA BK606.out 0;have hfz10_1:=zA BK606.out 1;have hfz10_2:=zA BK606.out 2))
    go_ret
    exact ⟨by first|rfl|(simp [yt,yu] <;> rfl)|(simp [*,yt,yu] <;> rfl),by repeat (with_reducible first|exact HB.out|apply za|apply zb|apply zc|refine zd ?_ GE605.out|refine zd ?_ GE606.out)⟩
   rw [if_neg c5] at H;have c5b0 : (a0_2.toList == a1_2.toList)=false:=zY.mpr c5;have c5b1 : (a0_2.toList != a1_2.toList)=true:=zZ.mpr c5
   by_cases c11 : a0_0=3
   ·
    rw [if_pos c11] at H
    have c11b0 : (a0_0 == 3)=true:=ya.mpr c11;have c11b1 : (a0_0 != 3)=false:=zX.mpr c11;clear c11;replace H:=zT.mp H;obtain ⟨t607,A120,H⟩:=H;replace H : (some (wrap64 ((wrap64 (2 * t607)) - 1)))=some r:=H;have A12:=zh A120;clear A120;obtain rfl:=zU H
    go_enter Try.func67,Try.ntmps67
    go_wp2_with (first|((with_reducible refine zK (N:=2) rfl ?_);(try (refine yz (by rfl) ?_;dsimp only));refine zI ?hg (N:=2) ?hd (cs:=#[.int .i64 a0_0,.int .i64 a0_1,.string a0_2]) (t:=26) ?hr ?_;(case hd => rfl);(case hg => rfl);(case hr => first|(go_simp;done)|(go_simp;rfl));intro gb605 hg w13 hbox hb;have BK605:=zh (hbox);have GW605:=zh ((by rw [hg];exact (zB (by repeat (with_reducible first|exact HB.out|apply za|apply zb|apply zc))) : w.heap.size≤gb605));have GE605:=zh ((by rw [hg];exact (zB (by repeat (with_reducible first|exact HB.out|apply za|apply zb|apply zc))) : w.heap.size≤gb605));replace HB:=zh (zC (by repeat (with_reducible first|exact HB.out|apply za|apply zb|apply zc)) hb);clear hb hbox hg)|((with_reducible refine zK (N:=3) rfl ?_);(try (refine yz (by rfl) ?_;dsimp only));refine zI ?hg (N:=3) ?hd (cs:=#[.int .i64 a1_0,.int .i64 a1_1,.string a1_2]) (t:=26) ?hr ?_;(case hd => rfl);(case hg => rfl);(case hr => first|(go_simp;done)|(go_simp;rfl));intro gb606 hg w14 hbox hb;have BK606:=zh (hbox);have GW606:=zh ((by rw [hg];exact (zB (by repeat (with_reducible first|exact HB.out|apply za|apply zb|apply zc|refine zd ?_ GE605.out))) : w.heap.size≤gb606));have GE606:=zh ((by rw [hg];exact (zB (by repeat (with_reducible first|exact HB.out|apply za|apply zb|apply zc|refine zd ?_ GE605.out))) : w.heap.size≤gb606));replace HB:=zh (zC (by repeat (with_reducible first|exact HB.out|apply za|apply zb|apply zc|refine zd ?_ GE605.out)) hb);have NB605_606:=zh ((by rw [hg];exact yc (yi (g:=gb605) (o:=.cells #[.int .i64 a0_0,.int .i64 a0_1,.string a0_2] 26 (0,0)) (by (with_reducible repeat (first|refine ze ?_ _|refine zf ?_|refine zg ?_ _));exact BK605.out)) : gb605≠gb606));have NB606_605:=zh ((by rw [hg];exact yd (yi (g:=gb605) (o:=.cells #[.int .i64 a0_0,.int .i64 a0_1,.string a0_2] 26 (0,0)) (by (with_reducible repeat (first|refine ze ?_ _|refine zf ?_|refine zg ?_ _));exact BK605.out)) : gb606≠gb605));replace BK605:=zh (zD (g:=gb605) (o:=.cells #[.int .i64 a0_0,.int .i64 a0_1,.string a0_2] 26 (0,0)) (by (with_reducible repeat (first|refine ze ?_ _|refine zf ?_|refine zg ?_ _));exact BK605.out) hb);clear hb hbox hg;have hnb15:=NB605_606.out;have hnc15:=NB606_605.out;have hcz16_0 : w14.cell? ⟨gb605,0,none⟩=some (.int .i64 a0_0):=(zz BK605.out 0).trans rfl;have hcz16_1 : w14.cell? ⟨gb605,1,none⟩=some (.int .i64 a0_1):=(zz BK605.out 1).trans rfl;have hcz16_2 : w14.cell? ⟨gb605,2,none⟩=some (.string a0_2):=(zz BK605.out 2).trans rfl;have hfz16_0:=zA BK605.out 0;have hfz16_1:=zA BK605.out 1;have hfz16_2:=zA BK605.out 2;have hcz17_0 : w14.cell? ⟨gb606,0,none⟩=some (.int .i64 a1_0):=(zz BK606.out 0).trans rfl;have hcz17_1 : w14.cell? ⟨gb606,1,none⟩=some (.int .i64 a1_1):=(zz BK606.out 1).trans rfl;have hcz17_2 : w14.cell? ⟨gb606,2,none⟩=some (.string a1_2):=(zz BK606.out 2).trans rfl;have hfz17_0:=zA BK606.out 0;have hfz17_1:=zA BK606.out 1;have hfz17_2:=zA BK606.out 2)|((with_reducible refine zJ (f:=95) rfl ?_);refine yj (some 60) rfl rfl Try.func95 (by kernel_rfl) rfl #[.bool (Op.bytesLess a1_2.toList a0_2.toList)] rfl (by (try simp only [zt,zu,zv]);first|done|rfl|(simp only [zw,zx];rfl)|(simp only [yr,ys,zV,zW];rfl)) ?_;(with_reducible refine (spec_l01Bit.calls  (Op.bytesLess a1_2.toList a0_2.toList) t607 _ A12.out).mono ?_);rintro e w' ⟨rfl,⟨nd,rfl⟩⟩;refine ⟨_,rfl,?_⟩))
    go_ret
    exact ⟨by first|rfl|(simp [yt,yu] <;> rfl)|(simp [*,yt,yu] <;> rfl),by repeat (with_reducible first|exact HB.out|apply za|apply zb|apply zc|refine zd ?_ GE605.out|refine zd ?_ GE606.out)⟩
   rw [if_neg c11] at H;have c11b0 : (a0_0 == 3)=false:=zY.mpr c11;have c11b1 : (a0_0 != 3)=true:=zZ.mpr c11
   by_cases c18 : a0_0=4
   ·
    rw [if_pos c18] at H
    have c18b0 : (a0_0 == 4)=true:=ya.mpr c18;have c18b1 : (a0_0 != 4)=false:=zX.mpr c18;clear c18;replace H:=zT.mp H;obtain ⟨⟨t608,t609⟩,A190,H⟩:=H;replace H : ((spec_l01Items.f k a1_2).bind fun bt612 => (spec_l01Order.l0 k t608 bt612.1 0))=some r:=H;have A19:=zh A190;clear A190;replace H:=zT.mp H;obtain ⟨⟨t612,t613⟩,A200,H⟩:=H;replace H : (spec_l01Order.l0 k t608 t612 0)=some r:=H;have A20:=zh A200;clear A200;have H':=zh H;clear H
    go_enter Try.func67,Try.ntmps67
    go_wp2_with (first|((with_reducible refine zK (N:=2) rfl ?_);(try (refine yz (by rfl) ?_;dsimp only));refine zI ?hg (N:=2) ?hd (cs:=#[.int .i64 a0_0,.int .i64 a0_1,.string a0_2]) (t:=26) ?hr ?_;(case hd => rfl);(case hg => rfl);(case hr => first|(go_simp;done)|(go_simp;rfl));intro gb605 hg w21 hbox hb;have BK605:=zh (hbox);have GW605:=zh ((by rw [hg];exact (zB (by repeat (with_reducible first|exact HB.out|apply za|apply zb|apply zc))) : w.heap.size≤gb605));have GE605:=zh ((by rw [hg];exact (zB (by repeat (with_reducible first|exact HB.out|apply za|apply zb|apply zc))) : w.heap.size≤gb605));replace HB:=zh (zC (by repeat (with_reducible first|exact HB.out|apply za|apply zb|apply zc)) hb);clear hb hbox hg)|((with_reducible refine zK (N:=3) rfl ?_);(try (refine yz (by rfl) ?_;dsimp only));refine zI ?hg (N:=3) ?hd (cs:=#[.int .i64 a1_0,.int .i64 a1_1,.string a1_2]) (t:=26) ?hr ?_;(case hd => rfl);(case hg => rfl);(case hr => first|(go_simp;done)|(go_simp;rfl));intro gb606 hg w22 hbox hb;have BK606:=zh (hbox);have GW606:=zh ((by rw [hg];exact (zB (by repeat (with_reducible first|exact HB.out|apply za|apply zb|apply zc|refine zd ?_ GE605.out))) : w.heap.size≤gb606));have GE606:=zh ((by rw [hg];exact (zB (by repeat (with_reducible first|exact HB.out|apply za|apply zb|apply zc|refine zd ?_ GE605.out))) : w.heap.size≤gb606));replace HB:=zh (zC (by repeat (with_reducible first|exact HB.out|apply za|apply zb|apply zc|refine zd ?_ GE605.out)) hb);have NB605_606:=zh ((by rw [hg];exact yc (yi (g:=gb605) (o:=.cells #[.int .i64 a0_0,.int .i64 a0_1,.string a0_2] 26 (0,0)) (by (with_reducible repeat (first|refine ze ?_ _|refine zf ?_|refine zg ?_ _));exact BK605.out)) : gb605≠gb606));have NB606_605:=zh ((by rw [hg];exact yd (yi (g:=gb605) (o:=.cells #[.int .i64 a0_0,.int .i64 a0_1,.string a0_2] 26 (0,0)) (by (with_reducible repeat (first|refine ze ?_ _|refine zf ?_|refine zg ?_ _));exact BK605.out)) : gb606≠gb605));replace BK605:=zh (zD (g:=gb605) (o:=.cells #[.int .i64 a0_0,.int .i64 a0_1,.string a0_2] 26 (0,0)) (by (with_reducible repeat (first|refine ze ?_ _|refine zf ?_|refine zg ?_ _));exact BK605.out) hb);clear hb hbox hg;have hnb23:=NB605_606.out;have hnc23:=NB606_605.out;have hcz24_0 : w22.cell? ⟨gb605,0,none⟩=some (.int .i64 a0_0):=(zz BK605.out 0).trans rfl;have hcz24_1 : w22.cell? ⟨gb605,1,none⟩=some (.int .i64 a0_1):=(zz BK605.out 1).trans rfl;have hcz24_2 : w22.cell? ⟨gb605,2,none⟩=some (.string a0_2):=(zz BK605.out 2).trans rfl;have hfz24_0:=zA BK605.out 0;have hfz24_1:=zA BK605.out 1;have hfz24_2:=zA BK605.out 2;have hcz25_0 : w22.cell? ⟨gb606,0,none⟩=some (.int .i64 a1_0):=(zz BK606.out 0).trans rfl;have hcz25_1 : w22.cell? ⟨gb606,1,none⟩=some (.int .i64 a1_1):=(zz BK606.out 1).trans rfl;have hcz25_2 : w22.cell? ⟨gb606,2,none⟩=some (.string a1_2):=(zz BK606.out 2).trans rfl;have hfz25_0:=zA BK606.out 0;have hfz25_1:=zA BK606.out 1;have hfz25_2:=zA BK606.out 2)|((with_reducible refine zJ (f:=61) rfl ?_);refine yj (some 70) rfl rfl Try.func61 (by kernel_rfl) rfl #[.string a0_2] rfl (by (try simp only [zt,zu,zv]);first|done|rfl|(simp only [zw,zx];rfl)|(simp only [yr,ys,zV,zW];rfl)) ?_;(with_reducible refine (spec_l01Items.calls k  a0_2 t608 t609 _ A19.out).mono ?_);rintro e w26 ⟨v610,rfl,ho0,hb⟩;refine ⟨_,rfl,?_⟩;have HO611:=zh (yy (Kd.R_newB (Kd.R_newB ho0 (g:=gb605) (o:=.cells #[.int .i64 a0_0,.int .i64 a0_1,.string a0_2] 26 (0,0)) (by (with_reducible repeat (first|refine ze ?_ _|refine zf ?_|refine zg ?_ _));exact BK605.out)) (g:=gb606) (o:=.cells #[.int .i64 a1_0,.int .i64 a1_1,.string a1_2] 26 (0,0)) (by (with_reducible repeat (first|refine ze ?_ _|refine zf ?_|refine zg ?_ _));exact BK606.out)) (zB (by repeat (with_reducible first|exact HB.out|apply za|apply zb|apply zc|refine zd ?_ GE605.out|refine zd ?_ GE606.out))));replace BK605:=zh (zD (g:=gb605) (o:=.cells #[.int .i64 a0_0,.int .i64 a0_1,.string a0_2] 26 (0,0)) (by (with_reducible repeat (first|refine ze ?_ _|refine zf ?_|refine zg ?_ _));exact BK605.out) hb);replace BK606:=zh (zD (g:=gb606) (o:=.cells #[.int .i64 a1_0,.int .i64 a1_1,.string a1_2] 26 (0,0)) (by (with_reducible repeat (first|refine ze ?_ _|refine zf ?_|refine zg ?_ _));exact BK606.out) hb);replace HB:=zh (zC (by repeat (with_reducible first|exact HB.out|apply za|apply zb|apply zc|refine zd ?_ GE605.out|refine zd ?_ GE606.out)) hb);(try clear hb);(try clear hb2);(try clear hk);(try clear hi);(try clear ho0);have hcz27_0 : w26.cell? ⟨gb606,0,none⟩=some (.int .i64 a1_0):=(zz BK606.out 0).trans rfl;have hcz27_1 : w26.cell? ⟨gb606,1,none⟩=some (.int .i64 a1_1):=(zz BK606.out 1).trans rfl;have hcz27_2 : w26.cell? ⟨gb606,2,none⟩=some (.string a1_2):=(zz BK606.out 2).trans rfl;have hfz27_0:=zA BK606.out 0;have hfz27_1:=zA BK606.out 1;have hfz27_2:=zA BK606.out 2)|((with_reducible refine zJ (f:=61) rfl ?_);refine yj (some 76) rfl rfl Try.func61 (by kernel_rfl) rfl #[.string a1_2] rfl (by (try simp only [zt,zu,zv]);first|done|rfl|(simp only [zw,zx];rfl)|(simp only [yr,ys,zV,zW];rfl)) ?_;(with_reducible refine (spec_l01Items.calls k  a1_2 t612 t613 _ A20.out).mono ?_);rintro e w28 ⟨v614,rfl,ho0,hb⟩;refine ⟨_,rfl,?_⟩;have HO615:=zh (yy (Kd.R_newB (Kd.R_newB (Kd.R_new' ho0 (Kd.R_lt (by (with_reducible repeat (first|apply zm|apply zn|apply zo));exact HO611.out))) (g:=gb605) (o:=.cells #[.int .i64 a0_0,.int .i64 a0_1,.string a0_2] 26 (0,0)) (by (with_reducible repeat (first|refine ze ?_ _|refine zf ?_|refine zg ?_ _));exact BK605.out)) (g:=gb606) (o:=.cells #[.int .i64 a1_0,.int .i64 a1_1,.string a1_2] 26 (0,0)) (by (with_reducible repeat (first|refine ze ?_ _|refine zf ?_|refine zg ?_ _));exact BK606.out)) (zB (by repeat (with_reducible first|exact HB.out|apply za|apply zb|apply zc|refine zd ?_ GE605.out|refine zd ?_ GE606.out))));replace HO611:=zh (Kd.R_elder' (by (with_reducible repeat (first|apply zm|apply zn|apply zo));exact HO611.out) (Kd.R_base ho0) hb);replace BK605:=zh (zD (g:=gb605) (o:=.cells #[.int .i64 a0_0,.int .i64 a0_1,.string a0_2] 26 (0,0)) (by (with_reducible repeat (first|refine ze ?_ _|refine zf ?_|refine zg ?_ _));exact BK605.out) hb);replace BK606:=zh (zD (g:=gb606) (o:=.cells #[.int .i64 a1_0,.int .i64 a1_1,.string a1_2] 26 (0,0)) (by (with_reducible repeat (first|refine ze ?_ _|refine zf ?_|refine zg ?_ _));exact BK606.out) hb);replace HB:=zh (zC (by repeat (with_reducible first|exact HB.out|apply za|apply zb|apply zc|refine zd ?_ GE605.out|refine zd ?_ GE606.out)) hb);(try clear hb);(try clear hb2);(try clear hk);(try clear hi);(try clear ho0)))
    go_loopg [9] k (fun kq v9 w' => ∃ (x9_1 : Int),v9 = .int .i64 x9_1∧Aside0 (spec_l01Order.l0 kq t608 t612 x9_1=some r)∧Aside0 (kq≤k)∧Aside0 (Kd.R k26 26 w' w.heap.size (fun k_ => some k_≠(v614 : Value).ownBlock∧k_≠gb605∧k_≠gb606) v610 t608)∧Aside0 (Kd.R k26 26 w' w.heap.size (fun k_ => some k_≠(v610 : Value).ownBlock∧k_≠gb605∧k_≠gb606) v614 t612)∧Aside0 (w'.heap[gb605]? = some (.cells #[.int .i64 a0_0,.int .i64 a0_1,.string a0_2] 26 (0,0)))∧Aside0 (w'.heap[gb606]? = some (.cells #[.int .i64 a1_0,.int .i64 a1_1,.string a1_2] 26 (0,0)))∧Aside0 (Below w.heap.size w w'))
    case atStart => exact ⟨(0),(by first|rfl|(simp;done)|(simp [*];done)),H',⟨ye _⟩,⟨by (with_reducible repeat (first|apply zm|apply zn|apply zo));exact zM HO611.out (fun _ hk => ⟨hk.2,⟨hk.1.1.2,hk.1.2⟩⟩)⟩,⟨by (with_reducible repeat (first|apply zm|apply zn|apply zo));exact zM HO615.out (fun _ hk => ⟨hk.1.1.2,⟨hk.1.2,hk.2⟩⟩)⟩,⟨by (with_reducible repeat (first|refine ze ?_ _|refine zf ?_|refine zg ?_ _));exact BK605.out⟩,⟨by (with_reducible repeat (first|refine ze ?_ _|refine zf ?_|refine zg ?_ _));exact BK606.out⟩,⟨by repeat (with_reducible first|exact HB.out|apply za|apply zb|apply zc|refine zd ?_ GE605.out|refine zd ?_ GE606.out)⟩⟩
    case round =>
     clear H'
     try clear c1
     try clear c2
     try clear p2
     try clear c3
     try clear c3b0
     try clear c3b1
     try clear c4
     try clear c4b0
     try clear c4b1
     try clear c5
     try clear c5b0
     try clear c5b1
     try clear c6
     try clear p6
     try clear c8
     try clear c9
     try clear c11
     try clear c11b0
     try clear c11b1
     try clear c15
     try clear c18
     try clear c18b0
     try clear c18b1
     try clear c23
     try clear hcz10_0
     try clear hcz10_1
     try clear hcz10_2
     try clear hcz16_0
     try clear hcz16_1
     try clear hcz16_2
     try clear hcz17_0
     try clear hcz17_1
     try clear hcz17_2
     try clear hcz24_0
     try clear hcz24_1
     try clear hcz24_2
     try clear hcz25_0
     try clear hcz25_1
     try clear hcz25_2
     try clear hcz27_0
     try clear hcz27_1
     try clear hcz27_2
     try clear hcz9_0
     try clear hcz9_1
     try clear hcz9_2
     try clear hfz10_0
     try clear hfz10_1
     try clear hfz10_2
     try clear hfz16_0
     try clear hfz16_1
     try clear hfz16_2
     try clear hfz17_0
     try clear hfz17_1
     try clear hfz17_2
     try clear hfz24_0
     try clear hfz24_1
     try clear hfz24_2
     try clear hfz25_0
     try clear hfz25_1
     try clear hfz25_2
     try clear hfz27_0
     try clear hfz27_1
     try clear hfz27_2
     try clear hfz9_0
     try clear hfz9_1
     try clear hfz9_2
     obtain ⟨x9_1,rfl,HA,HK1,HO_5,HO_7,BK605,BK606,HB⟩:=hrel
     cases gk with
     | zero => exact absurd HA.out (by simp [spec_l01Order.l0])
     | succ k1 =>
      have H:=HA.out;clear HA;simp only [spec_l01Order.l0] at H;have HC29:=zh H;clear H
      go_upto_region 13 with (fail)
      go_cut [88] (fun v88 wc => ∃ (kq : Nat) (x88_28 : Bool),v88 = .bool x88_28∧Aside0 (spec_l01Order.j1 kq t608 t612 x9_1 x88_28=some r)∧Aside0 (kq≤k1)∧Aside0 (Kd.R k26 26 wc w.heap.size (fun k_ => some k_≠(v614 : Value).ownBlock∧k_≠gb605∧k_≠gb606) v610 t608)∧Aside0 (Kd.R k26 26 wc w.heap.size (fun k_ => some k_≠(v610 : Value).ownBlock∧k_≠gb605∧k_≠gb606) v614 t612)∧Aside0 (wc.heap[gb605]? = some (.cells #[.int .i64 a0_0,.int .i64 a0_1,.string a0_2] 26 (0,0)))∧Aside0 (wc.heap[gb606]? = some (.cells #[.int .i64 a1_0,.int .i64 a1_1,.string a1_2] 26 (0,0)))∧Aside0 (Below w.heap.size w wc))
      case first =>
       have H:=HC29.out;clear HC29
       by_cases c30 : x9_1<(t608.length : Int)
       ·
        rw [if_pos c30] at H
        have c30b0 : decide (x9_1<(t608.length : Int))=true:=decide_eq_true c30;clear c30;(first|rw [c30b0]|(simp only [zG,zH];rw [c30b0])|skip);have H':=zh H;clear H;obtain ⟨Ao31,co31,eo31⟩:=yk HO_5.out;subst eo31;obtain ⟨Ao32,co32,eo32⟩:=yk HO_7.out;subst eo32
        go_wp2
        go_meet
        case rel => exact ⟨_,(decide (x9_1<(t612.length : Int))),(by first|rfl|(simp;done)|(simp [*];done)),H',⟨by have:=HK1.out;first|omega|exact ye _⟩,⟨by (with_reducible repeat (first|apply zm|apply zn|apply zo));exact HO_5.out⟩,⟨by (with_reducible repeat (first|apply zm|apply zn|apply zo));exact HO_7.out⟩,⟨by (with_reducible repeat (first|refine ze ?_ _|refine zf ?_|refine zg ?_ _));exact BK605.out⟩,⟨by (with_reducible repeat (first|refine ze ?_ _|refine zf ?_|refine zg ?_ _));exact BK606.out⟩,⟨by repeat (with_reducible first|exact HB.out|apply za|apply zb|apply zc|refine zd ?_ GE605.out|refine zd ?_ GE606.out)⟩⟩
       rw [if_neg c30] at H;have c30b0 : decide (x9_1<(t608.length : Int))=false:=decide_eq_false c30;clear c30;(first|rw [c30b0]|(simp only [zG,zH];rw [c30b0])|skip);have H':=zh H;clear H;obtain ⟨Ao33,co33,eo33⟩:=yk HO_5.out;subst eo33
       go_wp2
       go_meet
       case rel => exact ⟨_,(false),(by first|rfl|(simp;done)|(simp [*];done)),H',⟨by have:=HK1.out;first|omega|exact ye _⟩,⟨by (with_reducible repeat (first|apply zm|apply zn|apply zo));exact HO_5.out⟩,⟨by (with_reducible repeat (first|apply zm|apply zn|apply zo));exact HO_7.out⟩,⟨by (with_reducible repeat (first|refine ze ?_ _|refine zf ?_|refine zg ?_ _));exact BK605.out⟩,⟨by (with_reducible repeat (first|refine ze ?_ _|refine zf ?_|refine zg ?_ _));exact BK606.out⟩,⟨by repeat (with_reducible first|exact HB.out|apply za|apply zb|apply zc|refine zd ?_ GE605.out|refine zd ?_ GE606.out)⟩⟩
      case rest =>
       clear HC29
       try clear c1
       try clear c2
       try clear p2
       try clear c3
       try clear c3b0
       try clear c3b1
       try clear c4
       try clear c4b0
       try clear c4b1
       try clear c5
       try clear c5b0
       try clear c5b1
       try clear c6
       try clear p6
       try clear c8
       try clear c9
       try clear c11
       try clear c11b0
       try clear c11b1
       try clear c15
       try clear c18
       try clear c18b0
       try clear c18b1
       try clear c23
       try clear c30
       try clear c30b0
       try clear hcz10_0
       try clear hcz10_1
       try clear hcz10_2
       try clear hcz16_0
       try clear hcz16_1
       try clear hcz16_2
       try clear hcz17_0
       try clear hcz17_1
       try clear hcz17_2
       try clear hcz24_0
       try clear hcz24_1
       try clear hcz24_2
       try clear hcz25_0
       try clear hcz25_1
       try clear hcz25_2
       try clear hcz27_0
       try clear hcz27_1
       try clear hcz27_2
       try clear hcz9_0
       try clear hcz9_1
       try clear hcz9_2
       try clear hfz10_0
       try clear hfz10_1
       try clear hfz10_2
       try clear hfz16_0
       try clear hfz16_1
       try clear hfz16_2
       try clear hfz17_0
       try clear hfz17_1
       try clear hfz17_2
       try clear hfz24_0
       try clear hfz24_1
       try clear hfz24_2
       try clear hfz25_0
       try clear hfz25_1
       try clear hfz25_2
       try clear hfz27_0
       try clear hfz27_1
       try clear hfz27_2
       try clear hfz9_0
       try clear hfz9_1
       try clear hfz9_2
       try clear p2
       try clear p6
       obtain ⟨kq,x88_28,rfl,HA,HJ28,HO_5,HO_7,BK605,BK606,HB⟩:=hcut
       cases kq with
       | zero => exact absurd HA.out (by simp [spec_l01Order.j1])
       | succ kj28 =>
        have H:=HA.out;clear HA;simp only [spec_l01Order.j1] at H
        by_cases c34 : x88_28=true
        ·
         subst c34
         have H1 : (if 0≤x9_1 then (if x9_1<(t608.length : Int) then (if x9_1<(t612.length : Int) then ((spec_l01Order.f kj28 ((rd_T26 t608 x9_1).f0) ((rd_T26 t608 x9_1).f1) ((rd_T26 t608 x9_1).f2) ((rd_T26 t612 x9_1).f0) ((rd_T26 t612 x9_1).f1) ((rd_T26 t612 x9_1).f2)).bind fun t618 => (if t618=0 then (spec_l01Order.l0 kj28 t608 t612 (wrap64 (x9_1 + 1))) else (some t618))) else (none)) else (none)) else (none))=some r:=by rw [if_pos rfl] at H;exact H
         clear H;have H:=H1;clear H1
         by_cases c35 : 0≤x9_1
         ·
          rw [if_pos c35] at H
          have c35b0 : decide (0≤x9_1)=true:=decide_eq_true c35;clear c35
          by_cases c36 : x9_1<(t608.length : Int)
          ·
           rw [if_pos c36] at H
           have c36b0 : decide (x9_1<(t608.length : Int))=true:=decide_eq_true c36;clear c36
           by_cases c37 : x9_1<(t612.length : Int)
           ·
            rw [if_pos c37] at H
            have c37b0 : decide (x9_1<(t612.length : Int))=true:=decide_eq_true c37;clear c37;replace H:=zT.mp H;obtain ⟨t618,A380,H⟩:=H;replace H : (if t618=0 then (spec_l01Order.l0 kj28 t608 t612 (wrap64 (x9_1 + 1))) else (some t618))=some r:=H;have A38:=zh A380;clear A380
            by_cases c39 : t618=0
            ·
             rw [if_pos c39] at H
             have c39b0 : (t618 == 0)=true:=ya.mpr c39;have c39b1 : (t618 != 0)=false:=zX.mpr c39;clear c39;have H':=zh H;clear H
             try go_wp2
             replace HO_5:=zh (zo HO_5.out);replace HO_7:=zh (zo HO_7.out);replace BK605:=zh (zf BK605.out);replace BK606:=zh (zf BK606.out);replace HB:=zh (zc HB.out);obtain ⟨Ao41,co41,eo41⟩:=yk HO_5.out;(first|subst eo41|(injection eo41 with f1_ f2_ f3_;have f4_:=f1_.symm;have f5_:=f3_.symm;clear f1_ f2_ f3_;subst f4_;subst f5_));have p616 : 0≤(x9_1 : Int):=zy (by first|(with_reducible assumption)|assumption);have q616 : x9_1<(t608.length : Int):=zy (by first|(with_reducible assumption)|assumption);obtain ⟨ad616,e616,hx616_0,hx616_1,hx616_2⟩:=at_T26 (yh HO_5.out).2.2 x9_1 p616 q616
             cases e616
             replace p616:=eq_true p616;replace q616:=eq_true q616;obtain ⟨Ao42,co42,eo42⟩:=yk HO_7.out;(first|subst eo42|(injection eo42 with f1_ f2_ f3_;have f4_:=f1_.symm;have f5_:=f3_.symm;clear f1_ f2_ f3_;subst f4_;subst f5_));have p617 : 0≤(x9_1 : Int):=zy (by first|(with_reducible assumption)|assumption);have q617 : x9_1<(t612.length : Int):=zy (by first|(with_reducible assumption)|assumption);obtain ⟨ad617,e617,hx617_0,hx617_1,hx617_2⟩:=at_T26 (yh HO_7.out).2.2 x9_1 p617 q617
             cases e617
             replace p617:=eq_true p617;replace q617:=eq_true q617;refine start_ (n:=10) (S:=fun w' => w'.cell? (ad616.add ((x9_1).toNat * 3))=some (.int .i64 ((rd_T26 t608 x9_1).f0))∧w'.cell? ⟨(ad616.add ((x9_1).toNat * 3)).block,(ad616.add ((x9_1).toNat * 3)).off + 1,none⟩=some (.int .i64 ((rd_T26 t608 x9_1).f1))∧w'.cell? ⟨(ad616.add ((x9_1).toNat * 3)).block,(ad616.add ((x9_1).toNat * 3)).off + 2,none⟩=some (.string ((rd_T26 t608 x9_1).f2))∧w'.cell? (ad617.add ((x9_1).toNat * 3))=some (.int .i64 ((rd_T26 t612 x9_1).f0))∧w'.cell? ⟨(ad617.add ((x9_1).toNat * 3)).block,(ad617.add ((x9_1).toNat * 3)).off + 1,none⟩=some (.int .i64 ((rd_T26 t612 x9_1).f1))∧w'.cell? ⟨(ad617.add ((x9_1).toNat * 3)).block,(ad617.add ((x9_1).toNat * 3)).off + 2,none⟩=some (.string ((rd_T26 t612 x9_1).f2))) (ds:=[]) (bm_ 0 10) (by kernel_rfl) rfl rfl ⟨hx616_0,hx616_1,hx616_2,hx617_0,hx617_1,hx617_2⟩ (fun hHeld => ?_);refine with_tabW spec_l01Order.tab15 spec_l01Order.bits15 (fun HT_ HW_ => ?_);generalize wc.drew=w40 at HO_5 HO_7 BK605 BK606 HB hx616_0 hx616_1 hx616_2 hx617_0 hx617_1 hx617_2 hHeld ⊢;refine pure_ (i:=0) (N:=some 91) (v:=?_) (a':=?_) (bm_ 1 10) rfl rfl (any_of HT_.out (by kernel_rfl)) (fun _ _ _ h => h) (Or.inl ⟨by rfl,?_⟩) ?_ ?_;rotate_left
             ·
              intro w'
              go_simp
              with_reducible rfl
             rotate_left
             ·
              simp only [Act.put,zi,zj,zk,zG,zH]
              rfl
             refine pure_ (i:=1) (N:=some 92) (v:=?_) (a':=?_) (bm_ 2 10) rfl rfl (any_of HT_.out (by kernel_rfl)) (fun _ _ _ h => h) (Or.inl ⟨by rfl,?_⟩) ?_ ?_;rotate_left
             ·
              intro w'
              go_simp
              with_reducible rfl
             rotate_left
             ·
              simp only [Act.put,zi,zj,zk,zG,zH]
              rfl
             refine pure_ (i:=2) (N:=some 93) (v:=?_) (a':=?_) (bm_ 3 10) rfl rfl (any_of HT_.out (by kernel_rfl)) (fun _ _ _ h => h) (Or.inl ⟨by rfl,?_⟩) ?_ ?_;rotate_left
             ·
              intro w'
              go_simp
              with_reducible rfl
             rotate_left
             ·
              simp only [Act.put,zi,zj,zk,zG,zH]
              rfl
             refine pure_ (i:=4) (N:=some 95) (v:=?_) (a':=?_) #[true,true,true,false,true,false,false,false,false,false] rfl rfl (any_of HT_.out (by kernel_rfl)) (fun _ _ _ h => h) (Or.inl ⟨by rfl,?_⟩) ?_ ?_;rotate_left
             ·
              intro w'
              go_simp
              with_reducible rfl
             rotate_left
             ·
              simp only [Act.put,zi,zj,zk,zG,zH]
              rfl
             refine pure_ (i:=5) (N:=some 96) (v:=?_) (a':=?_) #[true,true,true,false,true,true,false,false,false,false] rfl rfl (any_of HT_.out (by kernel_rfl)) (fun _ _ _ h => h) (Or.inl ⟨by rfl,?_⟩) ?_ ?_;rotate_left
             ·
              intro w'
              go_simp
              with_reducible rfl
             rotate_left
             ·
              simp only [Act.put,zi,zj,zk,zG,zH]
              rfl
             refine pure_ (i:=6) (N:=some 97) (v:=?_) (a':=?_) #[true,true,true,false,true,true,true,false,false,false] rfl rfl (any_of HT_.out (by kernel_rfl)) (fun _ _ _ h => h) (Or.inl ⟨by rfl,?_⟩) ?_ ?_;rotate_left
             ·
              intro w'
              go_simp
              with_reducible rfl
             rotate_left
             ·
              simp only [Act.put,zi,zj,zk,zG,zH]
              rfl
             refine take_ (i:=3) (N:=some 94) (v:=?_) (a':=?_) (bm_ 7 10) rfl rfl (yo HT_.out HW_.out (by kernel_rfl)) (fun _ _ _ h => h) (Or.inl ⟨by rfl,?_⟩) hHeld ?_ ?_;rotate_left
             ·
              rintro w' ⟨s0,s1,s2,s3,s4,s5⟩
              go_simp
              with_reducible rfl
             rotate_left
             ·
              simp only [Act.put,zi,zj,zk,zG,zH]
              rfl
             refine take_ (i:=7) (N:=some 98) (v:=?_) (a':=?_) (bm_ 8 10) rfl rfl (yo HT_.out HW_.out (by kernel_rfl)) (fun _ _ _ h => h) (Or.inl ⟨by rfl,?_⟩) hHeld ?_ ?_;rotate_left
             ·
              rintro w' ⟨s0,s1,s2,s3,s4,s5⟩
              go_simp
              with_reducible rfl
             rotate_left
             ·
              simp only [Act.put,zi,zj,zk,zG,zH]
              rfl
             refine one_ (i:=8) (N:=some 99) (bm_ 9 10) rfl rfl (one_of HT_.out (by kernel_rfl)) (by decide) (fun K hK => ?_);refine goes_ Try.func67 (by kernel_rfl) rfl #[.agg #[.int .i64 ((rd_T26 t608 x9_1).f0),.int .i64 ((rd_T26 t608 x9_1).f1),.string ((rd_T26 t608 x9_1).f2)],.agg #[.int .i64 ((rd_T26 t612 x9_1).f0),.int .i64 ((rd_T26 t612 x9_1).f1),.string ((rd_T26 t612 x9_1).f2)]] (by rfl) rfl rfl (by (try simp only [zt,zu,zv]);first|done|rfl|(simp only [zw,zx];rfl)|(simp only [yr,ys,zV,zW];rfl)) ?_
             with_reducible refine (ih kj28 (by have:=HK1.out;have:=HJ28.out;omega)  ((rd_T26 t608 x9_1).f0) ((rd_T26 t608 x9_1).f1) ((rd_T26 t608 x9_1).f2) ((rd_T26 t612 x9_1).f0) ((rd_T26 t612 x9_1).f1) ((rd_T26 t612 x9_1).f2) t618 _ A38.out).mono ?_
             rintro e w43 ⟨rfl,hb⟩;have HS0_:=(hb.cell (zl _ _ (hHeld.1))).trans (hHeld.1);have HS1_:=(hb.cell (zl _ _ (hHeld.2.1))).trans (hHeld.2.1);have HS2_:=(hb.cell (zl _ _ (hHeld.2.2.1))).trans (hHeld.2.2.1);have HS3_:=(hb.cell (zl _ _ (hHeld.2.2.2.1))).trans (hHeld.2.2.2.1);have HS4_:=(hb.cell (zl _ _ (hHeld.2.2.2.2.1))).trans (hHeld.2.2.2.2.1);have HS5_:=(hb.cell (zl _ _ (hHeld.2.2.2.2.2))).trans (hHeld.2.2.2.2.2);refine ⟨_,rfl,?_⟩;replace HO_5:=zh (yg (by (with_reducible repeat (first|apply zm|apply zn|apply zo));exact HO_5.out) hb);replace HO_7:=zh (yg (by (with_reducible repeat (first|apply zm|apply zn|apply zo));exact HO_7.out) hb);replace BK605:=zh (zD (g:=gb605) (o:=.cells #[.int .i64 a0_0,.int .i64 a0_1,.string a0_2] 26 (0,0)) (by (with_reducible repeat (first|refine ze ?_ _|refine zf ?_|refine zg ?_ _));exact BK605.out) hb);replace BK606:=zh (zD (g:=gb606) (o:=.cells #[.int .i64 a1_0,.int .i64 a1_1,.string a1_2] 26 (0,0)) (by (with_reducible repeat (first|refine ze ?_ _|refine zf ?_|refine zg ?_ _));exact BK606.out) hb);replace HB:=zh (zC (by repeat (with_reducible first|exact HB.out|apply za|apply zb|apply zc|refine zd ?_ GE605.out|refine zd ?_ GE606.out)) hb);(try clear hb);(try clear hb2);(try clear hk);(try clear hi);refine hK.out _ _ ⟨HS0_,HS1_,HS2_,HS3_,HS4_,HS5_⟩ (fun hHeld => ?_);clear hK K;refine norm_ (a':=?_) ?_ ?_;rotate_left
             ·
              show Act.put _ (some 99) _=_
              simp only [Act.put,zi,zj,zk,zG,zH]
              rfl
             refine pure_ (i:=9) (N:=some 10) (v:=?_) (a':=?_) (bm_ 10 10) rfl rfl (any_of HT_.out (by kernel_rfl)) (fun _ _ _ h => h) (Or.inl ⟨by rfl,?_⟩) ?_ ?_;rotate_left
             ·
              intro w'
              go_simp
              with_reducible rfl
             rotate_left
             ·
              simp only [Act.put,zi,zj,zk,zG,zH]
              rfl
             refine done_ (done_of HT_.out (by kernel_rfl)) ?_
             try go_wp2
             go_roundg kj28
             case measure => have:=HK1.out;have:=HJ28.out;omega
             case rel => exact ⟨(wrap64 (x9_1 + 1)),(by first|rfl|(simp;done)|(simp [*];done)),H',⟨by have:=HK1.out;have:=HJ28.out;omega⟩,⟨by (with_reducible repeat (first|apply zm|apply zn|apply zo));exact HO_5.out⟩,⟨by (with_reducible repeat (first|apply zm|apply zn|apply zo));exact HO_7.out⟩,⟨by (with_reducible repeat (first|refine ze ?_ _|refine zf ?_|refine zg ?_ _));exact BK605.out⟩,⟨by (with_reducible repeat (first|refine ze ?_ _|refine zf ?_|refine zg ?_ _));exact BK606.out⟩,⟨by repeat (with_reducible first|exact HB.out|apply za|apply zb|apply zc|refine zd ?_ GE605.out|refine zd ?_ GE606.out)⟩⟩
            rw [if_neg c39] at H;have c39b0 : (t618 == 0)=false:=zY.mpr c39;have c39b1 : (t618 != 0)=true:=zZ.mpr c39;obtain rfl:=zU H
            try go_wp2
            replace HO_5:=zh (zo HO_5.out);replace HO_7:=zh (zo HO_7.out);replace BK605:=zh (zf BK605.out);replace BK606:=zh (zf BK606.out);replace HB:=zh (zc HB.out);obtain ⟨Ao45,co45,eo45⟩:=yk HO_5.out;(first|subst eo45|(injection eo45 with f1_ f2_ f3_;have f4_:=f1_.symm;have f5_:=f3_.symm;clear f1_ f2_ f3_;subst f4_;subst f5_));have p616 : 0≤(x9_1 : Int):=zy (by first|(with_reducible assumption)|assumption);have q616 : x9_1<(t608.length : Int):=zy (by first|(with_reducible assumption)|assumption);obtain ⟨ad616,e616,hx616_0,hx616_1,hx616_2⟩:=at_T26 (yh HO_5.out).2.2 x9_1 p616 q616
            cases e616
            replace p616:=eq_true p616;replace q616:=eq_true q616;obtain ⟨Ao46,co46,eo46⟩:=yk HO_7.out;(first|subst eo46|(injection eo46 with f1_ f2_ f3_;have f4_:=f1_.symm;have f5_:=f3_.symm;clear f1_ f2_ f3_;subst f4_;subst f5_));have p617 : 0≤(x9_1 : Int):=zy (by first|(with_reducible assumption)|assumption);have q617 : x9_1<(t612.length : Int):=zy (by first|(with_reducible assumption)|assumption);obtain ⟨ad617,e617,hx617_0,hx617_1,hx617_2⟩:=at_T26 (yh HO_7.out).2.2 x9_1 p617 q617
            cases e617
            replace p617:=eq_true p617;replace q617:=eq_true q617;refine start_ (n:=10) (S:=fun w' => w'.cell? (ad616.add ((x9_1).toNat * 3))=some (.int .i64 ((rd_T26 t608 x9_1).f0))∧w'.cell? ⟨(ad616.add ((x9_1).toNat * 3)).block,(ad616.add ((x9_1).toNat * 3)).off + 1,none⟩=some (.int .i64 ((rd_T26 t608 x9_1).f1))∧w'.cell? ⟨(ad616.add ((x9_1).toNat * 3)).block,(ad616.add ((x9_1).toNat * 3)).off + 2,none⟩=some (.string ((rd_T26 t608 x9_1).f2))∧w'.cell? (ad617.add ((x9_1).toNat * 3))=some (.int .i64 ((rd_T26 t612 x9_1).f0))∧w'.cell? ⟨(ad617.add ((x9_1).toNat * 3)).block,(ad617.add ((x9_1).toNat * 3)).off + 1,none⟩=some (.int .i64 ((rd_T26 t612 x9_1).f1))∧w'.cell? ⟨(ad617.add ((x9_1).toNat * 3)).block,(ad617.add ((x9_1).toNat * 3)).off + 2,none⟩=some (.string ((rd_T26 t612 x9_1).f2))) (ds:=[]) (bm_ 0 10) (by kernel_rfl) rfl rfl ⟨hx616_0,hx616_1,hx616_2,hx617_0,hx617_1,hx617_2⟩ (fun hHeld => ?_);refine with_tabW spec_l01Order.tab15 spec_l01Order.bits15 (fun HT_ HW_ => ?_);generalize wc.drew=w44 at HO_5 HO_7 BK605 BK606 HB hx616_0 hx616_1 hx616_2 hx617_0 hx617_1 hx617_2 hHeld ⊢;refine pure_ (i:=0) (N:=some 91) (v:=?_) (a':=?_) (bm_ 1 10) rfl rfl (any_of HT_.out (by kernel_rfl)) (fun _ _ _ h => h) (Or.inl ⟨by rfl,?_⟩) ?_ ?_;rotate_left
            ·
             intro w'
             go_simp
             with_reducible rfl
            rotate_left
            ·
             simp only [Act.put,zi,zj,zk,zG,zH]
             rfl
            refine pure_ (i:=1) (N:=some 92) (v:=?_) (a':=?_) (bm_ 2 10) rfl rfl (any_of HT_.out (by kernel_rfl)) (fun _ _ _ h => h) (Or.inl ⟨by rfl,?_⟩) ?_ ?_;rotate_left
            ·
             intro w'
             go_simp
             with_reducible rfl
            rotate_left
            ·
             simp only [Act.put,zi,zj,zk,zG,zH]
             rfl
            refine pure_ (i:=2) (N:=some 93) (v:=?_) (a':=?_) (bm_ 3 10) rfl rfl (any_of HT_.out (by kernel_rfl)) (fun _ _ _ h => h) (Or.inl ⟨by rfl,?_⟩) ?_ ?_;rotate_left
            ·
             intro w'
             go_simp
             with_reducible rfl
            rotate_left
            ·
             simp only [Act.put,zi,zj,zk,zG,zH]
             rfl
            refine pure_ (i:=4) (N:=some 95) (v:=?_) (a':=?_) #[true,true,true,false,true,false,false,false,false,false] rfl rfl (any_of HT_.out (by kernel_rfl)) (fun _ _ _ h => h) (Or.inl ⟨by rfl,?_⟩) ?_ ?_;rotate_left
            ·
             intro w'
             go_simp
             with_reducible rfl
            rotate_left
            ·
             simp only [Act.put,zi,zj,zk,zG,zH]
             rfl
            refine pure_ (i:=5) (N:=some 96) (v:=?_) (a':=?_) #[true,true,true,false,true,true,false,false,false,false] rfl rfl (any_of HT_.out (by kernel_rfl)) (fun _ _ _ h => h) (Or.inl ⟨by rfl,?_⟩) ?_ ?_;rotate_left
            ·
             intro w'
             go_simp
             with_reducible rfl
            rotate_left
            ·
             simp only [Act.put,zi,zj,zk,zG,zH]
             rfl
            refine pure_ (i:=6) (N:=some 97) (v:=?_) (a':=?_) #[true,true,true,false,true,true,true,false,false,false] rfl rfl (any_of HT_.out (by kernel_rfl)) (fun _ _ _ h => h) (Or.inl ⟨by rfl,?_⟩) ?_ ?_;rotate_left
            ·
             intro w'
             go_simp
             with_reducible rfl
            rotate_left
            ·
             simp only [Act.put,zi,zj,zk,zG,zH]
             rfl
            refine take_ (i:=3) (N:=some 94) (v:=?_) (a':=?_) (bm_ 7 10) rfl rfl (yo HT_.out HW_.out (by kernel_rfl)) (fun _ _ _ h => h) (Or.inl ⟨by rfl,?_⟩) hHeld ?_ ?_;rotate_left
            ·
             rintro w' ⟨s0,s1,s2,s3,s4,s5⟩
             go_simp
             with_reducible rfl
            rotate_left
            ·
             simp only [Act.put,zi,zj,zk,zG,zH]
             rfl
            refine take_ (i:=7) (N:=some 98) (v:=?_) (a':=?_) (bm_ 8 10) rfl rfl (yo HT_.out HW_.out (by kernel_rfl)) (fun _ _ _ h => h) (Or.inl ⟨by rfl,?_⟩) hHeld ?_ ?_;rotate_left
            ·
             rintro w' ⟨s0,s1,s2,s3,s4,s5⟩
             go_simp
             with_reducible rfl
            rotate_left
            ·
             simp only [Act.put,zi,zj,zk,zG,zH]
             rfl
            refine one_ (i:=8) (N:=some 99) (bm_ 9 10) rfl rfl (one_of HT_.out (by kernel_rfl)) (by decide) (fun K hK => ?_);refine goes_ Try.func67 (by kernel_rfl) rfl #[.agg #[.int .i64 ((rd_T26 t608 x9_1).f0),.int .i64 ((rd_T26 t608 x9_1).f1),.string ((rd_T26 t608 x9_1).f2)],.agg #[.int .i64 ((rd_T26 t612 x9_1).f0),.int .i64 ((rd_T26 t612 x9_1).f1),.string ((rd_T26 t612 x9_1).f2)]] (by rfl) rfl rfl (by (try simp only [zt,zu,zv]);first|done|rfl|(simp only [zw,zx];rfl)|(simp only [yr,ys,zV,zW];rfl)) ?_
            with_reducible refine (ih kj28 (by have:=HK1.out;have:=HJ28.out;omega)  ((rd_T26 t608 x9_1).f0) ((rd_T26 t608 x9_1).f1) ((rd_T26 t608 x9_1).f2) ((rd_T26 t612 x9_1).f0) ((rd_T26 t612 x9_1).f1) ((rd_T26 t612 x9_1).f2) t618 _ A38.out).mono ?_
            rintro e w47 ⟨rfl,hb⟩;have HS0_:=(hb.cell (zl _ _ (hHeld.1))).trans (hHeld.1);have HS1_:=(hb.cell (zl _ _ (hHeld.2.1))).trans (hHeld.2.1);have HS2_:=(hb.cell (zl _ _ (hHeld.2.2.1))).trans (hHeld.2.2.1);have HS3_:=(hb.cell (zl _ _ (hHeld.2.2.2.1))).trans (hHeld.2.2.2.1);have HS4_:=(hb.cell (zl _ _ (hHeld.2.2.2.2.1))).trans (hHeld.2.2.2.2.1);have HS5_:=(hb.cell (zl _ _ (hHeld.2.2.2.2.2))).trans (hHeld.2.2.2.2.2);refine ⟨_,rfl,?_⟩;replace HO_5:=zh (yg (by (with_reducible repeat (first|apply zm|apply zn|apply zo));exact HO_5.out) hb);replace HO_7:=zh (yg (by (with_reducible repeat (first|apply zm|apply zn|apply zo));exact HO_7.out) hb);replace BK605:=zh (zD (g:=gb605) (o:=.cells #[.int .i64 a0_0,.int .i64 a0_1,.string a0_2] 26 (0,0)) (by (with_reducible repeat (first|refine ze ?_ _|refine zf ?_|refine zg ?_ _));exact BK605.out) hb);replace BK606:=zh (zD (g:=gb606) (o:=.cells #[.int .i64 a1_0,.int .i64 a1_1,.string a1_2] 26 (0,0)) (by (with_reducible repeat (first|refine ze ?_ _|refine zf ?_|refine zg ?_ _));exact BK606.out) hb);replace HB:=zh (zC (by repeat (with_reducible first|exact HB.out|apply za|apply zb|apply zc|refine zd ?_ GE605.out|refine zd ?_ GE606.out)) hb);(try clear hb);(try clear hb2);(try clear hk);(try clear hi);refine hK.out _ _ ⟨HS0_,HS1_,HS2_,HS3_,HS4_,HS5_⟩ (fun hHeld => ?_);clear hK K;refine norm_ (a':=?_) ?_ ?_;rotate_left
            ·
             show Act.put _ (some 99) _=_
             simp only [Act.put,zi,zj,zk,zG,zH]
             rfl
            refine pure_ (i:=9) (N:=some 10) (v:=?_) (a':=?_) (bm_ 10 10) rfl rfl (any_of HT_.out (by kernel_rfl)) (fun _ _ _ h => h) (Or.inl ⟨by rfl,?_⟩) ?_ ?_;rotate_left
            ·
             intro w'
             go_simp
             with_reducible rfl
            rotate_left
            ·
             simp only [Act.put,zi,zj,zk,zG,zH]
             rfl
            refine done_ (done_of HT_.out (by kernel_rfl)) ?_
            try go_wp2
            go_ret
            exact ⟨by first|rfl|(simp [yt,yu] <;> rfl)|(simp [*,yt,yu] <;> rfl),by repeat (with_reducible first|exact HB.out|apply za|apply zb|apply zc|refine zd ?_ GE605.out|refine zd ?_ GE606.out)⟩
           rw [if_neg c37] at H;exact absurd H (by simp)
          rw [if_neg c36] at H;exact absurd H (by simp)
         rw [if_neg c35] at H;exact absurd H (by simp)
        replace c34:=yb.mpr c34;subst c34;have H1 : ((spec_l01Bit.f (decide ((t608.length : Int) > (t612.length : Int)))).bind fun t619 => (some (wrap64 ((wrap64 (2 * t619)) - 1))))=some r:=by rw [if_neg (show ¬ (false=true) by decide)] at H;exact H
        clear H;have H:=H1;clear H1;replace H:=zT.mp H;obtain ⟨t619,A480,H⟩:=H;replace H : (some (wrap64 ((wrap64 (2 * t619)) - 1)))=some r:=H;have A48:=zh A480;clear A480;obtain rfl:=zU H;obtain ⟨Ao49,co49,eo49⟩:=yk HO_5.out;subst eo49;obtain ⟨Ao50,co50,eo50⟩:=yk HO_7.out;subst eo50
        go_wp2_with (first|((with_reducible refine zJ (f:=95) rfl ?_);refine yj (some 108) rfl rfl Try.func95 (by kernel_rfl) rfl #[.bool (decide ((t608.length : Int) > (t612.length : Int)))] rfl (by (try simp only [zt,zu,zv]);first|done|rfl|(simp only [zw,zx];rfl)|(simp only [yr,ys,zV,zW];rfl)) ?_;(with_reducible refine (spec_l01Bit.calls  (decide ((t608.length : Int) > (t612.length : Int))) t619 _ A48.out).mono ?_);rintro e w' ⟨rfl,⟨nd,rfl⟩⟩;refine ⟨_,rfl,?_⟩))
        go_ret
        exact ⟨by first|rfl|(simp [yt,yu] <;> rfl)|(simp [*,yt,yu] <;> rfl),by repeat (with_reducible first|exact HB.out|apply za|apply zb|apply zc|refine zd ?_ GE605.out|refine zd ?_ GE606.out)⟩
   rw [if_neg c18] at H;have c18b0 : (a0_0 == 4)=false:=zY.mpr c18;have c18b1 : (a0_0 != 4)=true:=zZ.mpr c18;replace H:=zT.mp H;obtain ⟨⟨t622,t623⟩,A510,H⟩:=H;replace H : ((spec_l01Fields.f k a1_2).bind fun bt626 => (spec_l01Order.l1 k t622 bt626.1 0))=some r:=H;have A51:=zh A510;clear A510;replace H:=zT.mp H;obtain ⟨⟨t626,t627⟩,A520,H⟩:=H;replace H : (spec_l01Order.l1 k t622 t626 0)=some r:=H;have A52:=zh A520;clear A520;have H':=zh H;clear H
   go_enter Try.func67,Try.ntmps67
   go_wp2_with (first|((with_reducible refine zK (N:=2) rfl ?_);(try (refine yz (by rfl) ?_;dsimp only));refine zI ?hg (N:=2) ?hd (cs:=#[.int .i64 a0_0,.int .i64 a0_1,.string a0_2]) (t:=26) ?hr ?_;(case hd => rfl);(case hg => rfl);(case hr => first|(go_simp;done)|(go_simp;rfl));intro gb605 hg w53 hbox hb;have BK605:=zh (hbox);have GW605:=zh ((by rw [hg];exact (zB (by repeat (with_reducible first|exact HB.out|apply za|apply zb|apply zc))) : w.heap.size≤gb605));have GE605:=zh ((by rw [hg];exact (zB (by repeat (with_reducible first|exact HB.out|apply za|apply zb|apply zc))) : w.heap.size≤gb605));replace HB:=zh (zC (by repeat (with_reducible first|exact HB.out|apply za|apply zb|apply zc)) hb);clear hb hbox hg)|((with_reducible refine zK (N:=3) rfl ?_);(try (refine yz (by rfl) ?_;dsimp only));refine zI ?hg (N:=3) ?hd (cs:=#[.int .i64 a1_0,.int .i64 a1_1,.string a1_2]) (t:=26) ?hr ?_;(case hd => rfl);(case hg => rfl);(case hr => first|(go_simp;done)|(go_simp;rfl));intro gb606 hg w54 hbox hb;have BK606:=zh (hbox);have GW606:=zh ((by rw [hg];exact (zB (by repeat (with_reducible first|exact HB.out|apply za|apply zb|apply zc|refine zd ?_ GE605.out))) : w.heap.size≤gb606));have GE606:=zh ((by rw [hg];exact (zB (by repeat (with_reducible first|exact HB.out|apply za|apply zb|apply zc|refine zd ?_ GE605.out))) : w.heap.size≤gb606));replace HB:=zh (zC (by repeat (with_reducible first|exact HB.out|apply za|apply zb|apply zc|refine zd ?_ GE605.out)) hb);have NB605_606:=zh ((by rw [hg];exact yc (yi (g:=gb605) (o:=.cells #[.int .i64 a0_0,.int .i64 a0_1,.string a0_2] 26 (0,0)) (by (with_reducible repeat (first|refine ze ?_ _|refine zf ?_|refine zg ?_ _));exact BK605.out)) : gb605≠gb606));have NB606_605:=zh ((by rw [hg];exact yd (yi (g:=gb605) (o:=.cells #[.int .i64 a0_0,.int .i64 a0_1,.string a0_2] 26 (0,0)) (by (with_reducible repeat (first|refine ze ?_ _|refine zf ?_|refine zg ?_ _));exact BK605.out)) : gb606≠gb605));replace BK605:=zh (zD (g:=gb605) (o:=.cells #[.int .i64 a0_0,.int .i64 a0_1,.string a0_2] 26 (0,0)) (by (with_reducible repeat (first|refine ze ?_ _|refine zf ?_|refine zg ?_ _));exact BK605.out) hb);clear hb hbox hg;have hnb55:=NB605_606.out;have hnc55:=NB606_605.out;have hcz56_0 : w54.cell? ⟨gb605,0,none⟩=some (.int .i64 a0_0):=(zz BK605.out 0).trans rfl;have hcz56_1 : w54.cell? ⟨gb605,1,none⟩=some (.int .i64 a0_1):=(zz BK605.out 1).trans rfl;have hcz56_2 : w54.cell? ⟨gb605,2,none⟩=some (.string a0_2):=(zz BK605.out 2).trans rfl;have hfz56_0:=zA BK605.out 0;have hfz56_1:=zA BK605.out 1;have hfz56_2:=zA BK605.out 2;have hcz57_0 : w54.cell? ⟨gb606,0,none⟩=some (.int .i64 a1_0):=(zz BK606.out 0).trans rfl;have hcz57_1 : w54.cell? ⟨gb606,1,none⟩=some (.int .i64 a1_1):=(zz BK606.out 1).trans rfl;have hcz57_2 : w54.cell? ⟨gb606,2,none⟩=some (.string a1_2):=(zz BK606.out 2).trans rfl;have hfz57_0:=zA BK606.out 0;have hfz57_1:=zA BK606.out 1;have hfz57_2:=zA BK606.out 2)|((with_reducible refine zJ (f:=64) rfl ?_);refine yj (some 114) rfl rfl Try.func64 (by kernel_rfl) rfl #[.string a0_2] rfl (by (try simp only [zt,zu,zv]);first|done|rfl|(simp only [zw,zx];rfl)|(simp only [yr,ys,zV,zW];rfl)) ?_;(with_reducible refine (spec_l01Fields.calls k  a0_2 t622 t623 _ A51.out).mono ?_);rintro e w58 ⟨v624,rfl,ho0,hb⟩;refine ⟨_,rfl,?_⟩;have HO625:=zh (yy ho0 (zB (by repeat (with_reducible first|exact HB.out|apply za|apply zb|apply zc|refine zd ?_ GE605.out|refine zd ?_ GE606.out))));replace BK605:=zh (zD (g:=gb605) (o:=.cells #[.int .i64 a0_0,.int .i64 a0_1,.string a0_2] 26 (0,0)) (by (with_reducible repeat (first|refine ze ?_ _|refine zf ?_|refine zg ?_ _));exact BK605.out) hb);replace BK606:=zh (zD (g:=gb606) (o:=.cells #[.int .i64 a1_0,.int .i64 a1_1,.string a1_2] 26 (0,0)) (by (with_reducible repeat (first|refine ze ?_ _|refine zf ?_|refine zg ?_ _));exact BK606.out) hb);replace HB:=zh (zC (by repeat (with_reducible first|exact HB.out|apply za|apply zb|apply zc|refine zd ?_ GE605.out|refine zd ?_ GE606.out)) hb);(try clear hb);(try clear hb2);(try clear hk);(try clear hi);(try clear ho0);have hcz59_0 : w58.cell? ⟨gb606,0,none⟩=some (.int .i64 a1_0):=(zz BK606.out 0).trans rfl;have hcz59_1 : w58.cell? ⟨gb606,1,none⟩=some (.int .i64 a1_1):=(zz BK606.out 1).trans rfl;have hcz59_2 : w58.cell? ⟨gb606,2,none⟩=some (.string a1_2):=(zz BK606.out 2).trans rfl;have hfz59_0:=zA BK606.out 0;have hfz59_1:=zA BK606.out 1;have hfz59_2:=zA BK606.out 2)|((with_reducible refine zJ (f:=64) rfl ?_);refine yj (some 120) rfl rfl Try.func64 (by kernel_rfl) rfl #[.string a1_2] rfl (by (try simp only [zt,zu,zv]);first|done|rfl|(simp only [zw,zx];rfl)|(simp only [yr,ys,zV,zW];rfl)) ?_;(with_reducible refine (spec_l01Fields.calls k  a1_2 t626 t627 _ A52.out).mono ?_);rintro e w60 ⟨v628,rfl,ho0,hb⟩;refine ⟨_,rfl,?_⟩;have HO629:=zh (yy (Kd.R_new' ho0 (Kd.R_lt (by (with_reducible repeat (first|apply zm|apply zn|apply zo));exact HO625.out))) (zB (by repeat (with_reducible first|exact HB.out|apply za|apply zb|apply zc|refine zd ?_ GE605.out|refine zd ?_ GE606.out))));replace HO625:=zh (Kd.R_elder' (by (with_reducible repeat (first|apply zm|apply zn|apply zo));exact HO625.out) (Kd.R_base ho0) hb);replace BK605:=zh (zD (g:=gb605) (o:=.cells #[.int .i64 a0_0,.int .i64 a0_1,.string a0_2] 26 (0,0)) (by (with_reducible repeat (first|refine ze ?_ _|refine zf ?_|refine zg ?_ _));exact BK605.out) hb);replace BK606:=zh (zD (g:=gb606) (o:=.cells #[.int .i64 a1_0,.int .i64 a1_1,.string a1_2] 26 (0,0)) (by (with_reducible repeat (first|refine ze ?_ _|refine zf ?_|refine zg ?_ _));exact BK606.out) hb);replace HB:=zh (zC (by repeat (with_reducible first|exact HB.out|apply za|apply zb|apply zc|refine zd ?_ GE605.out|refine zd ?_ GE606.out)) hb);(try clear hb);(try clear hb2);(try clear hk);(try clear hi);(try clear ho0)))
   go_loopg [15] k (fun kq v15 w' => ∃ (x15_1 : Int),v15 = .int .i64 x15_1∧Aside0 (spec_l01Order.l1 kq t622 t626 x15_1=some r)∧Aside0 (kq≤k)∧Aside0 (Kd.R k68 68 w' w.heap.size (fun k_ => some k_≠(v628 : Value).ownBlock) v624 t622)∧Aside0 (Kd.R k68 68 w' w.heap.size (fun k_ => some k_≠(v624 : Value).ownBlock) v628 t626)∧Aside0 (w'.heap[gb605]? = some (.cells #[.int .i64 a0_0,.int .i64 a0_1,.string a0_2] 26 (0,0)))∧Aside0 (w'.heap[gb606]? = some (.cells #[.int .i64 a1_0,.int .i64 a1_1,.string a1_2] 26 (0,0)))∧Aside0 (Below w.heap.size w w'))
   case atStart => exact ⟨(0),(by first|rfl|(simp;done)|(simp [*];done)),H',⟨ye _⟩,⟨by (with_reducible repeat (first|apply zm|apply zn|apply zo));exact zM HO625.out (fun _ hk => hk.2)⟩,⟨by (with_reducible repeat (first|apply zm|apply zn|apply zo));exact zM HO629.out (fun _ hk => hk.2)⟩,⟨by (with_reducible repeat (first|refine ze ?_ _|refine zf ?_|refine zg ?_ _));exact BK605.out⟩,⟨by (with_reducible repeat (first|refine ze ?_ _|refine zf ?_|refine zg ?_ _));exact BK606.out⟩,⟨by repeat (with_reducible first|exact HB.out|apply za|apply zb|apply zc|refine zd ?_ GE605.out|refine zd ?_ GE606.out)⟩⟩
   case round =>
    clear H'
    try clear c1
    try clear c2
    try clear p2
    try clear c3
    try clear c3b0
    try clear c3b1
    try clear c4
    try clear c4b0
    try clear c4b1
    try clear c5
    try clear c5b0
    try clear c5b1
    try clear c6
    try clear p6
    try clear q6
    try clear hx6
    try clear c8
    try clear c9
    try clear c11
    try clear c11b0
    try clear c11b1
    try clear c15
    try clear c18
    try clear c18b0
    try clear c18b1
    try clear c23
    try clear c30
    try clear c30b0
    try clear c34
    try clear c35
    try clear c35b0
    try clear c36
    try clear c36b0
    try clear c37
    try clear c37b0
    try clear c39
    try clear c39b0
    try clear c39b1
    try clear c55
    try clear hcz10_0
    try clear hcz10_1
    try clear hcz10_2
    try clear hcz16_0
    try clear hcz16_1
    try clear hcz16_2
    try clear hcz17_0
    try clear hcz17_1
    try clear hcz17_2
    try clear hcz24_0
    try clear hcz24_1
    try clear hcz24_2
    try clear hcz25_0
    try clear hcz25_1
    try clear hcz25_2
    try clear hcz27_0
    try clear hcz27_1
    try clear hcz27_2
    try clear hcz56_0
    try clear hcz56_1
    try clear hcz56_2
    try clear hcz57_0
    try clear hcz57_1
    try clear hcz57_2
    try clear hcz59_0
    try clear hcz59_1
    try clear hcz59_2
    try clear hcz9_0
    try clear hcz9_1
    try clear hcz9_2
    try clear hfz10_0
    try clear hfz10_1
    try clear hfz10_2
    try clear hfz16_0
    try clear hfz16_1
    try clear hfz16_2
    try clear hfz17_0
    try clear hfz17_1
    try clear hfz17_2
    try clear hfz24_0
    try clear hfz24_1
    try clear hfz24_2
    try clear hfz25_0
    try clear hfz25_1
    try clear hfz25_2
    try clear hfz27_0
    try clear hfz27_1
    try clear hfz27_2
    try clear hfz56_0
    try clear hfz56_1
    try clear hfz56_2
    try clear hfz57_0
    try clear hfz57_1
    try clear hfz57_2
    try clear hfz59_0
    try clear hfz59_1
    try clear hfz59_2
    try clear hfz9_0
    try clear hfz9_1
    try clear hfz9_2
    try clear hx616_0
    try clear hx616_1
    try clear hx616_2
    try clear hx617_0
    try clear hx617_1
    try clear hx617_2
    try clear p2
    try clear p6
    try clear p616
    try clear p617
    try clear q616
    try clear q617
    obtain ⟨x15_1,rfl,HA,HK1,HO_11,HO_13,BK605,BK606,HB⟩:=hrel
    cases gk with
    | zero => exact absurd HA.out (by simp [spec_l01Order.l1])
    | succ k1 =>
     have H:=HA.out;clear HA;simp only [spec_l01Order.l1] at H;have HC61:=zh H;clear H
     go_upto_region 22 with (fail)
     go_cut [132] (fun v132 wc => ∃ (kq : Nat) (x132_60 : Bool),v132 = .bool x132_60∧Aside0 (spec_l01Order.j3 kq t622 t626 x15_1 x132_60=some r)∧Aside0 (kq≤k1)∧Aside0 (Kd.R k68 68 wc w.heap.size (fun k_ => some k_≠(v628 : Value).ownBlock) v624 t622)∧Aside0 (Kd.R k68 68 wc w.heap.size (fun k_ => some k_≠(v624 : Value).ownBlock) v628 t626)∧Aside0 (wc.heap[gb605]? = some (.cells #[.int .i64 a0_0,.int .i64 a0_1,.string a0_2] 26 (0,0)))∧Aside0 (wc.heap[gb606]? = some (.cells #[.int .i64 a1_0,.int .i64 a1_1,.string a1_2] 26 (0,0)))∧Aside0 (Below w.heap.size w wc))
     case first =>
      have H:=HC61.out;clear HC61
      by_cases c62 : x15_1<(t622.length : Int)
      ·
       rw [if_pos c62] at H
       have c62b0 : decide (x15_1<(t622.length : Int))=true:=decide_eq_true c62;clear c62;(first|rw [c62b0]|(simp only [zG,zH];rw [c62b0])|skip);have H':=zh H;clear H;obtain ⟨Ao63,co63,eo63⟩:=yk HO_11.out;subst eo63;obtain ⟨Ao64,co64,eo64⟩:=yk HO_13.out;subst eo64
       go_wp2
       go_meet
       case rel => exact ⟨_,(decide (x15_1<(t626.length : Int))),(by first|rfl|(simp;done)|(simp [*];done)),H',⟨by have:=HK1.out;first|omega|exact ye _⟩,⟨by (with_reducible repeat (first|apply zm|apply zn|apply zo));exact HO_11.out⟩,⟨by (with_reducible repeat (first|apply zm|apply zn|apply zo));exact HO_13.out⟩,⟨by (with_reducible repeat (first|refine ze ?_ _|refine zf ?_|refine zg ?_ _));exact BK605.out⟩,⟨by (with_reducible repeat (first|refine ze ?_ _|refine zf ?_|refine zg ?_ _));exact BK606.out⟩,⟨by repeat (with_reducible first|exact HB.out|apply za|apply zb|apply zc|refine zd ?_ GE605.out|refine zd ?_ GE606.out)⟩⟩
      rw [if_neg c62] at H;have c62b0 : decide (x15_1<(t622.length : Int))=false:=decide_eq_false c62;clear c62;(first|rw [c62b0]|(simp only [zG,zH];rw [c62b0])|skip);have H':=zh H;clear H;obtain ⟨Ao65,co65,eo65⟩:=yk HO_11.out;subst eo65
      go_wp2
      go_meet
      case rel => exact ⟨_,(false),(by first|rfl|(simp;done)|(simp [*];done)),H',⟨by have:=HK1.out;first|omega|exact ye _⟩,⟨by (with_reducible repeat (first|apply zm|apply zn|apply zo));exact HO_11.out⟩,⟨by (with_reducible repeat (first|apply zm|apply zn|apply zo));exact HO_13.out⟩,⟨by (with_reducible repeat (first|refine ze ?_ _|refine zf ?_|refine zg ?_ _));exact BK605.out⟩,⟨by (with_reducible repeat (first|refine ze ?_ _|refine zf ?_|refine zg ?_ _));exact BK606.out⟩,⟨by repeat (with_reducible first|exact HB.out|apply za|apply zb|apply zc|refine zd ?_ GE605.out|refine zd ?_ GE606.out)⟩⟩
     case rest =>
      clear HC61
      try clear c1
      try clear c2
      try clear p2
      try clear c3
      try clear c3b0
      try clear c3b1
      try clear c4
      try clear c4b0
      try clear c4b1
      try clear c5
      try clear c5b0
      try clear c5b1
      try clear c6
      try clear p6
      try clear q6
      try clear hx6
      try clear c8
      try clear c9
      try clear c11
      try clear c11b0
      try clear c11b1
      try clear c15
      try clear c18
      try clear c18b0
      try clear c18b1
      try clear c23
      try clear c30
      try clear c30b0
      try clear c34
      try clear c35
      try clear c35b0
      try clear c36
      try clear c36b0
      try clear c37
      try clear c37b0
      try clear c39
      try clear c39b0
      try clear c39b1
      try clear c55
      try clear p61
      try clear q61
      try clear hx61
      try clear c62
      try clear c62b0
      try clear c64
      try clear p64
      try clear hcz10_0
      try clear hcz10_1
      try clear hcz10_2
      try clear hcz16_0
      try clear hcz16_1
      try clear hcz16_2
      try clear hcz17_0
      try clear hcz17_1
      try clear hcz17_2
      try clear hcz24_0
      try clear hcz24_1
      try clear hcz24_2
      try clear hcz25_0
      try clear hcz25_1
      try clear hcz25_2
      try clear hcz27_0
      try clear hcz27_1
      try clear hcz27_2
      try clear hcz56_0
      try clear hcz56_1
      try clear hcz56_2
      try clear hcz57_0
      try clear hcz57_1
      try clear hcz57_2
      try clear hcz59_0
      try clear hcz59_1
      try clear hcz59_2
      try clear hcz9_0
      try clear hcz9_1
      try clear hcz9_2
      try clear hfz10_0
      try clear hfz10_1
      try clear hfz10_2
      try clear hfz16_0
      try clear hfz16_1
      try clear hfz16_2
      try clear hfz17_0
      try clear hfz17_1
      try clear hfz17_2
      try clear hfz24_0
      try clear hfz24_1
      try clear hfz24_2
      try clear hfz25_0
      try clear hfz25_1
      try clear hfz25_2
      try clear hfz27_0
      try clear hfz27_1
      try clear hfz27_2
      try clear hfz56_0
      try clear hfz56_1
      try clear hfz56_2
      try clear hfz57_0
      try clear hfz57_1
      try clear hfz57_2
      try clear hfz59_0
      try clear hfz59_1
      try clear hfz59_2
      try clear hfz9_0
      try clear hfz9_1
      try clear hfz9_2
      try clear hx616_0
      try clear hx616_1
      try clear hx616_2
      try clear hx617_0
      try clear hx617_1
      try clear hx617_2
      try clear p2
      try clear p6
      try clear p616
      try clear p617
      try clear q6
      try clear q616
      try clear q617
      obtain ⟨kq,x132_60,rfl,HA,HJ60,HO_11,HO_13,BK605,BK606,HB⟩:=hcut
      cases kq with
      | zero => exact absurd HA.out (by simp [spec_l01Order.j3])
      | succ kj60 =>
       have H:=HA.out;clear HA;simp only [spec_l01Order.j3] at H
       by_cases c66 : x132_60=true
       ·
        subst c66
        have H1 : (if 0≤x15_1 then (if x15_1<(t622.length : Int) then (if x15_1<(t626.length : Int) then (if ((rd_T68 t622 x15_1).f0).toList=((rd_T68 t626 x15_1).f0).toList then ((spec_l01Order.f kj60 ((rd_T68 t622 x15_1).f1.f0) ((rd_T68 t622 x15_1).f1.f1) ((rd_T68 t622 x15_1).f1.f2) ((rd_T68 t626 x15_1).f1.f0) ((rd_T68 t626 x15_1).f1.f1) ((rd_T68 t626 x15_1).f1.f2)).bind fun t635 => (if t635=0 then (spec_l01Order.l1 kj60 t622 t626 (wrap64 (x15_1 + 1))) else (some t635))) else ((spec_l01Bit.f (Op.bytesLess (((rd_T68 t626 x15_1).f0).toList) (((rd_T68 t622 x15_1).f0).toList))).bind fun t638 => (some (wrap64 ((wrap64 (2 * t638)) - 1))))) else (none)) else (none)) else (none))=some r:=by rw [if_pos rfl] at H;exact H
        clear H;have H:=H1;clear H1
        by_cases c67 : 0≤x15_1
        ·
         rw [if_pos c67] at H
         have c67b0 : decide (0≤x15_1)=true:=decide_eq_true c67;clear c67
         by_cases c68 : x15_1<(t622.length : Int)
         ·
          rw [if_pos c68] at H
          have c68b0 : decide (x15_1<(t622.length : Int))=true:=decide_eq_true c68;clear c68
          by_cases c69 : x15_1<(t626.length : Int)
          ·
           rw [if_pos c69] at H
           have c69b0 : decide (x15_1<(t626.length : Int))=true:=decide_eq_true c69;clear c69
           by_cases c70 : ((rd_T68 t622 x15_1).f0).toList=((rd_T68 t626 x15_1).f0).toList
           ·
            rw [if_pos c70] at H
            have c70b0 : (((rd_T68 t622 x15_1).f0).toList == ((rd_T68 t626 x15_1).f0).toList)=true:=ya.mpr c70;have c70b1 : (((rd_T68 t622 x15_1).f0).toList != ((rd_T68 t626 x15_1).f0).toList)=false:=zX.mpr c70;clear c70;replace H:=zT.mp H;obtain ⟨t635,A710,H⟩:=H;replace H : (if t635=0 then (spec_l01Order.l1 kj60 t622 t626 (wrap64 (x15_1 + 1))) else (some t635))=some r:=H;have A71:=zh A710;clear A710
            by_cases c72 : t635=0
            ·
             rw [if_pos c72] at H
             have c72b0 : (t635 == 0)=true:=ya.mpr c72;have c72b1 : (t635 != 0)=false:=zX.mpr c72;clear c72;have H':=zh H;clear H
             try go_wp2
             replace HO_11:=zh (zo HO_11.out);replace HO_13:=zh (zo HO_13.out);replace BK605:=zh (zf BK605.out);replace BK606:=zh (zf BK606.out);replace HB:=zh (zc HB.out);obtain ⟨Ao74,co74,eo74⟩:=yk HO_11.out;(first|subst eo74|(injection eo74 with f1_ f2_ f3_;have f4_:=f1_.symm;have f5_:=f3_.symm;clear f1_ f2_ f3_;subst f4_;subst f5_));have p631 : 0≤(x15_1 : Int):=zy (by first|(with_reducible assumption)|assumption);have q631 : x15_1<(t622.length : Int):=zy (by first|(with_reducible assumption)|assumption);obtain ⟨ad631,e631,hx631_0,hx631_1,hx631_2,hx631_3⟩:=at_T68 (yh HO_11.out).2.2 x15_1 p631 q631
             cases e631
             replace p631:=eq_true p631;replace q631:=eq_true q631;obtain ⟨Ao75,co75,eo75⟩:=yk HO_13.out;(first|subst eo75|(injection eo75 with f1_ f2_ f3_;have f4_:=f1_.symm;have f5_:=f3_.symm;clear f1_ f2_ f3_;subst f4_;subst f5_));have p632 : 0≤(x15_1 : Int):=zy (by first|(with_reducible assumption)|assumption);have q632 : x15_1<(t626.length : Int):=zy (by first|(with_reducible assumption)|assumption);obtain ⟨ad632,e632,hx632_0,hx632_1,hx632_2,hx632_3⟩:=at_T68 (yh HO_13.out).2.2 x15_1 p632 q632
             cases e632
             replace p632:=eq_true p632;replace q632:=eq_true q632;refine start_ (n:=11) (S:=fun w' => w'.cell? (ad631.add ((x15_1).toNat * 4))=some (.string ((rd_T68 t622 x15_1).f0))∧w'.cell? ⟨(ad631.add ((x15_1).toNat * 4)).block,(ad631.add ((x15_1).toNat * 4)).off + 1,none⟩=some (.int .i64 ((rd_T68 t622 x15_1).f1.f0))∧w'.cell? ⟨(ad631.add ((x15_1).toNat * 4)).block,(ad631.add ((x15_1).toNat * 4)).off + 2,none⟩=some (.int .i64 ((rd_T68 t622 x15_1).f1.f1))∧w'.cell? ⟨(ad631.add ((x15_1).toNat * 4)).block,(ad631.add ((x15_1).toNat * 4)).off + 3,none⟩=some (.string ((rd_T68 t622 x15_1).f1.f2))∧w'.cell? (ad632.add ((x15_1).toNat * 4))=some (.string ((rd_T68 t626 x15_1).f0))∧w'.cell? ⟨(ad632.add ((x15_1).toNat * 4)).block,(ad632.add ((x15_1).toNat * 4)).off + 1,none⟩=some (.int .i64 ((rd_T68 t626 x15_1).f1.f0))∧w'.cell? ⟨(ad632.add ((x15_1).toNat * 4)).block,(ad632.add ((x15_1).toNat * 4)).off + 2,none⟩=some (.int .i64 ((rd_T68 t626 x15_1).f1.f1))∧w'.cell? ⟨(ad632.add ((x15_1).toNat * 4)).block,(ad632.add ((x15_1).toNat * 4)).off + 3,none⟩=some (.string ((rd_T68 t626 x15_1).f1.f2))) (ds:=[]) (bm_ 0 11) (by kernel_rfl) rfl rfl ⟨hx631_0,hx631_1,hx631_2,hx631_3,hx632_0,hx632_1,hx632_2,hx632_3⟩ (fun hHeld => ?_);refine with_tabW spec_l01Order.tab24 spec_l01Order.bits24 (fun HT_ HW_ => ?_);generalize wc.drew=w73 at HO_11 HO_13 BK605 BK606 HB hx631_0 hx631_1 hx631_2 hx631_3 hx632_0 hx632_1 hx632_2 hx632_3 hHeld ⊢;refine pure_ (i:=0) (N:=some 135) (v:=?_) (a':=?_) (bm_ 1 11) rfl rfl (any_of HT_.out (by kernel_rfl)) (fun _ _ _ h => h) (Or.inl ⟨by rfl,?_⟩) ?_ ?_;rotate_left
             ·
              intro w'
              go_simp
              with_reducible rfl
             rotate_left
             ·
              simp only [Act.put,zi,zj,zk,zG,zH]
              rfl
             refine pure_ (i:=1) (N:=some 136) (v:=?_) (a':=?_) (bm_ 2 11) rfl rfl (any_of HT_.out (by kernel_rfl)) (fun _ _ _ h => h) (Or.inl ⟨by rfl,?_⟩) ?_ ?_;rotate_left
             ·
              intro w'
              go_simp
              with_reducible rfl
             rotate_left
             ·
              simp only [Act.put,zi,zj,zk,zG,zH]
              rfl
             refine pure_ (i:=2) (N:=some 137) (v:=?_) (a':=?_) (bm_ 3 11) rfl rfl (any_of HT_.out (by kernel_rfl)) (fun _ _ _ h => h) (Or.inl ⟨by rfl,?_⟩) ?_ ?_;rotate_left
             ·
              intro w'
              go_simp
              with_reducible rfl
             rotate_left
             ·
              simp only [Act.put,zi,zj,zk,zG,zH]
              rfl
             refine pure_ (i:=3) (N:=some 138) (v:=?_) (a':=?_) (bm_ 4 11) rfl rfl (any_of HT_.out (by kernel_rfl)) (fun _ _ _ h => h) (Or.inl ⟨by rfl,?_⟩) ?_ ?_;rotate_left
             ·
              intro w'
              go_simp
              with_reducible rfl
             rotate_left
             ·
              simp only [Act.put,zi,zj,zk,zG,zH]
              rfl
             refine pure_ (i:=5) (N:=some 140) (v:=?_) (a':=?_) #[true,true,true,true,false,true,false,false,false,false,false] rfl rfl (any_of HT_.out (by kernel_rfl)) (fun _ _ _ h => h) (Or.inl ⟨by rfl,?_⟩) ?_ ?_;rotate_left
             ·
              intro w'
              go_simp
              with_reducible rfl
             rotate_left
             ·
              simp only [Act.put,zi,zj,zk,zG,zH]
              rfl
             refine pure_ (i:=6) (N:=some 141) (v:=?_) (a':=?_) #[true,true,true,true,false,true,true,false,false,false,false] rfl rfl (any_of HT_.out (by kernel_rfl)) (fun _ _ _ h => h) (Or.inl ⟨by rfl,?_⟩) ?_ ?_;rotate_left
             ·
              intro w'
              go_simp
              with_reducible rfl
             rotate_left
             ·
              simp only [Act.put,zi,zj,zk,zG,zH]
              rfl
             refine pure_ (i:=7) (N:=some 142) (v:=?_) (a':=?_) #[true,true,true,true,false,true,true,true,false,false,false] rfl rfl (any_of HT_.out (by kernel_rfl)) (fun _ _ _ h => h) (Or.inl ⟨by rfl,?_⟩) ?_ ?_;rotate_left
             ·
              intro w'
              go_simp
              with_reducible rfl
             rotate_left
             ·
              simp only [Act.put,zi,zj,zk,zG,zH]
              rfl
             refine pure_ (i:=8) (N:=some 143) (v:=?_) (a':=?_) #[true,true,true,true,false,true,true,true,true,false,false] rfl rfl (any_of HT_.out (by kernel_rfl)) (fun _ _ _ h => h) (Or.inl ⟨by rfl,?_⟩) ?_ ?_;rotate_left
             ·
              intro w'
              go_simp
              with_reducible rfl
             rotate_left
             ·
              simp only [Act.put,zi,zj,zk,zG,zH]
              rfl
             refine take_ (i:=4) (N:=some 139) (v:=?_) (a':=?_) (bm_ 9 11) rfl rfl (yo HT_.out HW_.out (by kernel_rfl)) (fun _ _ _ h => h) (Or.inl ⟨by rfl,?_⟩) hHeld ?_ ?_;rotate_left
             ·
              rintro w' ⟨s0,s1,s2,s3,s4,s5,s6,s7⟩
              go_simp
              with_reducible rfl
             rotate_left
             ·
              simp only [Act.put,zi,zj,zk,zG,zH]
              rfl
             refine take_ (i:=9) (N:=some 144) (v:=?_) (a':=?_) (bm_ 10 11) rfl rfl (yo HT_.out HW_.out (by kernel_rfl)) (fun _ _ _ h => h) (Or.inl ⟨by rfl,?_⟩) hHeld ?_ ?_;rotate_left
             ·
              rintro w' ⟨s0,s1,s2,s3,s4,s5,s6,s7⟩
              go_simp
              with_reducible rfl
             rotate_left
             ·
              simp only [Act.put,zi,zj,zk,zG,zH]
              rfl
             refine pure_ (i:=10) (N:=some 145) (v:=?_) (a':=?_) (bm_ 11 11) rfl rfl (any_of HT_.out (by kernel_rfl)) (fun _ _ _ h => h) (Or.inl ⟨by rfl,?_⟩) ?_ ?_;rotate_left
             ·
              intro w'
              go_simp
              with_reducible rfl
             rotate_left
             ·
              simp only [Act.put,zi,zj,zk,zG,zH]
              rfl
             refine done_ (done_of HT_.out (by kernel_rfl)) ?_
             try go_wp2
             replace HO_11:=zh (zo HO_11.out);replace HO_13:=zh (zo HO_13.out);replace BK605:=zh (zf BK605.out);replace BK606:=zh (zf BK606.out);replace HB:=zh (zc HB.out);have p633 : 0≤(x15_1 : Int):=zy (by first|(with_reducible assumption)|assumption);have q633 : x15_1<(t622.length : Int):=zy (by first|(with_reducible assumption)|assumption);obtain ⟨ad633,e633,hx633_0,hx633_1,hx633_2,hx633_3⟩:=at_T68 (yh HO_11.out).2.2 x15_1 p633 q633;obtain rfl : ad631=ad633:=(by injection e633);replace p633:=eq_true p633;replace q633:=eq_true q633;have p634 : 0≤(x15_1 : Int):=zy (by first|(with_reducible assumption)|assumption);have q634 : x15_1<(t626.length : Int):=zy (by first|(with_reducible assumption)|assumption);obtain ⟨ad634,e634,hx634_0,hx634_1,hx634_2,hx634_3⟩:=at_T68 (yh HO_13.out).2.2 x15_1 p634 q634;obtain rfl : ad632=ad634:=(by injection e634);replace p634:=eq_true p634;replace q634:=eq_true q634;refine start_ (n:=12) (S:=fun w' => w'.cell? (ad631.add ((x15_1).toNat * 4))=some (.string ((rd_T68 t622 x15_1).f0))∧w'.cell? ⟨(ad631.add ((x15_1).toNat * 4)).block,(ad631.add ((x15_1).toNat * 4)).off + 1,none⟩=some (.int .i64 ((rd_T68 t622 x15_1).f1.f0))∧w'.cell? ⟨(ad631.add ((x15_1).toNat * 4)).block,(ad631.add ((x15_1).toNat * 4)).off + 2,none⟩=some (.int .i64 ((rd_T68 t622 x15_1).f1.f1))∧w'.cell? ⟨(ad631.add ((x15_1).toNat * 4)).block,(ad631.add ((x15_1).toNat * 4)).off + 3,none⟩=some (.string ((rd_T68 t622 x15_1).f1.f2))∧w'.cell? (ad632.add ((x15_1).toNat * 4))=some (.string ((rd_T68 t626 x15_1).f0))∧w'.cell? ⟨(ad632.add ((x15_1).toNat * 4)).block,(ad632.add ((x15_1).toNat * 4)).off + 1,none⟩=some (.int .i64 ((rd_T68 t626 x15_1).f1.f0))∧w'.cell? ⟨(ad632.add ((x15_1).toNat * 4)).block,(ad632.add ((x15_1).toNat * 4)).off + 2,none⟩=some (.int .i64 ((rd_T68 t626 x15_1).f1.f1))∧w'.cell? ⟨(ad632.add ((x15_1).toNat * 4)).block,(ad632.add ((x15_1).toNat * 4)).off + 3,none⟩=some (.string ((rd_T68 t626 x15_1).f1.f2))) (ds:=[]) (bm_ 0 12) (by kernel_rfl) rfl rfl ⟨hx633_0,hx633_1,hx633_2,hx633_3,hx634_0,hx634_1,hx634_2,hx634_3⟩ (fun hHeld => ?_);refine with_tabW spec_l01Order.tab26 spec_l01Order.bits26 (fun HT_ HW_ => ?_);generalize w73.drew=w76 at HO_11 HO_13 BK605 BK606 HB hx633_0 hx633_1 hx633_2 hx633_3 hx634_0 hx634_1 hx634_2 hx634_3 hHeld ⊢;refine pure_ (i:=0) (N:=some 160) (v:=?_) (a':=?_) (bm_ 1 12) rfl rfl (any_of HT_.out (by kernel_rfl)) (fun _ _ _ h => h) (Or.inl ⟨by rfl,?_⟩) ?_ ?_;rotate_left
             ·
              intro w'
              go_simp
              with_reducible rfl
             rotate_left
             ·
              simp only [Act.put,zi,zj,zk,zG,zH]
              rfl
             refine pure_ (i:=1) (N:=some 161) (v:=?_) (a':=?_) (bm_ 2 12) rfl rfl (any_of HT_.out (by kernel_rfl)) (fun _ _ _ h => h) (Or.inl ⟨by rfl,?_⟩) ?_ ?_;rotate_left
             ·
              intro w'
              go_simp
              with_reducible rfl
             rotate_left
             ·
              simp only [Act.put,zi,zj,zk,zG,zH]
              rfl
             refine pure_ (i:=2) (N:=some 162) (v:=?_) (a':=?_) (bm_ 3 12) rfl rfl (any_of HT_.out (by kernel_rfl)) (fun _ _ _ h => h) (Or.inl ⟨by rfl,?_⟩) ?_ ?_;rotate_left
             ·
              intro w'
              go_simp
              with_reducible rfl
             rotate_left
             ·
              simp only [Act.put,zi,zj,zk,zG,zH]
              rfl
             refine pure_ (i:=3) (N:=some 163) (v:=?_) (a':=?_) (bm_ 4 12) rfl rfl (any_of HT_.out (by kernel_rfl)) (fun _ _ _ h => h) (Or.inl ⟨by rfl,?_⟩) ?_ ?_;rotate_left
             ·
              intro w'
              go_simp
              with_reducible rfl
             rotate_left
             ·
              simp only [Act.put,zi,zj,zk,zG,zH]
              rfl
             refine pure_ (i:=5) (N:=some 165) (v:=?_) (a':=?_) #[true,true,true,true,false,true,false,false,false,false,false,false] rfl rfl (any_of HT_.out (by kernel_rfl)) (fun _ _ _ h => h) (Or.inl ⟨by rfl,?_⟩) ?_ ?_;rotate_left
             ·
              intro w'
              go_simp
              with_reducible rfl
             rotate_left
             ·
              simp only [Act.put,zi,zj,zk,zG,zH]
              rfl
             refine pure_ (i:=6) (N:=some 166) (v:=?_) (a':=?_) #[true,true,true,true,false,true,true,false,false,false,false,false] rfl rfl (any_of HT_.out (by kernel_rfl)) (fun _ _ _ h => h) (Or.inl ⟨by rfl,?_⟩) ?_ ?_;rotate_left
             ·
              intro w'
              go_simp
              with_reducible rfl
             rotate_left
             ·
              simp only [Act.put,zi,zj,zk,zG,zH]
              rfl
             refine pure_ (i:=7) (N:=some 167) (v:=?_) (a':=?_) #[true,true,true,true,false,true,true,true,false,false,false,false] rfl rfl (any_of HT_.out (by kernel_rfl)) (fun _ _ _ h => h) (Or.inl ⟨by rfl,?_⟩) ?_ ?_;rotate_left
             ·
              intro w'
              go_simp
              with_reducible rfl
             rotate_left
             ·
              simp only [Act.put,zi,zj,zk,zG,zH]
              rfl
             refine pure_ (i:=8) (N:=some 168) (v:=?_) (a':=?_) #[true,true,true,true,false,true,true,true,true,false,false,false] rfl rfl (any_of HT_.out (by kernel_rfl)) (fun _ _ _ h => h) (Or.inl ⟨by rfl,?_⟩) ?_ ?_;rotate_left
             ·
              intro w'
              go_simp
              with_reducible rfl
             rotate_left
             ·
              simp only [Act.put,zi,zj,zk,zG,zH]
              rfl
             refine take_ (i:=4) (N:=some 164) (v:=?_) (a':=?_) (bm_ 9 12) rfl rfl (yo HT_.out HW_.out (by kernel_rfl)) (fun _ _ _ h => h) (Or.inl ⟨by rfl,?_⟩) hHeld ?_ ?_;rotate_left
             ·
              rintro w' ⟨s0,s1,s2,s3,s4,s5,s6,s7⟩
              go_simp
              with_reducible rfl
             rotate_left
             ·
              simp only [Act.put,zi,zj,zk,zG,zH]
              rfl
             refine take_ (i:=9) (N:=some 169) (v:=?_) (a':=?_) (bm_ 10 12) rfl rfl (yo HT_.out HW_.out (by kernel_rfl)) (fun _ _ _ h => h) (Or.inl ⟨by rfl,?_⟩) hHeld ?_ ?_;rotate_left
             ·
              rintro w' ⟨s0,s1,s2,s3,s4,s5,s6,s7⟩
              go_simp
              with_reducible rfl
             rotate_left
             ·
              simp only [Act.put,zi,zj,zk,zG,zH]
              rfl
             refine one_ (i:=10) (N:=some 170) (bm_ 11 12) rfl rfl (one_of HT_.out (by kernel_rfl)) (by decide) (fun K hK => ?_);refine goes_ Try.func67 (by kernel_rfl) rfl #[.agg #[.int .i64 ((rd_T68 t622 x15_1).f1.f0),.int .i64 ((rd_T68 t622 x15_1).f1.f1),.string ((rd_T68 t622 x15_1).f1.f2)],.agg #[.int .i64 ((rd_T68 t626 x15_1).f1.f0),.int .i64 ((rd_T68 t626 x15_1).f1.f1),.string ((rd_T68 t626 x15_1).f1.f2)]] (by rfl) rfl rfl (by (try simp only [zt,zu,zv]);first|done|rfl|(simp only [zw,zx];rfl)|(simp only [yr,ys,zV,zW];rfl)) ?_
             with_reducible refine (ih kj60 (by have:=HK1.out;have:=HJ60.out;omega)  ((rd_T68 t622 x15_1).f1.f0) ((rd_T68 t622 x15_1).f1.f1) ((rd_T68 t622 x15_1).f1.f2) ((rd_T68 t626 x15_1).f1.f0) ((rd_T68 t626 x15_1).f1.f1) ((rd_T68 t626 x15_1).f1.f2) t635 _ A71.out).mono ?_
             rintro e w77 ⟨rfl,hb⟩;have HS0_:=(hb.cell (zl _ _ (hHeld.1))).trans (hHeld.1);have HS1_:=(hb.cell (zl _ _ (hHeld.2.1))).trans (hHeld.2.1);have HS2_:=(hb.cell (zl _ _ (hHeld.2.2.1))).trans (hHeld.2.2.1);have HS3_:=(hb.cell (zl _ _ (hHeld.2.2.2.1))).trans (hHeld.2.2.2.1);have HS4_:=(hb.cell (zl _ _ (hHeld.2.2.2.2.1))).trans (hHeld.2.2.2.2.1);have HS5_:=(hb.cell (zl _ _ (hHeld.2.2.2.2.2.1))).trans (hHeld.2.2.2.2.2.1);have HS6_:=(hb.cell (zl _ _ (hHeld.2.2.2.2.2.2.1))).trans (hHeld.2.2.2.2.2.2.1);have HS7_:=(hb.cell (zl _ _ (hHeld.2.2.2.2.2.2.2))).trans (hHeld.2.2.2.2.2.2.2);refine ⟨_,rfl,?_⟩;replace HO_11:=zh (yg (by (with_reducible repeat (first|apply zm|apply zn|apply zo));exact HO_11.out) hb);replace HO_13:=zh (yg (by (with_reducible repeat (first|apply zm|apply zn|apply zo));exact HO_13.out) hb);replace BK605:=zh (zD (g:=gb605) (o:=.cells #[.int .i64 a0_0,.int .i64 a0_1,.string a0_2] 26 (0,0)) (by (with_reducible repeat (first|refine ze ?_ _|refine zf ?_|refine zg ?_ _));exact BK605.out) hb);replace BK606:=zh (zD (g:=gb606) (o:=.cells #[.int .i64 a1_0,.int .i64 a1_1,.string a1_2] 26 (0,0)) (by (with_reducible repeat (first|refine ze ?_ _|refine zf ?_|refine zg ?_ _));exact BK606.out) hb);replace HB:=zh (zC (by repeat (with_reducible first|exact HB.out|apply za|apply zb|apply zc|refine zd ?_ GE605.out|refine zd ?_ GE606.out)) hb);(try clear hb);(try clear hb2);(try clear hk);(try clear hi);refine hK.out _ _ ⟨HS0_,HS1_,HS2_,HS3_,HS4_,HS5_,HS6_,HS7_⟩ (fun hHeld => ?_);clear hK K;refine norm_ (a':=?_) ?_ ?_;rotate_left
             ·
              show Act.put _ (some 170) _=_
              simp only [Act.put,zi,zj,zk,zG,zH]
              rfl
             refine pure_ (i:=11) (N:=some 16) (v:=?_) (a':=?_) (bm_ 12 12) rfl rfl (any_of HT_.out (by kernel_rfl)) (fun _ _ _ h => h) (Or.inl ⟨by rfl,?_⟩) ?_ ?_;rotate_left
             ·
              intro w'
              go_simp
              with_reducible rfl
             rotate_left
             ·
              simp only [Act.put,zi,zj,zk,zG,zH]
              rfl
             refine done_ (done_of HT_.out (by kernel_rfl)) ?_
             try go_wp2
             go_roundg kj60
             case measure => have:=HK1.out;have:=HJ60.out;omega
             case rel => exact ⟨(wrap64 (x15_1 + 1)),(by first|rfl|(simp;done)|(simp [*];done)),H',⟨by have:=HK1.out;have:=HJ60.out;omega⟩,⟨by (with_reducible repeat (first|apply zm|apply zn|apply zo));exact HO_11.out⟩,⟨by (with_reducible repeat (first|apply zm|apply zn|apply zo));exact HO_13.out⟩,⟨by (with_reducible repeat (first|refine ze ?_ _|refine zf ?_|refine zg ?_ _));exact BK605.out⟩,⟨by (with_reducible repeat (first|refine ze ?_ _|refine zf ?_|refine zg ?_ _));exact BK606.out⟩,⟨by repeat (with_reducible first|exact HB.out|apply za|apply zb|apply zc|refine zd ?_ GE605.out|refine zd ?_ GE606.out)⟩⟩
            rw [if_neg c72] at H;have c72b0 : (t635 == 0)=false:=zY.mpr c72;have c72b1 : (t635 != 0)=true:=zZ.mpr c72;obtain rfl:=zU H
            try go_wp2
            replace HO_11:=zh (zo HO_11.out);replace HO_13:=zh (zo HO_13.out);replace BK605:=zh (zf BK605.out);replace BK606:=zh (zf BK606.out);replace HB:=zh (zc HB.out);obtain ⟨Ao79,co79,eo79⟩:=yk HO_11.out;(first|subst eo79|(injection eo79 with f1_ f2_ f3_;have f4_:=f1_.symm;have f5_:=f3_.symm;clear f1_ f2_ f3_;subst f4_;subst f5_));have p631 : 0≤(x15_1 : Int):=zy (by first|(with_reducible assumption)|assumption);have q631 : x15_1<(t622.length : Int):=zy (by first|(with_reducible assumption)|assumption);obtain ⟨ad631,e631,hx631_0,hx631_1,hx631_2,hx631_3⟩:=at_T68 (yh HO_11.out).2.2 x15_1 p631 q631
            cases e631
            replace p631:=eq_true p631;replace q631:=eq_true q631;obtain ⟨Ao80,co80,eo80⟩:=yk HO_13.out;(first|subst eo80|(injection eo80 with f1_ f2_ f3_;have f4_:=f1_.symm;have f5_:=f3_.symm;clear f1_ f2_ f3_;subst f4_;subst f5_));have p632 : 0≤(x15_1 : Int):=zy (by first|(with_reducible assumption)|assumption);have q632 : x15_1<(t626.length : Int):=zy (by first|(with_reducible assumption)|assumption);obtain ⟨ad632,e632,hx632_0,hx632_1,hx632_2,hx632_3⟩:=at_T68 (yh HO_13.out).2.2 x15_1 p632 q632
            cases e632
            replace p632:=eq_true p632;replace q632:=eq_true q632;refine start_ (n:=11) (S:=fun w' => w'.cell? (ad631.add ((x15_1).toNat * 4))=some (.string ((rd_T68 t622 x15_1).f0))∧w'.cell? ⟨(ad631.add ((x15_1).toNat * 4)).block,(ad631.add ((x15_1).toNat * 4)).off + 1,none⟩=some (.int .i64 ((rd_T68 t622 x15_1).f1.f0))∧w'.cell? ⟨(ad631.add ((x15_1).toNat * 4)).block,(ad631.add ((x15_1).toNat * 4)).off + 2,none⟩=some (.int .i64 ((rd_T68 t622 x15_1).f1.f1))∧w'.cell? ⟨(ad631.add ((x15_1).toNat * 4)).block,(ad631.add ((x15_1).toNat * 4)).off + 3,none⟩=some (.string ((rd_T68 t622 x15_1).f1.f2))∧w'.cell? (ad632.add ((x15_1).toNat * 4))=some (.string ((rd_T68 t626 x15_1).f0))∧w'.cell? ⟨(ad632.add ((x15_1).toNat * 4)).block,(ad632.add ((x15_1).toNat * 4)).off + 1,none⟩=some (.int .i64 ((rd_T68 t626 x15_1).f1.f0))∧w'.cell? ⟨(ad632.add ((x15_1).toNat * 4)).block,(ad632.add ((x15_1).toNat * 4)).off + 2,none⟩=some (.int .i64 ((rd_T68 t626 x15_1).f1.f1))∧w'.cell? ⟨(ad632.add ((x15_1).toNat * 4)).block,(ad632.add ((x15_1).toNat * 4)).off + 3,none⟩=some (.string ((rd_T68 t626 x15_1).f1.f2))) (ds:=[]) (bm_ 0 11) (by kernel_rfl) rfl rfl ⟨hx631_0,hx631_1,hx631_2,hx631_3,hx632_0,hx632_1,hx632_2,hx632_3⟩ (fun hHeld => ?_);refine with_tabW spec_l01Order.tab24 spec_l01Order.bits24 (fun HT_ HW_ => ?_);generalize wc.drew=w78 at HO_11 HO_13 BK605 BK606 HB hx631_0 hx631_1 hx631_2 hx631_3 hx632_0 hx632_1 hx632_2 hx632_3 hHeld ⊢;refine pure_ (i:=0) (N:=some 135) (v:=?_) (a':=?_) (bm_ 1 11) rfl rfl (any_of HT_.out (by kernel_rfl)) (fun _ _ _ h => h) (Or.inl ⟨by rfl,?_⟩) ?_ ?_;rotate_left
            ·
             intro w'
             go_simp
             with_reducible rfl
            rotate_left
            ·
             simp only [Act.put,zi,zj,zk,zG,zH]
             rfl
            refine pure_ (i:=1) (N:=some 136) (v:=?_) (a':=?_) (bm_ 2 11) rfl rfl (any_of HT_.out (by kernel_rfl)) (fun _ _ _ h => h) (Or.inl ⟨by rfl,?_⟩) ?_ ?_;rotate_left
            ·
             intro w'
             go_simp
             with_reducible rfl
            rotate_left
            ·
             simp only [Act.put,zi,zj,zk,zG,zH]
             rfl
            refine pure_ (i:=2) (N:=some 137) (v:=?_) (a':=?_) (bm_ 3 11) rfl rfl (any_of HT_.out (by kernel_rfl)) (fun _ _ _ h => h) (Or.inl ⟨by rfl,?_⟩) ?_ ?_;rotate_left
            ·
             intro w'
             go_simp
             with_reducible rfl
            rotate_left
            ·
             simp only [Act.put,zi,zj,zk,zG,zH]
             rfl
            refine pure_ (i:=3) (N:=some 138) (v:=?_) (a':=?_) (bm_ 4 11) rfl rfl (any_of HT_.out (by kernel_rfl)) (fun _ _ _ h => h) (Or.inl ⟨by rfl,?_⟩) ?_ ?_;rotate_left
            ·
             intro w'
             go_simp
             with_reducible rfl
            rotate_left
            ·
             simp only [Act.put,zi,zj,zk,zG,zH]
             rfl
            refine pure_ (i:=5) (N:=some 140) (v:=?_) (a':=?_) #[true,true,true,true,false,true,false,false,false,false,false] rfl rfl (any_of HT_.out (by kernel_rfl)) (fun _ _ _ h => h) (Or.inl ⟨by rfl,?_⟩) ?_ ?_;rotate_left
            ·
             intro w'
             go_simp
             with_reducible rfl
            rotate_left
            ·
             simp only [Act.put,zi,zj,zk,zG,zH]
             rfl
            refine pure_ (i:=6) (N:=some 141) (v:=?_) (a':=?_) #[true,true,true,true,false,true,true,false,false,false,false] rfl rfl (any_of HT_.out (by kernel_rfl)) (fun _ _ _ h => h) (Or.inl ⟨by rfl,?_⟩) ?_ ?_;rotate_left
            ·
             intro w'
             go_simp
             with_reducible rfl
            rotate_left
            ·
             simp only [Act.put,zi,zj,zk,zG,zH]
             rfl
            refine pure_ (i:=7) (N:=some 142) (v:=?_) (a':=?_) #[true,true,true,true,false,true,true,true,false,false,false] rfl rfl (any_of HT_.out (by kernel_rfl)) (fun _ _ _ h => h) (Or.inl ⟨by rfl,?_⟩) ?_ ?_;rotate_left
            ·
             intro w'
             go_simp
             with_reducible rfl
            rotate_left
            ·
             simp only [Act.put,zi,zj,zk,zG,zH]
             rfl
            refine pure_ (i:=8) (N:=some 143) (v:=?_) (a':=?_) #[true,true,true,true,false,true,true,true,true,false,false] rfl rfl (any_of HT_.out (by kernel_rfl)) (fun _ _ _ h => h) (Or.inl ⟨by rfl,?_⟩) ?_ ?_;rotate_left
            ·
             intro w'
             go_simp
             with_reducible rfl
            rotate_left
            ·
             simp only [Act.put,zi,zj,zk,zG,zH]
             rfl
            refine take_ (i:=4) (N:=some 139) (v:=?_) (a':=?_) (bm_ 9 11) rfl rfl (yo HT_.out HW_.out (by kernel_rfl)) (fun _ _ _ h => h) (Or.inl ⟨by rfl,?_⟩) hHeld ?_ ?_;rotate_left
            ·
             rintro w' ⟨s0,s1,s2,s3,s4,s5,s6,s7⟩
             go_simp
             with_reducible rfl
            rotate_left
            ·
             simp only [Act.put,zi,zj,zk,zG,zH]
             rfl
            refine take_ (i:=9) (N:=some 144) (v:=?_) (a':=?_) (bm_ 10 11) rfl rfl (yo HT_.out HW_.out (by kernel_rfl)) (fun _ _ _ h => h) (Or.inl ⟨by rfl,?_⟩) hHeld ?_ ?_;rotate_left
            ·
             rintro w' ⟨s0,s1,s2,s3,s4,s5,s6,s7⟩
             go_simp
             with_reducible rfl
            rotate_left
            ·
             simp only [Act.put,zi,zj,zk,zG,zH]
             rfl
            refine pure_ (i:=10) (N:=some 145) (v:=?_) (a':=?_) (bm_ 11 11) rfl rfl (any_of HT_.out (by kernel_rfl)) (fun _ _ _ h => h) (Or.inl ⟨by rfl,?_⟩) ?_ ?_;rotate_left
            ·
             intro w'
             go_simp
             with_reducible rfl
            rotate_left
            ·
             simp only [Act.put,zi,zj,zk,zG,zH]
             rfl
            refine done_ (done_of HT_.out (by kernel_rfl)) ?_
            try go_wp2
            replace HO_11:=zh (zo HO_11.out);replace HO_13:=zh (zo HO_13.out);replace BK605:=zh (zf BK605.out);replace BK606:=zh (zf BK606.out);replace HB:=zh (zc HB.out);have p633 : 0≤(x15_1 : Int):=zy (by first|(with_reducible assumption)|assumption);have q633 : x15_1<(t622.length : Int):=zy (by first|(with_reducible assumption)|assumption);obtain ⟨ad633,e633,hx633_0,hx633_1,hx633_2,hx633_3⟩:=at_T68 (yh HO_11.out).2.2 x15_1 p633 q633;obtain rfl : ad631=ad633:=(by injection e633);replace p633:=eq_true p633;replace q633:=eq_true q633;have p634 : 0≤(x15_1 : Int):=zy (by first|(with_reducible assumption)|assumption);have q634 : x15_1<(t626.length : Int):=zy (by first|(with_reducible assumption)|assumption);obtain ⟨ad634,e634,hx634_0,hx634_1,hx634_2,hx634_3⟩:=at_T68 (yh HO_13.out).2.2 x15_1 p634 q634;obtain rfl : ad632=ad634:=(by injection e634);replace p634:=eq_true p634;replace q634:=eq_true q634;refine start_ (n:=12) (S:=fun w' => w'.cell? (ad631.add ((x15_1).toNat * 4))=some (.string ((rd_T68 t622 x15_1).f0))∧w'.cell? ⟨(ad631.add ((x15_1).toNat * 4)).block,(ad631.add ((x15_1).toNat * 4)).off + 1,none⟩=some (.int .i64 ((rd_T68 t622 x15_1).f1.f0))∧w'.cell? ⟨(ad631.add ((x15_1).toNat * 4)).block,(ad631.add ((x15_1).toNat * 4)).off + 2,none⟩=some (.int .i64 ((rd_T68 t622 x15_1).f1.f1))∧w'.cell? ⟨(ad631.add ((x15_1).toNat * 4)).block,(ad631.add ((x15_1).toNat * 4)).off + 3,none⟩=some (.string ((rd_T68 t622 x15_1).f1.f2))∧w'.cell? (ad632.add ((x15_1).toNat * 4))=some (.string ((rd_T68 t626 x15_1).f0))∧w'.cell? ⟨(ad632.add ((x15_1).toNat * 4)).block,(ad632.add ((x15_1).toNat * 4)).off + 1,none⟩=some (.int .i64 ((rd_T68 t626 x15_1).f1.f0))∧w'.cell? ⟨(ad632.add ((x15_1).toNat * 4)).block,(ad632.add ((x15_1).toNat * 4)).off + 2,none⟩=some (.int .i64 ((rd_T68 t626 x15_1).f1.f1))∧w'.cell? ⟨(ad632.add ((x15_1).toNat * 4)).block,(ad632.add ((x15_1).toNat * 4)).off + 3,none⟩=some (.string ((rd_T68 t626 x15_1).f1.f2))) (ds:=[]) (bm_ 0 12) (by kernel_rfl) rfl rfl ⟨hx633_0,hx633_1,hx633_2,hx633_3,hx634_0,hx634_1,hx634_2,hx634_3⟩ (fun hHeld => ?_);refine with_tabW spec_l01Order.tab26 spec_l01Order.bits26 (fun HT_ HW_ => ?_);generalize w78.drew=w81 at HO_11 HO_13 BK605 BK606 HB hx633_0 hx633_1 hx633_2 hx633_3 hx634_0 hx634_1 hx634_2 hx634_3 hHeld ⊢;refine pure_ (i:=0) (N:=some 160) (v:=?_) (a':=?_) (bm_ 1 12) rfl rfl (any_of HT_.out (by kernel_rfl)) (fun _ _ _ h => h) (Or.inl ⟨by rfl,?_⟩) ?_ ?_;rotate_left
            ·
             intro w'
             go_simp
             with_reducible rfl
            rotate_left
            ·
             simp only [Act.put,zi,zj,zk,zG,zH]
             rfl
            refine pure_ (i:=1) (N:=some 161) (v:=?_) (a':=?_) (bm_ 2 12) rfl rfl (any_of HT_.out (by kernel_rfl)) (fun _ _ _ h => h) (Or.inl ⟨by rfl,?_⟩) ?_ ?_;rotate_left
            ·
             intro w'
             go_simp
             with_reducible rfl
            rotate_left
            ·
             simp only [Act.put,zi,zj,zk,zG,zH]
             rfl
            refine pure_ (i:=2) (N:=some 162) (v:=?_) (a':=?_) (bm_ 3 12) rfl rfl (any_of HT_.out (by kernel_rfl)) (fun _ _ _ h => h) (Or.inl ⟨by rfl,?_⟩) ?_ ?_;rotate_left
            ·
             intro w'
             go_simp
             with_reducible rfl
            rotate_left
            ·
             simp only [Act.put,zi,zj,zk,zG,zH]
             rfl
            refine pure_ (i:=3) (N:=some 163) (v:=?_) (a':=?_) (bm_ 4 12) rfl rfl (any_of HT_.out (by kernel_rfl)) (fun _ _ _ h => h) (Or.inl ⟨by rfl,?_⟩) ?_ ?_;rotate_left
            ·
             intro w'
             go_simp
             with_reducible rfl
            rotate_left
            ·
             simp only [Act.put,zi,zj,zk,zG,zH]
             rfl
            refine pure_ (i:=5) (N:=some 165) (v:=?_) (a':=?_) #[true,true,true,true,false,true,false,false,false,false,false,false] rfl rfl (any_of HT_.out (by kernel_rfl)) (fun _ _ _ h => h) (Or.inl ⟨by rfl,?_⟩) ?_ ?_;rotate_left
            ·
             intro w'
             go_simp
             with_reducible rfl
            rotate_left
            ·
             simp only [Act.put,zi,zj,zk,zG,zH]
             rfl
            refine pure_ (i:=6) (N:=some 166) (v:=?_) (a':=?_) #[true,true,true,true,false,true,true,false,false,false,false,false] rfl rfl (any_of HT_.out (by kernel_rfl)) (fun _ _ _ h => h) (Or.inl ⟨by rfl,?_⟩) ?_ ?_;rotate_left
            ·
             intro w'
             go_simp
             with_reducible rfl
            rotate_left
            ·
             simp only [Act.put,zi,zj,zk,zG,zH]
             rfl
            refine pure_ (i:=7) (N:=some 167) (v:=?_) (a':=?_) #[true,true,true,true,false,true,true,true,false,false,false,false] rfl rfl (any_of HT_.out (by kernel_rfl)) (fun _ _ _ h => h) (Or.inl ⟨by rfl,?_⟩) ?_ ?_;rotate_left
            ·
             intro w'
             go_simp
             with_reducible rfl
            rotate_left
            ·
             simp only [Act.put,zi,zj,zk,zG,zH]
             rfl
            refine pure_ (i:=8) (N:=some 168) (v:=?_) (a':=?_) #[true,true,true,true,false,true,true,true,true,false,false,false] rfl rfl (any_of HT_.out (by kernel_rfl)) (fun _ _ _ h => h) (Or.inl ⟨by rfl,?_⟩) ?_ ?_;rotate_left
            ·
             intro w'
             go_simp
             with_reducible rfl
            rotate_left
            ·
             simp only [Act.put,zi,zj,zk,zG,zH]
             rfl
            refine take_ (i:=4) (N:=some 164) (v:=?_) (a':=?_) (bm_ 9 12) rfl rfl (yo HT_.out HW_.out (by kernel_rfl)) (fun _ _ _ h => h) (Or.inl ⟨by rfl,?_⟩) hHeld ?_ ?_;rotate_left
            ·
             rintro w' ⟨s0,s1,s2,s3,s4,s5,s6,s7⟩
             go_simp
             with_reducible rfl
            rotate_left
            ·
             simp only [Act.put,zi,zj,zk,zG,zH]
             rfl
            refine take_ (i:=9) (N:=some 169) (v:=?_) (a':=?_) (bm_ 10 12) rfl rfl (yo HT_.out HW_.out (by kernel_rfl)) (fun _ _ _ h => h) (Or.inl ⟨by rfl,?_⟩) hHeld ?_ ?_;rotate_left
            ·
             rintro w' ⟨s0,s1,s2,s3,s4,s5,s6,s7⟩
             go_simp
             with_reducible rfl
            rotate_left
            ·
             simp only [Act.put,zi,zj,zk,zG,zH]
             rfl
            refine one_ (i:=10) (N:=some 170) (bm_ 11 12) rfl rfl (one_of HT_.out (by kernel_rfl)) (by decide) (fun K hK => ?_);refine goes_ Try.func67 (by kernel_rfl) rfl #[.agg #[.int .i64 ((rd_T68 t622 x15_1).f1.f0),.int .i64 ((rd_T68 t622 x15_1).f1.f1),.string ((rd_T68 t622 x15_1).f1.f2)],.agg #[.int .i64 ((rd_T68 t626 x15_1).f1.f0),.int .i64 ((rd_T68 t626 x15_1).f1.f1),.string ((rd_T68 t626 x15_1).f1.f2)]] (by rfl) rfl rfl (by (try simp only [zt,zu,zv]);first|done|rfl|(simp only [zw,zx];rfl)|(simp only [yr,ys,zV,zW];rfl)) ?_
            with_reducible refine (ih kj60 (by have:=HK1.out;have:=HJ60.out;omega)  ((rd_T68 t622 x15_1).f1.f0) ((rd_T68 t622 x15_1).f1.f1) ((rd_T68 t622 x15_1).f1.f2) ((rd_T68 t626 x15_1).f1.f0) ((rd_T68 t626 x15_1).f1.f1) ((rd_T68 t626 x15_1).f1.f2) t635 _ A71.out).mono ?_
            rintro e w82 ⟨rfl,hb⟩;have HS0_:=(hb.cell (zl _ _ (hHeld.1))).trans (hHeld.1);have HS1_:=(hb.cell (zl _ _ (hHeld.2.1))).trans (hHeld.2.1);have HS2_:=(hb.cell (zl _ _ (hHeld.2.2.1))).trans (hHeld.2.2.1);have HS3_:=(hb.cell (zl _ _ (hHeld.2.2.2.1))).trans (hHeld.2.2.2.1);have HS4_:=(hb.cell (zl _ _ (hHeld.2.2.2.2.1))).trans (hHeld.2.2.2.2.1);have HS5_:=(hb.cell (zl _ _ (hHeld.2.2.2.2.2.1))).trans (hHeld.2.2.2.2.2.1);have HS6_:=(hb.cell (zl _ _ (hHeld.2.2.2.2.2.2.1))).trans (hHeld.2.2.2.2.2.2.1);have HS7_:=(hb.cell (zl _ _ (hHeld.2.2.2.2.2.2.2))).trans (hHeld.2.2.2.2.2.2.2);refine ⟨_,rfl,?_⟩;replace HO_11:=zh (yg (by (with_reducible repeat (first|apply zm|apply zn|apply zo));exact HO_11.out) hb);replace HO_13:=zh (yg (by (with_reducible repeat (first|apply zm|apply zn|apply zo));exact HO_13.out) hb);replace BK605:=zh (zD (g:=gb605) (o:=.cells #[.int .i64 a0_0,.int .i64 a0_1,.string a0_2] 26 (0,0)) (by (with_reducible repeat (first|refine ze ?_ _|refine zf ?_|refine zg ?_ _));exact BK605.out) hb);replace BK606:=zh (zD (g:=gb606) (o:=.cells #[.int .i64 a1_0,.int .i64 a1_1,.string a1_2] 26 (0,0)) (by (with_reducible repeat (first|refine ze ?_ _|refine zf ?_|refine zg ?_ _));exact BK606.out) hb);replace HB:=zh (zC (by repeat (with_reducible first|exact HB.out|apply za|apply zb|apply zc|refine zd ?_ GE605.out|refine zd ?_ GE606.out)) hb);(try clear hb);(try clear hb2);(try clear hk);(try clear hi);refine hK.out _ _ ⟨HS0_,HS1_,HS2_,HS3_,HS4_,HS5_,HS6_,HS7_⟩ (fun hHeld => ?_);clear hK K;refine norm_ (a':=?_) ?_ ?_;rotate_left
            ·
             show Act.put _ (some 170) _=_
             simp only [Act.put,zi,zj,zk,zG,zH]
             rfl
            refine pure_ (i:=11) (N:=some 16) (v:=?_) (a':=?_) (bm_ 12 12) rfl rfl (any_of HT_.out (by kernel_rfl)) (fun _ _ _ h => h) (Or.inl ⟨by rfl,?_⟩) ?_ ?_;rotate_left
            ·
             intro w'
             go_simp
             with_reducible rfl
            rotate_left
            ·
             simp only [Act.put,zi,zj,zk,zG,zH]
             rfl
            refine done_ (done_of HT_.out (by kernel_rfl)) ?_
            try go_wp2
            go_ret
            exact ⟨by first|rfl|(simp [yt,yu] <;> rfl)|(simp [*,yt,yu] <;> rfl),by repeat (with_reducible first|exact HB.out|apply za|apply zb|apply zc|refine zd ?_ GE605.out|refine zd ?_ GE606.out)⟩
           rw [if_neg c70] at H;have c70b0 : (((rd_T68 t622 x15_1).f0).toList == ((rd_T68 t626 x15_1).f0).toList)=false:=zY.mpr c70;have c70b1 : (((rd_T68 t622 x15_1).f0).toList != ((rd_T68 t626 x15_1).f0).toList)=true:=zZ.mpr c70;replace H:=zT.mp H;obtain ⟨t638,A830,H⟩:=H;replace H : (some (wrap64 ((wrap64 (2 * t638)) - 1)))=some r:=H;have A83:=zh A830;clear A830;obtain rfl:=zU H
           try go_wp2
           replace HO_11:=zh (zo HO_11.out);replace HO_13:=zh (zo HO_13.out);replace BK605:=zh (zf BK605.out);replace BK606:=zh (zf BK606.out);replace HB:=zh (zc HB.out);obtain ⟨Ao85,co85,eo85⟩:=yk HO_11.out;(first|subst eo85|(injection eo85 with f1_ f2_ f3_;have f4_:=f1_.symm;have f5_:=f3_.symm;clear f1_ f2_ f3_;subst f4_;subst f5_));have p631 : 0≤(x15_1 : Int):=zy (by first|(with_reducible assumption)|assumption);have q631 : x15_1<(t622.length : Int):=zy (by first|(with_reducible assumption)|assumption);obtain ⟨ad631,e631,hx631_0,hx631_1,hx631_2,hx631_3⟩:=at_T68 (yh HO_11.out).2.2 x15_1 p631 q631
           cases e631
           replace p631:=eq_true p631;replace q631:=eq_true q631;obtain ⟨Ao86,co86,eo86⟩:=yk HO_13.out;(first|subst eo86|(injection eo86 with f1_ f2_ f3_;have f4_:=f1_.symm;have f5_:=f3_.symm;clear f1_ f2_ f3_;subst f4_;subst f5_));have p632 : 0≤(x15_1 : Int):=zy (by first|(with_reducible assumption)|assumption);have q632 : x15_1<(t626.length : Int):=zy (by first|(with_reducible assumption)|assumption);obtain ⟨ad632,e632,hx632_0,hx632_1,hx632_2,hx632_3⟩:=at_T68 (yh HO_13.out).2.2 x15_1 p632 q632
           cases e632
           replace p632:=eq_true p632;replace q632:=eq_true q632;refine start_ (n:=11) (S:=fun w' => w'.cell? (ad631.add ((x15_1).toNat * 4))=some (.string ((rd_T68 t622 x15_1).f0))∧w'.cell? ⟨(ad631.add ((x15_1).toNat * 4)).block,(ad631.add ((x15_1).toNat * 4)).off + 1,none⟩=some (.int .i64 ((rd_T68 t622 x15_1).f1.f0))∧w'.cell? ⟨(ad631.add ((x15_1).toNat * 4)).block,(ad631.add ((x15_1).toNat * 4)).off + 2,none⟩=some (.int .i64 ((rd_T68 t622 x15_1).f1.f1))∧w'.cell? ⟨(ad631.add ((x15_1).toNat * 4)).block,(ad631.add ((x15_1).toNat * 4)).off + 3,none⟩=some (.string ((rd_T68 t622 x15_1).f1.f2))∧w'.cell? (ad632.add ((x15_1).toNat * 4))=some (.string ((rd_T68 t626 x15_1).f0))∧w'.cell? ⟨(ad632.add ((x15_1).toNat * 4)).block,(ad632.add ((x15_1).toNat * 4)).off + 1,none⟩=some (.int .i64 ((rd_T68 t626 x15_1).f1.f0))∧w'.cell? ⟨(ad632.add ((x15_1).toNat * 4)).block,(ad632.add ((x15_1).toNat * 4)).off + 2,none⟩=some (.int .i64 ((rd_T68 t626 x15_1).f1.f1))∧w'.cell? ⟨(ad632.add ((x15_1).toNat * 4)).block,(ad632.add ((x15_1).toNat * 4)).off + 3,none⟩=some (.string ((rd_T68 t626 x15_1).f1.f2))) (ds:=[]) (bm_ 0 11) (by kernel_rfl) rfl rfl ⟨hx631_0,hx631_1,hx631_2,hx631_3,hx632_0,hx632_1,hx632_2,hx632_3⟩ (fun hHeld => ?_);refine with_tabW spec_l01Order.tab24 spec_l01Order.bits24 (fun HT_ HW_ => ?_);generalize wc.drew=w84 at HO_11 HO_13 BK605 BK606 HB hx631_0 hx631_1 hx631_2 hx631_3 hx632_0 hx632_1 hx632_2 hx632_3 hHeld ⊢;refine pure_ (i:=0) (N:=some 135) (v:=?_) (a':=?_) (bm_ 1 11) rfl rfl (any_of HT_.out (by kernel_rfl)) (fun _ _ _ h => h) (Or.inl ⟨by rfl,?_⟩) ?_ ?_;rotate_left
           ·
            intro w'
            go_simp
            with_reducible rfl
           rotate_left
           ·
            simp only [Act.put,zi,zj,zk,zG,zH]
            rfl
           refine pure_ (i:=1) (N:=some 136) (v:=?_) (a':=?_) (bm_ 2 11) rfl rfl (any_of HT_.out (by kernel_rfl)) (fun _ _ _ h => h) (Or.inl ⟨by rfl,?_⟩) ?_ ?_;rotate_left
           ·
            intro w'
            go_simp
            with_reducible rfl
           rotate_left
           ·
            simp only [Act.put,zi,zj,zk,zG,zH]
            rfl
           refine pure_ (i:=2) (N:=some 137) (v:=?_) (a':=?_) (bm_ 3 11) rfl rfl (any_of HT_.out (by kernel_rfl)) (fun _ _ _ h => h) (Or.inl ⟨by rfl,?_⟩) ?_ ?_;rotate_left
           ·
            intro w'
            go_simp
            with_reducible rfl
           rotate_left
           ·
            simp only [Act.put,zi,zj,zk,zG,zH]
            rfl
           refine pure_ (i:=3) (N:=some 138) (v:=?_) (a':=?_) (bm_ 4 11) rfl rfl (any_of HT_.out (by kernel_rfl)) (fun _ _ _ h => h) (Or.inl ⟨by rfl,?_⟩) ?_ ?_;rotate_left
           ·
            intro w'
            go_simp
            with_reducible rfl
           rotate_left
           ·
            simp only [Act.put,zi,zj,zk,zG,zH]
            rfl
           refine pure_ (i:=5) (N:=some 140) (v:=?_) (a':=?_) #[true,true,true,true,false,true,false,false,false,false,false] rfl rfl (any_of HT_.out (by kernel_rfl)) (fun _ _ _ h => h) (Or.inl ⟨by rfl,?_⟩) ?_ ?_;rotate_left
           ·
            intro w'
            go_simp
            with_reducible rfl
           rotate_left
           ·
            simp only [Act.put,zi,zj,zk,zG,zH]
            rfl
           refine pure_ (i:=6) (N:=some 141) (v:=?_) (a':=?_) #[true,true,true,true,false,true,true,false,false,false,false] rfl rfl (any_of HT_.out (by kernel_rfl)) (fun _ _ _ h => h) (Or.inl ⟨by rfl,?_⟩) ?_ ?_;rotate_left
           ·
            intro w'
            go_simp
            with_reducible rfl
           rotate_left
           ·
            simp only [Act.put,zi,zj,zk,zG,zH]
            rfl
           refine pure_ (i:=7) (N:=some 142) (v:=?_) (a':=?_) #[true,true,true,true,false,true,true,true,false,false,false] rfl rfl (any_of HT_.out (by kernel_rfl)) (fun _ _ _ h => h) (Or.inl ⟨by rfl,?_⟩) ?_ ?_;rotate_left
           ·
            intro w'
            go_simp
            with_reducible rfl
           rotate_left
           ·
            simp only [Act.put,zi,zj,zk,zG,zH]
            rfl
           refine pure_ (i:=8) (N:=some 143) (v:=?_) (a':=?_) #[true,true,true,true,false,true,true,true,true,false,false] rfl rfl (any_of HT_.out (by kernel_rfl)) (fun _ _ _ h => h) (Or.inl ⟨by rfl,?_⟩) ?_ ?_;rotate_left
           ·
            intro w'
            go_simp
            with_reducible rfl
           rotate_left
           ·
            simp only [Act.put,zi,zj,zk,zG,zH]
            rfl
           refine take_ (i:=4) (N:=some 139) (v:=?_) (a':=?_) (bm_ 9 11) rfl rfl (yo HT_.out HW_.out (by kernel_rfl)) (fun _ _ _ h => h) (Or.inl ⟨by rfl,?_⟩) hHeld ?_ ?_;rotate_left
           ·
            rintro w' ⟨s0,s1,s2,s3,s4,s5,s6,s7⟩
            go_simp
            with_reducible rfl
           rotate_left
           ·
            simp only [Act.put,zi,zj,zk,zG,zH]
            rfl
           refine take_ (i:=9) (N:=some 144) (v:=?_) (a':=?_) (bm_ 10 11) rfl rfl (yo HT_.out HW_.out (by kernel_rfl)) (fun _ _ _ h => h) (Or.inl ⟨by rfl,?_⟩) hHeld ?_ ?_;rotate_left
           ·
            rintro w' ⟨s0,s1,s2,s3,s4,s5,s6,s7⟩
            go_simp
            with_reducible rfl
           rotate_left
           ·
            simp only [Act.put,zi,zj,zk,zG,zH]
            rfl
           refine pure_ (i:=10) (N:=some 145) (v:=?_) (a':=?_) (bm_ 11 11) rfl rfl (any_of HT_.out (by kernel_rfl)) (fun _ _ _ h => h) (Or.inl ⟨by rfl,?_⟩) ?_ ?_;rotate_left
           ·
            intro w'
            go_simp
            with_reducible rfl
           rotate_left
           ·
            simp only [Act.put,zi,zj,zk,zG,zH]
            rfl
           refine done_ (done_of HT_.out (by kernel_rfl)) ?_
           try go_wp2
           replace HO_11:=zh (zo HO_11.out);replace HO_13:=zh (zo HO_13.out);replace BK605:=zh (zf BK605.out);replace BK606:=zh (zf BK606.out);replace HB:=zh (zc HB.out);have p636 : 0≤(x15_1 : Int):=zy (by first|(with_reducible assumption)|assumption);have q636 : x15_1<(t622.length : Int):=zy (by first|(with_reducible assumption)|assumption);obtain ⟨ad636,e636,hx636_0,hx636_1,hx636_2,hx636_3⟩:=at_T68 (yh HO_11.out).2.2 x15_1 p636 q636;obtain rfl : ad631=ad636:=(by injection e636);replace p636:=eq_true p636;replace q636:=eq_true q636;have p637 : 0≤(x15_1 : Int):=zy (by first|(with_reducible assumption)|assumption);have q637 : x15_1<(t626.length : Int):=zy (by first|(with_reducible assumption)|assumption);obtain ⟨ad637,e637,hx637_0,hx637_1,hx637_2,hx637_3⟩:=at_T68 (yh HO_13.out).2.2 x15_1 p637 q637;obtain rfl : ad632=ad637:=(by injection e637);replace p637:=eq_true p637;replace q637:=eq_true q637;refine start_ (n:=15) (S:=fun w' => w'.cell? (ad631.add ((x15_1).toNat * 4))=some (.string ((rd_T68 t622 x15_1).f0))∧w'.cell? ⟨(ad631.add ((x15_1).toNat * 4)).block,(ad631.add ((x15_1).toNat * 4)).off + 1,none⟩=some (.int .i64 ((rd_T68 t622 x15_1).f1.f0))∧w'.cell? ⟨(ad631.add ((x15_1).toNat * 4)).block,(ad631.add ((x15_1).toNat * 4)).off + 2,none⟩=some (.int .i64 ((rd_T68 t622 x15_1).f1.f1))∧w'.cell? ⟨(ad631.add ((x15_1).toNat * 4)).block,(ad631.add ((x15_1).toNat * 4)).off + 3,none⟩=some (.string ((rd_T68 t622 x15_1).f1.f2))∧w'.cell? (ad632.add ((x15_1).toNat * 4))=some (.string ((rd_T68 t626 x15_1).f0))∧w'.cell? ⟨(ad632.add ((x15_1).toNat * 4)).block,(ad632.add ((x15_1).toNat * 4)).off + 1,none⟩=some (.int .i64 ((rd_T68 t626 x15_1).f1.f0))∧w'.cell? ⟨(ad632.add ((x15_1).toNat * 4)).block,(ad632.add ((x15_1).toNat * 4)).off + 2,none⟩=some (.int .i64 ((rd_T68 t626 x15_1).f1.f1))∧w'.cell? ⟨(ad632.add ((x15_1).toNat * 4)).block,(ad632.add ((x15_1).toNat * 4)).off + 3,none⟩=some (.string ((rd_T68 t626 x15_1).f1.f2))) (ds:=[]) (bm_ 0 15) (by kernel_rfl) rfl rfl ⟨hx636_0,hx636_1,hx636_2,hx636_3,hx637_0,hx637_1,hx637_2,hx637_3⟩ (fun hHeld => ?_);refine with_tabW spec_l01Order.tab25 spec_l01Order.bits25 (fun HT_ HW_ => ?_);generalize w84.drew=w87 at HO_11 HO_13 BK605 BK606 HB hx636_0 hx636_1 hx636_2 hx636_3 hx637_0 hx637_1 hx637_2 hx637_3 hHeld ⊢;refine pure_ (i:=0) (N:=some 146) (v:=?_) (a':=?_) (bm_ 1 15) rfl rfl (any_of HT_.out (by kernel_rfl)) (fun _ _ _ h => h) (Or.inl ⟨by rfl,?_⟩) ?_ ?_;rotate_left
           ·
            intro w'
            go_simp
            with_reducible rfl
           rotate_left
           ·
            simp only [Act.put,zi,zj,zk,zG,zH]
            rfl
           refine pure_ (i:=1) (N:=some 147) (v:=?_) (a':=?_) (bm_ 2 15) rfl rfl (any_of HT_.out (by kernel_rfl)) (fun _ _ _ h => h) (Or.inl ⟨by rfl,?_⟩) ?_ ?_;rotate_left
           ·
            intro w'
            go_simp
            with_reducible rfl
           rotate_left
           ·
            simp only [Act.put,zi,zj,zk,zG,zH]
            rfl
           refine pure_ (i:=2) (N:=some 148) (v:=?_) (a':=?_) (bm_ 3 15) rfl rfl (any_of HT_.out (by kernel_rfl)) (fun _ _ _ h => h) (Or.inl ⟨by rfl,?_⟩) ?_ ?_;rotate_left
           ·
            intro w'
            go_simp
            with_reducible rfl
           rotate_left
           ·
            simp only [Act.put,zi,zj,zk,zG,zH]
            rfl
           refine pure_ (i:=3) (N:=some 149) (v:=?_) (a':=?_) (bm_ 4 15) rfl rfl (any_of HT_.out (by kernel_rfl)) (fun _ _ _ h => h) (Or.inl ⟨by rfl,?_⟩) ?_ ?_;rotate_left
           ·
            intro w'
            go_simp
            with_reducible rfl
           rotate_left
           ·
            simp only [Act.put,zi,zj,zk,zG,zH]
            rfl
           refine pure_ (i:=5) (N:=some 151) (v:=?_) (a':=?_) #[true,true,true,true,false,true,false,false,false,false,false,false,false,false,false] rfl rfl (any_of HT_.out (by kernel_rfl)) (fun _ _ _ h => h) (Or.inl ⟨by rfl,?_⟩) ?_ ?_;rotate_left
           ·
            intro w'
            go_simp
            with_reducible rfl
           rotate_left
           ·
            simp only [Act.put,zi,zj,zk,zG,zH]
            rfl
           refine pure_ (i:=6) (N:=some 152) (v:=?_) (a':=?_) #[true,true,true,true,false,true,true,false,false,false,false,false,false,false,false] rfl rfl (any_of HT_.out (by kernel_rfl)) (fun _ _ _ h => h) (Or.inl ⟨by rfl,?_⟩) ?_ ?_;rotate_left
           ·
            intro w'
            go_simp
            with_reducible rfl
           rotate_left
           ·
            simp only [Act.put,zi,zj,zk,zG,zH]
            rfl
           refine pure_ (i:=7) (N:=some 153) (v:=?_) (a':=?_) #[true,true,true,true,false,true,true,true,false,false,false,false,false,false,false] rfl rfl (any_of HT_.out (by kernel_rfl)) (fun _ _ _ h => h) (Or.inl ⟨by rfl,?_⟩) ?_ ?_;rotate_left
           ·
            intro w'
            go_simp
            with_reducible rfl
           rotate_left
           ·
            simp only [Act.put,zi,zj,zk,zG,zH]
            rfl
           refine pure_ (i:=8) (N:=some 154) (v:=?_) (a':=?_) #[true,true,true,true,false,true,true,true,true,false,false,false,false,false,false] rfl rfl (any_of HT_.out (by kernel_rfl)) (fun _ _ _ h => h) (Or.inl ⟨by rfl,?_⟩) ?_ ?_;rotate_left
           ·
            intro w'
            go_simp
            with_reducible rfl
           rotate_left
           ·
            simp only [Act.put,zi,zj,zk,zG,zH]
            rfl
           refine take_ (i:=4) (N:=some 150) (v:=?_) (a':=?_) (bm_ 9 15) rfl rfl (yo HT_.out HW_.out (by kernel_rfl)) (fun _ _ _ h => h) (Or.inl ⟨by rfl,?_⟩) hHeld ?_ ?_;rotate_left
           ·
            rintro w' ⟨s0,s1,s2,s3,s4,s5,s6,s7⟩
            go_simp
            with_reducible rfl
           rotate_left
           ·
            simp only [Act.put,zi,zj,zk,zG,zH]
            rfl
           refine take_ (i:=9) (N:=some 155) (v:=?_) (a':=?_) (bm_ 10 15) rfl rfl (yo HT_.out HW_.out (by kernel_rfl)) (fun _ _ _ h => h) (Or.inl ⟨by rfl,?_⟩) hHeld ?_ ?_;rotate_left
           ·
            rintro w' ⟨s0,s1,s2,s3,s4,s5,s6,s7⟩
            go_simp
            with_reducible rfl
           rotate_left
           ·
            simp only [Act.put,zi,zj,zk,zG,zH]
            rfl
           refine pure_ (i:=10) (N:=some 156) (v:=?_) (a':=?_) (bm_ 11 15) rfl rfl (any_of HT_.out (by kernel_rfl)) (fun _ _ _ h => h) (Or.inl ⟨by rfl,?_⟩) ?_ ?_;rotate_left
           ·
            intro w'
            go_simp
            with_reducible rfl
           rotate_left
           ·
            simp only [Act.put,zi,zj,zk,zG,zH]
            rfl
           refine one_ (i:=11) (N:=some 157) (bm_ 12 15) rfl rfl (one_of HT_.out (by kernel_rfl)) (by decide) (fun K hK => ?_);refine goes_ Try.func95 (by kernel_rfl) rfl #[.bool (Op.bytesLess (((rd_T68 t626 x15_1).f0).toList) (((rd_T68 t622 x15_1).f0).toList))] (by rfl) rfl rfl (by (try simp only [zt,zu,zv]);first|done|rfl|(simp only [zw,zx];rfl)|(simp only [yr,ys,zV,zW];rfl)) ?_
           with_reducible refine (spec_l01Bit.calls  (Op.bytesLess (((rd_T68 t626 x15_1).f0).toList) (((rd_T68 t622 x15_1).f0).toList)) t638 _ A83.out).mono ?_
           rintro e w' ⟨rfl,⟨nd,rfl⟩⟩;refine ⟨_,rfl,?_⟩;refine hK.out _ _ ⟨hHeld.1,hHeld.2.1,hHeld.2.2.1,hHeld.2.2.2.1,hHeld.2.2.2.2.1,hHeld.2.2.2.2.2.1,hHeld.2.2.2.2.2.2.1,hHeld.2.2.2.2.2.2.2⟩ (fun hHeld => ?_);clear hK K;refine norm_ (a':=?_) ?_ ?_;rotate_left
           ·
            show Act.put _ (some 157) _=_
            simp only [Act.put,zi,zj,zk,zG,zH]
            rfl
           refine pure_ (i:=12) (N:=some 158) (v:=?_) (a':=?_) (bm_ 13 15) rfl rfl (any_of HT_.out (by kernel_rfl)) (fun _ _ _ h => h) (Or.inl ⟨by rfl,?_⟩) ?_ ?_;rotate_left
           ·
            intro w'
            go_simp
            with_reducible rfl
           rotate_left
           ·
            simp only [Act.put,zi,zj,zk,zG,zH]
            rfl
           refine pure_ (i:=13) (N:=some 159) (v:=?_) (a':=?_) (bm_ 14 15) rfl rfl (any_of HT_.out (by kernel_rfl)) (fun _ _ _ h => h) (Or.inl ⟨by rfl,?_⟩) ?_ ?_;rotate_left
           ·
            intro w'
            go_simp
            with_reducible rfl
           rotate_left
           ·
            simp only [Act.put,zi,zj,zk,zG,zH]
            rfl
           refine pure_ (i:=14) (N:=some 4) (v:=?_) (a':=?_) (bm_ 15 15) rfl rfl (any_of HT_.out (by kernel_rfl)) (fun _ _ _ h => h) (Or.inl ⟨by rfl,?_⟩) ?_ ?_;rotate_left
           ·
            intro w'
            go_simp
            with_reducible rfl
           rotate_left
           ·
            simp only [Act.put,zi,zj,zk,zG,zH]
            rfl
           refine done_ (done_of HT_.out (by kernel_rfl)) ?_
           try go_wp2
           go_ret
           exact ⟨by first|rfl|(simp [yt,yu] <;> rfl)|(simp [*,yt,yu] <;> rfl),by repeat (with_reducible first|exact HB.out|apply za|apply zb|apply zc|refine zd ?_ GE605.out|refine zd ?_ GE606.out)⟩
          rw [if_neg c69] at H;exact absurd H (by simp)
         rw [if_neg c68] at H;exact absurd H (by simp)
        rw [if_neg c67] at H;exact absurd H (by simp)
       replace c66:=yb.mpr c66;subst c66;have H1 : ((spec_l01Bit.f (decide ((t622.length : Int) > (t626.length : Int)))).bind fun t630 => (some (wrap64 ((wrap64 (2 * t630)) - 1))))=some r:=by rw [if_neg (show ¬ (false=true) by decide)] at H;exact H
       clear H;have H:=H1;clear H1;replace H:=zT.mp H;obtain ⟨t630,A880,H⟩:=H;replace H : (some (wrap64 ((wrap64 (2 * t630)) - 1)))=some r:=H;have A88:=zh A880;clear A880;obtain rfl:=zU H;obtain ⟨Ao89,co89,eo89⟩:=yk HO_11.out;subst eo89;obtain ⟨Ao90,co90,eo90⟩:=yk HO_13.out;subst eo90
       go_wp2_with (first|((with_reducible refine zJ (f:=95) rfl ?_);refine yj (some 179) rfl rfl Try.func95 (by kernel_rfl) rfl #[.bool (decide ((t622.length : Int) > (t626.length : Int)))] rfl (by (try simp only [zt,zu,zv]);first|done|rfl|(simp only [zw,zx];rfl)|(simp only [yr,ys,zV,zW];rfl)) ?_;(with_reducible refine (spec_l01Bit.calls  (decide ((t622.length : Int) > (t626.length : Int))) t630 _ A88.out).mono ?_);rintro e w' ⟨rfl,⟨nd,rfl⟩⟩;refine ⟨_,rfl,?_⟩))
       go_ret
       exact ⟨by first|rfl|(simp [yt,yu] <;> rfl)|(simp [*,yt,yu] <;> rfl),by repeat (with_reducible first|exact HB.out|apply za|apply zb|apply zc|refine zd ?_ GE605.out|refine zd ?_ GE606.out)⟩
  rw [if_neg c4] at H;have c4b0 : (a0_1 == a1_1)=false:=zY.mpr c4;have c4b1 : (a0_1 != a1_1)=true:=zZ.mpr c4;replace H:=zT.mp H;obtain ⟨t620,A910,H⟩:=H;replace H : (some (wrap64 ((wrap64 (2 * t620)) - 1)))=some r:=H;have A91:=zh A910;clear A910;obtain rfl:=zU H
  go_enter Try.func67,Try.ntmps67
  go_wp2_with (first|((with_reducible refine zK (N:=2) rfl ?_);(try (refine yz (by rfl) ?_;dsimp only));refine zI ?hg (N:=2) ?hd (cs:=#[.int .i64 a0_0,.int .i64 a0_1,.string a0_2]) (t:=26) ?hr ?_;(case hd => rfl);(case hg => rfl);(case hr => first|(go_simp;done)|(go_simp;rfl));intro gb605 hg w92 hbox hb;have BK605:=zh (hbox);have GW605:=zh ((by rw [hg];exact (zB (by repeat (with_reducible first|exact HB.out|apply za|apply zb|apply zc))) : w.heap.size≤gb605));have GE605:=zh ((by rw [hg];exact (zB (by repeat (with_reducible first|exact HB.out|apply za|apply zb|apply zc))) : w.heap.size≤gb605));replace HB:=zh (zC (by repeat (with_reducible first|exact HB.out|apply za|apply zb|apply zc)) hb);clear hb hbox hg)|((with_reducible refine zK (N:=3) rfl ?_);(try (refine yz (by rfl) ?_;dsimp only));refine zI ?hg (N:=3) ?hd (cs:=#[.int .i64 a1_0,.int .i64 a1_1,.string a1_2]) (t:=26) ?hr ?_;(case hd => rfl);(case hg => rfl);(case hr => first|(go_simp;done)|(go_simp;rfl));intro gb606 hg w93 hbox hb;have BK606:=zh (hbox);have GW606:=zh ((by rw [hg];exact (zB (by repeat (with_reducible first|exact HB.out|apply za|apply zb|apply zc|refine zd ?_ GE605.out))) : w.heap.size≤gb606));have GE606:=zh ((by rw [hg];exact (zB (by repeat (with_reducible first|exact HB.out|apply za|apply zb|apply zc|refine zd ?_ GE605.out))) : w.heap.size≤gb606));replace HB:=zh (zC (by repeat (with_reducible first|exact HB.out|apply za|apply zb|apply zc|refine zd ?_ GE605.out)) hb);have NB605_606:=zh ((by rw [hg];exact yc (yi (g:=gb605) (o:=.cells #[.int .i64 a0_0,.int .i64 a0_1,.string a0_2] 26 (0,0)) (by (with_reducible repeat (first|refine ze ?_ _|refine zf ?_|refine zg ?_ _));exact BK605.out)) : gb605≠gb606));have NB606_605:=zh ((by rw [hg];exact yd (yi (g:=gb605) (o:=.cells #[.int .i64 a0_0,.int .i64 a0_1,.string a0_2] 26 (0,0)) (by (with_reducible repeat (first|refine ze ?_ _|refine zf ?_|refine zg ?_ _));exact BK605.out)) : gb606≠gb605));replace BK605:=zh (zD (g:=gb605) (o:=.cells #[.int .i64 a0_0,.int .i64 a0_1,.string a0_2] 26 (0,0)) (by (with_reducible repeat (first|refine ze ?_ _|refine zf ?_|refine zg ?_ _));exact BK605.out) hb);clear hb hbox hg;have hnb94:=NB605_606.out;have hnc94:=NB606_605.out;have hcz95_0 : w93.cell? ⟨gb605,0,none⟩=some (.int .i64 a0_0):=(zz BK605.out 0).trans rfl;have hcz95_1 : w93.cell? ⟨gb605,1,none⟩=some (.int .i64 a0_1):=(zz BK605.out 1).trans rfl;have hcz95_2 : w93.cell? ⟨gb605,2,none⟩=some (.string a0_2):=(zz BK605.out 2).trans rfl;have hfz95_0:=zA BK605.out 0;have hfz95_1:=zA BK605.out 1;have hfz95_2:=zA BK605.out 2;have hcz96_0 : w93.cell? ⟨gb606,0,none⟩=some (.int .i64 a1_0):=(zz BK606.out 0).trans rfl;have hcz96_1 : w93.cell? ⟨gb606,1,none⟩=some (.int .i64 a1_1):=(zz BK606.out 1).trans rfl;have hcz96_2 : w93.cell? ⟨gb606,2,none⟩=some (.string a1_2):=(zz BK606.out 2).trans rfl;have hfz96_0:=zA BK606.out 0;have hfz96_1:=zA BK606.out 1;have hfz96_2:=zA BK606.out 2)|((with_reducible refine zJ (f:=95) rfl ?_);refine yj (some 42) rfl rfl Try.func95 (by kernel_rfl) rfl #[.bool (decide (a0_1 > a1_1))] rfl (by (try simp only [zt,zu,zv]);first|done|rfl|(simp only [zw,zx];rfl)|(simp only [yr,ys,zV,zW];rfl)) ?_;(with_reducible refine (spec_l01Bit.calls  (decide (a0_1 > a1_1)) t620 _ A91.out).mono ?_);rintro e w' ⟨rfl,⟨nd,rfl⟩⟩;refine ⟨_,rfl,?_⟩))
  go_ret
  exact ⟨by first|rfl|(simp [yt,yu] <;> rfl)|(simp [*,yt,yu] <;> rfl),by repeat (with_reducible first|exact HB.out|apply za|apply zb|apply zc|refine zd ?_ GE605.out|refine zd ?_ GE606.out)⟩
 rw [if_neg c3] at H;have c3b0 : (a0_0 == a1_0)=false:=zY.mpr c3;have c3b1 : (a0_0 != a1_0)=true:=zZ.mpr c3;replace H:=zT.mp H;obtain ⟨t621,A970,H⟩:=H;replace H : (some (wrap64 ((wrap64 (2 * t621)) - 1)))=some r:=H;have A97:=zh A970;clear A970;obtain rfl:=zU H
 go_enter Try.func67,Try.ntmps67
 go_wp2_with (first|((with_reducible refine zK (N:=2) rfl ?_);(try (refine yz (by rfl) ?_;dsimp only));refine zI ?hg (N:=2) ?hd (cs:=#[.int .i64 a0_0,.int .i64 a0_1,.string a0_2]) (t:=26) ?hr ?_;(case hd => rfl);(case hg => rfl);(case hr => first|(go_simp;done)|(go_simp;rfl));intro gb605 hg w98 hbox hb;have BK605:=zh (hbox);have GW605:=zh ((by rw [hg];exact (zB (by repeat (with_reducible first|exact HB.out|apply za|apply zb|apply zc))) : w.heap.size≤gb605));have GE605:=zh ((by rw [hg];exact (zB (by repeat (with_reducible first|exact HB.out|apply za|apply zb|apply zc))) : w.heap.size≤gb605));replace HB:=zh (zC (by repeat (with_reducible first|exact HB.out|apply za|apply zb|apply zc)) hb);clear hb hbox hg)|((with_reducible refine zK (N:=3) rfl ?_);(try (refine yz (by rfl) ?_;dsimp only));refine zI ?hg (N:=3) ?hd (cs:=#[.int .i64 a1_0,.int .i64 a1_1,.string a1_2]) (t:=26) ?hr ?_;(case hd => rfl);(case hg => rfl);(case hr => first|(go_simp;done)|(go_simp;rfl));intro gb606 hg w99 hbox hb;have BK606:=zh (hbox);have GW606:=zh ((by rw [hg];exact (zB (by repeat (with_reducible first|exact HB.out|apply za|apply zb|apply zc|refine zd ?_ GE605.out))) : w.heap.size≤gb606));have GE606:=zh ((by rw [hg];exact (zB (by repeat (with_reducible first|exact HB.out|apply za|apply zb|apply zc|refine zd ?_ GE605.out))) : w.heap.size≤gb606));replace HB:=zh (zC (by repeat (with_reducible first|exact HB.out|apply za|apply zb|apply zc|refine zd ?_ GE605.out)) hb);have NB605_606:=zh ((by rw [hg];exact yc (yi (g:=gb605) (o:=.cells #[.int .i64 a0_0,.int .i64 a0_1,.string a0_2] 26 (0,0)) (by (with_reducible repeat (first|refine ze ?_ _|refine zf ?_|refine zg ?_ _));exact BK605.out)) : gb605≠gb606));have NB606_605:=zh ((by rw [hg];exact yd (yi (g:=gb605) (o:=.cells #[.int .i64 a0_0,.int .i64 a0_1,.string a0_2] 26 (0,0)) (by (with_reducible repeat (first|refine ze ?_ _|refine zf ?_|refine zg ?_ _));exact BK605.out)) : gb606≠gb605));replace BK605:=zh (zD (g:=gb605) (o:=.cells #[.int .i64 a0_0,.int .i64 a0_1,.string a0_2] 26 (0,0)) (by (with_reducible repeat (first|refine ze ?_ _|refine zf ?_|refine zg ?_ _));exact BK605.out) hb);clear hb hbox hg;have hnb100:=NB605_606.out;have hnc100:=NB606_605.out;have hcz101_0 : w99.cell? ⟨gb605,0,none⟩=some (.int .i64 a0_0):=(zz BK605.out 0).trans rfl;have hcz101_1 : w99.cell? ⟨gb605,1,none⟩=some (.int .i64 a0_1):=(zz BK605.out 1).trans rfl;have hcz101_2 : w99.cell? ⟨gb605,2,none⟩=some (.string a0_2):=(zz BK605.out 2).trans rfl;have hfz101_0:=zA BK605.out 0;have hfz101_1:=zA BK605.out 1;have hfz101_2:=zA BK605.out 2;have hcz102_0 : w99.cell? ⟨gb606,0,none⟩=some (.int .i64 a1_0):=(zz BK606.out 0).trans rfl;have hcz102_1 : w99.cell? ⟨gb606,1,none⟩=some (.int .i64 a1_1):=(zz BK606.out 1).trans rfl;have hcz102_2 : w99.cell? ⟨gb606,2,none⟩=some (.string a1_2):=(zz BK606.out 2).trans rfl;have hfz102_0:=zA BK606.out 0;have hfz102_1:=zA BK606.out 1;have hfz102_2:=zA BK606.out 2)|((with_reducible refine zJ (f:=95) rfl ?_);refine yj (some 28) rfl rfl Try.func95 (by kernel_rfl) rfl #[.bool (decide (a0_0 > a1_0))] rfl (by (try simp only [zt,zu,zv]);first|done|rfl|(simp only [zw,zx];rfl)|(simp only [yr,ys,zV,zW];rfl)) ?_;(with_reducible refine (spec_l01Bit.calls  (decide (a0_0 > a1_0)) t621 _ A97.out).mono ?_);rintro e w' ⟨rfl,⟨nd,rfl⟩⟩;refine ⟨_,rfl,?_⟩))
 go_ret
 exact ⟨by first|rfl|(simp [yt,yu] <;> rfl)|(simp [*,yt,yu] <;> rfl),by repeat (with_reducible first|exact HB.out|apply za|apply zb|apply zc|refine zd ?_ GE605.out|refine zd ?_ GE606.out)⟩

end Go.Proofs.Ytpmeglcmhiihoaa.Q
end
section
namespace Go.Proofs.Ytpmeglcmhiihoaa.Q
open Go.RowKit Go.Proofs.YtpmeglcmhiihoaaW.PrintWords Go.Proofs.YtpmeglcmhiihoaaW.PrintLast Go.Proofs.YtpmeglcmhiihoaaW.PrintMore
attribute [local go_sem] max2_int min2_int max_two min_two max_three min_three max_four min_four max2_str min2_str str_geq str_gtr str_leq   -- for this text's walks alone
set_option linter.unusedVariables false
set_option linter.unusedSimpArgs false

def spec_OrderValues.f (k : Nat) (a0_0 : Int) (a0_1 : Int) (a0_2 : ByteArray) (a1_0 : Int) (a1_1 : Int) (a1_2 : ByteArray) : Option (Int×Int):=(spec_ValueOK.f k a0_0 a0_1 a0_2).bind fun t641 => (if t641=true then ((spec_ValueOK.f k a1_0 a1_1 a1_2).bind fun t642 => (if t642=true then ((spec_l01Order.f k a0_0 a0_1 a0_2 a1_0 a1_1 a1_2).bind fun t643 => (some (t643,0))) else (some (0,1)))) else (some (0,1)))
theorem spec_OrderValues.mono : ∀ a0 a1 a2 a3 a4 a5 k,LeO (spec_OrderValues.f k a0 a1 a2 a3 a4 a5) (spec_OrderValues.f (k + 1) a0 a1 a2 a3 a4 a5):=by
 intro a0 a1 a2 a3 a4 a5 k;unfold spec_OrderValues.f
 repeat' first|(with_reducible exact spec_ValueOK.mono _ _ _ _)|(with_reducible exact spec_l01Order.mono _ _ _ _ _ _ _)|(with_reducible exact zQ _)|(with_reducible exact zN _)|(with_reducible refine zP ?_ ?_)|(with_reducible refine zO ?_ (fun _ => ?_))|refine zP ?_ ?_|refine zO ?_ (fun _ => ?_)
set_option maxHeartbeats 8000000 in
set_option maxRecDepth 100000 in
theorem spec_OrderValues.calls (k : Nat) (a0_0 : Int) (a0_1 : Int) (a0_2 : ByteArray) (a1_0 : Int) (a1_1 : Int) (a1_2 : ByteArray) (r1 : Int) (r2 : Int) (w : World) (h : spec_OrderValues.f k a0_0 a0_1 a0_2 a1_0 a1_1 a1_2=some (r1,r2)) :
  Calls Try.prog 39 #[.agg #[.int .i64 a0_0,.int .i64 a0_1,.string a0_2],.agg #[.int .i64 a1_0,.int .i64 a1_1,.string a1_2]] w fun e w' => e = .returned (.tuple #[.int .i64 r1,.int .i64 r2])∧Below w.heap.size w w':=by
 have hu26:=Try.underlying26;have HB:=zh (Below.refl w.heap.size w);have H : ((spec_ValueOK.f k a0_0 a0_1 a0_2).bind fun t641 => (if t641=true then ((spec_ValueOK.f k a1_0 a1_1 a1_2).bind fun t642 => (if t642=true then ((spec_l01Order.f k a0_0 a0_1 a0_2 a1_0 a1_1 a1_2).bind fun t643 => (some (t643,0))) else (some (0,1)))) else (some (0,1))))=some (r1,r2):=h;clear h;replace H:=zT.mp H;obtain ⟨t641,A30,H⟩:=H;replace H : (if t641=true then ((spec_ValueOK.f k a1_0 a1_1 a1_2).bind fun t642 => (if t642=true then ((spec_l01Order.f k a0_0 a0_1 a0_2 a1_0 a1_1 a1_2).bind fun t643 => (some (t643,0))) else (some (0,1)))) else (some (0,1)))=some (r1,r2):=H;have A3:=zh A30;clear A30
 by_cases c4 : t641=true
 ·
  subst c4
  have H1 : ((spec_ValueOK.f k a1_0 a1_1 a1_2).bind fun t642 => (if t642=true then ((spec_l01Order.f k a0_0 a0_1 a0_2 a1_0 a1_1 a1_2).bind fun t643 => (some (t643,0))) else (some (0,1))))=some (r1,r2):=by rw [if_pos rfl] at H;exact H
  clear H;have H:=H1;clear H1;replace H:=zT.mp H;obtain ⟨t642,A50,H⟩:=H;replace H : (if t642=true then ((spec_l01Order.f k a0_0 a0_1 a0_2 a1_0 a1_1 a1_2).bind fun t643 => (some (t643,0))) else (some (0,1)))=some (r1,r2):=H;have A5:=zh A50;clear A50
  by_cases c6 : t642=true
  ·
   subst c6
   have H1 : ((spec_l01Order.f k a0_0 a0_1 a0_2 a1_0 a1_1 a1_2).bind fun t643 => (some (t643,0)))=some (r1,r2):=by rw [if_pos rfl] at H;exact H
   clear H;have H:=H1;clear H1;replace H:=zT.mp H;obtain ⟨t643,A70,H⟩:=H;replace H : (some (t643,0))=some (r1,r2):=H;have A7:=zh A70;clear A70;simp only [Option.some.injEq,Prod.mk.injEq] at H;obtain ⟨rfl,rfl⟩:=H
   go_enter Try.func39,Try.ntmps39
   go_wp2_with (first|((with_reducible refine zK (N:=2) rfl ?_);refine zI ?hg (N:=2) ?hd (cs:=#[.int .i64 a0_0,.int .i64 a0_1,.string a0_2]) (t:=26) ?hr ?_;(case hd => rfl);(case hg => rfl);(case hr => first|(go_simp;done)|(go_simp;rfl));intro gb639 hg w8 hbox hb;have BK639:=zh (hbox);have GW639:=zh ((by rw [hg];exact (zB (by repeat (with_reducible first|exact HB.out|apply za|apply zb|apply zc))) : w.heap.size≤gb639));have GE639:=zh ((by rw [hg];exact (zB (by repeat (with_reducible first|exact HB.out|apply za|apply zb|apply zc))) : w.heap.size≤gb639));replace HB:=zh (zC (by repeat (with_reducible first|exact HB.out|apply za|apply zb|apply zc)) hb);clear hb hbox hg)|((with_reducible refine zK (N:=3) rfl ?_);refine zI ?hg (N:=3) ?hd (cs:=#[.int .i64 a1_0,.int .i64 a1_1,.string a1_2]) (t:=26) ?hr ?_;(case hd => rfl);(case hg => rfl);(case hr => first|(go_simp;done)|(go_simp;rfl));intro gb640 hg w9 hbox hb;have BK640:=zh (hbox);have GW640:=zh ((by rw [hg];exact (zB (by repeat (with_reducible first|exact HB.out|apply za|apply zb|apply zc|refine zd ?_ GE639.out))) : w.heap.size≤gb640));have GE640:=zh ((by rw [hg];exact (zB (by repeat (with_reducible first|exact HB.out|apply za|apply zb|apply zc|refine zd ?_ GE639.out))) : w.heap.size≤gb640));replace HB:=zh (zC (by repeat (with_reducible first|exact HB.out|apply za|apply zb|apply zc|refine zd ?_ GE639.out)) hb);have NB639_640:=zh ((by rw [hg];exact yc (yi (g:=gb639) (o:=.cells #[.int .i64 a0_0,.int .i64 a0_1,.string a0_2] 26 (0,0)) (by (with_reducible repeat (first|refine ze ?_ _|refine zf ?_|refine zg ?_ _));exact BK639.out)) : gb639≠gb640));have NB640_639:=zh ((by rw [hg];exact yd (yi (g:=gb639) (o:=.cells #[.int .i64 a0_0,.int .i64 a0_1,.string a0_2] 26 (0,0)) (by (with_reducible repeat (first|refine ze ?_ _|refine zf ?_|refine zg ?_ _));exact BK639.out)) : gb640≠gb639));replace BK639:=zh (zD (g:=gb639) (o:=.cells #[.int .i64 a0_0,.int .i64 a0_1,.string a0_2] 26 (0,0)) (by (with_reducible repeat (first|refine ze ?_ _|refine zf ?_|refine zg ?_ _));exact BK639.out) hb);clear hb hbox hg;have hnb10:=NB639_640.out;have hnc10:=NB640_639.out;have hcz11_0 : w9.cell? ⟨gb639,0,none⟩=some (.int .i64 a0_0):=(zz BK639.out 0).trans rfl;have hcz11_1 : w9.cell? ⟨gb639,1,none⟩=some (.int .i64 a0_1):=(zz BK639.out 1).trans rfl;have hcz11_2 : w9.cell? ⟨gb639,2,none⟩=some (.string a0_2):=(zz BK639.out 2).trans rfl;have hfz11_0:=zA BK639.out 0;have hfz11_1:=zA BK639.out 1;have hfz11_2:=zA BK639.out 2)|((with_reducible refine zJ (f:=15) rfl ?_);refine yj (some 7) rfl rfl Try.func15 (by kernel_rfl) rfl #[.agg #[.int .i64 a0_0,.int .i64 a0_1,.string a0_2]] rfl (by (try simp only [zt,zu,zv]);first|done|rfl|(simp only [zw,zx];rfl)|(simp only [yr,ys,zV,zW];rfl)) ?_;(with_reducible refine (spec_ValueOK.calls k  a0_0 a0_1 a0_2 true _ A3.out).mono ?_);rintro e w12 ⟨rfl,hb⟩;refine ⟨_,rfl,?_⟩;replace BK639:=zh (zD (g:=gb639) (o:=.cells #[.int .i64 a0_0,.int .i64 a0_1,.string a0_2] 26 (0,0)) (by (with_reducible repeat (first|refine ze ?_ _|refine zf ?_|refine zg ?_ _));exact BK639.out) hb);replace BK640:=zh (zD (g:=gb640) (o:=.cells #[.int .i64 a1_0,.int .i64 a1_1,.string a1_2] 26 (0,0)) (by (with_reducible repeat (first|refine ze ?_ _|refine zf ?_|refine zg ?_ _));exact BK640.out) hb);replace HB:=zh (zC (by repeat (with_reducible first|exact HB.out|apply za|apply zb|apply zc|refine zd ?_ GE639.out|refine zd ?_ GE640.out)) hb);(try clear hb);(try clear hb2);(try clear hk);(try clear hi);have hcz13_0 : w12.cell? ⟨gb640,0,none⟩=some (.int .i64 a1_0):=(zz BK640.out 0).trans rfl;have hcz13_1 : w12.cell? ⟨gb640,1,none⟩=some (.int .i64 a1_1):=(zz BK640.out 1).trans rfl;have hcz13_2 : w12.cell? ⟨gb640,2,none⟩=some (.string a1_2):=(zz BK640.out 2).trans rfl;have hfz13_0:=zA BK640.out 0;have hfz13_1:=zA BK640.out 1;have hfz13_2:=zA BK640.out 2)|(go_at_call 15;(with_reducible refine (spec_ValueOK.calls k  a1_0 a1_1 a1_2 true _ A5.out).mono ?_);rintro e w14 ⟨rfl,hb⟩;replace BK639:=zh (zD (g:=gb639) (o:=.cells #[.int .i64 a0_0,.int .i64 a0_1,.string a0_2] 26 (0,0)) (by (with_reducible repeat (first|refine ze ?_ _|refine zf ?_|refine zg ?_ _));exact BK639.out) hb);replace BK640:=zh (zD (g:=gb640) (o:=.cells #[.int .i64 a1_0,.int .i64 a1_1,.string a1_2] 26 (0,0)) (by (with_reducible repeat (first|refine ze ?_ _|refine zf ?_|refine zg ?_ _));exact BK640.out) hb);replace HB:=zh (zC (by repeat (with_reducible first|exact HB.out|apply za|apply zb|apply zc|refine zd ?_ GE639.out|refine zd ?_ GE640.out)) hb);(try clear hb);(try clear hb2);(try clear hk);(try clear hi);have hcz15_0 : w14.cell? ⟨gb639,0,none⟩=some (.int .i64 a0_0):=(zz BK639.out 0).trans rfl;have hcz15_1 : w14.cell? ⟨gb639,1,none⟩=some (.int .i64 a0_1):=(zz BK639.out 1).trans rfl;have hcz15_2 : w14.cell? ⟨gb639,2,none⟩=some (.string a0_2):=(zz BK639.out 2).trans rfl;have hfz15_0:=zA BK639.out 0;have hfz15_1:=zA BK639.out 1;have hfz15_2:=zA BK639.out 2;have hcz16_0 : w14.cell? ⟨gb640,0,none⟩=some (.int .i64 a1_0):=(zz BK640.out 0).trans rfl;have hcz16_1 : w14.cell? ⟨gb640,1,none⟩=some (.int .i64 a1_1):=(zz BK640.out 1).trans rfl;have hcz16_2 : w14.cell? ⟨gb640,2,none⟩=some (.string a1_2):=(zz BK640.out 2).trans rfl;have hfz16_0:=zA BK640.out 0;have hfz16_1:=zA BK640.out 1;have hfz16_2:=zA BK640.out 2)|((with_reducible refine zJ (f:=67) rfl ?_);refine yj (some 16) rfl rfl Try.func67 (by kernel_rfl) rfl #[.agg #[.int .i64 a0_0,.int .i64 a0_1,.string a0_2],.agg #[.int .i64 a1_0,.int .i64 a1_1,.string a1_2]] rfl (by (try simp only [zt,zu,zv]);first|done|rfl|(simp only [zw,zx];rfl)|(simp only [yr,ys,zV,zW];rfl)) ?_;(with_reducible refine (spec_l01Order.calls k  a0_0 a0_1 a0_2 a1_0 a1_1 a1_2 t643 _ A7.out).mono ?_);rintro e w17 ⟨rfl,hb⟩;refine ⟨_,rfl,?_⟩;replace BK639:=zh (zD (g:=gb639) (o:=.cells #[.int .i64 a0_0,.int .i64 a0_1,.string a0_2] 26 (0,0)) (by (with_reducible repeat (first|refine ze ?_ _|refine zf ?_|refine zg ?_ _));exact BK639.out) hb);replace BK640:=zh (zD (g:=gb640) (o:=.cells #[.int .i64 a1_0,.int .i64 a1_1,.string a1_2] 26 (0,0)) (by (with_reducible repeat (first|refine ze ?_ _|refine zf ?_|refine zg ?_ _));exact BK640.out) hb);replace HB:=zh (zC (by repeat (with_reducible first|exact HB.out|apply za|apply zb|apply zc|refine zd ?_ GE639.out|refine zd ?_ GE640.out)) hb);(try clear hb);(try clear hb2);(try clear hk);(try clear hi)))
   go_ret2
   exact ⟨by first|rfl|(simp [yt,yu] <;> rfl)|(simp [*,yt,yu] <;> rfl),by repeat (with_reducible first|exact HB.out|apply za|apply zb|apply zc|refine zd ?_ GE639.out|refine zd ?_ GE640.out)⟩
  replace c6:=yb.mpr c6;subst c6;have H1 : (some (0,1))=some (r1,r2):=by rw [if_neg (show ¬ (false=true) by decide)] at H;exact H
  clear H;have H:=H1;clear H1;simp only [Option.some.injEq,Prod.mk.injEq] at H;obtain ⟨rfl,rfl⟩:=H
  go_enter Try.func39,Try.ntmps39
  go_wp2_with (first|((with_reducible refine zK (N:=2) rfl ?_);refine zI ?hg (N:=2) ?hd (cs:=#[.int .i64 a0_0,.int .i64 a0_1,.string a0_2]) (t:=26) ?hr ?_;(case hd => rfl);(case hg => rfl);(case hr => first|(go_simp;done)|(go_simp;rfl));intro gb639 hg w18 hbox hb;have BK639:=zh (hbox);have GW639:=zh ((by rw [hg];exact (zB (by repeat (with_reducible first|exact HB.out|apply za|apply zb|apply zc))) : w.heap.size≤gb639));have GE639:=zh ((by rw [hg];exact (zB (by repeat (with_reducible first|exact HB.out|apply za|apply zb|apply zc))) : w.heap.size≤gb639));replace HB:=zh (zC (by repeat (with_reducible first|exact HB.out|apply za|apply zb|apply zc)) hb);clear hb hbox hg)|((with_reducible refine zK (N:=3) rfl ?_);refine zI ?hg (N:=3) ?hd (cs:=#[.int .i64 a1_0,.int .i64 a1_1,.string a1_2]) (t:=26) ?hr ?_;(case hd => rfl);(case hg => rfl);(case hr => first|(go_simp;done)|(go_simp;rfl));intro gb640 hg w19 hbox hb;have BK640:=zh (hbox);have GW640:=zh ((by rw [hg];exact (zB (by repeat (with_reducible first|exact HB.out|apply za|apply zb|apply zc|refine zd ?_ GE639.out))) : w.heap.size≤gb640));have GE640:=zh ((by rw [hg];exact (zB (by repeat (with_reducible first|exact HB.out|apply za|apply zb|apply zc|refine zd ?_ GE639.out))) : w.heap.size≤gb640));replace HB:=zh (zC (by repeat (with_reducible first|exact HB.out|apply za|apply zb|apply zc|refine zd ?_ GE639.out)) hb);have NB639_640:=zh ((by rw [hg];exact yc (yi (g:=gb639) (o:=.cells #[.int .i64 a0_0,.int .i64 a0_1,.string a0_2] 26 (0,0)) (by (with_reducible repeat (first|refine ze ?_ _|refine zf ?_|refine zg ?_ _));exact BK639.out)) : gb639≠gb640));have NB640_639:=zh ((by rw [hg];exact yd (yi (g:=gb639) (o:=.cells #[.int .i64 a0_0,.int .i64 a0_1,.string a0_2] 26 (0,0)) (by (with_reducible repeat (first|refine ze ?_ _|refine zf ?_|refine zg ?_ _));exact BK639.out)) : gb640≠gb639));replace BK639:=zh (zD (g:=gb639) (o:=.cells #[.int .i64 a0_0,.int .i64 a0_1,.string a0_2] 26 (0,0)) (by (with_reducible repeat (first|refine ze ?_ _|refine zf ?_|refine zg ?_ _));exact BK639.out) hb);clear hb hbox hg;have hnb20:=NB639_640.out;have hnc20:=NB640_639.out;have hcz21_0 : w19.cell? ⟨gb639,0,none⟩=some (.int .i64 a0_0):=(zz BK639.out 0).trans rfl;have hcz21_1 : w19.cell? ⟨gb639,1,none⟩=some (.int .i64 a0_1):=(zz BK639.out 1).trans rfl;have hcz21_2 : w19.cell? ⟨gb639,2,none⟩=some (.string a0_2):=(zz BK639.out 2).trans rfl;have hfz21_0:=zA BK639.out 0;have hfz21_1:=zA BK639.out 1;have hfz21_2:=zA BK639.out 2)|((with_reducible refine zJ (f:=15) rfl ?_);refine yj (some 7) rfl rfl Try.func15 (by kernel_rfl) rfl #[.agg #[.int .i64 a0_0,.int .i64 a0_1,.string a0_2]] rfl (by (try simp only [zt,zu,zv]);first|done|rfl|(simp only [zw,zx];rfl)|(simp only [yr,ys,zV,zW];rfl)) ?_;(with_reducible refine (spec_ValueOK.calls k  a0_0 a0_1 a0_2 true _ A3.out).mono ?_);rintro e w22 ⟨rfl,hb⟩;refine ⟨_,rfl,?_⟩;replace BK639:=zh (zD (g:=gb639) (o:=.cells #[.int .i64 a0_0,.int .i64 a0_1,.string a0_2] 26 (0,0)) (by (with_reducible repeat (first|refine ze ?_ _|refine zf ?_|refine zg ?_ _));exact BK639.out) hb);replace BK640:=zh (zD (g:=gb640) (o:=.cells #[.int .i64 a1_0,.int .i64 a1_1,.string a1_2] 26 (0,0)) (by (with_reducible repeat (first|refine ze ?_ _|refine zf ?_|refine zg ?_ _));exact BK640.out) hb);replace HB:=zh (zC (by repeat (with_reducible first|exact HB.out|apply za|apply zb|apply zc|refine zd ?_ GE639.out|refine zd ?_ GE640.out)) hb);(try clear hb);(try clear hb2);(try clear hk);(try clear hi);have hcz23_0 : w22.cell? ⟨gb640,0,none⟩=some (.int .i64 a1_0):=(zz BK640.out 0).trans rfl;have hcz23_1 : w22.cell? ⟨gb640,1,none⟩=some (.int .i64 a1_1):=(zz BK640.out 1).trans rfl;have hcz23_2 : w22.cell? ⟨gb640,2,none⟩=some (.string a1_2):=(zz BK640.out 2).trans rfl;have hfz23_0:=zA BK640.out 0;have hfz23_1:=zA BK640.out 1;have hfz23_2:=zA BK640.out 2)|(go_at_call 15;(with_reducible refine (spec_ValueOK.calls k  a1_0 a1_1 a1_2 false _ A5.out).mono ?_);rintro e w24 ⟨rfl,hb⟩;replace BK639:=zh (zD (g:=gb639) (o:=.cells #[.int .i64 a0_0,.int .i64 a0_1,.string a0_2] 26 (0,0)) (by (with_reducible repeat (first|refine ze ?_ _|refine zf ?_|refine zg ?_ _));exact BK639.out) hb);replace BK640:=zh (zD (g:=gb640) (o:=.cells #[.int .i64 a1_0,.int .i64 a1_1,.string a1_2] 26 (0,0)) (by (with_reducible repeat (first|refine ze ?_ _|refine zf ?_|refine zg ?_ _));exact BK640.out) hb);replace HB:=zh (zC (by repeat (with_reducible first|exact HB.out|apply za|apply zb|apply zc|refine zd ?_ GE639.out|refine zd ?_ GE640.out)) hb);(try clear hb);(try clear hb2);(try clear hk);(try clear hi)))
  go_ret2
  exact ⟨by first|rfl|(simp [yt,yu] <;> rfl)|(simp [*,yt,yu] <;> rfl),by repeat (with_reducible first|exact HB.out|apply za|apply zb|apply zc|refine zd ?_ GE639.out|refine zd ?_ GE640.out)⟩
 replace c4:=yb.mpr c4;subst c4;have H1 : (some (0,1))=some (r1,r2):=by rw [if_neg (show ¬ (false=true) by decide)] at H;exact H
 clear H;have H:=H1;clear H1;simp only [Option.some.injEq,Prod.mk.injEq] at H;obtain ⟨rfl,rfl⟩:=H
 go_enter Try.func39,Try.ntmps39
 go_wp2_with (first|((with_reducible refine zK (N:=2) rfl ?_);refine zI ?hg (N:=2) ?hd (cs:=#[.int .i64 a0_0,.int .i64 a0_1,.string a0_2]) (t:=26) ?hr ?_;(case hd => rfl);(case hg => rfl);(case hr => first|(go_simp;done)|(go_simp;rfl));intro gb639 hg w25 hbox hb;have BK639:=zh (hbox);have GW639:=zh ((by rw [hg];exact (zB (by repeat (with_reducible first|exact HB.out|apply za|apply zb|apply zc))) : w.heap.size≤gb639));have GE639:=zh ((by rw [hg];exact (zB (by repeat (with_reducible first|exact HB.out|apply za|apply zb|apply zc))) : w.heap.size≤gb639));replace HB:=zh (zC (by repeat (with_reducible first|exact HB.out|apply za|apply zb|apply zc)) hb);clear hb hbox hg)|((with_reducible refine zK (N:=3) rfl ?_);refine zI ?hg (N:=3) ?hd (cs:=#[.int .i64 a1_0,.int .i64 a1_1,.string a1_2]) (t:=26) ?hr ?_;(case hd => rfl);(case hg => rfl);(case hr => first|(go_simp;done)|(go_simp;rfl));intro gb640 hg w26 hbox hb;have BK640:=zh (hbox);have GW640:=zh ((by rw [hg];exact (zB (by repeat (with_reducible first|exact HB.out|apply za|apply zb|apply zc|refine zd ?_ GE639.out))) : w.heap.size≤gb640));have GE640:=zh ((by rw [hg];exact (zB (by repeat (with_reducible first|exact HB.out|apply za|apply zb|apply zc|refine zd ?_ GE639.out))) : w.heap.size≤gb640));replace HB:=zh (zC (by repeat (with_reducible first|exact HB.out|apply za|apply zb|apply zc|refine zd ?_ GE639.out)) hb);have NB639_640:=zh ((by rw [hg];exact yc (yi (g:=gb639) (o:=.cells #[.int .i64 a0_0,.int .i64 a0_1,.string a0_2] 26 (0,0)) (by (with_reducible repeat (first|refine ze ?_ _|refine zf ?_|refine zg ?_ _));exact BK639.out)) : gb639≠gb640));have NB640_639:=zh ((by rw [hg];exact yd (yi (g:=gb639) (o:=.cells #[.int .i64 a0_0,.int .i64 a0_1,.string a0_2] 26 (0,0)) (by (with_reducible repeat (first|refine ze ?_ _|refine zf ?_|refine zg ?_ _));exact BK639.out)) : gb640≠gb639));replace BK639:=zh (zD (g:=gb639) (o:=.cells #[.int .i64 a0_0,.int .i64 a0_1,.string a0_2] 26 (0,0)) (by (with_reducible repeat (first|refine ze ?_ _|refine zf ?_|refine zg ?_ _));exact BK639.out) hb);clear hb hbox hg;have hnb27:=NB639_640.out;have hnc27:=NB640_639.out;have hcz28_0 : w26.cell? ⟨gb639,0,none⟩=some (.int .i64 a0_0):=(zz BK639.out 0).trans rfl;have hcz28_1 : w26.cell? ⟨gb639,1,none⟩=some (.int .i64 a0_1):=(zz BK639.out 1).trans rfl;have hcz28_2 : w26.cell? ⟨gb639,2,none⟩=some (.string a0_2):=(zz BK639.out 2).trans rfl;have hfz28_0:=zA BK639.out 0;have hfz28_1:=zA BK639.out 1;have hfz28_2:=zA BK639.out 2)|((with_reducible refine zJ (f:=15) rfl ?_);refine yj (some 7) rfl rfl Try.func15 (by kernel_rfl) rfl #[.agg #[.int .i64 a0_0,.int .i64 a0_1,.string a0_2]] rfl (by (try simp only [zt,zu,zv]);first|done|rfl|(simp only [zw,zx];rfl)|(simp only [yr,ys,zV,zW];rfl)) ?_;(with_reducible refine (spec_ValueOK.calls k  a0_0 a0_1 a0_2 false _ A3.out).mono ?_);rintro e w29 ⟨rfl,hb⟩;refine ⟨_,rfl,?_⟩;replace BK639:=zh (zD (g:=gb639) (o:=.cells #[.int .i64 a0_0,.int .i64 a0_1,.string a0_2] 26 (0,0)) (by (with_reducible repeat (first|refine ze ?_ _|refine zf ?_|refine zg ?_ _));exact BK639.out) hb);replace BK640:=zh (zD (g:=gb640) (o:=.cells #[.int .i64 a1_0,.int .i64 a1_1,.string a1_2] 26 (0,0)) (by (with_reducible repeat (first|refine ze ?_ _|refine zf ?_|refine zg ?_ _));exact BK640.out) hb);replace HB:=zh (zC (by repeat (with_reducible first|exact HB.out|apply za|apply zb|apply zc|refine zd ?_ GE639.out|refine zd ?_ GE640.out)) hb);(try clear hb);(try clear hb2);(try clear hk);(try clear hi)))
 go_ret2
 exact ⟨by first|rfl|(simp [yt,yu] <;> rfl)|(simp [*,yt,yu] <;> rfl),by repeat (with_reducible first|exact HB.out|apply za|apply zb|apply zc|refine zd ?_ GE639.out|refine zd ?_ GE640.out)⟩

end Go.Proofs.Ytpmeglcmhiihoaa.Q
end
section
namespace Go.Proofs.Ytpmeglcmhiihoaa.Q
open Go.RowKit Go.Proofs.YtpmeglcmhiihoaaW.PrintWords Go.Proofs.YtpmeglcmhiihoaaW.PrintLast Go.Proofs.YtpmeglcmhiihoaaW.PrintMore
attribute [local go_sem] max2_int min2_int max_two min_two max_three min_three max_four min_four max2_str min2_str str_geq str_gtr str_leq   -- for this text's walks alone
set_option linter.unusedVariables false
set_option linter.unusedSimpArgs false

def impl_inRange.f (a0 : Int) (a1 : Int) (a2 : Int) : Option (Bool):=if a1≤a0 then (some (decide (a0≤a2))) else (some false)
set_option maxHeartbeats 8000000 in
set_option maxRecDepth 100000 in
theorem impl_inRange.calls (a0 : Int) (a1 : Int) (a2 : Int) (r : Bool) (w : World) (h : impl_inRange.f a0 a1 a2=some r) :
  Calls Try.prog 85 #[.int .i64 a0,.int .i64 a1,.int .i64 a2] w fun e w' => e = .returned (.bool r)∧Drawn0 w w':=by
 have H : (if a1≤a0 then (some (decide (a0≤a2))) else (some false))=some r:=h;clear h
 by_cases c4 : a1≤a0
 ·
  rw [if_pos c4] at H
  have c4b0 : decide (a1≤a0)=true:=decide_eq_true c4;clear c4;obtain rfl:=zU H
  go_enter Try.func85,Try.ntmps85
  go_wp2
  go_ret
  exact ⟨by first|rfl|(simp;done)|(simp [*];done),by repeat (first|exact yp _|apply yq)⟩
 rw [if_neg c4] at H;have c4b0 : decide (a1≤a0)=false:=decide_eq_false c4;clear c4;obtain rfl:=zU H
 go_enter Try.func85,Try.ntmps85
 go_wp2
 go_ret
 exact ⟨by first|rfl|(simp;done)|(simp [*];done),by repeat (first|exact yp _|apply yq)⟩

end Go.Proofs.Ytpmeglcmhiihoaa.Q
end
section
namespace Go.Proofs.Ytpmeglcmhiihoaa.Q
open Go.RowKit Go.Proofs.YtpmeglcmhiihoaaW.PrintWords Go.Proofs.YtpmeglcmhiihoaaW.PrintLast Go.Proofs.YtpmeglcmhiihoaaW.PrintMore
attribute [local go_sem] max2_int min2_int max_two min_two max_three min_three max_four min_four max2_str min2_str str_geq str_gtr str_leq   -- for this text's walks alone
set_option linter.unusedVariables false
set_option linter.unusedSimpArgs false

def impl_isNumber.f (a0 : Int) : Option (Bool):=(impl_inRange.f a0 (-1000000000000) 1000000000000).bind fun t170 => (some t170)
set_option maxHeartbeats 8000000 in
set_option maxRecDepth 100000 in
theorem impl_isNumber.calls (a0 : Int) (r : Bool) (w : World) (h : impl_isNumber.f a0=some r) :
  Calls Try.prog 86 #[.int .i64 a0] w fun e w' => e = .returned (.bool r)∧Drawn0 w w':=by
 have H : ((impl_inRange.f a0 (-1000000000000) 1000000000000).bind fun t170 => (some t170))=some r:=h;clear h;replace H:=zT.mp H;obtain ⟨t170,A20,H⟩:=H;replace H : (some t170)=some r:=H;have A2:=zh A20;clear A20;obtain rfl:=zU H
 go_enter Try.func86,Try.ntmps86
 go_wp2_with (first|((with_reducible refine zJ (f:=85) rfl ?_);refine yj (some 4) rfl rfl Try.func85 (by kernel_rfl) rfl #[.int .i64 a0,.int .i64 (-1000000000000),.int .i64 1000000000000] rfl (by (try simp only [zt,zu,zv]);first|done|rfl|(simp only [zw,zx];rfl)|(simp only [yr,ys,zV,zW];rfl)) ?_;(with_reducible refine (impl_inRange.calls  a0 (-1000000000000) 1000000000000 t170 _ A2.out).mono ?_);rintro e w' ⟨rfl,⟨nd,rfl⟩⟩;refine ⟨_,rfl,?_⟩))
 go_ret
 exact ⟨by first|rfl|(simp;done)|(simp [*];done),by repeat (first|exact yp _|apply yq)⟩

end Go.Proofs.Ytpmeglcmhiihoaa.Q
end
section
namespace Go.Proofs.Ytpmeglcmhiihoaa.Q
open Go.RowKit Go.Proofs.YtpmeglcmhiihoaaW.PrintWords Go.Proofs.YtpmeglcmhiihoaaW.PrintLast Go.Proofs.YtpmeglcmhiihoaaW.PrintMore
attribute [local go_sem] max2_int min2_int max_two min_two max_three min_three max_four min_four max2_str min2_str str_geq str_gtr str_leq   -- for this text's walks alone
set_option linter.unusedVariables false
set_option linter.unusedSimpArgs false

def impl_big.l0 : Nat→Int→List Int→Int→Int→Option (Int)
 | 0,_,_,_,_ => none
 | k + 1,x3,x6,x7,x8 => if x8<x7 then (if 0≤x8 then (if x8<(x6.length : Int) then (impl_big.l0 k (Go.bits .or .i64 (wrap64 (x3 * 256)) (wrap64 (rd x6 x8))) x6 x7 (wrap64 (x8 + 1))) else (none)) else (none)) else (some x3)
def impl_big.f (k : Nat) (l0 : List Int) : Option (Int):=impl_big.l0 k 0 l0 (l0.length : Int) 0
theorem impl_big.mono_l : ∀ k,(∀ y0 y1 y2 y3,LeO (impl_big.l0 k y0 y1 y2 y3) (impl_big.l0 (k + 1) y0 y1 y2 y3))
 | 0 => fun _ _ _ _ r h => by simp [impl_big.l0] at h
 | k + 1 => by
  have ih0:=impl_big.mono_l k;intro y0 y1 y2 y3;unfold impl_big.l0
  repeat' first|(with_reducible exact ih0 _ _ _ _)|(with_reducible exact zQ _)|(with_reducible exact zN _)|(with_reducible refine zP ?_ ?_)|(with_reducible refine zO ?_ (fun _ => ?_))|refine zP ?_ ?_|refine zO ?_ (fun _ => ?_)
theorem impl_big.mono : ∀ a0 k,LeO (impl_big.f k a0) (impl_big.f (k + 1) a0):=by
 intro a0 k;have ih0:=impl_big.mono_l k;unfold impl_big.f
 repeat' first|(with_reducible exact ih0 _ _ _ _)|(with_reducible exact zQ _)|(with_reducible exact zN _)|(with_reducible refine zP ?_ ?_)|(with_reducible refine zO ?_ (fun _ => ?_))|refine zP ?_ ?_|refine zO ?_ (fun _ => ?_)
set_option maxHeartbeats 8000000 in
set_option maxRecDepth 100000 in
theorem impl_big.calls (k : Nat) (A0 : Option Addr) (c0 : Nat) (l0 : List Int) (r : Int) (w : World) (hr0 : Kd.C (Kd.int .u8) w A0 l0.length l0) (hc0 : l0.length≤c0) (h : impl_big.f k l0=some r) :
  Calls Try.prog 114 #[.slice A0 l0.length c0] w fun e w' => e = .returned (.int .i64 r)∧Drawn0 w w':=by
 have HR0:=zh hr0;have HC0:=zh hc0;clear hr0 hc0;have H : (impl_big.l0 k 0 l0 (l0.length : Int) 0)=some r:=h;clear h;have H':=zh H;clear H
 go_enter Try.func114,Try.ntmps114
 go_wp2
 go_loopg [3,8] k (fun kq v3 v8 w' => ∃ (x3_1 : Int) (x8_1 : Int),v3 = .int .i64 x3_1∧v8 = .int .i64 x8_1∧Aside0 (impl_big.l0 kq x3_1 l0 (l0.length : Int) x8_1=some r)∧Aside0 (kq≤k)∧Drawn0 w w')
 case atStart => exact ⟨(0),(0),(by first|rfl|(simp;done)|(simp [*];done)),(by first|rfl|(simp;done)|(simp [*];done)),H',⟨ye _⟩,by repeat (first|exact yp _|apply yq)⟩
 case round =>
  clear H'
  try clear c1
  obtain ⟨x3_1,x8_1,rfl,rfl,HA,HK1,⟨m1,rfl⟩⟩:=hrel
  cases gk with
  | zero => exact absurd HA.out (by simp [impl_big.l0])
  | succ k1 =>
   have H:=HA.out;clear HA;simp only [impl_big.l0] at H
   by_cases c2 : x8_1<(l0.length : Int)
   ·
    rw [if_pos c2] at H
    have c2b0 : decide (x8_1<(l0.length : Int))=true:=decide_eq_true c2;clear c2
    by_cases c3 : 0≤x8_1
    ·
     rw [if_pos c3] at H
     have c3b0 : decide (0≤x8_1)=true:=decide_eq_true c3;clear c3
     by_cases c4 : x8_1<(l0.length : Int)
     ·
      rw [if_pos c4] at H
      have c4b0 : decide (x8_1<(l0.length : Int))=true:=decide_eq_true c4;clear c4;have H':=zh H;clear H;have p175 : 0≤(x8_1 : Int):=zy (by first|(with_reducible assumption)|assumption);have q175 : x8_1<(l0.length : Int):=zy (by first|(with_reducible assumption)|assumption);obtain ⟨ad175,e175,hx175_0⟩:=Kd.at_int HR0.out x8_1 p175 q175
      cases e175
      replace p175:=eq_true p175;replace q175:=eq_true q175
      go_wp2
      go_roundg k1
      case measure => have:=HK1.out;omega
      case rel => exact ⟨(Go.bits .or .i64 (wrap64 (x3_1 * 256)) (wrap64 (rd l0 x8_1))),(wrap64 (x8_1 + 1)),(by first|rfl|(simp;done)|(simp [*];done)),(by first|rfl|(simp;done)|(simp [*];done)),H',⟨by have:=HK1.out;omega⟩,by repeat (first|exact yp _|apply yq)⟩
     rw [if_neg c4] at H;exact absurd H (by simp)
    rw [if_neg c3] at H;exact absurd H (by simp)
   rw [if_neg c2] at H;have c2b0 : decide (x8_1<(l0.length : Int))=false:=decide_eq_false c2;clear c2;obtain rfl:=zU H
   go_wp2
   go_ret
   exact ⟨by first|rfl|(simp;done)|(simp [*];done),by repeat (first|exact yp _|apply yq)⟩

end Go.Proofs.Ytpmeglcmhiihoaa.Q
end
section
namespace Go.Proofs.Ytpmeglcmhiihoaa.Q
open Go.RowKit Go.Proofs.YtpmeglcmhiihoaaW.PrintWords Go.Proofs.YtpmeglcmhiihoaaW.PrintLast Go.Proofs.YtpmeglcmhiihoaaW.PrintMore
attribute [local go_sem] max2_int min2_int max_two min_two max_three min_three max_four min_four max2_str min2_str str_geq str_gtr str_leq
set_option linter.unusedVariables false
set_option linter.unusedSimpArgs false

def strings_Repeat.f (a0 : ByteArray) (a1 : Int) : Option (ByteArray):=if 0≤a1 then (if a0.size * a1.toNat≤140737488355328 then (if a1≤9223372036854775807 then (some ⟨(Lib.repeatL a0.data.toList a1.toNat).toArray⟩) else (none)) else (none)) else (none)
theorem strings_Repeat.calls (a0 : ByteArray) (a1 : Int) (r : ByteArray) (w : World) (h : strings_Repeat.f a0 a1=some r) :
  Calls Try.prog 115 #[.string a0,.int .i64 a1] w fun e w' => e = .returned (.string r)∧Below w.heap.size w w':=by
 unfold strings_Repeat.f at h
 by_cases h0 : 0≤a1
 ·
  rw [if_pos h0] at h
  by_cases h1 : a0.size * a1.toNat≤140737488355328
  ·
   rw [if_pos h1] at h
   by_cases h2 : a1≤9223372036854775807
   ·
    rw [if_pos h2] at h
    obtain rfl:=zU h;have:=Try.strings_Repeat a0 a1.toNat w (by omega) h1;rw [Int.toNat_of_nonneg h0] at this;exact this
   rw [if_neg h2] at h;exact absurd h (by simp)
  rw [if_neg h1] at h;exact absurd h (by simp)
 rw [if_neg h0] at h;exact absurd h (by simp)

end Go.Proofs.Ytpmeglcmhiihoaa.Q
end
section
namespace Go.Proofs.Ytpmeglcmhiihoaa.Q
open Go.RowKit Go.Proofs.YtpmeglcmhiihoaaW.PrintWords Go.Proofs.YtpmeglcmhiihoaaW.PrintLast Go.Proofs.YtpmeglcmhiihoaaW.PrintMore
attribute [local go_sem] max2_int min2_int max_two min_two max_three min_three max_four min_four max2_str min2_str str_geq str_gtr str_leq   -- for this text's walks alone
set_option linter.unusedVariables false
set_option linter.unusedSimpArgs false

def IsS74 (w0 W : World) (g : Nat) (f0 : ByteArray) (f1 : Bool) : Prop:=W.heap[g]? = some (.cells #[.string f0,.bool f1] 74 (0,0))∧w0.heap.size≤g
theorem IsS74.grown {w0 W : World} {g : Nat} {f0 : ByteArray} {f1 : Bool} {W1 : World} {row : Option Nat} (h : IsS74 w0 W g f0 f1) (hw : W.grownBy W1 row) (hne : some g≠row) : IsS74 w0 W1 g f0 f1:=by
 obtain ⟨hb,hg⟩:=h;exact ⟨yw hb hw hne,hg⟩
theorem IsS74.fresh {w0 W : World} {g : Nat} {f0 : ByteArray} {f1 : Bool} (h : IsS74 w0 W g f0 f1) : ∀ k,W.heap.size≤k→k≠g:=by
 obtain ⟨hb,hg⟩:=h;exact Kd.freshB hb
theorem IsS74.kept {w0 W : World} {g : Nat} {f0 : ByteArray} {f1 : Bool} {W1 : World} {S : Nat→Prop} (h : IsS74 w0 W g f0 f1) (hk : Kept W W1 S) (hne : ¬ S g) : IsS74 w0 W1 g f0 f1:=by
 obtain ⟨hb,hg⟩:=h;exact ⟨blk_kept hb hk hne,hg⟩
theorem IsS74.below {w0 W : World} {g : Nat} {f0 : ByteArray} {f1 : Bool} {W1 : World} (h : IsS74 w0 W g f0 f1) (hw : Below W.heap.size W W1) : IsS74 w0 W1 g f0 f1:=h.grown (grown_of_below hw none) (by simp)
theorem IsS74.alloc {w0 W : World} {g : Nat} {f0 : ByteArray} {f1 : Bool} (h : IsS74 w0 W g f0 f1) (o : Obj) : IsS74 w0 (W.alloc o) g f0 f1:=h.below (za (Below.refl _ _) o)
theorem IsS74.drewN {w0 W : World} {g : Nat} {f0 : ByteArray} {f1 : Bool} (h : IsS74 w0 W g f0 f1) (m : Nat) : IsS74 w0 (W.drewN m) g f0 f1:=h
theorem IsS74.drew {w0 W : World} {g : Nat} {f0 : ByteArray} {f1 : Bool} (h : IsS74 w0 W g f0 f1) : IsS74 w0 W.drew g f0 f1:=h
theorem IsS74.at_ {w0 W : World} {g : Nat} {f0 : ByteArray} {f1 : Bool} {w' : World} {m : Nat} (hq : W.drewN m=w') (h : IsS74 w0 W g f0 f1) : IsS74 w0 w' g f0 f1:=by subst hq;exact IsS74.drewN h m
theorem IsS74.apart {w0 W : World} {g : Nat} {f0 : ByteArray} {f1 : Bool} {α : Type} {d : Kd α} {e : Nat} {base : Nat} {ok : Nat→Prop} {v : Value} {xs : List α} (h : IsS74 w0 W g f0 f1) (ho : d.R e W base ok v xs) (ht : ∀ q,q ∈ e :: d.E→q≠74) : d.R e W base (fun k => ok k∧k≠g) v xs:=by
 obtain ⟨hb,hg⟩:=h;exact yf ho hb ht
theorem IsS74.own_ne {w0 W : World} {g : Nat} {f0 : ByteArray} {f1 : Bool} {α : Type} {d : Kd α} {e : Nat} {base : Nat} {ok : Nat→Prop} {v : Value} {xs : List α} (h : IsS74 w0 W g f0 f1) (ho : d.R e W base ok v xs) (ht : e≠74) : some g≠v.ownBlock:=by
 obtain ⟨hb,hg⟩:=h;exact Kd.R_ne ho hb ht
theorem IsS74.lt {w0 W : World} {g : Nat} {f0 : ByteArray} {f1 : Bool} (h : IsS74 w0 W g f0 f1) : g<W.heap.size:=by
 obtain ⟨hb,hg⟩:=h;exact yi hb
theorem IsS74.ge {w0 W : World} {g : Nat} {f0 : ByteArray} {f1 : Bool} (h : IsS74 w0 W g f0 f1) : w0.heap.size≤g:=by
 obtain ⟨hb,hg⟩:=h;exact hg
theorem IsS74.far {w0 W : World} {g : Nat} {f0 : ByteArray} {f1 : Bool} {p : Addr} (h : IsS74 w0 W g f0 f1) (hne : g≠p.block) (u : Value) : IsS74 w0 (W.setCell p u) g f0 f1:=by
 obtain ⟨hb,hg⟩:=h;exact ⟨zS hb hne u,hg⟩
theorem cellS74_0 {W : World} {g : Nat} {f0 : ByteArray} {f1 : Bool} (h : W.heap[g]? = some (.cells #[.string f0,.bool f1] 74 (0,0))) : W.cell? ⟨g,0,none⟩=some (.string f0):=(zz h 0).trans rfl
theorem IsS74.set_0 {w0 W : World} {g : Nat} {f0 : ByteArray} {f1 : Bool} (h : IsS74 w0 W g f0 f1) (x : ByteArray) : IsS74 w0 (W.setCell ⟨g,0,none⟩ (.string x)) g x f1:=by
 obtain ⟨hb,hg⟩:=h;exact ⟨by simpa using blk_set hb 0 (.string x),hg⟩
theorem cellS74_1 {W : World} {g : Nat} {f0 : ByteArray} {f1 : Bool} (h : W.heap[g]? = some (.cells #[.string f0,.bool f1] 74 (0,0))) : W.cell? ⟨g,1,none⟩=some (.bool f1):=(zz h 1).trans rfl
theorem IsS74.set_1 {w0 W : World} {g : Nat} {f0 : ByteArray} {f1 : Bool} (h : IsS74 w0 W g f0 f1) (x : Bool) : IsS74 w0 (W.setCell ⟨g,1,none⟩ (.bool x)) g f0 x:=by
 obtain ⟨hb,hg⟩:=h;exact ⟨by simpa using blk_set hb 1 (.bool x),hg⟩
theorem IsS74.new (w0 W : World) (f0 : ByteArray) (f1 : Bool) (hB : Below w0.heap.size w0 W) : IsS74 w0 (W.alloc (.cells #[.string f0,.bool f1] 74)) W.heap.size f0 f1:=⟨by simpa using heap_alloc_new W _,hB.size⟩

def impl_byteReader_take.f (s0_0 : ByteArray) (s0_1 : Bool) (a1 : Int) : Option (ByteArray×ByteArray×Bool):=if a1 > (s0_0.size : Int) then ((strings_Repeat.f (⟨#[0]⟩ : ByteArray) a1).bind fun t174 => (some (t174,s0_0,true))) else (if 0≤a1 then (if a1≤(s0_0.size : Int) then (some (s0_0.extract 0 (a1 : Int).toNat,s0_0.extract (a1 : Int).toNat s0_0.size,s0_1)) else (none)) else (none))
set_option maxHeartbeats 8000000 in
set_option maxRecDepth 100000 in
theorem impl_byteReader_take.calls (g : Nat) (s0_0 : ByteArray) (s0_1 : Bool) (a1 : Int) (r1 : ByteArray) (r2 : ByteArray) (r3 : Bool) (w0 w : World) (hI : IsS74 w0 w g s0_0 s0_1) (hB : Below w0.heap.size w0 w) (h : impl_byteReader_take.f s0_0 s0_1 a1=some (r1,r2,r3)) :
  Calls Try.prog 92 #[.pointer (some ⟨g,0,none⟩),.int .i64 a1] w fun e w' => e = .returned (.string r1)∧IsS74 w0 w' g r2 r3∧Below w0.heap.size w0 w' ∧ KeepBut w w' g none:=by
 have HI0:=zh hI;have HK:=zh (KeepBut.refl w g none);have HL:=zh hB.size;clear hI;have HW0:=zh hB.size;have HB:=zh hB;clear hB;have H : (if a1 > (s0_0.size : Int) then ((strings_Repeat.f (⟨#[0]⟩ : ByteArray) a1).bind fun t174 => (some (t174,s0_0,true))) else (if 0≤a1 then (if a1≤(s0_0.size : Int) then (some (s0_0.extract 0 (a1 : Int).toNat,s0_0.extract (a1 : Int).toNat s0_0.size,s0_1)) else (none)) else (none)))=some (r1,r2,r3):=h;clear h
 by_cases c3 : a1 > (s0_0.size : Int)
 ·
  rw [if_pos c3] at H
  have c3b0 : decide ((s0_0.size : Int)<a1)=true:=decide_eq_true c3;clear c3;replace H:=zT.mp H;obtain ⟨t174,A40,H⟩:=H;replace H : (some (t174,s0_0,true))=some (r1,r2,r3):=H;have A4:=zh A40;clear A40;simp only [Option.some.injEq,Prod.mk.injEq] at H;obtain ⟨rfl,rfl,rfl⟩:=H;obtain ⟨HGz5,hgz5⟩:=HI0.out;have hcz5_0:=cellS74_0 HGz5;have hcz5_1:=cellS74_1 HGz5;have hfz5_0:=zA HGz5 0;have hfz5_1:=zA HGz5 1;clear HGz5 hgz5
  go_enter Try.func92,Try.ntmps92
  go_wp2_with (first|((with_reducible refine zJ (f:=115) rfl ?_);refine yj (some 17) rfl rfl Try.func115 (by kernel_rfl) rfl #[.string (⟨#[0]⟩ : ByteArray),.int .i64 a1] rfl (by (try simp only [zt,zu,zv]);first|done|rfl|(simp only [zw,zx];rfl)|(simp only [yr,ys,zV,zW];rfl)) ?_;(with_reducible refine (strings_Repeat.calls  (⟨#[0]⟩ : ByteArray) a1 t174 _ A4.out).mono ?_);rintro e w6 ⟨rfl,hb⟩;refine ⟨_,rfl,?_⟩;replace HK:=zh (KeepBut.trans (by repeat (with_reducible first|exact HK.out|apply yl|apply ym|apply yx|apply yn)) (KeepBut.of_below hb g none) (.inl rfl));replace HB:=zh (zC (by repeat (with_reducible first|exact HB.out|apply za|apply zb|apply zc|refine zd ?_ (IsS74.ge HI0.out))) hb);replace HI0:=zh (IsS74.below (show IsS74 w0 (w.setCell ⟨g,1,none⟩ (.bool true)) g s0_0 true from by repeat (with_reducible first|exact HI0.out|apply IsS74.alloc|apply IsS74.drewN|apply IsS74.drew|apply IsS74.set_0|apply IsS74.set_1)) hb);(try clear hb);(try clear hb2);(try clear hk);(try clear hi)))
  go_ret
  exact ⟨by first|rfl|(simp [yt,yu] <;> rfl)|(simp [*,yt,yu] <;> rfl),by repeat (with_reducible first|exact HI0.out|apply IsS74.alloc|apply IsS74.drewN|apply IsS74.drew|apply IsS74.set_0|apply IsS74.set_1),by repeat (with_reducible first|exact HB.out|apply za|apply zb|apply zc|refine zd ?_ (IsS74.ge HI0.out)),by repeat (with_reducible first|exact HK.out|apply yl|apply ym|apply yx|apply yn)⟩
 rw [if_neg c3] at H;have c3b0 : decide ((s0_0.size : Int)<a1)=false:=decide_eq_false c3;clear c3
 by_cases c7 : 0≤a1
 ·
  rw [if_pos c7] at H
  have c7b0:=eq_true c7;have c7b1 : decide (0≤a1)=true:=decide_eq_true c7;clear c7
  by_cases c8 : a1≤(s0_0.size : Int)
  ·
   rw [if_pos c8] at H
   have c8b0:=eq_true c8;have c8b1 : decide (a1≤(s0_0.size : Int))=true:=decide_eq_true c8;clear c8;have c9b0:=eq_true (zy (by first|(with_reducible assumption)|assumption) : 0≤a1);have c10b0:=eq_true (zy (by first|(with_reducible assumption)|assumption) : a1≤(s0_0.size : Int));simp only [Option.some.injEq,Prod.mk.injEq] at H;obtain ⟨rfl,rfl,rfl⟩:=H;obtain ⟨HGz11,hgz11⟩:=HI0.out;have hcz11_0:=cellS74_0 HGz11;have hcz11_1:=cellS74_1 HGz11;have hfz11_0:=zA HGz11 0;have hfz11_1:=zA HGz11 1;clear HGz11 hgz11
   go_enter Try.func92,Try.ntmps92
   go_wp2
   go_ret
   exact ⟨by first|rfl|(simp [yt,yu] <;> rfl)|(simp [*,yt,yu] <;> rfl),by repeat (with_reducible first|exact HI0.out|apply IsS74.alloc|apply IsS74.drewN|apply IsS74.drew|apply IsS74.set_0|apply IsS74.set_1),by repeat (with_reducible first|exact HB.out|apply za|apply zb|apply zc|refine zd ?_ (IsS74.ge HI0.out)),by repeat (with_reducible first|exact HK.out|apply yl|apply ym|apply yx|apply yn)⟩
  rw [if_neg c8] at H;exact absurd H (by simp)
 rw [if_neg c7] at H;exact absurd H (by simp)

end Go.Proofs.Ytpmeglcmhiihoaa.Q
end
section
namespace Go.Proofs.Ytpmeglcmhiihoaa.Q
open Go.RowKit Go.Proofs.YtpmeglcmhiihoaaW.PrintWords Go.Proofs.YtpmeglcmhiihoaaW.PrintLast Go.Proofs.YtpmeglcmhiihoaaW.PrintMore
attribute [local go_sem] max2_int min2_int max_two min_two max_three min_three max_four min_four max2_str min2_str str_geq str_gtr str_leq   -- for this text's walks alone
set_option linter.unusedVariables false
set_option linter.unusedSimpArgs false

def impl_byteReader_num.f (k : Nat) (s0_0 : ByteArray) (s0_1 : Bool) (a1 : Int) : Option (Int×ByteArray×Bool):=(impl_byteReader_take.f s0_0 s0_1 a1).bind fun bt176 => (if bt176.1.size≤9223372036854775807 then ((impl_big.f k (bytesOf bt176.1)).bind fun t182 => (some (t182,bt176.2.1,bt176.2.2))) else (none))
theorem impl_byteReader_num.mono : ∀ a0 a1 a2 k,LeO (impl_byteReader_num.f k a0 a1 a2) (impl_byteReader_num.f (k + 1) a0 a1 a2):=by
 intro a0 a1 a2 k;unfold impl_byteReader_num.f
 repeat' first|(with_reducible exact impl_big.mono _ _)|(with_reducible exact zQ _)|(with_reducible exact zN _)|(with_reducible refine zP ?_ ?_)|(with_reducible refine zO ?_ (fun _ => ?_))|refine zP ?_ ?_|refine zO ?_ (fun _ => ?_)
set_option maxHeartbeats 8000000 in
set_option maxRecDepth 100000 in
theorem impl_byteReader_num.calls (k : Nat) (g : Nat) (s0_0 : ByteArray) (s0_1 : Bool) (a1 : Int) (r1 : Int) (r2 : ByteArray) (r3 : Bool) (w0 w : World) (hI : IsS74 w0 w g s0_0 s0_1) (hB : Below w0.heap.size w0 w) (h : impl_byteReader_num.f k s0_0 s0_1 a1=some (r1,r2,r3)) :
  Calls Try.prog 91 #[.pointer (some ⟨g,0,none⟩),.int .i64 a1] w fun e w' => e = .returned (.int .i64 r1)∧IsS74 w0 w' g r2 r3∧Below w0.heap.size w0 w' ∧ KeepBut w w' g none:=by
 have HI0:=zh hI;have HK:=zh (KeepBut.refl w g none);have HL:=zh hB.size;clear hI;have HW0:=zh hB.size;have HB:=zh hB;clear hB;have H : ((impl_byteReader_take.f s0_0 s0_1 a1).bind fun bt176 => (if bt176.1.size≤9223372036854775807 then ((impl_big.f k (bytesOf bt176.1)).bind fun t182 => (some (t182,bt176.2.1,bt176.2.2))) else (none)))=some (r1,r2,r3):=h;clear h;replace H:=zT.mp H;obtain ⟨⟨t176,t177,t178⟩,A30,H⟩:=H;replace H : (if t176.size≤9223372036854775807 then ((impl_big.f k (bytesOf t176)).bind fun t182 => (some (t182,t177,t178))) else (none))=some (r1,r2,r3):=H;have A3:=zh A30;clear A30
 by_cases c4 : t176.size≤9223372036854775807
 ·
  rw [if_pos c4] at H
  have c4b0:=eq_true c4;have c4b1 : decide (t176.size≤9223372036854775807)=true:=decide_eq_true c4
  try have c4b2 : (9223372036854775807<t176.size)=False:=eq_false (Nat.not_lt.2 c4)
  clear c4;obtain ⟨y179,hy179⟩ : ∃ y_ : List Int,y_=(bytesOf t176):=⟨_,rfl⟩;replace H : ((impl_big.f k y179).bind fun t182 => (some (t182,t177,t178)))=some (r1,r2,r3):=by first|(rw [hy179];with_reducible exact H)|(have H2_:=(Option.bind_some _ _).symm.trans H;rw [hy179];with_reducible exact H2_)|(have H2_:=(Option.bind_some _ _).symm.trans H;with_reducible exact H2_)|with_reducible exact H|(rw [hy179];exact H)|exact H
  have Ny179:=zh hy179;clear hy179;replace H:=zT.mp H;obtain ⟨t182,A50,H⟩:=H;replace H : (some (t182,t177,t178))=some (r1,r2,r3):=H;have A5:=zh A50;clear A50;simp only [Option.some.injEq,Prod.mk.injEq] at H;obtain ⟨rfl,rfl,rfl⟩:=H
  go_enter Try.func91,Try.ntmps91
  go_wp2_with (first|((with_reducible refine zJ (f:=92) rfl ?_);refine yj (some 7) rfl rfl Try.func92 (by kernel_rfl) rfl #[.pointer (some ⟨g,0,none⟩),.int .i64 a1] rfl (by (try simp only [zt,zu,zv]);first|done|rfl|(simp only [zw,zx];rfl)|(simp only [yr,ys,zV,zW];rfl)) ?_;(with_reducible refine (impl_byteReader_take.calls  g s0_0 s0_1 a1 t176 t177 t178 w0 _ ?side1 ?side2 A3.out).mono ?_);(case side1 => repeat (with_reducible first|exact HI0.out|apply IsS74.alloc|apply IsS74.drewN|apply IsS74.drew|apply IsS74.set_0|apply IsS74.set_1));(case side2 => repeat (with_reducible first|exact HB.out|apply za|apply zb|apply zc|refine zd ?_ (IsS74.ge HI0.out)));rintro e w6 ⟨rfl,hi,hb,hk⟩;refine ⟨_,rfl,?_⟩;replace HK:=zh (KeepBut.trans (by repeat (with_reducible first|exact HK.out|apply yl|apply ym|apply yx|apply yn)) hk (.inl rfl));replace HB:=zh (hb);replace HI0:=zh (hi);(try clear hb);(try clear hb2);(try clear hk);(try clear hi))|((with_reducible refine zK (N:=8) rfl ?_);refine conv_event (base:=w6.heap.size) ?hg (N:=8) ?hd 9 29 5 t176 rfl ?hx Try.underlying9 Try.underlying29 Try.underlying5 (zy (by first|(with_reducible assumption)|assumption)) ?_;(case hd => rfl);(case hg => rfl);(case hx => first|(go_simp;done)|(go_simp;rfl)|rfl);intro v180 w7 ho8 hb;(first|rw [← Ny179.out] at ho8|(simp only [Int.reduceToNat] at ho8;rw [← Ny179.out] at ho8));have HO181:=zh (Kd.V_lower (Kd.V_mono (ok':=fun k_ => k_≠g) ho8 (fun k_ hk_ => (IsS74.fresh (by repeat (with_reducible first|exact HI0.out|apply IsS74.alloc|apply IsS74.drewN|apply IsS74.drew|apply IsS74.set_0|apply IsS74.set_1)) k_ hk_))) (keep_size (w:=w) (g:=g) (row:=none) (by repeat (with_reducible first|exact HK.out|apply yl|apply ym|apply yx|apply yn))));replace HK:=zh (KeepBut.trans (by repeat (with_reducible first|exact HK.out|apply yl|apply ym|apply yx|apply yn)) (KeepBut.of_below hb g none) (.inl rfl));replace HB:=zh (zC (by repeat (with_reducible first|exact HB.out|apply za|apply zb|apply zc|refine zd ?_ (IsS74.ge HI0.out))) hb);replace HI0:=zh (IsS74.below (by repeat (with_reducible first|exact HI0.out|apply IsS74.alloc|apply IsS74.drewN|apply IsS74.drew|apply IsS74.set_0|apply IsS74.set_1)) hb);clear hb ho8;obtain ⟨Ao9,co9,eo9⟩:=Kd.V_slice HO181.out;subst eo9)|((with_reducible refine zJ (f:=114) rfl ?_);refine yj (some 9) rfl rfl Try.func114 (by kernel_rfl) rfl #[.slice Ao9 y179.length co9] rfl (by (try simp only [zt,zu,zv]);first|done|rfl|(simp only [zw,zx];rfl)|(simp only [yr,ys,zV,zW];rfl)) ?_;(with_reducible refine (impl_big.calls k  _ _ y179 t182 _ ?side1 ?side2 A5.out).mono ?_);(case side1 => repeat (first|exact (Kd.V_reads' HO181.out).2.2|(with_reducible refine Kd.C_alloc ?_ _)|(with_reducible refine Kd.C_drewN ?_ _)|(with_reducible refine Kd.C_drew ?_)));(case side2 => exact (Kd.V_reads' HO181.out).2.1);rintro e w' ⟨rfl,⟨nd,rfl⟩⟩;refine ⟨_,rfl,?_⟩))
  go_ret
  exact ⟨by first|rfl|(simp [yt,yu] <;> rfl)|(simp [*,yt,yu] <;> rfl),by repeat (with_reducible first|exact HI0.out|apply IsS74.alloc|apply IsS74.drewN|apply IsS74.drew|apply IsS74.set_0|apply IsS74.set_1),by repeat (with_reducible first|exact HB.out|apply za|apply zb|apply zc|refine zd ?_ (IsS74.ge HI0.out)),by repeat (with_reducible first|exact HK.out|apply yl|apply ym|apply yx|apply yn)⟩
 rw [if_neg c4] at H;exact absurd H (by simp)

end Go.Proofs.Ytpmeglcmhiihoaa.Q
end
section
namespace Go.Proofs.Ytpmeglcmhiihoaa.Q
open Go.RowKit Go.Proofs.YtpmeglcmhiihoaaW.PrintWords Go.Proofs.YtpmeglcmhiihoaaW.PrintLast Go.Proofs.YtpmeglcmhiihoaaW.PrintMore
attribute [local go_sem] max2_int min2_int max_two min_two max_three min_three max_four min_four max2_str min2_str str_geq str_gtr str_leq   -- for this text's walks alone
set_option linter.unusedVariables false
set_option linter.unusedSimpArgs false

def impl_byteReader_value.j0 : Nat→Bool→ByteArray→Bool→Int→Int→ByteArray→Option (Int×Int×ByteArray×ByteArray×Bool)
 | 0,_,_,_,_,_,_ => none
 | k + 1,x20,x1000,x1001,x188000,x188001,x188002 => if x20=true then ((impl_byteReader_num.f k x1000 x1001 2).bind fun bt194 => ((impl_byteReader_take.f bt194.2.1 bt194.2.2 bt194.1).bind fun bt197 => (some (x188000,x188001,bt197.1,bt197.2.1,bt197.2.2)))) else (some (x188000,x188001,x188002,x1000,x1001))
def impl_byteReader_value.f (k : Nat) (s0_0 : ByteArray) (s0_1 : Bool) : Option (Int×Int×ByteArray×ByteArray×Bool):=(impl_byteReader_num.f k s0_0 s0_1 1).bind fun bt184 => (if bt184.1=1 then ((impl_byteReader_num.f k bt184.2.1 bt184.2.2 1).bind fun bt188 => (some (bt184.1,bt188.1,(⟨#[]⟩ : ByteArray),bt188.2.1,bt188.2.2))) else (if bt184.1=2 then ((impl_byteReader_num.f k bt184.2.1 bt184.2.2 8).bind fun bt191 => (some (bt184.1,wrap64 (bt191.1 - 4611686018427387904),(⟨#[]⟩ : ByteArray),bt191.2.1,bt191.2.2))) else (if bt184.1=3 then (impl_byteReader_value.j0 k (bt184.1 == 3) bt184.2.1 bt184.2.2 bt184.1 0 (⟨#[]⟩ : ByteArray)) else (if bt184.1=4 then (impl_byteReader_value.j0 k (bt184.1 == 4) bt184.2.1 bt184.2.2 bt184.1 0 (⟨#[]⟩ : ByteArray)) else (impl_byteReader_value.j0 k (bt184.1 == 5) bt184.2.1 bt184.2.2 bt184.1 0 (⟨#[]⟩ : ByteArray))))))
theorem impl_byteReader_value.mono_l : ∀ k,(∀ y0 y1 y2 y3 y4 y5,LeO (impl_byteReader_value.j0 k y0 y1 y2 y3 y4 y5) (impl_byteReader_value.j0 (k + 1) y0 y1 y2 y3 y4 y5))
 | 0 => fun _ _ _ _ _ _ r h => by simp [impl_byteReader_value.j0] at h
 | k + 1 => by
  have ih0:=impl_byteReader_value.mono_l k;intro y0 y1 y2 y3 y4 y5;unfold impl_byteReader_value.j0
  repeat' first|(with_reducible exact ih0 _ _ _ _ _ _)|(with_reducible exact impl_byteReader_num.mono _ _ _ _)|(with_reducible exact zQ _)|(with_reducible exact zN _)|(with_reducible refine zP ?_ ?_)|(with_reducible refine zO ?_ (fun _ => ?_))|refine zP ?_ ?_|refine zO ?_ (fun _ => ?_)
theorem impl_byteReader_value.mono : ∀ a0 a1 k,LeO (impl_byteReader_value.f k a0 a1) (impl_byteReader_value.f (k + 1) a0 a1):=by
 intro a0 a1 k;have ih0:=impl_byteReader_value.mono_l k;unfold impl_byteReader_value.f
 repeat' first|(with_reducible exact ih0 _ _ _ _ _ _)|(with_reducible exact impl_byteReader_num.mono _ _ _ _)|(with_reducible exact zQ _)|(with_reducible exact zN _)|(with_reducible refine zP ?_ ?_)|(with_reducible refine zO ?_ (fun _ => ?_))|refine zP ?_ ?_|refine zO ?_ (fun _ => ?_)
set_option maxHeartbeats 8000000 in
set_option maxRecDepth 100000 in
theorem impl_byteReader_value.calls (k : Nat) (g : Nat) (s0_0 : ByteArray) (s0_1 : Bool) (r1 : Int) (r2 : Int) (r3 : ByteArray) (r4 : ByteArray) (r5 : Bool) (w0 w : World) (hI : IsS74 w0 w g s0_0 s0_1) (hB : Below w0.heap.size w0 w) (h : impl_byteReader_value.f k s0_0 s0_1=some (r1,r2,r3,r4,r5)) :
  Calls Try.prog 56 #[.pointer (some ⟨g,0,none⟩)] w fun e w' => e = .returned (.agg #[.int .i64 r1,.int .i64 r2,.string r3])∧IsS74 w0 w' g r4 r5∧Below w0.heap.size w0 w' ∧ KeepBut w w' g none:=by
 have hu26:=Try.underlying26;have HI0:=zh hI;have HK:=zh (KeepBut.refl w g none);have HL:=zh hB.size;clear hI;have HW0:=zh hB.size;have HB:=zh hB;clear hB;have H : ((impl_byteReader_num.f k s0_0 s0_1 1).bind fun bt184 => (if bt184.1=1 then ((impl_byteReader_num.f k bt184.2.1 bt184.2.2 1).bind fun bt188 => (some (bt184.1,bt188.1,(⟨#[]⟩ : ByteArray),bt188.2.1,bt188.2.2))) else (if bt184.1=2 then ((impl_byteReader_num.f k bt184.2.1 bt184.2.2 8).bind fun bt191 => (some (bt184.1,wrap64 (bt191.1 - 4611686018427387904),(⟨#[]⟩ : ByteArray),bt191.2.1,bt191.2.2))) else (if bt184.1=3 then (impl_byteReader_value.j0 k (bt184.1 == 3) bt184.2.1 bt184.2.2 bt184.1 0 (⟨#[]⟩ : ByteArray)) else (if bt184.1=4 then (impl_byteReader_value.j0 k (bt184.1 == 4) bt184.2.1 bt184.2.2 bt184.1 0 (⟨#[]⟩ : ByteArray)) else (impl_byteReader_value.j0 k (bt184.1 == 5) bt184.2.1 bt184.2.2 bt184.1 0 (⟨#[]⟩ : ByteArray)))))))=some (r1,r2,r3,r4,r5):=h;clear h;replace H:=zT.mp H;obtain ⟨⟨t184,t185,t186⟩,A20,H⟩:=H;replace H : (if t184=1 then ((impl_byteReader_num.f k t185 t186 1).bind fun bt188 => (some (t184,bt188.1,(⟨#[]⟩ : ByteArray),bt188.2.1,bt188.2.2))) else (if t184=2 then ((impl_byteReader_num.f k t185 t186 8).bind fun bt191 => (some (t184,wrap64 (bt191.1 - 4611686018427387904),(⟨#[]⟩ : ByteArray),bt191.2.1,bt191.2.2))) else (if t184=3 then (impl_byteReader_value.j0 k (t184 == 3) t185 t186 t184 0 (⟨#[]⟩ : ByteArray)) else (if t184=4 then (impl_byteReader_value.j0 k (t184 == 4) t185 t186 t184 0 (⟨#[]⟩ : ByteArray)) else (impl_byteReader_value.j0 k (t184 == 5) t185 t186 t184 0 (⟨#[]⟩ : ByteArray))))))=some (r1,r2,r3,r4,r5):=H;have A2:=zh A20;clear A20
 by_cases c3 : t184=1
 ·
  rw [if_pos c3] at H
  have c3b0 : (t184 == 1)=true:=ya.mpr c3;have c3b1 : (t184 != 1)=false:=zX.mpr c3;clear c3;replace H:=zT.mp H;obtain ⟨⟨t188,t189,t190⟩,A40,H⟩:=H;replace H : (some (t184,t188,(⟨#[]⟩ : ByteArray),t189,t190))=some (r1,r2,r3,r4,r5):=H;have A4:=zh A40;clear A40;simp only [Option.some.injEq,Prod.mk.injEq] at H;obtain ⟨rfl,rfl,rfl,rfl,rfl⟩:=H
  go_enter Try.func56,Try.ntmps56
  go_wp2_with (first|((with_reducible refine zK (N:=2) rfl ?_);refine zI ?hg (N:=2) ?hd (cs:=#[.int .i64 0,.int .i64 0,.string (⟨#[]⟩ : ByteArray)]) (t:=26) ?hr ?_;(case hd => rfl);(case hg => rfl);(case hr => first|(go_simp;done)|(go_simp;rfl));intro gb183 hg w5 hbox hb;replace HB:=zh (zC (by repeat (with_reducible first|exact HB.out|apply za|apply zb|apply zc|refine zd ?_ (IsS74.ge HI0.out))) hb);have BK183:=zh (hbox);have GW183:=zh ((by rw [hg];exact (keep_size (w:=w) (g:=g) (row:=none) (by repeat (with_reducible first|exact HK.out|apply yl|apply ym|apply yx|apply yn))) : w.heap.size≤gb183));have GE183:=zh ((Nat.le_trans HW0.out (by rw [hg];exact (keep_size (w:=w) (g:=g) (row:=none) (by repeat (with_reducible first|exact HK.out|apply yl|apply ym|apply yx|apply yn))) : w.heap.size≤gb183) : w0.heap.size≤gb183));replace HK:=zh (KeepBut.trans (by repeat (with_reducible first|exact HK.out|apply yl|apply ym|apply yx|apply yn)) (KeepBut.of_below hb g none) (.inl rfl));have NB0_183:=zh ((by rw [hg];exact yc (IsS74.lt (show IsS74 w0 _ g s0_0 s0_1 from by repeat (with_reducible first|exact HI0.out|apply IsS74.alloc|apply IsS74.drewN|apply IsS74.drew|apply IsS74.set_0|apply IsS74.set_1))) : g≠gb183));have NB183_0:=zh ((by rw [hg];exact yd (IsS74.lt (show IsS74 w0 _ g s0_0 s0_1 from by repeat (with_reducible first|exact HI0.out|apply IsS74.alloc|apply IsS74.drewN|apply IsS74.drew|apply IsS74.set_0|apply IsS74.set_1))) : gb183≠g));replace HI0:=zh (IsS74.below (by repeat (with_reducible first|exact HI0.out|apply IsS74.alloc|apply IsS74.drewN|apply IsS74.drew|apply IsS74.set_0|apply IsS74.set_1)) hb);clear hb hbox hg)|((with_reducible refine zJ (f:=91) rfl ?_);refine yj (some 5) rfl rfl Try.func91 (by kernel_rfl) rfl #[.pointer (some ⟨g,0,none⟩),.int .i64 1] rfl (by (try simp only [zt,zu,zv]);first|done|rfl|(simp only [zw,zx];rfl)|(simp only [yr,ys,zV,zW];rfl)) ?_;(with_reducible refine (impl_byteReader_num.calls k  g s0_0 s0_1 1 t184 t185 t186 w0 _ ?side1 ?side2 A2.out).mono ?_);(case side1 => repeat (with_reducible first|exact HI0.out|apply IsS74.alloc|apply IsS74.drewN|apply IsS74.drew|apply IsS74.set_0|apply IsS74.set_1|refine IsS74.far ?_ NB0_183.out _));(case side2 => repeat (with_reducible first|exact HB.out|apply za|apply zb|apply zc|refine zd ?_ (IsS74.ge HI0.out)|refine zd ?_ GE183.out));rintro e w6 ⟨rfl,hi,hb,hk⟩;refine ⟨_,rfl,?_⟩;replace BK183:=zh (KeepBut.blk hk (g':=gb183) (o:=.cells #[.int .i64 0,.int .i64 0,.string (⟨#[]⟩ : ByteArray)] 26 (0,0)) (by (with_reducible repeat (first|refine ze ?_ _|refine zf ?_|refine zg ?_ _));exact BK183.out) NB183_0.out (by simp));replace HK:=zh (KeepBut.trans (by repeat (with_reducible first|exact HK.out|apply yl|apply ym|apply yx|apply yn|refine keep_far ?_ GW183.out _)) hk (.inl rfl));replace HB:=zh (hb);replace HI0:=zh (hi);(try clear hb);(try clear hb2);(try clear hk);(try clear hi))|((with_reducible refine zK (N:=3) rfl ?_);refine zI ?hg (N:=3) ?hd (cs:=#[.int .i64 0,.int .i64 0,.string (⟨#[]⟩ : ByteArray)]) (t:=26) ?hr ?_;(case hd => rfl);(case hg => rfl);(case hr => first|(go_simp;done)|(go_simp;rfl));intro gb187 hg w7 hbox hb;replace HB:=zh (zC (by repeat (with_reducible first|exact HB.out|apply za|apply zb|apply zc|refine zd ?_ (IsS74.ge HI0.out)|refine zd ?_ GE183.out)) hb);have BK187:=zh (hbox);have GW187:=zh ((by rw [hg];exact (keep_size (w:=w) (g:=g) (row:=none) (by repeat (with_reducible first|exact HK.out|apply yl|apply ym|apply yx|apply yn|refine keep_far ?_ GW183.out _))) : w.heap.size≤gb187));have GE187:=zh ((Nat.le_trans HW0.out (by rw [hg];exact (keep_size (w:=w) (g:=g) (row:=none) (by repeat (with_reducible first|exact HK.out|apply yl|apply ym|apply yx|apply yn|refine keep_far ?_ GW183.out _))) : w.heap.size≤gb187) : w0.heap.size≤gb187));replace HK:=zh (KeepBut.trans (by repeat (with_reducible first|exact HK.out|apply yl|apply ym|apply yx|apply yn|refine keep_far ?_ GW183.out _)) (KeepBut.of_below hb g none) (.inl rfl));have NB183_187:=zh ((by rw [hg];exact yc (yi (g:=gb183) (o:=.cells #[.int .i64 0,.int .i64 0,.string (⟨#[]⟩ : ByteArray)] 26 (0,0)) (by (with_reducible repeat (first|refine ze ?_ _|refine zf ?_|refine zg ?_ _));exact BK183.out)) : gb183≠gb187));have NB187_183:=zh ((by rw [hg];exact yd (yi (g:=gb183) (o:=.cells #[.int .i64 0,.int .i64 0,.string (⟨#[]⟩ : ByteArray)] 26 (0,0)) (by (with_reducible repeat (first|refine ze ?_ _|refine zf ?_|refine zg ?_ _));exact BK183.out)) : gb187≠gb183));replace BK183:=zh (zD (g:=gb183) (o:=.cells #[.int .i64 0,.int .i64 0,.string (⟨#[]⟩ : ByteArray)] 26 (0,0)) (by (with_reducible repeat (first|refine ze ?_ _|refine zf ?_|refine zg ?_ _));exact BK183.out) hb);have NB0_187:=zh ((by rw [hg];exact yc (IsS74.lt (show IsS74 w0 _ g t185 t186 from by repeat (with_reducible first|exact HI0.out|apply IsS74.alloc|apply IsS74.drewN|apply IsS74.drew|apply IsS74.set_0|apply IsS74.set_1|refine IsS74.far ?_ NB0_183.out _))) : g≠gb187));have NB187_0:=zh ((by rw [hg];exact yd (IsS74.lt (show IsS74 w0 _ g t185 t186 from by repeat (with_reducible first|exact HI0.out|apply IsS74.alloc|apply IsS74.drewN|apply IsS74.drew|apply IsS74.set_0|apply IsS74.set_1|refine IsS74.far ?_ NB0_183.out _))) : gb187≠g));replace HI0:=zh (IsS74.below (by repeat (with_reducible first|exact HI0.out|apply IsS74.alloc|apply IsS74.drewN|apply IsS74.drew|apply IsS74.set_0|apply IsS74.set_1|refine IsS74.far ?_ NB0_183.out _)) hb);clear hb hbox hg;have hnb8:=NB187_183.out;have hnc8:=NB183_187.out;have hnb9:=NB187_0.out;have hnc9:=NB0_187.out;have hcz10_0 : w7.cell? ⟨gb187,0,none⟩=some (.int .i64 0):=(zz BK187.out 0).trans rfl;have hcz10_1 : w7.cell? ⟨gb187,1,none⟩=some (.int .i64 0):=(zz BK187.out 1).trans rfl;have hcz10_2 : w7.cell? ⟨gb187,2,none⟩=some (.string (⟨#[]⟩ : ByteArray)):=(zz BK187.out 2).trans rfl;have hfz10_0:=zA BK187.out 0;have hfz10_1:=zA BK187.out 1;have hfz10_2:=zA BK187.out 2)|((with_reducible refine zJ (f:=91) rfl ?_);refine yj (some 12) rfl rfl Try.func91 (by kernel_rfl) rfl #[.pointer (some ⟨g,0,none⟩),.int .i64 1] rfl (by (try simp only [zt,zu,zv]);first|done|rfl|(simp only [zw,zx];rfl)|(simp only [yr,ys,zV,zW];rfl)) ?_;(with_reducible refine (impl_byteReader_num.calls k  g t185 t186 1 t188 t189 t190 w0 _ ?side1 ?side2 A4.out).mono ?_);(case side1 => repeat (with_reducible first|exact HI0.out|apply IsS74.alloc|apply IsS74.drewN|apply IsS74.drew|apply IsS74.set_0|apply IsS74.set_1|refine IsS74.far ?_ NB0_183.out _|refine IsS74.far ?_ NB0_187.out _));(case side2 => repeat (with_reducible first|exact HB.out|apply za|apply zb|apply zc|refine zd ?_ (IsS74.ge HI0.out)|refine zd ?_ GE183.out|refine zd ?_ GE187.out));rintro e w11 ⟨rfl,hi,hb,hk⟩;refine ⟨_,rfl,?_⟩;replace BK183:=zh (KeepBut.blk hk (g':=gb183) (o:=.cells #[.int .i64 0,.int .i64 0,.string (⟨#[]⟩ : ByteArray)] 26 (0,0)) (by (with_reducible repeat (first|refine ze ?_ _|refine zf ?_|refine zg ?_ _));refine zS ?_ NB183_187.out _;(with_reducible repeat (first|refine ze ?_ _|refine zf ?_|refine zg ?_ _));refine zS ?_ NB183_187.out _;(with_reducible repeat (first|refine ze ?_ _|refine zf ?_|refine zg ?_ _));refine zS ?_ NB183_187.out _;(with_reducible repeat (first|refine ze ?_ _|refine zf ?_|refine zg ?_ _));exact BK183.out) NB183_0.out (by simp));replace BK187:=zh (KeepBut.blk hk (g':=gb187) (o:=.cells #[.int .i64 t184,.int .i64 0,.string (⟨#[]⟩ : ByteArray)] 26 (0,0)) (by (with_reducible repeat (first|refine ze ?_ _|refine zf ?_|refine zg ?_ _));refine zL (cs:=#[.int .i64 t184,.int .i64 0,.string (⟨#[]⟩ : ByteArray)]) ?_ 2 _ rfl;(with_reducible repeat (first|refine ze ?_ _|refine zf ?_|refine zg ?_ _));refine zL (cs:=#[.int .i64 t184,.int .i64 0,.string (⟨#[]⟩ : ByteArray)]) ?_ 1 _ rfl;(with_reducible repeat (first|refine ze ?_ _|refine zf ?_|refine zg ?_ _));refine zL (cs:=#[.int .i64 0,.int .i64 0,.string (⟨#[]⟩ : ByteArray)]) ?_ 0 _ rfl;(with_reducible repeat (first|refine ze ?_ _|refine zf ?_|refine zg ?_ _));exact BK187.out) NB187_0.out (by simp));replace HK:=zh (KeepBut.trans (by repeat (with_reducible first|exact HK.out|apply yl|apply ym|apply yx|apply yn|refine keep_far ?_ GW183.out _|refine keep_far ?_ GW187.out _)) hk (.inl rfl));replace HB:=zh (hb);replace HI0:=zh (hi);(try clear hb);(try clear hb2);(try clear hk);(try clear hi);have hcz12_0 : w11.cell? ⟨gb187,0,none⟩=some (.int .i64 t184):=(zz BK187.out 0).trans rfl;have hcz12_1 : w11.cell? ⟨gb187,1,none⟩=some (.int .i64 0):=(zz BK187.out 1).trans rfl;have hcz12_2 : w11.cell? ⟨gb187,2,none⟩=some (.string (⟨#[]⟩ : ByteArray)):=(zz BK187.out 2).trans rfl;have hfz12_0:=zA BK187.out 0;have hfz12_1:=zA BK187.out 1;have hfz12_2:=zA BK187.out 2;have hnb13:=NB183_0.out;have hnc13:=NB0_183.out;have hcz14_0 : w11.cell? ⟨gb183,0,none⟩=some (.int .i64 0):=(zz BK183.out 0).trans rfl;have hcz14_1 : w11.cell? ⟨gb183,1,none⟩=some (.int .i64 0):=(zz BK183.out 1).trans rfl;have hcz14_2 : w11.cell? ⟨gb183,2,none⟩=some (.string (⟨#[]⟩ : ByteArray)):=(zz BK183.out 2).trans rfl;have hfz14_0:=zA BK183.out 0;have hfz14_1:=zA BK183.out 1;have hfz14_2:=zA BK183.out 2))
  refine bodyPost_ret (results_cell_row rfl _ _ gb183 26 #[.int .i64 t184,.int .i64 t188,.string (⟨#[]⟩ : ByteArray)] (0,0) _ rfl (by (with_reducible repeat (first|refine ze ?_ _|refine zf ?_|refine zg ?_ _));refine zL (cs:=#[.int .i64 t184,.int .i64 t188,.string (⟨#[]⟩ : ByteArray)]) ?_ 2 _ rfl;(with_reducible repeat (first|refine ze ?_ _|refine zf ?_|refine zg ?_ _));refine zL (cs:=#[.int .i64 t184,.int .i64 0,.string (⟨#[]⟩ : ByteArray)]) ?_ 1 _ rfl;(with_reducible repeat (first|refine ze ?_ _|refine zf ?_|refine zg ?_ _));refine zL (cs:=#[.int .i64 0,.int .i64 0,.string (⟨#[]⟩ : ByteArray)]) ?_ 0 _ rfl;(with_reducible repeat (first|refine ze ?_ _|refine zf ?_|refine zg ?_ _));refine zS ?_ NB183_187.out _;(with_reducible repeat (first|refine ze ?_ _|refine zf ?_|refine zg ?_ _));exact BK183.out) Try.underlying26 rfl (by kernel_rfl)) rfl ?_;exact ⟨by first|rfl|(simp [yt,yu] <;> rfl)|(simp [*,yt,yu] <;> rfl),by repeat (with_reducible first|exact HI0.out|apply IsS74.alloc|apply IsS74.drewN|apply IsS74.drew|apply IsS74.set_0|apply IsS74.set_1|refine IsS74.far ?_ NB0_183.out _|refine IsS74.far ?_ NB0_187.out _),by repeat (with_reducible first|exact HB.out|apply za|apply zb|apply zc|refine zd ?_ (IsS74.ge HI0.out)|refine zd ?_ GE183.out|refine zd ?_ GE187.out),by repeat (with_reducible first|exact HK.out|apply yl|apply ym|apply yx|apply yn|refine keep_far ?_ GW183.out _|refine keep_far ?_ GW187.out _)⟩
 rw [if_neg c3] at H;have c3b0 : (t184 == 1)=false:=zY.mpr c3;have c3b1 : (t184 != 1)=true:=zZ.mpr c3
 by_cases c15 : t184=2
 ·
  rw [if_pos c15] at H
  have c15b0 : (t184 == 2)=true:=ya.mpr c15;have c15b1 : (t184 != 2)=false:=zX.mpr c15;clear c15;replace H:=zT.mp H;obtain ⟨⟨t191,t192,t193⟩,A160,H⟩:=H;replace H : (some (t184,wrap64 (t191 - 4611686018427387904),(⟨#[]⟩ : ByteArray),t192,t193))=some (r1,r2,r3,r4,r5):=H;have A16:=zh A160;clear A160;simp only [Option.some.injEq,Prod.mk.injEq] at H;obtain ⟨rfl,rfl,rfl,rfl,rfl⟩:=H
  go_enter Try.func56,Try.ntmps56
  go_wp2_with (first|((with_reducible refine zK (N:=2) rfl ?_);refine zI ?hg (N:=2) ?hd (cs:=#[.int .i64 0,.int .i64 0,.string (⟨#[]⟩ : ByteArray)]) (t:=26) ?hr ?_;(case hd => rfl);(case hg => rfl);(case hr => first|(go_simp;done)|(go_simp;rfl));intro gb183 hg w17 hbox hb;replace HB:=zh (zC (by repeat (with_reducible first|exact HB.out|apply za|apply zb|apply zc|refine zd ?_ (IsS74.ge HI0.out))) hb);have BK183:=zh (hbox);have GW183:=zh ((by rw [hg];exact (keep_size (w:=w) (g:=g) (row:=none) (by repeat (with_reducible first|exact HK.out|apply yl|apply ym|apply yx|apply yn))) : w.heap.size≤gb183));have GE183:=zh ((Nat.le_trans HW0.out (by rw [hg];exact (keep_size (w:=w) (g:=g) (row:=none) (by repeat (with_reducible first|exact HK.out|apply yl|apply ym|apply yx|apply yn))) : w.heap.size≤gb183) : w0.heap.size≤gb183));replace HK:=zh (KeepBut.trans (by repeat (with_reducible first|exact HK.out|apply yl|apply ym|apply yx|apply yn)) (KeepBut.of_below hb g none) (.inl rfl));have NB0_183:=zh ((by rw [hg];exact yc (IsS74.lt (show IsS74 w0 _ g s0_0 s0_1 from by repeat (with_reducible first|exact HI0.out|apply IsS74.alloc|apply IsS74.drewN|apply IsS74.drew|apply IsS74.set_0|apply IsS74.set_1))) : g≠gb183));have NB183_0:=zh ((by rw [hg];exact yd (IsS74.lt (show IsS74 w0 _ g s0_0 s0_1 from by repeat (with_reducible first|exact HI0.out|apply IsS74.alloc|apply IsS74.drewN|apply IsS74.drew|apply IsS74.set_0|apply IsS74.set_1))) : gb183≠g));replace HI0:=zh (IsS74.below (by repeat (with_reducible first|exact HI0.out|apply IsS74.alloc|apply IsS74.drewN|apply IsS74.drew|apply IsS74.set_0|apply IsS74.set_1)) hb);clear hb hbox hg)|((with_reducible refine zJ (f:=91) rfl ?_);refine yj (some 5) rfl rfl Try.func91 (by kernel_rfl) rfl #[.pointer (some ⟨g,0,none⟩),.int .i64 1] rfl (by (try simp only [zt,zu,zv]);first|done|rfl|(simp only [zw,zx];rfl)|(simp only [yr,ys,zV,zW];rfl)) ?_;(with_reducible refine (impl_byteReader_num.calls k  g s0_0 s0_1 1 t184 t185 t186 w0 _ ?side1 ?side2 A2.out).mono ?_);(case side1 => repeat (with_reducible first|exact HI0.out|apply IsS74.alloc|apply IsS74.drewN|apply IsS74.drew|apply IsS74.set_0|apply IsS74.set_1|refine IsS74.far ?_ NB0_183.out _));(case side2 => repeat (with_reducible first|exact HB.out|apply za|apply zb|apply zc|refine zd ?_ (IsS74.ge HI0.out)|refine zd ?_ GE183.out));rintro e w18 ⟨rfl,hi,hb,hk⟩;refine ⟨_,rfl,?_⟩;replace BK183:=zh (KeepBut.blk hk (g':=gb183) (o:=.cells #[.int .i64 0,.int .i64 0,.string (⟨#[]⟩ : ByteArray)] 26 (0,0)) (by (with_reducible repeat (first|refine ze ?_ _|refine zf ?_|refine zg ?_ _));exact BK183.out) NB183_0.out (by simp));replace HK:=zh (KeepBut.trans (by repeat (with_reducible first|exact HK.out|apply yl|apply ym|apply yx|apply yn|refine keep_far ?_ GW183.out _)) hk (.inl rfl));replace HB:=zh (hb);replace HI0:=zh (hi);(try clear hb);(try clear hb2);(try clear hk);(try clear hi))|((with_reducible refine zK (N:=3) rfl ?_);refine zI ?hg (N:=3) ?hd (cs:=#[.int .i64 0,.int .i64 0,.string (⟨#[]⟩ : ByteArray)]) (t:=26) ?hr ?_;(case hd => rfl);(case hg => rfl);(case hr => first|(go_simp;done)|(go_simp;rfl));intro gb187 hg w19 hbox hb;replace HB:=zh (zC (by repeat (with_reducible first|exact HB.out|apply za|apply zb|apply zc|refine zd ?_ (IsS74.ge HI0.out)|refine zd ?_ GE183.out)) hb);have BK187:=zh (hbox);have GW187:=zh ((by rw [hg];exact (keep_size (w:=w) (g:=g) (row:=none) (by repeat (with_reducible first|exact HK.out|apply yl|apply ym|apply yx|apply yn|refine keep_far ?_ GW183.out _))) : w.heap.size≤gb187));have GE187:=zh ((Nat.le_trans HW0.out (by rw [hg];exact (keep_size (w:=w) (g:=g) (row:=none) (by repeat (with_reducible first|exact HK.out|apply yl|apply ym|apply yx|apply yn|refine keep_far ?_ GW183.out _))) : w.heap.size≤gb187) : w0.heap.size≤gb187));replace HK:=zh (KeepBut.trans (by repeat (with_reducible first|exact HK.out|apply yl|apply ym|apply yx|apply yn|refine keep_far ?_ GW183.out _)) (KeepBut.of_below hb g none) (.inl rfl));have NB183_187:=zh ((by rw [hg];exact yc (yi (g:=gb183) (o:=.cells #[.int .i64 0,.int .i64 0,.string (⟨#[]⟩ : ByteArray)] 26 (0,0)) (by (with_reducible repeat (first|refine ze ?_ _|refine zf ?_|refine zg ?_ _));exact BK183.out)) : gb183≠gb187));have NB187_183:=zh ((by rw [hg];exact yd (yi (g:=gb183) (o:=.cells #[.int .i64 0,.int .i64 0,.string (⟨#[]⟩ : ByteArray)] 26 (0,0)) (by (with_reducible repeat (first|refine ze ?_ _|refine zf ?_|refine zg ?_ _));exact BK183.out)) : gb187≠gb183));replace BK183:=zh (zD (g:=gb183) (o:=.cells #[.int .i64 0,.int .i64 0,.string (⟨#[]⟩ : ByteArray)] 26 (0,0)) (by (with_reducible repeat (first|refine ze ?_ _|refine zf ?_|refine zg ?_ _));exact BK183.out) hb);have NB0_187:=zh ((by rw [hg];exact yc (IsS74.lt (show IsS74 w0 _ g t185 t186 from by repeat (with_reducible first|exact HI0.out|apply IsS74.alloc|apply IsS74.drewN|apply IsS74.drew|apply IsS74.set_0|apply IsS74.set_1|refine IsS74.far ?_ NB0_183.out _))) : g≠gb187));have NB187_0:=zh ((by rw [hg];exact yd (IsS74.lt (show IsS74 w0 _ g t185 t186 from by repeat (with_reducible first|exact HI0.out|apply IsS74.alloc|apply IsS74.drewN|apply IsS74.drew|apply IsS74.set_0|apply IsS74.set_1|refine IsS74.far ?_ NB0_183.out _))) : gb187≠g));replace HI0:=zh (IsS74.below (by repeat (with_reducible first|exact HI0.out|apply IsS74.alloc|apply IsS74.drewN|apply IsS74.drew|apply IsS74.set_0|apply IsS74.set_1|refine IsS74.far ?_ NB0_183.out _)) hb);clear hb hbox hg;have hnb20:=NB187_183.out;have hnc20:=NB183_187.out;have hnb21:=NB187_0.out;have hnc21:=NB0_187.out;have hcz22_0 : w19.cell? ⟨gb187,0,none⟩=some (.int .i64 0):=(zz BK187.out 0).trans rfl;have hcz22_1 : w19.cell? ⟨gb187,1,none⟩=some (.int .i64 0):=(zz BK187.out 1).trans rfl;have hcz22_2 : w19.cell? ⟨gb187,2,none⟩=some (.string (⟨#[]⟩ : ByteArray)):=(zz BK187.out 2).trans rfl;have hfz22_0:=zA BK187.out 0;have hfz22_1:=zA BK187.out 1;have hfz22_2:=zA BK187.out 2)|((with_reducible refine zJ (f:=91) rfl ?_);refine yj (some 17) rfl rfl Try.func91 (by kernel_rfl) rfl #[.pointer (some ⟨g,0,none⟩),.int .i64 8] rfl (by (try simp only [zt,zu,zv]);first|done|rfl|(simp only [zw,zx];rfl)|(simp only [yr,ys,zV,zW];rfl)) ?_;(with_reducible refine (impl_byteReader_num.calls k  g t185 t186 8 t191 t192 t193 w0 _ ?side1 ?side2 A16.out).mono ?_);(case side1 => repeat (with_reducible first|exact HI0.out|apply IsS74.alloc|apply IsS74.drewN|apply IsS74.drew|apply IsS74.set_0|apply IsS74.set_1|refine IsS74.far ?_ NB0_183.out _|refine IsS74.far ?_ NB0_187.out _));(case side2 => repeat (with_reducible first|exact HB.out|apply za|apply zb|apply zc|refine zd ?_ (IsS74.ge HI0.out)|refine zd ?_ GE183.out|refine zd ?_ GE187.out));rintro e w23 ⟨rfl,hi,hb,hk⟩;refine ⟨_,rfl,?_⟩;replace BK183:=zh (KeepBut.blk hk (g':=gb183) (o:=.cells #[.int .i64 0,.int .i64 0,.string (⟨#[]⟩ : ByteArray)] 26 (0,0)) (by (with_reducible repeat (first|refine ze ?_ _|refine zf ?_|refine zg ?_ _));refine zS ?_ NB183_187.out _;(with_reducible repeat (first|refine ze ?_ _|refine zf ?_|refine zg ?_ _));refine zS ?_ NB183_187.out _;(with_reducible repeat (first|refine ze ?_ _|refine zf ?_|refine zg ?_ _));refine zS ?_ NB183_187.out _;(with_reducible repeat (first|refine ze ?_ _|refine zf ?_|refine zg ?_ _));exact BK183.out) NB183_0.out (by simp));replace BK187:=zh (KeepBut.blk hk (g':=gb187) (o:=.cells #[.int .i64 t184,.int .i64 0,.string (⟨#[]⟩ : ByteArray)] 26 (0,0)) (by (with_reducible repeat (first|refine ze ?_ _|refine zf ?_|refine zg ?_ _));refine zL (cs:=#[.int .i64 t184,.int .i64 0,.string (⟨#[]⟩ : ByteArray)]) ?_ 2 _ rfl;(with_reducible repeat (first|refine ze ?_ _|refine zf ?_|refine zg ?_ _));refine zL (cs:=#[.int .i64 t184,.int .i64 0,.string (⟨#[]⟩ : ByteArray)]) ?_ 1 _ rfl;(with_reducible repeat (first|refine ze ?_ _|refine zf ?_|refine zg ?_ _));refine zL (cs:=#[.int .i64 0,.int .i64 0,.string (⟨#[]⟩ : ByteArray)]) ?_ 0 _ rfl;(with_reducible repeat (first|refine ze ?_ _|refine zf ?_|refine zg ?_ _));exact BK187.out) NB187_0.out (by simp));replace HK:=zh (KeepBut.trans (by repeat (with_reducible first|exact HK.out|apply yl|apply ym|apply yx|apply yn|refine keep_far ?_ GW183.out _|refine keep_far ?_ GW187.out _)) hk (.inl rfl));replace HB:=zh (hb);replace HI0:=zh (hi);(try clear hb);(try clear hb2);(try clear hk);(try clear hi);have hcz24_0 : w23.cell? ⟨gb187,0,none⟩=some (.int .i64 t184):=(zz BK187.out 0).trans rfl;have hcz24_1 : w23.cell? ⟨gb187,1,none⟩=some (.int .i64 0):=(zz BK187.out 1).trans rfl;have hcz24_2 : w23.cell? ⟨gb187,2,none⟩=some (.string (⟨#[]⟩ : ByteArray)):=(zz BK187.out 2).trans rfl;have hfz24_0:=zA BK187.out 0;have hfz24_1:=zA BK187.out 1;have hfz24_2:=zA BK187.out 2;have hnb25:=NB183_0.out;have hnc25:=NB0_183.out;have hcz26_0 : w23.cell? ⟨gb183,0,none⟩=some (.int .i64 0):=(zz BK183.out 0).trans rfl;have hcz26_1 : w23.cell? ⟨gb183,1,none⟩=some (.int .i64 0):=(zz BK183.out 1).trans rfl;have hcz26_2 : w23.cell? ⟨gb183,2,none⟩=some (.string (⟨#[]⟩ : ByteArray)):=(zz BK183.out 2).trans rfl;have hfz26_0:=zA BK183.out 0;have hfz26_1:=zA BK183.out 1;have hfz26_2:=zA BK183.out 2))
  refine bodyPost_ret (results_cell_row rfl _ _ gb183 26 #[.int .i64 t184,.int .i64 (wrap64 (t191 - 4611686018427387904)),.string (⟨#[]⟩ : ByteArray)] (0,0) _ rfl (by (with_reducible repeat (first|refine ze ?_ _|refine zf ?_|refine zg ?_ _));refine zL (cs:=#[.int .i64 t184,.int .i64 (wrap64 (t191 - 4611686018427387904)),.string (⟨#[]⟩ : ByteArray)]) ?_ 2 _ rfl;(with_reducible repeat (first|refine ze ?_ _|refine zf ?_|refine zg ?_ _));refine zL (cs:=#[.int .i64 t184,.int .i64 0,.string (⟨#[]⟩ : ByteArray)]) ?_ 1 _ rfl;(with_reducible repeat (first|refine ze ?_ _|refine zf ?_|refine zg ?_ _));refine zL (cs:=#[.int .i64 0,.int .i64 0,.string (⟨#[]⟩ : ByteArray)]) ?_ 0 _ rfl;(with_reducible repeat (first|refine ze ?_ _|refine zf ?_|refine zg ?_ _));refine zS ?_ NB183_187.out _;(with_reducible repeat (first|refine ze ?_ _|refine zf ?_|refine zg ?_ _));exact BK183.out) Try.underlying26 rfl (by kernel_rfl)) rfl ?_;exact ⟨by first|rfl|(simp [yt,yu] <;> rfl)|(simp [*,yt,yu] <;> rfl),by repeat (with_reducible first|exact HI0.out|apply IsS74.alloc|apply IsS74.drewN|apply IsS74.drew|apply IsS74.set_0|apply IsS74.set_1|refine IsS74.far ?_ NB0_183.out _|refine IsS74.far ?_ NB0_187.out _),by repeat (with_reducible first|exact HB.out|apply za|apply zb|apply zc|refine zd ?_ (IsS74.ge HI0.out)|refine zd ?_ GE183.out|refine zd ?_ GE187.out),by repeat (with_reducible first|exact HK.out|apply yl|apply ym|apply yx|apply yn|refine keep_far ?_ GW183.out _|refine keep_far ?_ GW187.out _)⟩
 rw [if_neg c15] at H;have c15b0 : (t184 == 2)=false:=zY.mpr c15;have c15b1 : (t184 != 2)=true:=zZ.mpr c15;have HC27:=zh H;clear H
 go_enter Try.func56,Try.ntmps56
 go_upto_if 20 with (first|((with_reducible refine zK (N:=2) rfl ?_);refine zI ?hg (N:=2) ?hd (cs:=#[.int .i64 0,.int .i64 0,.string (⟨#[]⟩ : ByteArray)]) (t:=26) ?hr ?_;(case hd => rfl);(case hg => rfl);(case hr => first|(go_simp;done)|(go_simp;rfl));intro gb183 hg w28 hbox hb;replace HB:=zh (zC (by repeat (with_reducible first|exact HB.out|apply za|apply zb|apply zc|refine zd ?_ (IsS74.ge HI0.out))) hb);have BK183:=zh (hbox);have GW183:=zh ((by rw [hg];exact (keep_size (w:=w) (g:=g) (row:=none) (by repeat (with_reducible first|exact HK.out|apply yl|apply ym|apply yx|apply yn))) : w.heap.size≤gb183));have GE183:=zh ((Nat.le_trans HW0.out (by rw [hg];exact (keep_size (w:=w) (g:=g) (row:=none) (by repeat (with_reducible first|exact HK.out|apply yl|apply ym|apply yx|apply yn))) : w.heap.size≤gb183) : w0.heap.size≤gb183));replace HK:=zh (KeepBut.trans (by repeat (with_reducible first|exact HK.out|apply yl|apply ym|apply yx|apply yn)) (KeepBut.of_below hb g none) (.inl rfl));have NB0_183:=zh ((by rw [hg];exact yc (IsS74.lt (show IsS74 w0 _ g s0_0 s0_1 from by repeat (with_reducible first|exact HI0.out|apply IsS74.alloc|apply IsS74.drewN|apply IsS74.drew|apply IsS74.set_0|apply IsS74.set_1))) : g≠gb183));have NB183_0:=zh ((by rw [hg];exact yd (IsS74.lt (show IsS74 w0 _ g s0_0 s0_1 from by repeat (with_reducible first|exact HI0.out|apply IsS74.alloc|apply IsS74.drewN|apply IsS74.drew|apply IsS74.set_0|apply IsS74.set_1))) : gb183≠g));replace HI0:=zh (IsS74.below (by repeat (with_reducible first|exact HI0.out|apply IsS74.alloc|apply IsS74.drewN|apply IsS74.drew|apply IsS74.set_0|apply IsS74.set_1)) hb);clear hb hbox hg)|((with_reducible refine zJ (f:=91) rfl ?_);refine yj (some 5) rfl rfl Try.func91 (by kernel_rfl) rfl #[.pointer (some ⟨g,0,none⟩),.int .i64 1] rfl (by (try simp only [zt,zu,zv]);first|done|rfl|(simp only [zw,zx];rfl)|(simp only [yr,ys,zV,zW];rfl)) ?_;(with_reducible refine (impl_byteReader_num.calls k  g s0_0 s0_1 1 t184 t185 t186 w0 _ ?side1 ?side2 A2.out).mono ?_);(case side1 => repeat (with_reducible first|exact HI0.out|apply IsS74.alloc|apply IsS74.drewN|apply IsS74.drew|apply IsS74.set_0|apply IsS74.set_1|refine IsS74.far ?_ NB0_183.out _));(case side2 => repeat (with_reducible first|exact HB.out|apply za|apply zb|apply zc|refine zd ?_ (IsS74.ge HI0.out)|refine zd ?_ GE183.out));rintro e w29 ⟨rfl,hi,hb,hk⟩;refine ⟨_,rfl,?_⟩;replace BK183:=zh (KeepBut.blk hk (g':=gb183) (o:=.cells #[.int .i64 0,.int .i64 0,.string (⟨#[]⟩ : ByteArray)] 26 (0,0)) (by (with_reducible repeat (first|refine ze ?_ _|refine zf ?_|refine zg ?_ _));exact BK183.out) NB183_0.out (by simp));replace HK:=zh (KeepBut.trans (by repeat (with_reducible first|exact HK.out|apply yl|apply ym|apply yx|apply yn|refine keep_far ?_ GW183.out _)) hk (.inl rfl));replace HB:=zh (hb);replace HI0:=zh (hi);(try clear hb);(try clear hb2);(try clear hk);(try clear hi))|((with_reducible refine zK (N:=3) rfl ?_);refine zI ?hg (N:=3) ?hd (cs:=#[.int .i64 0,.int .i64 0,.string (⟨#[]⟩ : ByteArray)]) (t:=26) ?hr ?_;(case hd => rfl);(case hg => rfl);(case hr => first|(go_simp;done)|(go_simp;rfl));intro gb187 hg w30 hbox hb;replace HB:=zh (zC (by repeat (with_reducible first|exact HB.out|apply za|apply zb|apply zc|refine zd ?_ (IsS74.ge HI0.out)|refine zd ?_ GE183.out)) hb);have BK187:=zh (hbox);have GW187:=zh ((by rw [hg];exact (keep_size (w:=w) (g:=g) (row:=none) (by repeat (with_reducible first|exact HK.out|apply yl|apply ym|apply yx|apply yn|refine keep_far ?_ GW183.out _))) : w.heap.size≤gb187));have GE187:=zh ((Nat.le_trans HW0.out (by rw [hg];exact (keep_size (w:=w) (g:=g) (row:=none) (by repeat (with_reducible first|exact HK.out|apply yl|apply ym|apply yx|apply yn|refine keep_far ?_ GW183.out _))) : w.heap.size≤gb187) : w0.heap.size≤gb187));replace HK:=zh (KeepBut.trans (by repeat (with_reducible first|exact HK.out|apply yl|apply ym|apply yx|apply yn|refine keep_far ?_ GW183.out _)) (KeepBut.of_below hb g none) (.inl rfl));have NB183_187:=zh ((by rw [hg];exact yc (yi (g:=gb183) (o:=.cells #[.int .i64 0,.int .i64 0,.string (⟨#[]⟩ : ByteArray)] 26 (0,0)) (by (with_reducible repeat (first|refine ze ?_ _|refine zf ?_|refine zg ?_ _));exact BK183.out)) : gb183≠gb187));have NB187_183:=zh ((by rw [hg];exact yd (yi (g:=gb183) (o:=.cells #[.int .i64 0,.int .i64 0,.string (⟨#[]⟩ : ByteArray)] 26 (0,0)) (by (with_reducible repeat (first|refine ze ?_ _|refine zf ?_|refine zg ?_ _));exact BK183.out)) : gb187≠gb183));replace BK183:=zh (zD (g:=gb183) (o:=.cells #[.int .i64 0,.int .i64 0,.string (⟨#[]⟩ : ByteArray)] 26 (0,0)) (by (with_reducible repeat (first|refine ze ?_ _|refine zf ?_|refine zg ?_ _));exact BK183.out) hb);have NB0_187:=zh ((by rw [hg];exact yc (IsS74.lt (show IsS74 w0 _ g t185 t186 from by repeat (with_reducible first|exact HI0.out|apply IsS74.alloc|apply IsS74.drewN|apply IsS74.drew|apply IsS74.set_0|apply IsS74.set_1|refine IsS74.far ?_ NB0_183.out _))) : g≠gb187));have NB187_0:=zh ((by rw [hg];exact yd (IsS74.lt (show IsS74 w0 _ g t185 t186 from by repeat (with_reducible first|exact HI0.out|apply IsS74.alloc|apply IsS74.drewN|apply IsS74.drew|apply IsS74.set_0|apply IsS74.set_1|refine IsS74.far ?_ NB0_183.out _))) : gb187≠g));replace HI0:=zh (IsS74.below (by repeat (with_reducible first|exact HI0.out|apply IsS74.alloc|apply IsS74.drewN|apply IsS74.drew|apply IsS74.set_0|apply IsS74.set_1|refine IsS74.far ?_ NB0_183.out _)) hb);clear hb hbox hg;have hnb31:=NB187_183.out;have hnc31:=NB183_187.out;have hnb32:=NB187_0.out;have hnc32:=NB0_187.out;have hcz33_0 : w30.cell? ⟨gb187,0,none⟩=some (.int .i64 0):=(zz BK187.out 0).trans rfl;have hcz33_1 : w30.cell? ⟨gb187,1,none⟩=some (.int .i64 0):=(zz BK187.out 1).trans rfl;have hcz33_2 : w30.cell? ⟨gb187,2,none⟩=some (.string (⟨#[]⟩ : ByteArray)):=(zz BK187.out 2).trans rfl;have hfz33_0:=zA BK187.out 0;have hfz33_1:=zA BK187.out 1;have hfz33_2:=zA BK187.out 2))
 (try simp only [Act.put,zi,zj,zk])
 go_cut [20] (fun v20 wc => ∃ (kq : Nat) (x20_26 : Bool),v20 = .bool x20_26∧Aside0 (impl_byteReader_value.j0 kq x20_26 t185 t186 t184 0 (⟨#[]⟩ : ByteArray)=some (r1,r2,r3,r4,r5))∧Aside0 (kq≤k)∧Aside0 (wc.heap[gb183]? = some (.cells #[.int .i64 0,.int .i64 0,.string (⟨#[]⟩ : ByteArray)] 26 (0,0)))∧Aside0 (wc.heap[gb187]? = some (.cells #[.int .i64 t184,.int .i64 0,.string (⟨#[]⟩ : ByteArray)] 26 (0,0)))∧Aside0 (IsS74 w0 wc g t185 t186)∧Aside0 (KeepBut w wc g none)∧Aside0 (Below w0.heap.size w0 wc))
 case first =>
  have H:=HC27.out;clear HC27
  by_cases c34 : t184=3
  ·
   rw [if_pos c34] at H
   have c34b0 : (t184 == 3)=true:=ya.mpr c34;have c34b1 : (t184 != 3)=false:=zX.mpr c34;clear c34;(first|rw [c34b0]|(simp only [zG,zH];rw [c34b0])|skip);have H':=zh H;clear H
   go_wp2
   go_meet
   case rel => exact ⟨_,((t184 == 3)),(by first|rfl|(simp;done)|(simp [*];done)),H',⟨by first|omega|exact ye _⟩,⟨by (with_reducible repeat (first|refine ze ?_ _|refine zf ?_|refine zg ?_ _));refine zS ?_ NB183_187.out _;(with_reducible repeat (first|refine ze ?_ _|refine zf ?_|refine zg ?_ _));refine zS ?_ NB183_187.out _;(with_reducible repeat (first|refine ze ?_ _|refine zf ?_|refine zg ?_ _));refine zS ?_ NB183_187.out _;(with_reducible repeat (first|refine ze ?_ _|refine zf ?_|refine zg ?_ _));exact BK183.out⟩,⟨by (with_reducible repeat (first|refine ze ?_ _|refine zf ?_|refine zg ?_ _));refine zL (cs:=#[.int .i64 t184,.int .i64 0,.string (⟨#[]⟩ : ByteArray)]) ?_ 2 _ rfl;(with_reducible repeat (first|refine ze ?_ _|refine zf ?_|refine zg ?_ _));refine zL (cs:=#[.int .i64 t184,.int .i64 0,.string (⟨#[]⟩ : ByteArray)]) ?_ 1 _ rfl;(with_reducible repeat (first|refine ze ?_ _|refine zf ?_|refine zg ?_ _));refine zL (cs:=#[.int .i64 0,.int .i64 0,.string (⟨#[]⟩ : ByteArray)]) ?_ 0 _ rfl;(with_reducible repeat (first|refine ze ?_ _|refine zf ?_|refine zg ?_ _));exact BK187.out⟩,⟨by repeat (with_reducible first|exact HI0.out|apply IsS74.alloc|apply IsS74.drewN|apply IsS74.drew|apply IsS74.set_0|apply IsS74.set_1|refine IsS74.far ?_ NB0_183.out _|refine IsS74.far ?_ NB0_187.out _)⟩,⟨by repeat (with_reducible first|exact HK.out|apply yl|apply ym|apply yx|apply yn|refine keep_far ?_ GW183.out _|refine keep_far ?_ GW187.out _)⟩,⟨by repeat (with_reducible first|exact HB.out|apply za|apply zb|apply zc|refine zd ?_ (IsS74.ge HI0.out)|refine zd ?_ GE183.out|refine zd ?_ GE187.out)⟩⟩
  rw [if_neg c34] at H;have c34b0 : (t184 == 3)=false:=zY.mpr c34;have c34b1 : (t184 != 3)=true:=zZ.mpr c34;(first|rw [c34b0]|(simp only [zG,zH];rw [c34b0])|skip)
  by_cases c35 : t184=4
  ·
   rw [if_pos c35] at H
   have c35b0 : (t184 == 4)=true:=ya.mpr c35;have c35b1 : (t184 != 4)=false:=zX.mpr c35;clear c35;have H':=zh H;clear H
   go_wp2
   go_meet
   case rel => exact ⟨_,((t184 == 4)),(by first|rfl|(simp;done)|(simp [*];done)),H',⟨by first|omega|exact ye _⟩,⟨by (with_reducible repeat (first|refine ze ?_ _|refine zf ?_|refine zg ?_ _));refine zS ?_ NB183_187.out _;(with_reducible repeat (first|refine ze ?_ _|refine zf ?_|refine zg ?_ _));refine zS ?_ NB183_187.out _;(with_reducible repeat (first|refine ze ?_ _|refine zf ?_|refine zg ?_ _));refine zS ?_ NB183_187.out _;(with_reducible repeat (first|refine ze ?_ _|refine zf ?_|refine zg ?_ _));exact BK183.out⟩,⟨by (with_reducible repeat (first|refine ze ?_ _|refine zf ?_|refine zg ?_ _));refine zL (cs:=#[.int .i64 t184,.int .i64 0,.string (⟨#[]⟩ : ByteArray)]) ?_ 2 _ rfl;(with_reducible repeat (first|refine ze ?_ _|refine zf ?_|refine zg ?_ _));refine zL (cs:=#[.int .i64 t184,.int .i64 0,.string (⟨#[]⟩ : ByteArray)]) ?_ 1 _ rfl;(with_reducible repeat (first|refine ze ?_ _|refine zf ?_|refine zg ?_ _));refine zL (cs:=#[.int .i64 0,.int .i64 0,.string (⟨#[]⟩ : ByteArray)]) ?_ 0 _ rfl;(with_reducible repeat (first|refine ze ?_ _|refine zf ?_|refine zg ?_ _));exact BK187.out⟩,⟨by repeat (with_reducible first|exact HI0.out|apply IsS74.alloc|apply IsS74.drewN|apply IsS74.drew|apply IsS74.set_0|apply IsS74.set_1|refine IsS74.far ?_ NB0_183.out _|refine IsS74.far ?_ NB0_187.out _)⟩,⟨by repeat (with_reducible first|exact HK.out|apply yl|apply ym|apply yx|apply yn|refine keep_far ?_ GW183.out _|refine keep_far ?_ GW187.out _)⟩,⟨by repeat (with_reducible first|exact HB.out|apply za|apply zb|apply zc|refine zd ?_ (IsS74.ge HI0.out)|refine zd ?_ GE183.out|refine zd ?_ GE187.out)⟩⟩
  rw [if_neg c35] at H;have c35b0 : (t184 == 4)=false:=zY.mpr c35;have c35b1 : (t184 != 4)=true:=zZ.mpr c35;have H':=zh H;clear H
  go_wp2
  go_meet
  case rel => exact ⟨_,((t184 == 5)),(by first|rfl|(simp;done)|(simp [*];done)),H',⟨by first|omega|exact ye _⟩,⟨by (with_reducible repeat (first|refine ze ?_ _|refine zf ?_|refine zg ?_ _));refine zS ?_ NB183_187.out _;(with_reducible repeat (first|refine ze ?_ _|refine zf ?_|refine zg ?_ _));refine zS ?_ NB183_187.out _;(with_reducible repeat (first|refine ze ?_ _|refine zf ?_|refine zg ?_ _));refine zS ?_ NB183_187.out _;(with_reducible repeat (first|refine ze ?_ _|refine zf ?_|refine zg ?_ _));exact BK183.out⟩,⟨by (with_reducible repeat (first|refine ze ?_ _|refine zf ?_|refine zg ?_ _));refine zL (cs:=#[.int .i64 t184,.int .i64 0,.string (⟨#[]⟩ : ByteArray)]) ?_ 2 _ rfl;(with_reducible repeat (first|refine ze ?_ _|refine zf ?_|refine zg ?_ _));refine zL (cs:=#[.int .i64 t184,.int .i64 0,.string (⟨#[]⟩ : ByteArray)]) ?_ 1 _ rfl;(with_reducible repeat (first|refine ze ?_ _|refine zf ?_|refine zg ?_ _));refine zL (cs:=#[.int .i64 0,.int .i64 0,.string (⟨#[]⟩ : ByteArray)]) ?_ 0 _ rfl;(with_reducible repeat (first|refine ze ?_ _|refine zf ?_|refine zg ?_ _));exact BK187.out⟩,⟨by repeat (with_reducible first|exact HI0.out|apply IsS74.alloc|apply IsS74.drewN|apply IsS74.drew|apply IsS74.set_0|apply IsS74.set_1|refine IsS74.far ?_ NB0_183.out _|refine IsS74.far ?_ NB0_187.out _)⟩,⟨by repeat (with_reducible first|exact HK.out|apply yl|apply ym|apply yx|apply yn|refine keep_far ?_ GW183.out _|refine keep_far ?_ GW187.out _)⟩,⟨by repeat (with_reducible first|exact HB.out|apply za|apply zb|apply zc|refine zd ?_ (IsS74.ge HI0.out)|refine zd ?_ GE183.out|refine zd ?_ GE187.out)⟩⟩
 case rest =>
  clear HC27
  try clear c1
  try clear c2
  try clear p2
  try clear c3
  try clear c3b0
  try clear c3b1
  try clear c5
  try clear p6
  try clear c8
  try clear c9
  try clear c13
  try clear c15
  try clear c15b0
  try clear c15b1
  try clear c20
  try clear c21
  try clear c25
  try clear c31
  try clear c32
  try clear c34
  try clear c34b0
  try clear c34b1
  try clear c35
  try clear c35b0
  try clear c35b1
  try clear hcz10_0
  try clear hcz10_1
  try clear hcz10_2
  try clear hcz12_0
  try clear hcz12_1
  try clear hcz12_2
  try clear hcz14_0
  try clear hcz14_1
  try clear hcz14_2
  try clear hcz22_0
  try clear hcz22_1
  try clear hcz22_2
  try clear hcz24_0
  try clear hcz24_1
  try clear hcz24_2
  try clear hcz26_0
  try clear hcz26_1
  try clear hcz26_2
  try clear hcz33_0
  try clear hcz33_1
  try clear hcz33_2
  try clear hfz10_0
  try clear hfz10_1
  try clear hfz10_2
  try clear hfz12_0
  try clear hfz12_1
  try clear hfz12_2
  try clear hfz14_0
  try clear hfz14_1
  try clear hfz14_2
  try clear hfz22_0
  try clear hfz22_1
  try clear hfz22_2
  try clear hfz24_0
  try clear hfz24_1
  try clear hfz24_2
  try clear hfz26_0
  try clear hfz26_1
  try clear hfz26_2
  try clear hfz33_0
  try clear hfz33_1
  try clear hfz33_2
  obtain ⟨kq,x20_26,rfl,HA,HJ26,BK183,BK187,HI0,HK,HB⟩:=hcut
  cases kq with
  | zero => exact absurd HA.out (by simp [impl_byteReader_value.j0])
  | succ kj26 =>
   have H:=HA.out;clear HA;simp only [impl_byteReader_value.j0] at H
   by_cases c36 : x20_26=true
   ·
    subst c36
    have H1 : ((impl_byteReader_num.f kj26 t185 t186 2).bind fun bt194 => ((impl_byteReader_take.f bt194.2.1 bt194.2.2 bt194.1).bind fun bt197 => (some (t184,0,bt197.1,bt197.2.1,bt197.2.2))))=some (r1,r2,r3,r4,r5):=by rw [if_pos rfl] at H;exact H
    clear H;have H:=H1;clear H1;replace H:=zT.mp H;obtain ⟨⟨t194,t195,t196⟩,A370,H⟩:=H;replace H : ((impl_byteReader_take.f t195 t196 t194).bind fun bt197 => (some (t184,0,bt197.1,bt197.2.1,bt197.2.2)))=some (r1,r2,r3,r4,r5):=H;have A37:=zh A370;clear A370;replace H:=zT.mp H;obtain ⟨⟨t197,t198,t199⟩,A380,H⟩:=H;replace H : (some (t184,0,t197,t198,t199))=some (r1,r2,r3,r4,r5):=H;have A38:=zh A380;clear A380;simp only [Option.some.injEq,Prod.mk.injEq] at H;obtain ⟨rfl,rfl,rfl,rfl,rfl⟩:=H
    go_wp2_with (first|((with_reducible refine zJ (f:=91) rfl ?_);refine yj (some 26) rfl rfl Try.func91 (by kernel_rfl) rfl #[.pointer (some ⟨g,0,none⟩),.int .i64 2] rfl (by (try simp only [zt,zu,zv]);first|done|rfl|(simp only [zw,zx];rfl)|(simp only [yr,ys,zV,zW];rfl)) ?_;(with_reducible refine (impl_byteReader_num.calls kj26  g t185 t186 2 t194 t195 t196 w0 _ ?side1 ?side2 A37.out).mono ?_);(case side1 => repeat (with_reducible first|exact HI0.out|apply IsS74.alloc|apply IsS74.drewN|apply IsS74.drew|apply IsS74.set_0|apply IsS74.set_1|refine IsS74.far ?_ NB0_183.out _|refine IsS74.far ?_ NB0_187.out _));(case side2 => repeat (with_reducible first|exact HB.out|apply za|apply zb|apply zc|refine zd ?_ (IsS74.ge HI0.out)|refine zd ?_ GE183.out|refine zd ?_ GE187.out));rintro e w39 ⟨rfl,hi,hb,hk⟩;refine ⟨_,rfl,?_⟩;replace BK183:=zh (KeepBut.blk hk (g':=gb183) (o:=.cells #[.int .i64 0,.int .i64 0,.string (⟨#[]⟩ : ByteArray)] 26 (0,0)) (by (with_reducible repeat (first|refine ze ?_ _|refine zf ?_|refine zg ?_ _));exact BK183.out) NB183_0.out (by simp));replace BK187:=zh (KeepBut.blk hk (g':=gb187) (o:=.cells #[.int .i64 t184,.int .i64 0,.string (⟨#[]⟩ : ByteArray)] 26 (0,0)) (by (with_reducible repeat (first|refine ze ?_ _|refine zf ?_|refine zg ?_ _));exact BK187.out) NB187_0.out (by simp));replace HK:=zh (KeepBut.trans (by repeat (with_reducible first|exact HK.out|apply yl|apply ym|apply yx|apply yn|refine keep_far ?_ GW183.out _|refine keep_far ?_ GW187.out _)) hk (.inl rfl));replace HB:=zh (hb);replace HI0:=zh (hi);(try clear hb);(try clear hb2);(try clear hk);(try clear hi))|((with_reducible refine zJ (f:=92) rfl ?_);refine yj (some 27) rfl rfl Try.func92 (by kernel_rfl) rfl #[.pointer (some ⟨g,0,none⟩),.int .i64 t194] rfl (by (try simp only [zt,zu,zv]);first|done|rfl|(simp only [zw,zx];rfl)|(simp only [yr,ys,zV,zW];rfl)) ?_;(with_reducible refine (impl_byteReader_take.calls  g t195 t196 t194 t197 t198 t199 w0 _ ?side1 ?side2 A38.out).mono ?_);(case side1 => repeat (with_reducible first|exact HI0.out|apply IsS74.alloc|apply IsS74.drewN|apply IsS74.drew|apply IsS74.set_0|apply IsS74.set_1|refine IsS74.far ?_ NB0_183.out _|refine IsS74.far ?_ NB0_187.out _));(case side2 => repeat (with_reducible first|exact HB.out|apply za|apply zb|apply zc|refine zd ?_ (IsS74.ge HI0.out)|refine zd ?_ GE183.out|refine zd ?_ GE187.out));rintro e w40 ⟨rfl,hi,hb,hk⟩;refine ⟨_,rfl,?_⟩;replace BK183:=zh (KeepBut.blk hk (g':=gb183) (o:=.cells #[.int .i64 0,.int .i64 0,.string (⟨#[]⟩ : ByteArray)] 26 (0,0)) (by (with_reducible repeat (first|refine ze ?_ _|refine zf ?_|refine zg ?_ _));exact BK183.out) NB183_0.out (by simp));replace BK187:=zh (KeepBut.blk hk (g':=gb187) (o:=.cells #[.int .i64 t184,.int .i64 0,.string (⟨#[]⟩ : ByteArray)] 26 (0,0)) (by (with_reducible repeat (first|refine ze ?_ _|refine zf ?_|refine zg ?_ _));exact BK187.out) NB187_0.out (by simp));replace HK:=zh (KeepBut.trans (by repeat (with_reducible first|exact HK.out|apply yl|apply ym|apply yx|apply yn|refine keep_far ?_ GW183.out _|refine keep_far ?_ GW187.out _)) hk (.inl rfl));replace HB:=zh (hb);replace HI0:=zh (hi);(try clear hb);(try clear hb2);(try clear hk);(try clear hi);have hnb41:=NB187_183.out;have hnc41:=NB183_187.out;have hnb42:=NB187_0.out;have hnc42:=NB0_187.out;have hcz43_0 : w40.cell? ⟨gb187,0,none⟩=some (.int .i64 t184):=(zz BK187.out 0).trans rfl;have hcz43_1 : w40.cell? ⟨gb187,1,none⟩=some (.int .i64 0):=(zz BK187.out 1).trans rfl;have hcz43_2 : w40.cell? ⟨gb187,2,none⟩=some (.string (⟨#[]⟩ : ByteArray)):=(zz BK187.out 2).trans rfl;have hfz43_0:=zA BK187.out 0;have hfz43_1:=zA BK187.out 1;have hfz43_2:=zA BK187.out 2;have hnb44:=NB183_0.out;have hnc44:=NB0_183.out;have hcz45_0 : w40.cell? ⟨gb183,0,none⟩=some (.int .i64 0):=(zz BK183.out 0).trans rfl;have hcz45_1 : w40.cell? ⟨gb183,1,none⟩=some (.int .i64 0):=(zz BK183.out 1).trans rfl;have hcz45_2 : w40.cell? ⟨gb183,2,none⟩=some (.string (⟨#[]⟩ : ByteArray)):=(zz BK183.out 2).trans rfl;have hfz45_0:=zA BK183.out 0;have hfz45_1:=zA BK183.out 1;have hfz45_2:=zA BK183.out 2))
    refine bodyPost_ret (results_cell_row rfl _ _ gb183 26 #[.int .i64 t184,.int .i64 0,.string t197] (0,0) _ rfl (by (with_reducible repeat (first|refine ze ?_ _|refine zf ?_|refine zg ?_ _));refine zL (cs:=#[.int .i64 t184,.int .i64 0,.string (⟨#[]⟩ : ByteArray)]) ?_ 2 _ rfl;(with_reducible repeat (first|refine ze ?_ _|refine zf ?_|refine zg ?_ _));refine zL (cs:=#[.int .i64 t184,.int .i64 0,.string (⟨#[]⟩ : ByteArray)]) ?_ 1 _ rfl;(with_reducible repeat (first|refine ze ?_ _|refine zf ?_|refine zg ?_ _));refine zL (cs:=#[.int .i64 0,.int .i64 0,.string (⟨#[]⟩ : ByteArray)]) ?_ 0 _ rfl;(with_reducible repeat (first|refine ze ?_ _|refine zf ?_|refine zg ?_ _));refine zS ?_ NB183_187.out _;(with_reducible repeat (first|refine ze ?_ _|refine zf ?_|refine zg ?_ _));exact BK183.out) Try.underlying26 rfl (by kernel_rfl)) rfl ?_;exact ⟨by first|rfl|(simp [yt,yu] <;> rfl)|(simp [*,yt,yu] <;> rfl),by repeat (with_reducible first|exact HI0.out|apply IsS74.alloc|apply IsS74.drewN|apply IsS74.drew|apply IsS74.set_0|apply IsS74.set_1|refine IsS74.far ?_ NB0_183.out _|refine IsS74.far ?_ NB0_187.out _),by repeat (with_reducible first|exact HB.out|apply za|apply zb|apply zc|refine zd ?_ (IsS74.ge HI0.out)|refine zd ?_ GE183.out|refine zd ?_ GE187.out),by repeat (with_reducible first|exact HK.out|apply yl|apply ym|apply yx|apply yn|refine keep_far ?_ GW183.out _|refine keep_far ?_ GW187.out _)⟩
   replace c36:=yb.mpr c36;subst c36;have H1 : (some (t184,0,(⟨#[]⟩ : ByteArray),t185,t186))=some (r1,r2,r3,r4,r5):=by rw [if_neg (show ¬ (false=true) by decide)] at H;exact H
   clear H;have H:=H1;clear H1;simp only [Option.some.injEq,Prod.mk.injEq] at H;obtain ⟨rfl,rfl,rfl,rfl,rfl⟩:=H;have hnb46:=NB187_183.out;have hnc46:=NB183_187.out;have hnb47:=NB187_0.out;have hnc47:=NB0_187.out;have hcz48_0 : wc.cell? ⟨gb187,0,none⟩=some (.int .i64 t184):=(zz BK187.out 0).trans rfl;have hcz48_1 : wc.cell? ⟨gb187,1,none⟩=some (.int .i64 0):=(zz BK187.out 1).trans rfl;have hcz48_2 : wc.cell? ⟨gb187,2,none⟩=some (.string (⟨#[]⟩ : ByteArray)):=(zz BK187.out 2).trans rfl;have hfz48_0:=zA BK187.out 0;have hfz48_1:=zA BK187.out 1;have hfz48_2:=zA BK187.out 2;have hnb49:=NB183_0.out;have hnc49:=NB0_183.out;have hcz50_0 : wc.cell? ⟨gb183,0,none⟩=some (.int .i64 0):=(zz BK183.out 0).trans rfl;have hcz50_1 : wc.cell? ⟨gb183,1,none⟩=some (.int .i64 0):=(zz BK183.out 1).trans rfl;have hcz50_2 : wc.cell? ⟨gb183,2,none⟩=some (.string (⟨#[]⟩ : ByteArray)):=(zz BK183.out 2).trans rfl;have hfz50_0:=zA BK183.out 0;have hfz50_1:=zA BK183.out 1;have hfz50_2:=zA BK183.out 2
   go_wp2
   refine bodyPost_ret (results_cell_row rfl _ _ gb183 26 #[.int .i64 t184,.int .i64 0,.string (⟨#[]⟩ : ByteArray)] (0,0) _ rfl (by (with_reducible repeat (first|refine ze ?_ _|refine zf ?_|refine zg ?_ _));refine zL (cs:=#[.int .i64 t184,.int .i64 0,.string (⟨#[]⟩ : ByteArray)]) ?_ 2 _ rfl;(with_reducible repeat (first|refine ze ?_ _|refine zf ?_|refine zg ?_ _));refine zL (cs:=#[.int .i64 t184,.int .i64 0,.string (⟨#[]⟩ : ByteArray)]) ?_ 1 _ rfl;(with_reducible repeat (first|refine ze ?_ _|refine zf ?_|refine zg ?_ _));refine zL (cs:=#[.int .i64 0,.int .i64 0,.string (⟨#[]⟩ : ByteArray)]) ?_ 0 _ rfl;(with_reducible repeat (first|refine ze ?_ _|refine zf ?_|refine zg ?_ _));exact BK183.out) Try.underlying26 rfl (by kernel_rfl)) rfl ?_;exact ⟨by first|rfl|(simp [yt,yu] <;> rfl)|(simp [*,yt,yu] <;> rfl),by repeat (with_reducible first|exact HI0.out|apply IsS74.alloc|apply IsS74.drewN|apply IsS74.drew|apply IsS74.set_0|apply IsS74.set_1|refine IsS74.far ?_ NB0_183.out _|refine IsS74.far ?_ NB0_187.out _),by repeat (with_reducible first|exact HB.out|apply za|apply zb|apply zc|refine zd ?_ (IsS74.ge HI0.out)|refine zd ?_ GE183.out|refine zd ?_ GE187.out),by repeat (with_reducible first|exact HK.out|apply yl|apply ym|apply yx|apply yn|refine keep_far ?_ GW183.out _|refine keep_far ?_ GW187.out _)⟩

end Go.Proofs.Ytpmeglcmhiihoaa.Q
end
section
namespace Go.Proofs.Ytpmeglcmhiihoaa.Q
open Go.RowKit Go.Proofs.YtpmeglcmhiihoaaW.PrintWords Go.Proofs.YtpmeglcmhiihoaaW.PrintLast Go.Proofs.YtpmeglcmhiihoaaW.PrintMore
attribute [local go_sem] max2_int min2_int max_two min_two max_three min_three max_four min_four max2_str min2_str str_geq str_gtr str_leq   -- for this text's walks alone
set_option linter.unusedVariables false
set_option linter.unusedSimpArgs false

def impl_items.l0 : Nat→List (S26)→ByteArray→Bool→Option ((List (S26))×Bool)
 | 0,_,_,_ => none
 | k + 1,x5,x202000,x202001 => if x202000.toList=([] : List UInt8) then (some (x5,!x202001)) else (if x202001=true then (some (x5,!x202001)) else ((impl_byteReader_value.f k x202000 x202001).bind fun bt205 => (if x5.length<4398046511104 then (impl_items.l0 k (x5 ++ [(⟨bt205.1,bt205.2.1,bt205.2.2.1⟩ : S26)]) bt205.2.2.2.1 bt205.2.2.2.2) else (none))))
def impl_items.f (k : Nat) (a0_0 : Int) (a0_1 : Int) (a0_2 : ByteArray) : Option ((List (S26))×Bool):=impl_items.l0 k (([] : List (S26))) a0_2 false
theorem impl_items.mono_l : ∀ k,(∀ y0 y1 y2,LeO (impl_items.l0 k y0 y1 y2) (impl_items.l0 (k + 1) y0 y1 y2))
 | 0 => fun _ _ _ r h => by simp [impl_items.l0] at h
 | k + 1 => by
  have ih0:=impl_items.mono_l k;intro y0 y1 y2;unfold impl_items.l0
  repeat' first|(with_reducible exact ih0 _ _ _)|(with_reducible exact impl_byteReader_value.mono _ _ _)|(with_reducible exact zQ _)|(with_reducible exact zN _)|(with_reducible refine zP ?_ ?_)|(with_reducible refine zO ?_ (fun _ => ?_))|refine zP ?_ ?_|refine zO ?_ (fun _ => ?_)
theorem impl_items.mono : ∀ a0 a1 a2 k,LeO (impl_items.f k a0 a1 a2) (impl_items.f (k + 1) a0 a1 a2):=by
 intro a0 a1 a2 k;have ih0:=impl_items.mono_l k;unfold impl_items.f
 repeat' first|(with_reducible exact ih0 _ _ _)|(with_reducible exact impl_byteReader_value.mono _ _ _)|(with_reducible exact zQ _)|(with_reducible exact zN _)|(with_reducible refine zP ?_ ?_)|(with_reducible refine zO ?_ (fun _ => ?_))|refine zP ?_ ?_|refine zO ?_ (fun _ => ?_)
set_option maxHeartbeats 8000000 in
set_option maxRecDepth 100000 in
theorem impl_items.calls (k : Nat) (a0_0 : Int) (a0_1 : Int) (a0_2 : ByteArray) (r1 : List (S26)) (r2 : Bool) (w : World) (h : impl_items.f k a0_0 a0_1 a0_2=some (r1,r2)) :
  Calls Try.prog 62 #[.agg #[.int .i64 a0_0,.int .i64 a0_1,.string a0_2]] w fun e w' => ∃ v0_ : Value,e = .returned (.tuple #[v0_,.bool r2])∧Kd.R k26 26 w' w.heap.size (fun _ => True) v0_ r1∧Below w.heap.size w w':=by
 have hu26:=Try.underlying26;have hu74:=Try.underlying74;have HB:=zh (Below.refl w.heap.size w);have H : (impl_items.l0 k (([] : List (S26))) a0_2 false)=some (r1,r2):=h;clear h;obtain ⟨y202,hy202⟩ : ∃ y_ : List (S26),y_=(([] : List (S26))):=⟨_,rfl⟩;replace H : (impl_items.l0 k y202 a0_2 false)=some (r1,r2):=by first|(rw [hy202];with_reducible exact H)|(have H2_:=(Option.bind_some _ _).symm.trans H;rw [hy202];with_reducible exact H2_)|(have H2_:=(Option.bind_some _ _).symm.trans H;with_reducible exact H2_)|with_reducible exact H|(rw [hy202];exact H)|exact H
 have Ny202:=zh hy202;clear hy202;have H':=zh H;clear H
 go_enter Try.func62,Try.ntmps62
 go_wp2_with (first|((with_reducible refine zK (N:=1) rfl ?_);refine zI ?hg (N:=1) ?hd (cs:=#[.int .i64 a0_0,.int .i64 a0_1,.string a0_2]) (t:=26) ?hr ?_;(case hd => rfl);(case hg => rfl);(case hr => first|(go_simp;done)|(go_simp;rfl));intro gb200 hg w2 hbox hb;have BK200:=zh (hbox);have GW200:=zh ((by rw [hg];exact (zB (by repeat (with_reducible first|exact HB.out|apply za|apply zb|apply zc))) : w.heap.size≤gb200));have GE200:=zh ((by rw [hg];exact (zB (by repeat (with_reducible first|exact HB.out|apply za|apply zb|apply zc))) : w.heap.size≤gb200));replace HB:=zh (zC (by repeat (with_reducible first|exact HB.out|apply za|apply zb|apply zc)) hb);clear hb hbox hg;have hcz3_0 : w2.cell? ⟨gb200,0,none⟩=some (.int .i64 a0_0):=(zz BK200.out 0).trans rfl;have hcz3_1 : w2.cell? ⟨gb200,1,none⟩=some (.int .i64 a0_1):=(zz BK200.out 1).trans rfl;have hcz3_2 : w2.cell? ⟨gb200,2,none⟩=some (.string a0_2):=(zz BK200.out 2).trans rfl;have hfz3_0:=zA BK200.out 0;have hfz3_1:=zA BK200.out 1;have hfz3_2:=zA BK200.out 2)|((with_reducible refine zK (N:=9) rfl ?_);refine zI ?hg (N:=9) ?hd (cs:=#[.string a0_2,.bool false]) (t:=74) ?hr ?_;(case hd => rfl);(case hg => rfl);(case hr => first|(go_simp;done)|(go_simp;rfl));intro gb201 hg w4 hbox hb;have BK201:=zh (hbox);have GW201:=zh ((by rw [hg];exact (zB (by repeat (with_reducible first|exact HB.out|apply za|apply zb|apply zc|refine zd ?_ GE200.out))) : w.heap.size≤gb201));have GE201:=zh ((by rw [hg];exact (zB (by repeat (with_reducible first|exact HB.out|apply za|apply zb|apply zc|refine zd ?_ GE200.out))) : w.heap.size≤gb201));replace HB:=zh (zC (by repeat (with_reducible first|exact HB.out|apply za|apply zb|apply zc|refine zd ?_ GE200.out)) hb);have NB200_201:=zh ((by rw [hg];exact yc (yi (g:=gb200) (o:=.cells #[.int .i64 a0_0,.int .i64 a0_1,.string a0_2] 26 (0,0)) (by (with_reducible repeat (first|refine ze ?_ _|refine zf ?_|refine zg ?_ _));exact BK200.out)) : gb200≠gb201));have NB201_200:=zh ((by rw [hg];exact yd (yi (g:=gb200) (o:=.cells #[.int .i64 a0_0,.int .i64 a0_1,.string a0_2] 26 (0,0)) (by (with_reducible repeat (first|refine ze ?_ _|refine zf ?_|refine zg ?_ _));exact BK200.out)) : gb201≠gb200));replace BK200:=zh (zD (g:=gb200) (o:=.cells #[.int .i64 a0_0,.int .i64 a0_1,.string a0_2] 26 (0,0)) (by (with_reducible repeat (first|refine ze ?_ _|refine zf ?_|refine zg ?_ _));exact BK200.out) hb);clear hb hbox hg)|((with_reducible refine zK (N:=10) rfl ?_);refine Kd.R_lit k26 _ 26 ?hg (N:=10) ?hd (xs:=([] : List (S26))) (inner:=[]) (ok:=fun _ => True) (okp:=fun _ => True) ?hr ?hp (fun _ hk => hk) trivial (Below.refl _ _) (ye _) (by simp) ?_;(case hd => rfl);(case hg => rfl);(case hr => first|(go_simp;done)|(go_simp;rfl));(case hp => exact (Reps.none _ _));intro v203 w5 ho6 hb hg_ hnew_;clear hg_ hnew_;(first|rw [← Ny202.out] at ho6|(simp only [Int.reduceToNat] at ho6;rw [← Ny202.out] at ho6));have HO204:=zh (yy (Kd.R_newB ho6 (g:=gb200) (o:=.cells #[.int .i64 a0_0,.int .i64 a0_1,.string a0_2] 26 (0,0)) (by (with_reducible repeat (first|refine ze ?_ _|refine zf ?_|refine zg ?_ _));exact BK200.out)) (zB (by repeat (with_reducible first|exact HB.out|apply za|apply zb|apply zc|refine zd ?_ GE200.out|refine zd ?_ GE201.out))));replace BK200:=zh (zD (g:=gb200) (o:=.cells #[.int .i64 a0_0,.int .i64 a0_1,.string a0_2] 26 (0,0)) (by (with_reducible repeat (first|refine ze ?_ _|refine zf ?_|refine zg ?_ _));exact BK200.out) hb);replace BK201:=zh (zD (g:=gb201) (o:=.cells #[.string a0_2,.bool false] 74 (0,0)) (by (with_reducible repeat (first|refine ze ?_ _|refine zf ?_|refine zg ?_ _));exact BK201.out) hb);replace HB:=zh (zC (by repeat (with_reducible first|exact HB.out|apply za|apply zb|apply zc|refine zd ?_ GE200.out|refine zd ?_ GE201.out)) hb);clear hb ho6))
 repeat (go_quiet (first|((with_reducible refine zK (N:=1) rfl ?_);refine zI ?hg (N:=1) ?hd (cs:=#[.int .i64 a0_0,.int .i64 a0_1,.string a0_2]) (t:=26) ?hr ?_;(case hd => rfl);(case hg => rfl);(case hr => first|(go_simp;done)|(go_simp;rfl));intro gb200 hg w2 hbox hb;have BK200:=zh (hbox);have GW200:=zh ((by rw [hg];exact (zB (by repeat (with_reducible first|exact HB.out|apply za|apply zb|apply zc))) : w.heap.size≤gb200));have GE200:=zh ((by rw [hg];exact (zB (by repeat (with_reducible first|exact HB.out|apply za|apply zb|apply zc))) : w.heap.size≤gb200));replace HB:=zh (zC (by repeat (with_reducible first|exact HB.out|apply za|apply zb|apply zc)) hb);clear hb hbox hg;have hcz3_0 : w2.cell? ⟨gb200,0,none⟩=some (.int .i64 a0_0):=(zz BK200.out 0).trans rfl;have hcz3_1 : w2.cell? ⟨gb200,1,none⟩=some (.int .i64 a0_1):=(zz BK200.out 1).trans rfl;have hcz3_2 : w2.cell? ⟨gb200,2,none⟩=some (.string a0_2):=(zz BK200.out 2).trans rfl;have hfz3_0:=zA BK200.out 0;have hfz3_1:=zA BK200.out 1;have hfz3_2:=zA BK200.out 2)|((with_reducible refine zK (N:=9) rfl ?_);refine zI ?hg (N:=9) ?hd (cs:=#[.string a0_2,.bool false]) (t:=74) ?hr ?_;(case hd => rfl);(case hg => rfl);(case hr => first|(go_simp;done)|(go_simp;rfl));intro gb201 hg w4 hbox hb;have BK201:=zh (hbox);have GW201:=zh ((by rw [hg];exact (zB (by repeat (with_reducible first|exact HB.out|apply za|apply zb|apply zc|refine zd ?_ GE200.out))) : w.heap.size≤gb201));have GE201:=zh ((by rw [hg];exact (zB (by repeat (with_reducible first|exact HB.out|apply za|apply zb|apply zc|refine zd ?_ GE200.out))) : w.heap.size≤gb201));replace HB:=zh (zC (by repeat (with_reducible first|exact HB.out|apply za|apply zb|apply zc|refine zd ?_ GE200.out)) hb);have NB200_201:=zh ((by rw [hg];exact yc (yi (g:=gb200) (o:=.cells #[.int .i64 a0_0,.int .i64 a0_1,.string a0_2] 26 (0,0)) (by (with_reducible repeat (first|refine ze ?_ _|refine zf ?_|refine zg ?_ _));exact BK200.out)) : gb200≠gb201));have NB201_200:=zh ((by rw [hg];exact yd (yi (g:=gb200) (o:=.cells #[.int .i64 a0_0,.int .i64 a0_1,.string a0_2] 26 (0,0)) (by (with_reducible repeat (first|refine ze ?_ _|refine zf ?_|refine zg ?_ _));exact BK200.out)) : gb201≠gb200));replace BK200:=zh (zD (g:=gb200) (o:=.cells #[.int .i64 a0_0,.int .i64 a0_1,.string a0_2] 26 (0,0)) (by (with_reducible repeat (first|refine ze ?_ _|refine zf ?_|refine zg ?_ _));exact BK200.out) hb);clear hb hbox hg)|((with_reducible refine zK (N:=10) rfl ?_);refine Kd.R_lit k26 _ 26 ?hg (N:=10) ?hd (xs:=([] : List (S26))) (inner:=[]) (ok:=fun _ => True) (okp:=fun _ => True) ?hr ?hp (fun _ hk => hk) trivial (Below.refl _ _) (ye _) (by simp) ?_;(case hd => rfl);(case hg => rfl);(case hr => first|(go_simp;done)|(go_simp;rfl));(case hp => exact (Reps.none _ _));intro v203 w5 ho6 hb hg_ hnew_;clear hg_ hnew_;(first|rw [← Ny202.out] at ho6|(simp only [Int.reduceToNat] at ho6;rw [← Ny202.out] at ho6));have HO204:=zh (yy (Kd.R_newB ho6 (g:=gb200) (o:=.cells #[.int .i64 a0_0,.int .i64 a0_1,.string a0_2] 26 (0,0)) (by (with_reducible repeat (first|refine ze ?_ _|refine zf ?_|refine zg ?_ _));exact BK200.out)) (zB (by repeat (with_reducible first|exact HB.out|apply za|apply zb|apply zc|refine zd ?_ GE200.out|refine zd ?_ GE201.out))));replace BK200:=zh (zD (g:=gb200) (o:=.cells #[.int .i64 a0_0,.int .i64 a0_1,.string a0_2] 26 (0,0)) (by (with_reducible repeat (first|refine ze ?_ _|refine zf ?_|refine zg ?_ _));exact BK200.out) hb);replace BK201:=zh (zD (g:=gb201) (o:=.cells #[.string a0_2,.bool false] 74 (0,0)) (by (with_reducible repeat (first|refine ze ?_ _|refine zf ?_|refine zg ?_ _));exact BK201.out) hb);replace HB:=zh (zC (by repeat (with_reducible first|exact HB.out|apply za|apply zb|apply zc|refine zd ?_ GE200.out|refine zd ?_ GE201.out)) hb);clear hb ho6));try go_wp2_with (first|((with_reducible refine zK (N:=1) rfl ?_);refine zI ?hg (N:=1) ?hd (cs:=#[.int .i64 a0_0,.int .i64 a0_1,.string a0_2]) (t:=26) ?hr ?_;(case hd => rfl);(case hg => rfl);(case hr => first|(go_simp;done)|(go_simp;rfl));intro gb200 hg w2 hbox hb;have BK200:=zh (hbox);have GW200:=zh ((by rw [hg];exact (zB (by repeat (with_reducible first|exact HB.out|apply za|apply zb|apply zc))) : w.heap.size≤gb200));have GE200:=zh ((by rw [hg];exact (zB (by repeat (with_reducible first|exact HB.out|apply za|apply zb|apply zc))) : w.heap.size≤gb200));replace HB:=zh (zC (by repeat (with_reducible first|exact HB.out|apply za|apply zb|apply zc)) hb);clear hb hbox hg;have hcz3_0 : w2.cell? ⟨gb200,0,none⟩=some (.int .i64 a0_0):=(zz BK200.out 0).trans rfl;have hcz3_1 : w2.cell? ⟨gb200,1,none⟩=some (.int .i64 a0_1):=(zz BK200.out 1).trans rfl;have hcz3_2 : w2.cell? ⟨gb200,2,none⟩=some (.string a0_2):=(zz BK200.out 2).trans rfl;have hfz3_0:=zA BK200.out 0;have hfz3_1:=zA BK200.out 1;have hfz3_2:=zA BK200.out 2)|((with_reducible refine zK (N:=9) rfl ?_);refine zI ?hg (N:=9) ?hd (cs:=#[.string a0_2,.bool false]) (t:=74) ?hr ?_;(case hd => rfl);(case hg => rfl);(case hr => first|(go_simp;done)|(go_simp;rfl));intro gb201 hg w4 hbox hb;have BK201:=zh (hbox);have GW201:=zh ((by rw [hg];exact (zB (by repeat (with_reducible first|exact HB.out|apply za|apply zb|apply zc|refine zd ?_ GE200.out))) : w.heap.size≤gb201));have GE201:=zh ((by rw [hg];exact (zB (by repeat (with_reducible first|exact HB.out|apply za|apply zb|apply zc|refine zd ?_ GE200.out))) : w.heap.size≤gb201));replace HB:=zh (zC (by repeat (with_reducible first|exact HB.out|apply za|apply zb|apply zc|refine zd ?_ GE200.out)) hb);have NB200_201:=zh ((by rw [hg];exact yc (yi (g:=gb200) (o:=.cells #[.int .i64 a0_0,.int .i64 a0_1,.string a0_2] 26 (0,0)) (by (with_reducible repeat (first|refine ze ?_ _|refine zf ?_|refine zg ?_ _));exact BK200.out)) : gb200≠gb201));have NB201_200:=zh ((by rw [hg];exact yd (yi (g:=gb200) (o:=.cells #[.int .i64 a0_0,.int .i64 a0_1,.string a0_2] 26 (0,0)) (by (with_reducible repeat (first|refine ze ?_ _|refine zf ?_|refine zg ?_ _));exact BK200.out)) : gb201≠gb200));replace BK200:=zh (zD (g:=gb200) (o:=.cells #[.int .i64 a0_0,.int .i64 a0_1,.string a0_2] 26 (0,0)) (by (with_reducible repeat (first|refine ze ?_ _|refine zf ?_|refine zg ?_ _));exact BK200.out) hb);clear hb hbox hg)|((with_reducible refine zK (N:=10) rfl ?_);refine Kd.R_lit k26 _ 26 ?hg (N:=10) ?hd (xs:=([] : List (S26))) (inner:=[]) (ok:=fun _ => True) (okp:=fun _ => True) ?hr ?hp (fun _ hk => hk) trivial (Below.refl _ _) (ye _) (by simp) ?_;(case hd => rfl);(case hg => rfl);(case hr => first|(go_simp;done)|(go_simp;rfl));(case hp => exact (Reps.none _ _));intro v203 w5 ho6 hb hg_ hnew_;clear hg_ hnew_;(first|rw [← Ny202.out] at ho6|(simp only [Int.reduceToNat] at ho6;rw [← Ny202.out] at ho6));have HO204:=zh (yy (Kd.R_newB ho6 (g:=gb200) (o:=.cells #[.int .i64 a0_0,.int .i64 a0_1,.string a0_2] 26 (0,0)) (by (with_reducible repeat (first|refine ze ?_ _|refine zf ?_|refine zg ?_ _));exact BK200.out)) (zB (by repeat (with_reducible first|exact HB.out|apply za|apply zb|apply zc|refine zd ?_ GE200.out|refine zd ?_ GE201.out))));replace BK200:=zh (zD (g:=gb200) (o:=.cells #[.int .i64 a0_0,.int .i64 a0_1,.string a0_2] 26 (0,0)) (by (with_reducible repeat (first|refine ze ?_ _|refine zf ?_|refine zg ?_ _));exact BK200.out) hb);replace BK201:=zh (zD (g:=gb201) (o:=.cells #[.string a0_2,.bool false] 74 (0,0)) (by (with_reducible repeat (first|refine ze ?_ _|refine zf ?_|refine zg ?_ _));exact BK201.out) hb);replace HB:=zh (zC (by repeat (with_reducible first|exact HB.out|apply za|apply zb|apply zc|refine zd ?_ GE200.out|refine zd ?_ GE201.out)) hb);clear hb ho6)))
 go_loopg [5] k (fun kq v5 w' => ∃ (x5_1 : List (S26)) (x202000_1 : ByteArray) (x202001_1 : Bool),Aside0 (impl_items.l0 kq x5_1 x202000_1 x202001_1=some (r1,r2))∧Aside0 (kq≤k)∧Aside0 (Kd.R k26 26 w' w.heap.size (fun k_ => k_≠gb200) v5 x5_1)∧Aside0 (w'.heap[gb200]? = some (.cells #[.int .i64 a0_0,.int .i64 a0_1,.string a0_2] 26 (0,0)))∧Aside0 (w'.heap[gb201]? = some (.cells #[.string x202000_1,.bool x202001_1] 74 (0,0)))∧Aside0 (Below w.heap.size w w'))
 case atStart => exact ⟨(y202),(a0_2),(false),H',⟨ye _⟩,⟨by (with_reducible repeat (first|apply zm|apply zn|apply zo));exact zM HO204.out (fun _ hk => hk.2)⟩,⟨by (with_reducible repeat (first|refine ze ?_ _|refine zf ?_|refine zg ?_ _));exact BK200.out⟩,⟨by (with_reducible repeat (first|refine ze ?_ _|refine zf ?_|refine zg ?_ _));exact BK201.out⟩,⟨by repeat (with_reducible first|exact HB.out|apply za|apply zb|apply zc|refine zd ?_ GE200.out|refine zd ?_ GE201.out)⟩⟩
 case round =>
  clear H'
  try clear p2
  try clear c6
  try clear hcz3_0
  try clear hcz3_1
  try clear hcz3_2
  try clear hfz3_0
  try clear hfz3_1
  try clear hfz3_2
  obtain ⟨x5_1,x202000_1,x202001_1,HA,HK1,HO_5,BK200,BK201,HB⟩:=hrel
  cases gk with
  | zero => exact absurd HA.out (by simp [impl_items.l0])
  | succ k1 =>
   have H:=HA.out;clear HA;simp only [impl_items.l0] at H
   by_cases c7 : x202000_1.toList=([] : List UInt8)
   ·
    rw [if_pos c7] at H
    have c7b0 : (x202000_1.toList == ([] : List UInt8))=true:=ya.mpr c7;have c7b1 : (x202000_1.toList != ([] : List UInt8))=false:=zX.mpr c7;clear c7;simp only [Option.some.injEq,Prod.mk.injEq] at H;obtain ⟨rfl,rfl⟩:=H;have hnb8:=NB201_200.out;have hnc8:=NB200_201.out;have hcz9_0 : wr.cell? ⟨gb201,0,none⟩=some (.string x202000_1):=(zz BK201.out 0).trans rfl;have hcz9_1 : wr.cell? ⟨gb201,1,none⟩=some (.bool x202001_1):=(zz BK201.out 1).trans rfl;have hfz9_0:=zA BK201.out 0;have hfz9_1:=zA BK201.out 1
    go_wp2
    repeat (go_quiet (fail);try go_wp2)
    go_ret2
    exact ⟨_,by first|rfl|(simp [yt,yu] <;> rfl)|(simp [*,yt,yu] <;> rfl),by (with_reducible repeat (first|apply zm|apply zn|apply zo));exact zM HO_5.out (fun _ hk => trivial),by repeat (with_reducible first|exact HB.out|apply za|apply zb|apply zc|refine zd ?_ GE200.out|refine zd ?_ GE201.out)⟩
   rw [if_neg c7] at H;have c7b0 : (x202000_1.toList == ([] : List UInt8))=false:=zY.mpr c7;have c7b1 : (x202000_1.toList != ([] : List UInt8))=true:=zZ.mpr c7
   by_cases c10 : x202001_1=true
   ·
    subst c10
    have H1 : (some (x5_1,!true))=some (r1,r2):=by rw [if_pos rfl] at H;exact H
    clear H;have H:=H1;clear H1;simp only [Option.some.injEq,Prod.mk.injEq] at H;obtain ⟨rfl,rfl⟩:=H;have hnb11:=NB201_200.out;have hnc11:=NB200_201.out;have hcz12_0 : wr.cell? ⟨gb201,0,none⟩=some (.string x202000_1):=(zz BK201.out 0).trans rfl;have hcz12_1 : wr.cell? ⟨gb201,1,none⟩=some (.bool true):=(zz BK201.out 1).trans rfl;have hfz12_0:=zA BK201.out 0;have hfz12_1:=zA BK201.out 1
    go_wp2
    repeat (go_quiet (fail);try go_wp2)
    go_ret2
    exact ⟨_,by first|rfl|(simp [yt,yu] <;> rfl)|(simp [*,yt,yu] <;> rfl),by (with_reducible repeat (first|apply zm|apply zn|apply zo));exact zM HO_5.out (fun _ hk => trivial),by repeat (with_reducible first|exact HB.out|apply za|apply zb|apply zc|refine zd ?_ GE200.out|refine zd ?_ GE201.out)⟩
   replace c10:=yb.mpr c10;subst c10;have H1 : ((impl_byteReader_value.f k1 x202000_1 false).bind fun bt205 => (if x5_1.length<4398046511104 then (impl_items.l0 k1 (x5_1 ++ [(⟨bt205.1,bt205.2.1,bt205.2.2.1⟩ : S26)]) bt205.2.2.2.1 bt205.2.2.2.2) else (none)))=some (r1,r2):=by rw [if_neg (show ¬ (false=true) by decide)] at H;exact H
   clear H;have H:=H1;clear H1;replace H:=zT.mp H;obtain ⟨⟨t205,t206,t207,t208,t209⟩,A130,H⟩:=H;replace H : (if x5_1.length<4398046511104 then (impl_items.l0 k1 (x5_1 ++ [(⟨t205,t206,t207⟩ : S26)]) t208 t209) else (none))=some (r1,r2):=H;have A13:=zh A130;clear A130
   by_cases c14 : x5_1.length<4398046511104
   ·
    rw [if_pos c14] at H
    have LMc14:=zh c14;clear c14;obtain ⟨y210,hy210⟩ : ∃ y_ : List (S26),y_=(x5_1 ++ [(⟨t205,t206,t207⟩ : S26)]):=⟨_,rfl⟩;replace H : (impl_items.l0 k1 y210 t208 t209)=some (r1,r2):=by first|(rw [hy210];with_reducible exact H)|(have H2_:=(Option.bind_some _ _).symm.trans H;rw [hy210];with_reducible exact H2_)|(have H2_:=(Option.bind_some _ _).symm.trans H;with_reducible exact H2_)|with_reducible exact H|(rw [hy210];exact H)|exact H
    have Ny210:=zh hy210;clear hy210;have H':=zh H;clear H;have hnb15:=NB201_200.out;have hnc15:=NB200_201.out;have hcz16_0 : wr.cell? ⟨gb201,0,none⟩=some (.string x202000_1):=(zz BK201.out 0).trans rfl;have hcz16_1 : wr.cell? ⟨gb201,1,none⟩=some (.bool false):=(zz BK201.out 1).trans rfl;have hfz16_0:=zA BK201.out 0;have hfz16_1:=zA BK201.out 1;have HI201:=zh (show IsS74 w wr gb201 x202000_1 false from ⟨BK201.out,GE201.out⟩)
    go_wp2_with (first|(go_at_call 56;(with_reducible refine (impl_byteReader_value.calls k1  gb201 x202000_1 false t205 t206 t207 t208 t209 w _ ?side1 ?side2 A13.out).mono ?_);(case side1 => repeat (with_reducible first|exact HI201.out|apply IsS74.alloc|apply IsS74.drewN|apply IsS74.drew|apply IsS74.set_0|apply IsS74.set_1|refine IsS74.far ?_ NB201_200.out _));(case side2 => repeat (with_reducible first|exact HB.out|apply za|apply zb|apply zc|refine zd ?_ (IsS74.ge HI201.out)|refine zd ?_ GE200.out));rintro e w17 ⟨rfl,hi,hb,hk⟩;replace HO_5:=zh (zM (Kd.R_keep (IsS74.apart (show IsS74 w _ gb201 x202000_1 false from by repeat (with_reducible first|exact HI201.out|apply IsS74.alloc|apply IsS74.drewN|apply IsS74.drew|apply IsS74.set_0|apply IsS74.set_1|refine IsS74.far ?_ NB201_200.out _)) (by (with_reducible repeat (first|apply zm|apply zn|apply zo));exact HO_5.out) (by decide)) hk (fun _ h => h.2)) (fun _ h => h.1));replace BK200:=zh (KeepBut.blk hk (g':=gb200) (o:=.cells #[.int .i64 a0_0,.int .i64 a0_1,.string a0_2] 26 (0,0)) (by (with_reducible repeat (first|refine ze ?_ _|refine zf ?_|refine zg ?_ _));exact BK200.out) NB200_201.out (by simp));replace HB:=zh (hb);replace BK201:=zh ((show _∧_ from hi).1);clear HI201;(try clear hb);(try clear hb2);(try clear hk);(try clear hi))|((with_reducible refine yB (b:=.append) (xs:=#[.tmp 23,.tmp 26]) rfl ?_);at_builtin;refine Kd.R_append k26 (w0:=w) w.heap.size rfl (.tmp 23) (.tmp 26) 41 26 (.agg #[(.int .i64 0),(.int .i64 0),(.string ⟨#[]⟩)]) 32 rfl Try.underlying41 info26 rfl (by decide) (by omega) u5 x5_1 (⟨t205,t206,t207⟩ : S26) [.int .i64 t205,.int .i64 t206,.string t207] (fun k_ => k_≠gb200) (fun _ => False) rfl rfl ?aP (fun _ hk => hk.elim) ?aF ?aO ?aB ?aS ?aL ?_;(case aP => exact k26_mkM _ _ _ (⟨t205,t206,t207⟩ : S26));(case aB => exact (by repeat (with_reducible first|exact HB.out|apply za|apply zb|apply zc|refine zd ?_ GE200.out|refine zd ?_ GE201.out)));(case aF => exact (fun k_ hk => Kd.freshB (g:=gb200) (o:=.cells #[.int .i64 a0_0,.int .i64 a0_1,.string a0_2] 26 (0,0)) (by (with_reducible repeat (first|refine ze ?_ _|refine zf ?_|refine zg ?_ _));exact BK200.out) k_ hk));(case aO => exact (by (with_reducible repeat (first|apply zm|apply zn|apply zo));exact HO_5.out));(case aS => exact (zB (by repeat (with_reducible first|exact HB.out|apply za|apply zb|apply zc|refine zd ?_ GE200.out|refine zd ?_ GE201.out))));(case aL => have:=LMc14.out;omega);intro v211 w18 ho hb hg hat;rw [← Ny210.out] at ho;replace BK200:=zh (yw (g:=gb200) (o:=.cells #[.int .i64 a0_0,.int .i64 a0_1,.string a0_2] 26 (0,0)) (by (with_reducible repeat (first|refine ze ?_ _|refine zf ?_|refine zg ?_ _));exact BK200.out) hg (yv HO_5.out (fun _ hk => hk)));replace BK201:=zh (yw (g:=gb201) (o:=.cells #[.string t208,.bool t209] 74 (0,0)) (by (with_reducible repeat (first|refine ze ?_ _|refine zf ?_|refine zg ?_ _));exact BK201.out) hg (Kd.R_ne HO_5.out BK201.out (by decide)));replace HB:=zh (hb);have HO212:=zh (ho);clear HO_5 ho hb hg hat))
    repeat (go_quiet (first|(go_at_call 56;(with_reducible refine (impl_byteReader_value.calls k1  gb201 x202000_1 false t205 t206 t207 t208 t209 w _ ?side1 ?side2 A13.out).mono ?_);(case side1 => repeat (with_reducible first|exact HI201.out|apply IsS74.alloc|apply IsS74.drewN|apply IsS74.drew|apply IsS74.set_0|apply IsS74.set_1|refine IsS74.far ?_ NB201_200.out _));(case side2 => repeat (with_reducible first|exact HB.out|apply za|apply zb|apply zc|refine zd ?_ (IsS74.ge HI201.out)|refine zd ?_ GE200.out));rintro e w17 ⟨rfl,hi,hb,hk⟩;replace HO_5:=zh (zM (Kd.R_keep (IsS74.apart (show IsS74 w _ gb201 x202000_1 false from by repeat (with_reducible first|exact HI201.out|apply IsS74.alloc|apply IsS74.drewN|apply IsS74.drew|apply IsS74.set_0|apply IsS74.set_1|refine IsS74.far ?_ NB201_200.out _)) (by (with_reducible repeat (first|apply zm|apply zn|apply zo));exact HO_5.out) (by decide)) hk (fun _ h => h.2)) (fun _ h => h.1));replace BK200:=zh (KeepBut.blk hk (g':=gb200) (o:=.cells #[.int .i64 a0_0,.int .i64 a0_1,.string a0_2] 26 (0,0)) (by (with_reducible repeat (first|refine ze ?_ _|refine zf ?_|refine zg ?_ _));exact BK200.out) NB200_201.out (by simp));replace HB:=zh (hb);replace BK201:=zh ((show _∧_ from hi).1);clear HI201;(try clear hb);(try clear hb2);(try clear hk);(try clear hi))|((with_reducible refine yB (b:=.append) (xs:=#[.tmp 23,.tmp 26]) rfl ?_);at_builtin;refine Kd.R_append k26 (w0:=w) w.heap.size rfl (.tmp 23) (.tmp 26) 41 26 (.agg #[(.int .i64 0),(.int .i64 0),(.string ⟨#[]⟩)]) 32 rfl Try.underlying41 info26 rfl (by decide) (by omega) u5 x5_1 (⟨t205,t206,t207⟩ : S26) [.int .i64 t205,.int .i64 t206,.string t207] (fun k_ => k_≠gb200) (fun _ => False) rfl rfl ?aP (fun _ hk => hk.elim) ?aF ?aO ?aB ?aS ?aL ?_;(case aP => exact k26_mkM _ _ _ (⟨t205,t206,t207⟩ : S26));(case aB => exact (by repeat (with_reducible first|exact HB.out|apply za|apply zb|apply zc|refine zd ?_ GE200.out|refine zd ?_ GE201.out)));(case aF => exact (fun k_ hk => Kd.freshB (g:=gb200) (o:=.cells #[.int .i64 a0_0,.int .i64 a0_1,.string a0_2] 26 (0,0)) (by (with_reducible repeat (first|refine ze ?_ _|refine zf ?_|refine zg ?_ _));exact BK200.out) k_ hk));(case aO => exact (by (with_reducible repeat (first|apply zm|apply zn|apply zo));exact HO_5.out));(case aS => exact (zB (by repeat (with_reducible first|exact HB.out|apply za|apply zb|apply zc|refine zd ?_ GE200.out|refine zd ?_ GE201.out))));(case aL => have:=LMc14.out;omega);intro v211 w18 ho hb hg hat;rw [← Ny210.out] at ho;replace BK200:=zh (yw (g:=gb200) (o:=.cells #[.int .i64 a0_0,.int .i64 a0_1,.string a0_2] 26 (0,0)) (by (with_reducible repeat (first|refine ze ?_ _|refine zf ?_|refine zg ?_ _));exact BK200.out) hg (yv HO_5.out (fun _ hk => hk)));replace BK201:=zh (yw (g:=gb201) (o:=.cells #[.string t208,.bool t209] 74 (0,0)) (by (with_reducible repeat (first|refine ze ?_ _|refine zf ?_|refine zg ?_ _));exact BK201.out) hg (Kd.R_ne HO_5.out BK201.out (by decide)));replace HB:=zh (hb);have HO212:=zh (ho);clear HO_5 ho hb hg hat));try go_wp2_with (first|(go_at_call 56;(with_reducible refine (impl_byteReader_value.calls k1  gb201 x202000_1 false t205 t206 t207 t208 t209 w _ ?side1 ?side2 A13.out).mono ?_);(case side1 => repeat (with_reducible first|exact HI201.out|apply IsS74.alloc|apply IsS74.drewN|apply IsS74.drew|apply IsS74.set_0|apply IsS74.set_1|refine IsS74.far ?_ NB201_200.out _));(case side2 => repeat (with_reducible first|exact HB.out|apply za|apply zb|apply zc|refine zd ?_ (IsS74.ge HI201.out)|refine zd ?_ GE200.out));rintro e w17 ⟨rfl,hi,hb,hk⟩;replace HO_5:=zh (zM (Kd.R_keep (IsS74.apart (show IsS74 w _ gb201 x202000_1 false from by repeat (with_reducible first|exact HI201.out|apply IsS74.alloc|apply IsS74.drewN|apply IsS74.drew|apply IsS74.set_0|apply IsS74.set_1|refine IsS74.far ?_ NB201_200.out _)) (by (with_reducible repeat (first|apply zm|apply zn|apply zo));exact HO_5.out) (by decide)) hk (fun _ h => h.2)) (fun _ h => h.1));replace BK200:=zh (KeepBut.blk hk (g':=gb200) (o:=.cells #[.int .i64 a0_0,.int .i64 a0_1,.string a0_2] 26 (0,0)) (by (with_reducible repeat (first|refine ze ?_ _|refine zf ?_|refine zg ?_ _));exact BK200.out) NB200_201.out (by simp));replace HB:=zh (hb);replace BK201:=zh ((show _∧_ from hi).1);clear HI201;(try clear hb);(try clear hb2);(try clear hk);(try clear hi))|((with_reducible refine yB (b:=.append) (xs:=#[.tmp 23,.tmp 26]) rfl ?_);at_builtin;refine Kd.R_append k26 (w0:=w) w.heap.size rfl (.tmp 23) (.tmp 26) 41 26 (.agg #[(.int .i64 0),(.int .i64 0),(.string ⟨#[]⟩)]) 32 rfl Try.underlying41 info26 rfl (by decide) (by omega) u5 x5_1 (⟨t205,t206,t207⟩ : S26) [.int .i64 t205,.int .i64 t206,.string t207] (fun k_ => k_≠gb200) (fun _ => False) rfl rfl ?aP (fun _ hk => hk.elim) ?aF ?aO ?aB ?aS ?aL ?_;(case aP => exact k26_mkM _ _ _ (⟨t205,t206,t207⟩ : S26));(case aB => exact (by repeat (with_reducible first|exact HB.out|apply za|apply zb|apply zc|refine zd ?_ GE200.out|refine zd ?_ GE201.out)));(case aF => exact (fun k_ hk => Kd.freshB (g:=gb200) (o:=.cells #[.int .i64 a0_0,.int .i64 a0_1,.string a0_2] 26 (0,0)) (by (with_reducible repeat (first|refine ze ?_ _|refine zf ?_|refine zg ?_ _));exact BK200.out) k_ hk));(case aO => exact (by (with_reducible repeat (first|apply zm|apply zn|apply zo));exact HO_5.out));(case aS => exact (zB (by repeat (with_reducible first|exact HB.out|apply za|apply zb|apply zc|refine zd ?_ GE200.out|refine zd ?_ GE201.out))));(case aL => have:=LMc14.out;omega);intro v211 w18 ho hb hg hat;rw [← Ny210.out] at ho;replace BK200:=zh (yw (g:=gb200) (o:=.cells #[.int .i64 a0_0,.int .i64 a0_1,.string a0_2] 26 (0,0)) (by (with_reducible repeat (first|refine ze ?_ _|refine zf ?_|refine zg ?_ _));exact BK200.out) hg (yv HO_5.out (fun _ hk => hk)));replace BK201:=zh (yw (g:=gb201) (o:=.cells #[.string t208,.bool t209] 74 (0,0)) (by (with_reducible repeat (first|refine ze ?_ _|refine zf ?_|refine zg ?_ _));exact BK201.out) hg (Kd.R_ne HO_5.out BK201.out (by decide)));replace HB:=zh (hb);have HO212:=zh (ho);clear HO_5 ho hb hg hat)))
    go_roundg k1
    case measure => have:=HK1.out;omega
    case rel => exact ⟨(y210),(t208),(t209),H',⟨by have:=HK1.out;omega⟩,⟨by (with_reducible repeat (first|apply zm|apply zn|apply zo));exact HO212.out⟩,⟨by (with_reducible repeat (first|refine ze ?_ _|refine zf ?_|refine zg ?_ _));exact BK200.out⟩,⟨by (with_reducible repeat (first|refine ze ?_ _|refine zf ?_|refine zg ?_ _));exact BK201.out⟩,⟨by repeat (with_reducible first|exact HB.out|apply za|apply zb|apply zc|refine zd ?_ GE200.out|refine zd ?_ GE201.out)⟩⟩
   rw [if_neg c14] at H;exact absurd H (by simp)

end Go.Proofs.Ytpmeglcmhiihoaa.Q
end

/- FnExactOrderValues: for all arguments the law answers true, and they read behind the call as they read before. No condition. -/
import Derived.Test.YtpmeglcmhiihoaaKLawFnExactOrderValuesp22
import Derived.Test.YtpmeglcmhiihoaaKLawFnExactOrderValuesp24
import Derived.Test.YtpmeglcmhiihoaaKLawFnExactOrderValuesp26
import Derived.Test.YtpmeglcmhiihoaaKLawFnExactOrderValuesp0
import Derived.WalkKit
import Derived.ProofKit
import Derived.OpenShut
import Derived.ShutString
import Derived.ChangeOld
import Derived.Below
import Derived.SizedLaws
import Derived.Deep.Slices
import Derived.Lib.SmallJoins
import Derived.Test.YtpmeglcmhiihoaaKLawFnExactOrderValuesp11
import Derived.Test.YtpmeglcmhiihoaaKLawFnExactOrderValuesp12
import Derived.Laws.Entries
import Derived.Test.YtpmeglcmhiihoaaKLawFnExactOrderValuesp25
import Derived.Test.YtpmeglcmhiihoaaKLawFnExactOrderValuesp23
import Derived.Test.YtpmeglcmhiihoaaRows
import Derived.Carry
section
namespace Go.Proofs.Ytpmeglcmhiihoaa.Q
open Go.RowKit Go.Proofs.YtpmeglcmhiihoaaW.PrintWords Go.Proofs.YtpmeglcmhiihoaaW.PrintLast Go.Proofs.YtpmeglcmhiihoaaW.PrintMore
attribute [local go_sem] max2_int min2_int max_two min_two max_three min_three max_four min_four max2_str min2_str str_geq str_gtr str_leq   -- for this text's walks alone
set_option linter.unusedVariables false
set_option linter.unusedSimpArgs false

def laws_FnExactOrderValues.f (k : Nat) (a0_0 : Int) (a0_1 : Int) (a0_2 : ByteArray) (a1_0 : Int) (a1_1 : Int) (a1_2 : ByteArray) : Option (Bool):=(laws_szValue.f a0_0 a0_1 a0_2 1048576).bind fun t702 => (if t702<0 then (some true) else ((laws_szValue.f a1_0 a1_1 a1_2 t702).bind fun t703 => (if t703<0 then (some true) else ((laws_toValue.f a0_0 a0_1 a0_2).bind fun bt704 => ((laws_toValue.f a1_0 a1_1 a1_2).bind fun bt707 => ((spec_OrderValues.f k bt704.1 bt704.2.1 bt704.2.2 bt707.1 bt707.2.1 bt707.2.2).bind fun bt710 => ((laws_toValue.f a0_0 a0_1 a0_2).bind fun bt712 => ((laws_toValue.f a1_0 a1_1 a1_2).bind fun bt715 => ((impl_OrderValues.f k bt712.1 bt712.2.1 bt712.2.2 bt715.1 bt715.2.1 bt715.2.2).bind fun bt718 => (if bt718.1=bt710.1 then (if bt718.2=bt710.2 then (some true) else (some false)) else (some false)))))))))))
theorem laws_FnExactOrderValues.mono : ∀ a0 a1 a2 a3 a4 a5 k,LeO (laws_FnExactOrderValues.f k a0 a1 a2 a3 a4 a5) (laws_FnExactOrderValues.f (k + 1) a0 a1 a2 a3 a4 a5):=by
 intro a0 a1 a2 a3 a4 a5 k;unfold laws_FnExactOrderValues.f
 repeat' first|(with_reducible exact spec_OrderValues.mono _ _ _ _ _ _ _)|(with_reducible exact impl_OrderValues.mono _ _ _ _ _ _ _)|(with_reducible exact zQ _)|(with_reducible exact zN _)|(with_reducible refine zP ?_ ?_)|(with_reducible refine zO ?_ (fun _ => ?_))|refine zP ?_ ?_|refine zO ?_ (fun _ => ?_)
def laws_FnExactOrderValues.T8 : Bool×List (List Nat×List Nat):=(true,[([],[]),([0],[0]),([],[]),([2,1],[2]),([1,3,3],[1,3]),([4],[4]),([5],[5]),([5],[5]),([6,4,0,1,2,3,4,5,6],[6]),([7,8,0,1,2,3,4,5,6,7,8],[7])])
def laws_FnExactOrderValues.B8 : List Nat:=[0,1,0,7,15,31,63,63,127,511]
theorem laws_FnExactOrderValues.tab8 : rtab .any (opsOf Try.f9 8)=laws_FnExactOrderValues.T8:=by kernel_rfl
theorem laws_FnExactOrderValues.bits8 : waitsOk laws_FnExactOrderValues.T8.2 laws_FnExactOrderValues.B8=true:=by kernel_rfl
def laws_FnExactOrderValues.T9 : Bool×List (List Nat×List Nat):=(true,[([],[]),([0],[0]),([],[]),([2,1],[2]),([1,3,3],[1,3]),([4],[4]),([5],[5]),([5],[5]),([6,4,0,1,2,3,4,5,6],[6]),([7,8,0,1,2,3,4,5,6,7,8],[7])])
def laws_FnExactOrderValues.B9 : List Nat:=[0,1,0,7,15,31,63,63,127,511]
theorem laws_FnExactOrderValues.tab9 : rtab .any (opsOf Try.f9 9)=laws_FnExactOrderValues.T9:=by kernel_rfl
theorem laws_FnExactOrderValues.bits9 : waitsOk laws_FnExactOrderValues.T9.2 laws_FnExactOrderValues.B9=true:=by kernel_rfl
set_option maxHeartbeats 8000000 in
set_option maxRecDepth 100000 in
theorem laws_FnExactOrderValues.calls (k : Nat) (a0_0 : Int) (a0_1 : Int) (a0_2 : ByteArray) (a1_0 : Int) (a1_1 : Int) (a1_2 : ByteArray) (r : Bool) (w : World) (h : laws_FnExactOrderValues.f k a0_0 a0_1 a0_2 a1_0 a1_1 a1_2=some r) :
  Calls Try.prog 9 #[.agg #[.int .i64 a0_0,.int .i64 a0_1,.string a0_2],.agg #[.int .i64 a1_0,.int .i64 a1_1,.string a1_2]] w fun e w' => e = .returned (.bool r)∧Below w.heap.size w w':=by
 have hu23:=Try.underlying23;have HB:=zh (Below.refl w.heap.size w);have H : ((laws_szValue.f a0_0 a0_1 a0_2 1048576).bind fun t702 => (if t702<0 then (some true) else ((laws_szValue.f a1_0 a1_1 a1_2 t702).bind fun t703 => (if t703<0 then (some true) else ((laws_toValue.f a0_0 a0_1 a0_2).bind fun bt704 => ((laws_toValue.f a1_0 a1_1 a1_2).bind fun bt707 => ((spec_OrderValues.f k bt704.1 bt704.2.1 bt704.2.2 bt707.1 bt707.2.1 bt707.2.2).bind fun bt710 => ((laws_toValue.f a0_0 a0_1 a0_2).bind fun bt712 => ((laws_toValue.f a1_0 a1_1 a1_2).bind fun bt715 => ((impl_OrderValues.f k bt712.1 bt712.2.1 bt712.2.2 bt715.1 bt715.2.1 bt715.2.2).bind fun bt718 => (if bt718.1=bt710.1 then (if bt718.2=bt710.2 then (some true) else (some false)) else (some false))))))))))))=some r:=h;clear h;replace H:=zT.mp H;obtain ⟨t702,A30,H⟩:=H;replace H : (if t702<0 then (some true) else ((laws_szValue.f a1_0 a1_1 a1_2 t702).bind fun t703 => (if t703<0 then (some true) else ((laws_toValue.f a0_0 a0_1 a0_2).bind fun bt704 => ((laws_toValue.f a1_0 a1_1 a1_2).bind fun bt707 => ((spec_OrderValues.f k bt704.1 bt704.2.1 bt704.2.2 bt707.1 bt707.2.1 bt707.2.2).bind fun bt710 => ((laws_toValue.f a0_0 a0_1 a0_2).bind fun bt712 => ((laws_toValue.f a1_0 a1_1 a1_2).bind fun bt715 => ((impl_OrderValues.f k bt712.1 bt712.2.1 bt712.2.2 bt715.1 bt715.2.1 bt715.2.2).bind fun bt718 => (if bt718.1=bt710.1 then (if bt718.2=bt710.2 then (some true) else (some false)) else (some false)))))))))))=some r:=H;have A3:=zh A30;clear A30
 by_cases c4 : t702<0
 ·
  rw [if_pos c4] at H
  have c4b0 : decide (t702<0)=true:=decide_eq_true c4;clear c4;obtain rfl:=zU H
  go_enter Try.func9,Try.ntmps9
  go_wp2_with (first|((with_reducible refine zK (N:=2) rfl ?_);refine zI ?hg (N:=2) ?hd (cs:=#[.int .i64 a0_0,.int .i64 a0_1,.string a0_2]) (t:=23) ?hr ?_;(case hd => rfl);(case hg => rfl);(case hr => first|(go_simp;done)|(go_simp;rfl));intro gb700 hg w5 hbox hb;have BK700:=zh (hbox);have GW700:=zh ((by rw [hg];exact (zB (by repeat (with_reducible first|exact HB.out|apply za|apply zb|apply zc))) : w.heap.size≤gb700));have GE700:=zh ((by rw [hg];exact (zB (by repeat (with_reducible first|exact HB.out|apply za|apply zb|apply zc))) : w.heap.size≤gb700));replace HB:=zh (zC (by repeat (with_reducible first|exact HB.out|apply za|apply zb|apply zc)) hb);clear hb hbox hg)|((with_reducible refine zK (N:=3) rfl ?_);refine zI ?hg (N:=3) ?hd (cs:=#[.int .i64 a1_0,.int .i64 a1_1,.string a1_2]) (t:=23) ?hr ?_;(case hd => rfl);(case hg => rfl);(case hr => first|(go_simp;done)|(go_simp;rfl));intro gb701 hg w6 hbox hb;have BK701:=zh (hbox);have GW701:=zh ((by rw [hg];exact (zB (by repeat (with_reducible first|exact HB.out|apply za|apply zb|apply zc|refine zd ?_ GE700.out))) : w.heap.size≤gb701));have GE701:=zh ((by rw [hg];exact (zB (by repeat (with_reducible first|exact HB.out|apply za|apply zb|apply zc|refine zd ?_ GE700.out))) : w.heap.size≤gb701));replace HB:=zh (zC (by repeat (with_reducible first|exact HB.out|apply za|apply zb|apply zc|refine zd ?_ GE700.out)) hb);have NB700_701:=zh ((by rw [hg];exact yc (yi (g:=gb700) (o:=.cells #[.int .i64 a0_0,.int .i64 a0_1,.string a0_2] 23 (0,0)) (by (with_reducible repeat (first|refine ze ?_ _|refine zf ?_|refine zg ?_ _));exact BK700.out)) : gb700≠gb701));have NB701_700:=zh ((by rw [hg];exact yd (yi (g:=gb700) (o:=.cells #[.int .i64 a0_0,.int .i64 a0_1,.string a0_2] 23 (0,0)) (by (with_reducible repeat (first|refine ze ?_ _|refine zf ?_|refine zg ?_ _));exact BK700.out)) : gb701≠gb700));replace BK700:=zh (zD (g:=gb700) (o:=.cells #[.int .i64 a0_0,.int .i64 a0_1,.string a0_2] 23 (0,0)) (by (with_reducible repeat (first|refine ze ?_ _|refine zf ?_|refine zg ?_ _));exact BK700.out) hb);clear hb hbox hg;have hnb7:=NB700_701.out;have hnc7:=NB701_700.out;have hcz8_0 : w6.cell? ⟨gb700,0,none⟩=some (.int .i64 a0_0):=(zz BK700.out 0).trans rfl;have hcz8_1 : w6.cell? ⟨gb700,1,none⟩=some (.int .i64 a0_1):=(zz BK700.out 1).trans rfl;have hcz8_2 : w6.cell? ⟨gb700,2,none⟩=some (.string a0_2):=(zz BK700.out 2).trans rfl;have hfz8_0:=zA BK700.out 0;have hfz8_1:=zA BK700.out 1;have hfz8_2:=zA BK700.out 2)|((with_reducible refine zJ (f:=14) rfl ?_);refine yj (some 12) rfl rfl Try.func14 (by kernel_rfl) rfl #[.agg #[.int .i64 a0_0,.int .i64 a0_1,.string a0_2],.int .i64 1048576] rfl (by (try simp only [zt,zu,zv]);first|done|rfl|(simp only [zw,zx];rfl)|(simp only [yr,ys,zV,zW];rfl)) ?_;(with_reducible refine (laws_szValue.calls  a0_0 a0_1 a0_2 1048576 t702 _ A3.out).mono ?_);rintro e w9 ⟨rfl,hb⟩;refine ⟨_,rfl,?_⟩;replace BK700:=zh (zD (g:=gb700) (o:=.cells #[.int .i64 a0_0,.int .i64 a0_1,.string a0_2] 23 (0,0)) (by (with_reducible repeat (first|refine ze ?_ _|refine zf ?_|refine zg ?_ _));exact BK700.out) hb);replace BK701:=zh (zD (g:=gb701) (o:=.cells #[.int .i64 a1_0,.int .i64 a1_1,.string a1_2] 23 (0,0)) (by (with_reducible repeat (first|refine ze ?_ _|refine zf ?_|refine zg ?_ _));exact BK701.out) hb);replace HB:=zh (zC (by repeat (with_reducible first|exact HB.out|apply za|apply zb|apply zc|refine zd ?_ GE700.out|refine zd ?_ GE701.out)) hb);(try clear hb);(try clear hb2);(try clear hk);(try clear hi)))
  go_ret
  exact ⟨by first|rfl|(simp [yt,yu] <;> rfl)|(simp [*,yt,yu] <;> rfl),by repeat (with_reducible first|exact HB.out|apply za|apply zb|apply zc|refine zd ?_ GE700.out|refine zd ?_ GE701.out)⟩
 rw [if_neg c4] at H;have c4b0 : decide (t702<0)=false:=decide_eq_false c4;clear c4;replace H:=zT.mp H;obtain ⟨t703,A100,H⟩:=H;replace H : (if t703<0 then (some true) else ((laws_toValue.f a0_0 a0_1 a0_2).bind fun bt704 => ((laws_toValue.f a1_0 a1_1 a1_2).bind fun bt707 => ((spec_OrderValues.f k bt704.1 bt704.2.1 bt704.2.2 bt707.1 bt707.2.1 bt707.2.2).bind fun bt710 => ((laws_toValue.f a0_0 a0_1 a0_2).bind fun bt712 => ((laws_toValue.f a1_0 a1_1 a1_2).bind fun bt715 => ((impl_OrderValues.f k bt712.1 bt712.2.1 bt712.2.2 bt715.1 bt715.2.1 bt715.2.2).bind fun bt718 => (if bt718.1=bt710.1 then (if bt718.2=bt710.2 then (some true) else (some false)) else (some false)))))))))=some r:=H;have A10:=zh A100;clear A100
 by_cases c11 : t703<0
 ·
  rw [if_pos c11] at H
  have c11b0 : decide (t703<0)=true:=decide_eq_true c11;clear c11;obtain rfl:=zU H
  go_enter Try.func9,Try.ntmps9
  go_wp2_with (first|((with_reducible refine zK (N:=2) rfl ?_);refine zI ?hg (N:=2) ?hd (cs:=#[.int .i64 a0_0,.int .i64 a0_1,.string a0_2]) (t:=23) ?hr ?_;(case hd => rfl);(case hg => rfl);(case hr => first|(go_simp;done)|(go_simp;rfl));intro gb700 hg w12 hbox hb;have BK700:=zh (hbox);have GW700:=zh ((by rw [hg];exact (zB (by repeat (with_reducible first|exact HB.out|apply za|apply zb|apply zc))) : w.heap.size≤gb700));have GE700:=zh ((by rw [hg];exact (zB (by repeat (with_reducible first|exact HB.out|apply za|apply zb|apply zc))) : w.heap.size≤gb700));replace HB:=zh (zC (by repeat (with_reducible first|exact HB.out|apply za|apply zb|apply zc)) hb);clear hb hbox hg)|((with_reducible refine zK (N:=3) rfl ?_);refine zI ?hg (N:=3) ?hd (cs:=#[.int .i64 a1_0,.int .i64 a1_1,.string a1_2]) (t:=23) ?hr ?_;(case hd => rfl);(case hg => rfl);(case hr => first|(go_simp;done)|(go_simp;rfl));intro gb701 hg w13 hbox hb;have BK701:=zh (hbox);have GW701:=zh ((by rw [hg];exact (zB (by repeat (with_reducible first|exact HB.out|apply za|apply zb|apply zc|refine zd ?_ GE700.out))) : w.heap.size≤gb701));have GE701:=zh ((by rw [hg];exact (zB (by repeat (with_reducible first|exact HB.out|apply za|apply zb|apply zc|refine zd ?_ GE700.out))) : w.heap.size≤gb701));replace HB:=zh (zC (by repeat (with_reducible first|exact HB.out|apply za|apply zb|apply zc|refine zd ?_ GE700.out)) hb);have NB700_701:=zh ((by rw [hg];exact yc (yi (g:=gb700) (o:=.cells #[.int .i64 a0_0,.int .i64 a0_1,.string a0_2] 23 (0,0)) (by (with_reducible repeat (first|refine ze ?_ _|refine zf ?_|refine zg ?_ _));exact BK700.out)) : gb700≠gb701));have NB701_700:=zh ((by rw [hg];exact yd (yi (g:=gb700) (o:=.cells #[.int .i64 a0_0,.int .i64 a0_1,.string a0_2] 23 (0,0)) (by (with_reducible repeat (first|refine ze ?_ _|refine zf ?_|refine zg ?_ _));exact BK700.out)) : gb701≠gb700));replace BK700:=zh (zD (g:=gb700) (o:=.cells #[.int .i64 a0_0,.int .i64 a0_1,.string a0_2] 23 (0,0)) (by (with_reducible repeat (first|refine ze ?_ _|refine zf ?_|refine zg ?_ _));exact BK700.out) hb);clear hb hbox hg;have hnb14:=NB700_701.out;have hnc14:=NB701_700.out;have hcz15_0 : w13.cell? ⟨gb700,0,none⟩=some (.int .i64 a0_0):=(zz BK700.out 0).trans rfl;have hcz15_1 : w13.cell? ⟨gb700,1,none⟩=some (.int .i64 a0_1):=(zz BK700.out 1).trans rfl;have hcz15_2 : w13.cell? ⟨gb700,2,none⟩=some (.string a0_2):=(zz BK700.out 2).trans rfl;have hfz15_0:=zA BK700.out 0;have hfz15_1:=zA BK700.out 1;have hfz15_2:=zA BK700.out 2)|((with_reducible refine zJ (f:=14) rfl ?_);refine yj (some 12) rfl rfl Try.func14 (by kernel_rfl) rfl #[.agg #[.int .i64 a0_0,.int .i64 a0_1,.string a0_2],.int .i64 1048576] rfl (by (try simp only [zt,zu,zv]);first|done|rfl|(simp only [zw,zx];rfl)|(simp only [yr,ys,zV,zW];rfl)) ?_;(with_reducible refine (laws_szValue.calls  a0_0 a0_1 a0_2 1048576 t702 _ A3.out).mono ?_);rintro e w16 ⟨rfl,hb⟩;refine ⟨_,rfl,?_⟩;replace BK700:=zh (zD (g:=gb700) (o:=.cells #[.int .i64 a0_0,.int .i64 a0_1,.string a0_2] 23 (0,0)) (by (with_reducible repeat (first|refine ze ?_ _|refine zf ?_|refine zg ?_ _));exact BK700.out) hb);replace BK701:=zh (zD (g:=gb701) (o:=.cells #[.int .i64 a1_0,.int .i64 a1_1,.string a1_2] 23 (0,0)) (by (with_reducible repeat (first|refine ze ?_ _|refine zf ?_|refine zg ?_ _));exact BK701.out) hb);replace HB:=zh (zC (by repeat (with_reducible first|exact HB.out|apply za|apply zb|apply zc|refine zd ?_ GE700.out|refine zd ?_ GE701.out)) hb);(try clear hb);(try clear hb2);(try clear hk);(try clear hi);have hcz17_0 : w16.cell? ⟨gb701,0,none⟩=some (.int .i64 a1_0):=(zz BK701.out 0).trans rfl;have hcz17_1 : w16.cell? ⟨gb701,1,none⟩=some (.int .i64 a1_1):=(zz BK701.out 1).trans rfl;have hcz17_2 : w16.cell? ⟨gb701,2,none⟩=some (.string a1_2):=(zz BK701.out 2).trans rfl;have hfz17_0:=zA BK701.out 0;have hfz17_1:=zA BK701.out 1;have hfz17_2:=zA BK701.out 2)|((with_reducible refine zJ (f:=14) rfl ?_);refine yj (some 17) rfl rfl Try.func14 (by kernel_rfl) rfl #[.agg #[.int .i64 a1_0,.int .i64 a1_1,.string a1_2],.int .i64 t702] rfl (by (try simp only [zt,zu,zv]);first|done|rfl|(simp only [zw,zx];rfl)|(simp only [yr,ys,zV,zW];rfl)) ?_;(with_reducible refine (laws_szValue.calls  a1_0 a1_1 a1_2 t702 t703 _ A10.out).mono ?_);rintro e w18 ⟨rfl,hb⟩;refine ⟨_,rfl,?_⟩;replace BK700:=zh (zD (g:=gb700) (o:=.cells #[.int .i64 a0_0,.int .i64 a0_1,.string a0_2] 23 (0,0)) (by (with_reducible repeat (first|refine ze ?_ _|refine zf ?_|refine zg ?_ _));exact BK700.out) hb);replace BK701:=zh (zD (g:=gb701) (o:=.cells #[.int .i64 a1_0,.int .i64 a1_1,.string a1_2] 23 (0,0)) (by (with_reducible repeat (first|refine ze ?_ _|refine zf ?_|refine zg ?_ _));exact BK701.out) hb);replace HB:=zh (zC (by repeat (with_reducible first|exact HB.out|apply za|apply zb|apply zc|refine zd ?_ GE700.out|refine zd ?_ GE701.out)) hb);(try clear hb);(try clear hb2);(try clear hk);(try clear hi)))
  go_ret
  exact ⟨by first|rfl|(simp [yt,yu] <;> rfl)|(simp [*,yt,yu] <;> rfl),by repeat (with_reducible first|exact HB.out|apply za|apply zb|apply zc|refine zd ?_ GE700.out|refine zd ?_ GE701.out)⟩
 rw [if_neg c11] at H;have c11b0 : decide (t703<0)=false:=decide_eq_false c11;clear c11;replace H:=zT.mp H;obtain ⟨⟨t704,t705,t706⟩,A190,H⟩:=H;replace H : ((laws_toValue.f a1_0 a1_1 a1_2).bind fun bt707 => ((spec_OrderValues.f k t704 t705 t706 bt707.1 bt707.2.1 bt707.2.2).bind fun bt710 => ((laws_toValue.f a0_0 a0_1 a0_2).bind fun bt712 => ((laws_toValue.f a1_0 a1_1 a1_2).bind fun bt715 => ((impl_OrderValues.f k bt712.1 bt712.2.1 bt712.2.2 bt715.1 bt715.2.1 bt715.2.2).bind fun bt718 => (if bt718.1=bt710.1 then (if bt718.2=bt710.2 then (some true) else (some false)) else (some false)))))))=some r:=H;have A19:=zh A190;clear A190;replace H:=zT.mp H;obtain ⟨⟨t707,t708,t709⟩,A200,H⟩:=H;replace H : ((spec_OrderValues.f k t704 t705 t706 t707 t708 t709).bind fun bt710 => ((laws_toValue.f a0_0 a0_1 a0_2).bind fun bt712 => ((laws_toValue.f a1_0 a1_1 a1_2).bind fun bt715 => ((impl_OrderValues.f k bt712.1 bt712.2.1 bt712.2.2 bt715.1 bt715.2.1 bt715.2.2).bind fun bt718 => (if bt718.1=bt710.1 then (if bt718.2=bt710.2 then (some true) else (some false)) else (some false))))))=some r:=H;have A20:=zh A200;clear A200;replace H:=zT.mp H;obtain ⟨⟨t710,t711⟩,A210,H⟩:=H;replace H : ((laws_toValue.f a0_0 a0_1 a0_2).bind fun bt712 => ((laws_toValue.f a1_0 a1_1 a1_2).bind fun bt715 => ((impl_OrderValues.f k bt712.1 bt712.2.1 bt712.2.2 bt715.1 bt715.2.1 bt715.2.2).bind fun bt718 => (if bt718.1=t710 then (if bt718.2=t711 then (some true) else (some false)) else (some false)))))=some r:=H;have A21:=zh A210;clear A210;replace H:=zT.mp H;obtain ⟨⟨t712,t713,t714⟩,A220,H⟩:=H;replace H : ((laws_toValue.f a1_0 a1_1 a1_2).bind fun bt715 => ((impl_OrderValues.f k t712 t713 t714 bt715.1 bt715.2.1 bt715.2.2).bind fun bt718 => (if bt718.1=t710 then (if bt718.2=t711 then (some true) else (some false)) else (some false))))=some r:=H;have A22:=zh A220;clear A220;replace H:=zT.mp H;obtain ⟨⟨t715,t716,t717⟩,A230,H⟩:=H;replace H : ((impl_OrderValues.f k t712 t713 t714 t715 t716 t717).bind fun bt718 => (if bt718.1=t710 then (if bt718.2=t711 then (some true) else (some false)) else (some false)))=some r:=H;have A23:=zh A230;clear A230;replace H:=zT.mp H;obtain ⟨⟨t718,t719⟩,A240,H⟩:=H;replace H : (if t718=t710 then (if t719=t711 then (some true) else (some false)) else (some false))=some r:=H;have A24:=zh A240;clear A240
 by_cases c25 : t718=t710
 ·
  rw [if_pos c25] at H
  have c25b0 : (t718 == t710)=true:=ya.mpr c25;have c25b1 : (t718 != t710)=false:=zX.mpr c25;clear c25
  by_cases c26 : t719=t711
  ·
   rw [if_pos c26] at H
   have c26b0 : (t719 == t711)=true:=ya.mpr c26;have c26b1 : (t719 != t711)=false:=zX.mpr c26;clear c26;obtain rfl:=zU H
   go_enter Try.func9,Try.ntmps9
   try go_wp2_with (first|((with_reducible refine zK (N:=2) rfl ?_);refine zI ?hg (N:=2) ?hd (cs:=#[.int .i64 a0_0,.int .i64 a0_1,.string a0_2]) (t:=23) ?hr ?_;(case hd => rfl);(case hg => rfl);(case hr => first|(go_simp;done)|(go_simp;rfl));intro gb700 hg w27 hbox hb;have BK700:=zh (hbox);have GW700:=zh ((by rw [hg];exact (zB (by repeat (with_reducible first|exact HB.out|apply za|apply zb|apply zc))) : w.heap.size≤gb700));have GE700:=zh ((by rw [hg];exact (zB (by repeat (with_reducible first|exact HB.out|apply za|apply zb|apply zc))) : w.heap.size≤gb700));replace HB:=zh (zC (by repeat (with_reducible first|exact HB.out|apply za|apply zb|apply zc)) hb);clear hb hbox hg)|((with_reducible refine zK (N:=3) rfl ?_);refine zI ?hg (N:=3) ?hd (cs:=#[.int .i64 a1_0,.int .i64 a1_1,.string a1_2]) (t:=23) ?hr ?_;(case hd => rfl);(case hg => rfl);(case hr => first|(go_simp;done)|(go_simp;rfl));intro gb701 hg w28 hbox hb;have BK701:=zh (hbox);have GW701:=zh ((by rw [hg];exact (zB (by repeat (with_reducible first|exact HB.out|apply za|apply zb|apply zc|refine zd ?_ GE700.out))) : w.heap.size≤gb701));have GE701:=zh ((by rw [hg];exact (zB (by repeat (with_reducible first|exact HB.out|apply za|apply zb|apply zc|refine zd ?_ GE700.out))) : w.heap.size≤gb701));replace HB:=zh (zC (by repeat (with_reducible first|exact HB.out|apply za|apply zb|apply zc|refine zd ?_ GE700.out)) hb);have NB700_701:=zh ((by rw [hg];exact yc (yi (g:=gb700) (o:=.cells #[.int .i64 a0_0,.int .i64 a0_1,.string a0_2] 23 (0,0)) (by (with_reducible repeat (first|refine ze ?_ _|refine zf ?_|refine zg ?_ _));exact BK700.out)) : gb700≠gb701));have NB701_700:=zh ((by rw [hg];exact yd (yi (g:=gb700) (o:=.cells #[.int .i64 a0_0,.int .i64 a0_1,.string a0_2] 23 (0,0)) (by (with_reducible repeat (first|refine ze ?_ _|refine zf ?_|refine zg ?_ _));exact BK700.out)) : gb701≠gb700));replace BK700:=zh (zD (g:=gb700) (o:=.cells #[.int .i64 a0_0,.int .i64 a0_1,.string a0_2] 23 (0,0)) (by (with_reducible repeat (first|refine ze ?_ _|refine zf ?_|refine zg ?_ _));exact BK700.out) hb);clear hb hbox hg;have hnb29:=NB700_701.out;have hnc29:=NB701_700.out;have hcz30_0 : w28.cell? ⟨gb700,0,none⟩=some (.int .i64 a0_0):=(zz BK700.out 0).trans rfl;have hcz30_1 : w28.cell? ⟨gb700,1,none⟩=some (.int .i64 a0_1):=(zz BK700.out 1).trans rfl;have hcz30_2 : w28.cell? ⟨gb700,2,none⟩=some (.string a0_2):=(zz BK700.out 2).trans rfl;have hfz30_0:=zA BK700.out 0;have hfz30_1:=zA BK700.out 1;have hfz30_2:=zA BK700.out 2)|((with_reducible refine zJ (f:=14) rfl ?_);refine yj (some 12) rfl rfl Try.func14 (by kernel_rfl) rfl #[.agg #[.int .i64 a0_0,.int .i64 a0_1,.string a0_2],.int .i64 1048576] rfl (by (try simp only [zt,zu,zv]);first|done|rfl|(simp only [zw,zx];rfl)|(simp only [yr,ys,zV,zW];rfl)) ?_;(with_reducible refine (laws_szValue.calls  a0_0 a0_1 a0_2 1048576 t702 _ A3.out).mono ?_);rintro e w31 ⟨rfl,hb⟩;refine ⟨_,rfl,?_⟩;replace BK700:=zh (zD (g:=gb700) (o:=.cells #[.int .i64 a0_0,.int .i64 a0_1,.string a0_2] 23 (0,0)) (by (with_reducible repeat (first|refine ze ?_ _|refine zf ?_|refine zg ?_ _));exact BK700.out) hb);replace BK701:=zh (zD (g:=gb701) (o:=.cells #[.int .i64 a1_0,.int .i64 a1_1,.string a1_2] 23 (0,0)) (by (with_reducible repeat (first|refine ze ?_ _|refine zf ?_|refine zg ?_ _));exact BK701.out) hb);replace HB:=zh (zC (by repeat (with_reducible first|exact HB.out|apply za|apply zb|apply zc|refine zd ?_ GE700.out|refine zd ?_ GE701.out)) hb);(try clear hb);(try clear hb2);(try clear hk);(try clear hi);have hcz32_0 : w31.cell? ⟨gb701,0,none⟩=some (.int .i64 a1_0):=(zz BK701.out 0).trans rfl;have hcz32_1 : w31.cell? ⟨gb701,1,none⟩=some (.int .i64 a1_1):=(zz BK701.out 1).trans rfl;have hcz32_2 : w31.cell? ⟨gb701,2,none⟩=some (.string a1_2):=(zz BK701.out 2).trans rfl;have hfz32_0:=zA BK701.out 0;have hfz32_1:=zA BK701.out 1;have hfz32_2:=zA BK701.out 2)|((with_reducible refine zJ (f:=14) rfl ?_);refine yj (some 17) rfl rfl Try.func14 (by kernel_rfl) rfl #[.agg #[.int .i64 a1_0,.int .i64 a1_1,.string a1_2],.int .i64 t702] rfl (by (try simp only [zt,zu,zv]);first|done|rfl|(simp only [zw,zx];rfl)|(simp only [yr,ys,zV,zW];rfl)) ?_;(with_reducible refine (laws_szValue.calls  a1_0 a1_1 a1_2 t702 t703 _ A10.out).mono ?_);rintro e w33 ⟨rfl,hb⟩;refine ⟨_,rfl,?_⟩;replace BK700:=zh (zD (g:=gb700) (o:=.cells #[.int .i64 a0_0,.int .i64 a0_1,.string a0_2] 23 (0,0)) (by (with_reducible repeat (first|refine ze ?_ _|refine zf ?_|refine zg ?_ _));exact BK700.out) hb);replace BK701:=zh (zD (g:=gb701) (o:=.cells #[.int .i64 a1_0,.int .i64 a1_1,.string a1_2] 23 (0,0)) (by (with_reducible repeat (first|refine ze ?_ _|refine zf ?_|refine zg ?_ _));exact BK701.out) hb);replace HB:=zh (zC (by repeat (with_reducible first|exact HB.out|apply za|apply zb|apply zc|refine zd ?_ GE700.out|refine zd ?_ GE701.out)) hb);(try clear hb);(try clear hb2);(try clear hk);(try clear hi)))
   replace BK700:=zh (zf BK700.out);replace BK701:=zh (zf BK701.out);replace HB:=zh (zc HB.out);refine start_ (n:=10) (S:=fun w' => w'.cell? ⟨gb700,0,none⟩=some (.int .i64 a0_0)∧w'.cell? ⟨gb700,1,none⟩=some (.int .i64 a0_1)∧w'.cell? ⟨gb700,2,none⟩=some (.string a0_2)∧w'.cell? ⟨gb701,0,none⟩=some (.int .i64 a1_0)∧w'.cell? ⟨gb701,1,none⟩=some (.int .i64 a1_1)∧w'.cell? ⟨gb701,2,none⟩=some (.string a1_2)) (ds:=[]) (bm_ 0 10) (by kernel_rfl) rfl rfl ⟨(zz BK700.out 0).trans rfl,(zz BK700.out 1).trans rfl,(zz BK700.out 2).trans rfl,(zz BK701.out 0).trans rfl,(zz BK701.out 1).trans rfl,(zz BK701.out 2).trans rfl⟩ (fun hHeld => ?_);refine with_tabW laws_FnExactOrderValues.tab8 laws_FnExactOrderValues.bits8 (fun HT_ HW_ => ?_);generalize w33.drew=w34 at BK700 BK701 HB hHeld ⊢;refine take_ (i:=0) (N:=some 21) (v:=?_) (a':=?_) (bm_ 1 10) rfl rfl (yo HT_.out HW_.out (by kernel_rfl)) (fun _ _ _ h => h) (Or.inl ⟨by rfl,?_⟩) hHeld ?_ ?_;rotate_left
   ·
    rintro w' ⟨s0,s1,s2,s3,s4,s5⟩
    go_simp
    with_reducible rfl
   rotate_left
   ·
    simp only [Act.put,zi,zj,zk,zG,zH]
    rfl
   refine take_ (i:=2) (N:=some 23) (v:=?_) (a':=?_) #[true,false,true,false,false,false,false,false,false,false] rfl rfl (yo HT_.out HW_.out (by kernel_rfl)) (fun _ _ _ h => h) (Or.inl ⟨by rfl,?_⟩) hHeld ?_ ?_;rotate_left
   ·
    rintro w' ⟨s0,s1,s2,s3,s4,s5⟩
    go_simp
    with_reducible rfl
   rotate_left
   ·
    simp only [Act.put,zi,zj,zk,zG,zH]
    rfl
   refine one_ (i:=1) (N:=some 22) (bm_ 3 10) rfl rfl (one_of HT_.out (by kernel_rfl)) (by decide) (fun K hK => ?_);refine goes_ Try.func16 (by kernel_rfl) rfl #[.agg #[.int .i64 a0_0,.int .i64 a0_1,.string a0_2]] (by rfl) rfl rfl (by (try simp only [zt,zu,zv]);first|done|rfl|(simp only [zw,zx];rfl)|(simp only [yr,ys,zV,zW];rfl)) ?_
   with_reducible refine (laws_toValue.calls  a0_0 a0_1 a0_2 t704 t705 t706 _ A19.out).mono ?_
   rintro e w35 ⟨rfl,hb⟩;refine ⟨_,rfl,?_⟩;replace BK700:=zh (zD (g:=gb700) (o:=.cells #[.int .i64 a0_0,.int .i64 a0_1,.string a0_2] 23 (0,0)) (by (with_reducible repeat (first|refine ze ?_ _|refine zf ?_|refine zg ?_ _));exact BK700.out) hb);replace BK701:=zh (zD (g:=gb701) (o:=.cells #[.int .i64 a1_0,.int .i64 a1_1,.string a1_2] 23 (0,0)) (by (with_reducible repeat (first|refine ze ?_ _|refine zf ?_|refine zg ?_ _));exact BK701.out) hb);replace HB:=zh (zC (by repeat (with_reducible first|exact HB.out|apply za|apply zb|apply zc|refine zd ?_ GE700.out|refine zd ?_ GE701.out)) hb);(try clear hb);(try clear hb2);(try clear hk);(try clear hi);refine hK.out _ _ ⟨(zz BK700.out 0).trans rfl,(zz BK700.out 1).trans rfl,(zz BK700.out 2).trans rfl,(zz BK701.out 0).trans rfl,(zz BK701.out 1).trans rfl,(zz BK701.out 2).trans rfl⟩ (fun hHeld => ?_);clear hK K;refine norm_ (a':=?_) ?_ ?_;rotate_left
   ·
    show Act.put _ (some 22) _=_
    simp only [Act.put,zi,zj,zk,zG,zH]
    rfl
   refine one_ (i:=3) (N:=some 24) (bm_ 4 10) rfl rfl (one_of HT_.out (by kernel_rfl)) (by decide) (fun K hK => ?_);refine goes_ Try.func16 (by kernel_rfl) rfl #[.agg #[.int .i64 a1_0,.int .i64 a1_1,.string a1_2]] (by rfl) rfl rfl (by (try simp only [zt,zu,zv]);first|done|rfl|(simp only [zw,zx];rfl)|(simp only [yr,ys,zV,zW];rfl)) ?_
   with_reducible refine (laws_toValue.calls  a1_0 a1_1 a1_2 t707 t708 t709 _ A20.out).mono ?_
   rintro e w36 ⟨rfl,hb⟩;refine ⟨_,rfl,?_⟩;replace BK700:=zh (zD (g:=gb700) (o:=.cells #[.int .i64 a0_0,.int .i64 a0_1,.string a0_2] 23 (0,0)) (by (with_reducible repeat (first|refine ze ?_ _|refine zf ?_|refine zg ?_ _));exact BK700.out) hb);replace BK701:=zh (zD (g:=gb701) (o:=.cells #[.int .i64 a1_0,.int .i64 a1_1,.string a1_2] 23 (0,0)) (by (with_reducible repeat (first|refine ze ?_ _|refine zf ?_|refine zg ?_ _));exact BK701.out) hb);replace HB:=zh (zC (by repeat (with_reducible first|exact HB.out|apply za|apply zb|apply zc|refine zd ?_ GE700.out|refine zd ?_ GE701.out)) hb);(try clear hb);(try clear hb2);(try clear hk);(try clear hi);refine hK.out _ _ ⟨(zz BK700.out 0).trans rfl,(zz BK700.out 1).trans rfl,(zz BK700.out 2).trans rfl,(zz BK701.out 0).trans rfl,(zz BK701.out 1).trans rfl,(zz BK701.out 2).trans rfl⟩ (fun hHeld => ?_);clear hK K;refine norm_ (a':=?_) ?_ ?_;rotate_left
   ·
    show Act.put _ (some 24) _=_
    simp only [Act.put,zi,zj,zk,zG,zH]
    rfl
   refine one_ (i:=4) (N:=some 25) (bm_ 5 10) rfl rfl (one_of HT_.out (by kernel_rfl)) (by decide) (fun K hK => ?_);refine goes_ Try.func39 (by kernel_rfl) rfl #[.agg #[.int .i64 t704,.int .i64 t705,.string t706],.agg #[.int .i64 t707,.int .i64 t708,.string t709]] (by rfl) rfl rfl (by (try simp only [zt,zu,zv]);first|done|rfl|(simp only [zw,zx];rfl)|(simp only [yr,ys,zV,zW];rfl)) ?_
   with_reducible refine (spec_OrderValues.calls k  t704 t705 t706 t707 t708 t709 t710 t711 _ A21.out).mono ?_
   rintro e w37 ⟨rfl,hb⟩;refine ⟨_,rfl,?_⟩;replace BK700:=zh (zD (g:=gb700) (o:=.cells #[.int .i64 a0_0,.int .i64 a0_1,.string a0_2] 23 (0,0)) (by (with_reducible repeat (first|refine ze ?_ _|refine zf ?_|refine zg ?_ _));exact BK700.out) hb);replace BK701:=zh (zD (g:=gb701) (o:=.cells #[.int .i64 a1_0,.int .i64 a1_1,.string a1_2] 23 (0,0)) (by (with_reducible repeat (first|refine ze ?_ _|refine zf ?_|refine zg ?_ _));exact BK701.out) hb);replace HB:=zh (zC (by repeat (with_reducible first|exact HB.out|apply za|apply zb|apply zc|refine zd ?_ GE700.out|refine zd ?_ GE701.out)) hb);(try clear hb);(try clear hb2);(try clear hk);(try clear hi);refine hK.out _ _ ⟨(zz BK700.out 0).trans rfl,(zz BK700.out 1).trans rfl,(zz BK700.out 2).trans rfl,(zz BK701.out 0).trans rfl,(zz BK701.out 1).trans rfl,(zz BK701.out 2).trans rfl⟩ (fun hHeld => ?_);clear hK K;refine norm_ (a':=?_) ?_ ?_;rotate_left
   ·
    show Act.put _ (some 25) _=_
    simp only [Act.put,zi,zj,zk,zG,zH]
    rfl
   refine pure_ (i:=5) (N:=some 20) (v:=?_) (a':=?_) (bm_ 6 10) rfl rfl (any_of HT_.out (by kernel_rfl)) (fun _ _ _ h => h) (Or.inl ⟨by rfl,?_⟩) ?_ ?_;rotate_left
   ·
    intro w'
    go_simp
    with_reducible rfl
   rotate_left
   ·
    simp only [Act.put,zi,zj,zk,zG,zH]
    rfl
   refine pure_ (i:=6) (N:=some 26) (v:=?_) (a':=?_) (bm_ 7 10) rfl rfl (any_of HT_.out (by kernel_rfl)) (fun _ _ _ h => h) (Or.inl ⟨by rfl,?_⟩) ?_ ?_;rotate_left
   ·
    intro w'
    go_simp
    with_reducible rfl
   rotate_left
   ·
    simp only [Act.put,zi,zj,zk,zG,zH]
    rfl
   refine pure_ (i:=7) (N:=some 27) (v:=?_) (a':=?_) (bm_ 8 10) rfl rfl (any_of HT_.out (by kernel_rfl)) (fun _ _ _ h => h) (Or.inl ⟨by rfl,?_⟩) ?_ ?_;rotate_left
   ·
    intro w'
    go_simp
    with_reducible rfl
   rotate_left
   ·
    simp only [Act.put,zi,zj,zk,zG,zH]
    rfl
   refine pure_ (i:=8) (N:=some 6) (v:=?_) (a':=?_) (bm_ 9 10) rfl rfl (any_of HT_.out (by kernel_rfl)) (fun _ _ _ h => h) (Or.inl ⟨by rfl,?_⟩) ?_ ?_;rotate_left
   ·
    intro w'
    go_simp
    with_reducible rfl
   rotate_left
   ·
    simp only [Act.put,zi,zj,zk,zG,zH]
    rfl
   refine pure_ (i:=9) (N:=some 7) (v:=?_) (a':=?_) (bm_ 10 10) rfl rfl (any_of HT_.out (by kernel_rfl)) (fun _ _ _ h => h) (Or.inl ⟨by rfl,?_⟩) ?_ ?_;rotate_left
   ·
    intro w'
    go_simp
    with_reducible rfl
   rotate_left
   ·
    simp only [Act.put,zi,zj,zk,zG,zH]
    rfl
   refine done_ (done_of HT_.out (by kernel_rfl)) ?_
   try go_wp2
   replace BK700:=zh (zf BK700.out);replace BK701:=zh (zf BK701.out);replace HB:=zh (zc HB.out);refine start_ (n:=10) (S:=fun w' => w'.cell? ⟨gb700,0,none⟩=some (.int .i64 a0_0)∧w'.cell? ⟨gb700,1,none⟩=some (.int .i64 a0_1)∧w'.cell? ⟨gb700,2,none⟩=some (.string a0_2)∧w'.cell? ⟨gb701,0,none⟩=some (.int .i64 a1_0)∧w'.cell? ⟨gb701,1,none⟩=some (.int .i64 a1_1)∧w'.cell? ⟨gb701,2,none⟩=some (.string a1_2)) (ds:=[]) (bm_ 0 10) (by kernel_rfl) rfl rfl ⟨(zz BK700.out 0).trans rfl,(zz BK700.out 1).trans rfl,(zz BK700.out 2).trans rfl,(zz BK701.out 0).trans rfl,(zz BK701.out 1).trans rfl,(zz BK701.out 2).trans rfl⟩ (fun hHeld => ?_);refine with_tabW laws_FnExactOrderValues.tab9 laws_FnExactOrderValues.bits9 (fun HT_ HW_ => ?_);generalize w37.drew=w38 at BK700 BK701 HB hHeld ⊢;refine take_ (i:=0) (N:=some 29) (v:=?_) (a':=?_) (bm_ 1 10) rfl rfl (yo HT_.out HW_.out (by kernel_rfl)) (fun _ _ _ h => h) (Or.inl ⟨by rfl,?_⟩) hHeld ?_ ?_;rotate_left
   ·
    rintro w' ⟨s0,s1,s2,s3,s4,s5⟩
    go_simp
    with_reducible rfl
   rotate_left
   ·
    simp only [Act.put,zi,zj,zk,zG,zH]
    rfl
   refine take_ (i:=2) (N:=some 31) (v:=?_) (a':=?_) #[true,false,true,false,false,false,false,false,false,false] rfl rfl (yo HT_.out HW_.out (by kernel_rfl)) (fun _ _ _ h => h) (Or.inl ⟨by rfl,?_⟩) hHeld ?_ ?_;rotate_left
   ·
    rintro w' ⟨s0,s1,s2,s3,s4,s5⟩
    go_simp
    with_reducible rfl
   rotate_left
   ·
    simp only [Act.put,zi,zj,zk,zG,zH]
    rfl
   refine one_ (i:=1) (N:=some 30) (bm_ 3 10) rfl rfl (one_of HT_.out (by kernel_rfl)) (by decide) (fun K hK => ?_);refine goes_ Try.func16 (by kernel_rfl) rfl #[.agg #[.int .i64 a0_0,.int .i64 a0_1,.string a0_2]] (by rfl) rfl rfl (by (try simp only [zt,zu,zv]);first|done|rfl|(simp only [zw,zx];rfl)|(simp only [yr,ys,zV,zW];rfl)) ?_
   with_reducible refine (laws_toValue.calls  a0_0 a0_1 a0_2 t712 t713 t714 _ A22.out).mono ?_
   rintro e w39 ⟨rfl,hb⟩;refine ⟨_,rfl,?_⟩;replace BK700:=zh (zD (g:=gb700) (o:=.cells #[.int .i64 a0_0,.int .i64 a0_1,.string a0_2] 23 (0,0)) (by (with_reducible repeat (first|refine ze ?_ _|refine zf ?_|refine zg ?_ _));exact BK700.out) hb);replace BK701:=zh (zD (g:=gb701) (o:=.cells #[.int .i64 a1_0,.int .i64 a1_1,.string a1_2] 23 (0,0)) (by (with_reducible repeat (first|refine ze ?_ _|refine zf ?_|refine zg ?_ _));exact BK701.out) hb);replace HB:=zh (zC (by repeat (with_reducible first|exact HB.out|apply za|apply zb|apply zc|refine zd ?_ GE700.out|refine zd ?_ GE701.out)) hb);(try clear hb);(try clear hb2);(try clear hk);(try clear hi);refine hK.out _ _ ⟨(zz BK700.out 0).trans rfl,(zz BK700.out 1).trans rfl,(zz BK700.out 2).trans rfl,(zz BK701.out 0).trans rfl,(zz BK701.out 1).trans rfl,(zz BK701.out 2).trans rfl⟩ (fun hHeld => ?_);clear hK K;refine norm_ (a':=?_) ?_ ?_;rotate_left
   ·
    show Act.put _ (some 30) _=_
    simp only [Act.put,zi,zj,zk,zG,zH]
    rfl
   refine one_ (i:=3) (N:=some 32) (bm_ 4 10) rfl rfl (one_of HT_.out (by kernel_rfl)) (by decide) (fun K hK => ?_);refine goes_ Try.func16 (by kernel_rfl) rfl #[.agg #[.int .i64 a1_0,.int .i64 a1_1,.string a1_2]] (by rfl) rfl rfl (by (try simp only [zt,zu,zv]);first|done|rfl|(simp only [zw,zx];rfl)|(simp only [yr,ys,zV,zW];rfl)) ?_
   with_reducible refine (laws_toValue.calls  a1_0 a1_1 a1_2 t715 t716 t717 _ A23.out).mono ?_
   rintro e w40 ⟨rfl,hb⟩;refine ⟨_,rfl,?_⟩;replace BK700:=zh (zD (g:=gb700) (o:=.cells #[.int .i64 a0_0,.int .i64 a0_1,.string a0_2] 23 (0,0)) (by (with_reducible repeat (first|refine ze ?_ _|refine zf ?_|refine zg ?_ _));exact BK700.out) hb);replace BK701:=zh (zD (g:=gb701) (o:=.cells #[.int .i64 a1_0,.int .i64 a1_1,.string a1_2] 23 (0,0)) (by (with_reducible repeat (first|refine ze ?_ _|refine zf ?_|refine zg ?_ _));exact BK701.out) hb);replace HB:=zh (zC (by repeat (with_reducible first|exact HB.out|apply za|apply zb|apply zc|refine zd ?_ GE700.out|refine zd ?_ GE701.out)) hb);(try clear hb);(try clear hb2);(try clear hk);(try clear hi);refine hK.out _ _ ⟨(zz BK700.out 0).trans rfl,(zz BK700.out 1).trans rfl,(zz BK700.out 2).trans rfl,(zz BK701.out 0).trans rfl,(zz BK701.out 1).trans rfl,(zz BK701.out 2).trans rfl⟩ (fun hHeld => ?_);clear hK K;refine norm_ (a':=?_) ?_ ?_;rotate_left
   ·
    show Act.put _ (some 32) _=_
    simp only [Act.put,zi,zj,zk,zG,zH]
    rfl
   refine one_ (i:=4) (N:=some 33) (bm_ 5 10) rfl rfl (one_of HT_.out (by kernel_rfl)) (by decide) (fun K hK => ?_);refine goes_ Try.func40 (by kernel_rfl) rfl #[.agg #[.int .i64 t712,.int .i64 t713,.string t714],.agg #[.int .i64 t715,.int .i64 t716,.string t717]] (by rfl) rfl rfl (by (try simp only [zt,zu,zv]);first|done|rfl|(simp only [zw,zx];rfl)|(simp only [yr,ys,zV,zW];rfl)) ?_
   with_reducible refine (impl_OrderValues.calls k  t712 t713 t714 t715 t716 t717 t718 t719 _ A24.out).mono ?_
   rintro e w41 ⟨rfl,hb⟩;refine ⟨_,rfl,?_⟩;replace BK700:=zh (zD (g:=gb700) (o:=.cells #[.int .i64 a0_0,.int .i64 a0_1,.string a0_2] 23 (0,0)) (by (with_reducible repeat (first|refine ze ?_ _|refine zf ?_|refine zg ?_ _));exact BK700.out) hb);replace BK701:=zh (zD (g:=gb701) (o:=.cells #[.int .i64 a1_0,.int .i64 a1_1,.string a1_2] 23 (0,0)) (by (with_reducible repeat (first|refine ze ?_ _|refine zf ?_|refine zg ?_ _));exact BK701.out) hb);replace HB:=zh (zC (by repeat (with_reducible first|exact HB.out|apply za|apply zb|apply zc|refine zd ?_ GE700.out|refine zd ?_ GE701.out)) hb);(try clear hb);(try clear hb2);(try clear hk);(try clear hi);refine hK.out _ _ ⟨(zz BK700.out 0).trans rfl,(zz BK700.out 1).trans rfl,(zz BK700.out 2).trans rfl,(zz BK701.out 0).trans rfl,(zz BK701.out 1).trans rfl,(zz BK701.out 2).trans rfl⟩ (fun hHeld => ?_);clear hK K;refine norm_ (a':=?_) ?_ ?_;rotate_left
   ·
    show Act.put _ (some 33) _=_
    simp only [Act.put,zi,zj,zk,zG,zH]
    rfl
   refine pure_ (i:=5) (N:=some 28) (v:=?_) (a':=?_) (bm_ 6 10) rfl rfl (any_of HT_.out (by kernel_rfl)) (fun _ _ _ h => h) (Or.inl ⟨by rfl,?_⟩) ?_ ?_;rotate_left
   ·
    intro w'
    go_simp
    with_reducible rfl
   rotate_left
   ·
    simp only [Act.put,zi,zj,zk,zG,zH]
    rfl
   refine pure_ (i:=6) (N:=some 34) (v:=?_) (a':=?_) (bm_ 7 10) rfl rfl (any_of HT_.out (by kernel_rfl)) (fun _ _ _ h => h) (Or.inl ⟨by rfl,?_⟩) ?_ ?_;rotate_left
   ·
    intro w'
    go_simp
    with_reducible rfl
   rotate_left
   ·
    simp only [Act.put,zi,zj,zk,zG,zH]
    rfl
   refine pure_ (i:=7) (N:=some 35) (v:=?_) (a':=?_) (bm_ 8 10) rfl rfl (any_of HT_.out (by kernel_rfl)) (fun _ _ _ h => h) (Or.inl ⟨by rfl,?_⟩) ?_ ?_;rotate_left
   ·
    intro w'
    go_simp
    with_reducible rfl
   rotate_left
   ·
    simp only [Act.put,zi,zj,zk,zG,zH]
    rfl
   refine pure_ (i:=8) (N:=some 8) (v:=?_) (a':=?_) (bm_ 9 10) rfl rfl (any_of HT_.out (by kernel_rfl)) (fun _ _ _ h => h) (Or.inl ⟨by rfl,?_⟩) ?_ ?_;rotate_left
   ·
    intro w'
    go_simp
    with_reducible rfl
   rotate_left
   ·
    simp only [Act.put,zi,zj,zk,zG,zH]
    rfl
   refine pure_ (i:=9) (N:=some 9) (v:=?_) (a':=?_) (bm_ 10 10) rfl rfl (any_of HT_.out (by kernel_rfl)) (fun _ _ _ h => h) (Or.inl ⟨by rfl,?_⟩) ?_ ?_;rotate_left
   ·
    intro w'
    go_simp
    with_reducible rfl
   rotate_left
   ·
    simp only [Act.put,zi,zj,zk,zG,zH]
    rfl
   refine done_ (done_of HT_.out (by kernel_rfl)) ?_
   try go_wp2
   go_ret
   exact ⟨by first|rfl|(simp [yt,yu] <;> rfl)|(simp [*,yt,yu] <;> rfl),by repeat (with_reducible first|exact HB.out|apply za|apply zb|apply zc|refine zd ?_ GE700.out|refine zd ?_ GE701.out)⟩
  rw [if_neg c26] at H;have c26b0 : (t719 == t711)=false:=zY.mpr c26;have c26b1 : (t719 != t711)=true:=zZ.mpr c26;obtain rfl:=zU H
  go_enter Try.func9,Try.ntmps9
  try go_wp2_with (first|((with_reducible refine zK (N:=2) rfl ?_);refine zI ?hg (N:=2) ?hd (cs:=#[.int .i64 a0_0,.int .i64 a0_1,.string a0_2]) (t:=23) ?hr ?_;(case hd => rfl);(case hg => rfl);(case hr => first|(go_simp;done)|(go_simp;rfl));intro gb700 hg w42 hbox hb;have BK700:=zh (hbox);have GW700:=zh ((by rw [hg];exact (zB (by repeat (with_reducible first|exact HB.out|apply za|apply zb|apply zc))) : w.heap.size≤gb700));have GE700:=zh ((by rw [hg];exact (zB (by repeat (with_reducible first|exact HB.out|apply za|apply zb|apply zc))) : w.heap.size≤gb700));replace HB:=zh (zC (by repeat (with_reducible first|exact HB.out|apply za|apply zb|apply zc)) hb);clear hb hbox hg)|((with_reducible refine zK (N:=3) rfl ?_);refine zI ?hg (N:=3) ?hd (cs:=#[.int .i64 a1_0,.int .i64 a1_1,.string a1_2]) (t:=23) ?hr ?_;(case hd => rfl);(case hg => rfl);(case hr => first|(go_simp;done)|(go_simp;rfl));intro gb701 hg w43 hbox hb;have BK701:=zh (hbox);have GW701:=zh ((by rw [hg];exact (zB (by repeat (with_reducible first|exact HB.out|apply za|apply zb|apply zc|refine zd ?_ GE700.out))) : w.heap.size≤gb701));have GE701:=zh ((by rw [hg];exact (zB (by repeat (with_reducible first|exact HB.out|apply za|apply zb|apply zc|refine zd ?_ GE700.out))) : w.heap.size≤gb701));replace HB:=zh (zC (by repeat (with_reducible first|exact HB.out|apply za|apply zb|apply zc|refine zd ?_ GE700.out)) hb);have NB700_701:=zh ((by rw [hg];exact yc (yi (g:=gb700) (o:=.cells #[.int .i64 a0_0,.int .i64 a0_1,.string a0_2] 23 (0,0)) (by (with_reducible repeat (first|refine ze ?_ _|refine zf ?_|refine zg ?_ _));exact BK700.out)) : gb700≠gb701));have NB701_700:=zh ((by rw [hg];exact yd (yi (g:=gb700) (o:=.cells #[.int .i64 a0_0,.int .i64 a0_1,.string a0_2] 23 (0,0)) (by (with_reducible repeat (first|refine ze ?_ _|refine zf ?_|refine zg ?_ _));exact BK700.out)) : gb701≠gb700));replace BK700:=zh (zD (g:=gb700) (o:=.cells #[.int .i64 a0_0,.int .i64 a0_1,.string a0_2] 23 (0,0)) (by (with_reducible repeat (first|refine ze ?_ _|refine zf ?_|refine zg ?_ _));exact BK700.out) hb);clear hb hbox hg;have hnb44:=NB700_701.out;have hnc44:=NB701_700.out;have hcz45_0 : w43.cell? ⟨gb700,0,none⟩=some (.int .i64 a0_0):=(zz BK700.out 0).trans rfl;have hcz45_1 : w43.cell? ⟨gb700,1,none⟩=some (.int .i64 a0_1):=(zz BK700.out 1).trans rfl;have hcz45_2 : w43.cell? ⟨gb700,2,none⟩=some (.string a0_2):=(zz BK700.out 2).trans rfl;have hfz45_0:=zA BK700.out 0;have hfz45_1:=zA BK700.out 1;have hfz45_2:=zA BK700.out 2)|((with_reducible refine zJ (f:=14) rfl ?_);refine yj (some 12) rfl rfl Try.func14 (by kernel_rfl) rfl #[.agg #[.int .i64 a0_0,.int .i64 a0_1,.string a0_2],.int .i64 1048576] rfl (by (try simp only [zt,zu,zv]);first|done|rfl|(simp only [zw,zx];rfl)|(simp only [yr,ys,zV,zW];rfl)) ?_;(with_reducible refine (laws_szValue.calls  a0_0 a0_1 a0_2 1048576 t702 _ A3.out).mono ?_);rintro e w46 ⟨rfl,hb⟩;refine ⟨_,rfl,?_⟩;replace BK700:=zh (zD (g:=gb700) (o:=.cells #[.int .i64 a0_0,.int .i64 a0_1,.string a0_2] 23 (0,0)) (by (with_reducible repeat (first|refine ze ?_ _|refine zf ?_|refine zg ?_ _));exact BK700.out) hb);replace BK701:=zh (zD (g:=gb701) (o:=.cells #[.int .i64 a1_0,.int .i64 a1_1,.string a1_2] 23 (0,0)) (by (with_reducible repeat (first|refine ze ?_ _|refine zf ?_|refine zg ?_ _));exact BK701.out) hb);replace HB:=zh (zC (by repeat (with_reducible first|exact HB.out|apply za|apply zb|apply zc|refine zd ?_ GE700.out|refine zd ?_ GE701.out)) hb);(try clear hb);(try clear hb2);(try clear hk);(try clear hi);have hcz47_0 : w46.cell? ⟨gb701,0,none⟩=some (.int .i64 a1_0):=(zz BK701.out 0).trans rfl;have hcz47_1 : w46.cell? ⟨gb701,1,none⟩=some (.int .i64 a1_1):=(zz BK701.out 1).trans rfl;have hcz47_2 : w46.cell? ⟨gb701,2,none⟩=some (.string a1_2):=(zz BK701.out 2).trans rfl;have hfz47_0:=zA BK701.out 0;have hfz47_1:=zA BK701.out 1;have hfz47_2:=zA BK701.out 2)|((with_reducible refine zJ (f:=14) rfl ?_);refine yj (some 17) rfl rfl Try.func14 (by kernel_rfl) rfl #[.agg #[.int .i64 a1_0,.int .i64 a1_1,.string a1_2],.int .i64 t702] rfl (by (try simp only [zt,zu,zv]);first|done|rfl|(simp only [zw,zx];rfl)|(simp only [yr,ys,zV,zW];rfl)) ?_;(with_reducible refine (laws_szValue.calls  a1_0 a1_1 a1_2 t702 t703 _ A10.out).mono ?_);rintro e w48 ⟨rfl,hb⟩;refine ⟨_,rfl,?_⟩;replace BK700:=zh (zD (g:=gb700) (o:=.cells #[.int .i64 a0_0,.int .i64 a0_1,.string a0_2] 23 (0,0)) (by (with_reducible repeat (first|refine ze ?_ _|refine zf ?_|refine zg ?_ _));exact BK700.out) hb);replace BK701:=zh (zD (g:=gb701) (o:=.cells #[.int .i64 a1_0,.int .i64 a1_1,.string a1_2] 23 (0,0)) (by (with_reducible repeat (first|refine ze ?_ _|refine zf ?_|refine zg ?_ _));exact BK701.out) hb);replace HB:=zh (zC (by repeat (with_reducible first|exact HB.out|apply za|apply zb|apply zc|refine zd ?_ GE700.out|refine zd ?_ GE701.out)) hb);(try clear hb);(try clear hb2);(try clear hk);(try clear hi)))
  replace BK700:=zh (zf BK700.out);replace BK701:=zh (zf BK701.out);replace HB:=zh (zc HB.out);refine start_ (n:=10) (S:=fun w' => w'.cell? ⟨gb700,0,none⟩=some (.int .i64 a0_0)∧w'.cell? ⟨gb700,1,none⟩=some (.int .i64 a0_1)∧w'.cell? ⟨gb700,2,none⟩=some (.string a0_2)∧w'.cell? ⟨gb701,0,none⟩=some (.int .i64 a1_0)∧w'.cell? ⟨gb701,1,none⟩=some (.int .i64 a1_1)∧w'.cell? ⟨gb701,2,none⟩=some (.string a1_2)) (ds:=[]) (bm_ 0 10) (by kernel_rfl) rfl rfl ⟨(zz BK700.out 0).trans rfl,(zz BK700.out 1).trans rfl,(zz BK700.out 2).trans rfl,(zz BK701.out 0).trans rfl,(zz BK701.out 1).trans rfl,(zz BK701.out 2).trans rfl⟩ (fun hHeld => ?_);refine with_tabW laws_FnExactOrderValues.tab8 laws_FnExactOrderValues.bits8 (fun HT_ HW_ => ?_);generalize w48.drew=w49 at BK700 BK701 HB hHeld ⊢;refine take_ (i:=0) (N:=some 21) (v:=?_) (a':=?_) (bm_ 1 10) rfl rfl (yo HT_.out HW_.out (by kernel_rfl)) (fun _ _ _ h => h) (Or.inl ⟨by rfl,?_⟩) hHeld ?_ ?_;rotate_left
  ·
   rintro w' ⟨s0,s1,s2,s3,s4,s5⟩
   go_simp
   with_reducible rfl
  rotate_left
  ·
   simp only [Act.put,zi,zj,zk,zG,zH]
   rfl
  refine take_ (i:=2) (N:=some 23) (v:=?_) (a':=?_) #[true,false,true,false,false,false,false,false,false,false] rfl rfl (yo HT_.out HW_.out (by kernel_rfl)) (fun _ _ _ h => h) (Or.inl ⟨by rfl,?_⟩) hHeld ?_ ?_;rotate_left
  ·
   rintro w' ⟨s0,s1,s2,s3,s4,s5⟩
   go_simp
   with_reducible rfl
  rotate_left
  ·
   simp only [Act.put,zi,zj,zk,zG,zH]
   rfl
  refine one_ (i:=1) (N:=some 22) (bm_ 3 10) rfl rfl (one_of HT_.out (by kernel_rfl)) (by decide) (fun K hK => ?_);refine goes_ Try.func16 (by kernel_rfl) rfl #[.agg #[.int .i64 a0_0,.int .i64 a0_1,.string a0_2]] (by rfl) rfl rfl (by (try simp only [zt,zu,zv]);first|done|rfl|(simp only [zw,zx];rfl)|(simp only [yr,ys,zV,zW];rfl)) ?_
  with_reducible refine (laws_toValue.calls  a0_0 a0_1 a0_2 t704 t705 t706 _ A19.out).mono ?_
  rintro e w50 ⟨rfl,hb⟩;refine ⟨_,rfl,?_⟩;replace BK700:=zh (zD (g:=gb700) (o:=.cells #[.int .i64 a0_0,.int .i64 a0_1,.string a0_2] 23 (0,0)) (by (with_reducible repeat (first|refine ze ?_ _|refine zf ?_|refine zg ?_ _));exact BK700.out) hb);replace BK701:=zh (zD (g:=gb701) (o:=.cells #[.int .i64 a1_0,.int .i64 a1_1,.string a1_2] 23 (0,0)) (by (with_reducible repeat (first|refine ze ?_ _|refine zf ?_|refine zg ?_ _));exact BK701.out) hb);replace HB:=zh (zC (by repeat (with_reducible first|exact HB.out|apply za|apply zb|apply zc|refine zd ?_ GE700.out|refine zd ?_ GE701.out)) hb);(try clear hb);(try clear hb2);(try clear hk);(try clear hi);refine hK.out _ _ ⟨(zz BK700.out 0).trans rfl,(zz BK700.out 1).trans rfl,(zz BK700.out 2).trans rfl,(zz BK701.out 0).trans rfl,(zz BK701.out 1).trans rfl,(zz BK701.out 2).trans rfl⟩ (fun hHeld => ?_);clear hK K;refine norm_ (a':=?_) ?_ ?_;rotate_left
  ·
   show Act.put _ (some 22) _=_
   simp only [Act.put,zi,zj,zk,zG,zH]
   rfl
  refine one_ (i:=3) (N:=some 24) (bm_ 4 10) rfl rfl (one_of HT_.out (by kernel_rfl)) (by decide) (fun K hK => ?_);refine goes_ Try.func16 (by kernel_rfl) rfl #[.agg #[.int .i64 a1_0,.int .i64 a1_1,.string a1_2]] (by rfl) rfl rfl (by (try simp only [zt,zu,zv]);first|done|rfl|(simp only [zw,zx];rfl)|(simp only [yr,ys,zV,zW];rfl)) ?_
  with_reducible refine (laws_toValue.calls  a1_0 a1_1 a1_2 t707 t708 t709 _ A20.out).mono ?_
  rintro e w51 ⟨rfl,hb⟩;refine ⟨_,rfl,?_⟩;replace BK700:=zh (zD (g:=gb700) (o:=.cells #[.int .i64 a0_0,.int .i64 a0_1,.string a0_2] 23 (0,0)) (by (with_reducible repeat (first|refine ze ?_ _|refine zf ?_|refine zg ?_ _));exact BK700.out) hb);replace BK701:=zh (zD (g:=gb701) (o:=.cells #[.int .i64 a1_0,.int .i64 a1_1,.string a1_2] 23 (0,0)) (by (with_reducible repeat (first|refine ze ?_ _|refine zf ?_|refine zg ?_ _));exact BK701.out) hb);replace HB:=zh (zC (by repeat (with_reducible first|exact HB.out|apply za|apply zb|apply zc|refine zd ?_ GE700.out|refine zd ?_ GE701.out)) hb);(try clear hb);(try clear hb2);(try clear hk);(try clear hi);refine hK.out _ _ ⟨(zz BK700.out 0).trans rfl,(zz BK700.out 1).trans rfl,(zz BK700.out 2).trans rfl,(zz BK701.out 0).trans rfl,(zz BK701.out 1).trans rfl,(zz BK701.out 2).trans rfl⟩ (fun hHeld => ?_);clear hK K;refine norm_ (a':=?_) ?_ ?_;rotate_left
  ·
   show Act.put _ (some 24) _=_
   simp only [Act.put,zi,zj,zk,zG,zH]
   rfl
  refine one_ (i:=4) (N:=some 25) (bm_ 5 10) rfl rfl (one_of HT_.out (by kernel_rfl)) (by decide) (fun K hK => ?_);refine goes_ Try.func39 (by kernel_rfl) rfl #[.agg #[.int .i64 t704,.int .i64 t705,.string t706],.agg #[.int .i64 t707,.int .i64 t708,.string t709]] (by rfl) rfl rfl (by (try simp only [zt,zu,zv]);first|done|rfl|(simp only [zw,zx];rfl)|(simp only [yr,ys,zV,zW];rfl)) ?_
  with_reducible refine (spec_OrderValues.calls k  t704 t705 t706 t707 t708 t709 t710 t711 _ A21.out).mono ?_
  rintro e w52 ⟨rfl,hb⟩;refine ⟨_,rfl,?_⟩;replace BK700:=zh (zD (g:=gb700) (o:=.cells #[.int .i64 a0_0,.int .i64 a0_1,.string a0_2] 23 (0,0)) (by (with_reducible repeat (first|refine ze ?_ _|refine zf ?_|refine zg ?_ _));exact BK700.out) hb);replace BK701:=zh (zD (g:=gb701) (o:=.cells #[.int .i64 a1_0,.int .i64 a1_1,.string a1_2] 23 (0,0)) (by (with_reducible repeat (first|refine ze ?_ _|refine zf ?_|refine zg ?_ _));exact BK701.out) hb);replace HB:=zh (zC (by repeat (with_reducible first|exact HB.out|apply za|apply zb|apply zc|refine zd ?_ GE700.out|refine zd ?_ GE701.out)) hb);(try clear hb);(try clear hb2);(try clear hk);(try clear hi);refine hK.out _ _ ⟨(zz BK700.out 0).trans rfl,(zz BK700.out 1).trans rfl,(zz BK700.out 2).trans rfl,(zz BK701.out 0).trans rfl,(zz BK701.out 1).trans rfl,(zz BK701.out 2).trans rfl⟩ (fun hHeld => ?_);clear hK K;refine norm_ (a':=?_) ?_ ?_;rotate_left
  ·
   show Act.put _ (some 25) _=_
   simp only [Act.put,zi,zj,zk,zG,zH]
   rfl
  refine pure_ (i:=5) (N:=some 20) (v:=?_) (a':=?_) (bm_ 6 10) rfl rfl (any_of HT_.out (by kernel_rfl)) (fun _ _ _ h => h) (Or.inl ⟨by rfl,?_⟩) ?_ ?_;rotate_left
  ·
   intro w'
   go_simp
   with_reducible rfl
  rotate_left
  ·
   simp only [Act.put,zi,zj,zk,zG,zH]
   rfl
  refine pure_ (i:=6) (N:=some 26) (v:=?_) (a':=?_) (bm_ 7 10) rfl rfl (any_of HT_.out (by kernel_rfl)) (fun _ _ _ h => h) (Or.inl ⟨by rfl,?_⟩) ?_ ?_;rotate_left
  ·
   intro w'
   go_simp
   with_reducible rfl
  rotate_left
  ·
   simp only [Act.put,zi,zj,zk,zG,zH]
   rfl
  refine pure_ (i:=7) (N:=some 27) (v:=?_) (a':=?_) (bm_ 8 10) rfl rfl (any_of HT_.out (by kernel_rfl)) (fun _ _ _ h => h) (Or.inl ⟨by rfl,?_⟩) ?_ ?_;rotate_left
  ·
   intro w'
   go_simp
   with_reducible rfl
  rotate_left
  ·
   simp only [Act.put,zi,zj,zk,zG,zH]
   rfl
  refine pure_ (i:=8) (N:=some 6) (v:=?_) (a':=?_) (bm_ 9 10) rfl rfl (any_of HT_.out (by kernel_rfl)) (fun _ _ _ h => h) (Or.inl ⟨by rfl,?_⟩) ?_ ?_;rotate_left
  ·
   intro w'
   go_simp
   with_reducible rfl
  rotate_left
  ·
   simp only [Act.put,zi,zj,zk,zG,zH]
   rfl
  refine pure_ (i:=9) (N:=some 7) (v:=?_) (a':=?_) (bm_ 10 10) rfl rfl (any_of HT_.out (by kernel_rfl)) (fun _ _ _ h => h) (Or.inl ⟨by rfl,?_⟩) ?_ ?_;rotate_left
  ·
   intro w'
   go_simp
   with_reducible rfl
  rotate_left
  ·
   simp only [Act.put,zi,zj,zk,zG,zH]
   rfl
  refine done_ (done_of HT_.out (by kernel_rfl)) ?_
  try go_wp2
  replace BK700:=zh (zf BK700.out);replace BK701:=zh (zf BK701.out);replace HB:=zh (zc HB.out);refine start_ (n:=10) (S:=fun w' => w'.cell? ⟨gb700,0,none⟩=some (.int .i64 a0_0)∧w'.cell? ⟨gb700,1,none⟩=some (.int .i64 a0_1)∧w'.cell? ⟨gb700,2,none⟩=some (.string a0_2)∧w'.cell? ⟨gb701,0,none⟩=some (.int .i64 a1_0)∧w'.cell? ⟨gb701,1,none⟩=some (.int .i64 a1_1)∧w'.cell? ⟨gb701,2,none⟩=some (.string a1_2)) (ds:=[]) (bm_ 0 10) (by kernel_rfl) rfl rfl ⟨(zz BK700.out 0).trans rfl,(zz BK700.out 1).trans rfl,(zz BK700.out 2).trans rfl,(zz BK701.out 0).trans rfl,(zz BK701.out 1).trans rfl,(zz BK701.out 2).trans rfl⟩ (fun hHeld => ?_);refine with_tabW laws_FnExactOrderValues.tab9 laws_FnExactOrderValues.bits9 (fun HT_ HW_ => ?_);generalize w52.drew=w53 at BK700 BK701 HB hHeld ⊢;refine take_ (i:=0) (N:=some 29) (v:=?_) (a':=?_) (bm_ 1 10) rfl rfl (yo HT_.out HW_.out (by kernel_rfl)) (fun _ _ _ h => h) (Or.inl ⟨by rfl,?_⟩) hHeld ?_ ?_;rotate_left
  ·
   rintro w' ⟨s0,s1,s2,s3,s4,s5⟩
   go_simp
   with_reducible rfl
  rotate_left
  ·
   simp only [Act.put,zi,zj,zk,zG,zH]
   rfl
  refine take_ (i:=2) (N:=some 31) (v:=?_) (a':=?_) #[true,false,true,false,false,false,false,false,false,false] rfl rfl (yo HT_.out HW_.out (by kernel_rfl)) (fun _ _ _ h => h) (Or.inl ⟨by rfl,?_⟩) hHeld ?_ ?_;rotate_left
  ·
   rintro w' ⟨s0,s1,s2,s3,s4,s5⟩
   go_simp
   with_reducible rfl
  rotate_left
  ·
   simp only [Act.put,zi,zj,zk,zG,zH]
   rfl
  refine one_ (i:=1) (N:=some 30) (bm_ 3 10) rfl rfl (one_of HT_.out (by kernel_rfl)) (by decide) (fun K hK => ?_);refine goes_ Try.func16 (by kernel_rfl) rfl #[.agg #[.int .i64 a0_0,.int .i64 a0_1,.string a0_2]] (by rfl) rfl rfl (by (try simp only [zt,zu,zv]);first|done|rfl|(simp only [zw,zx];rfl)|(simp only [yr,ys,zV,zW];rfl)) ?_
  with_reducible refine (laws_toValue.calls  a0_0 a0_1 a0_2 t712 t713 t714 _ A22.out).mono ?_
  rintro e w54 ⟨rfl,hb⟩;refine ⟨_,rfl,?_⟩;replace BK700:=zh (zD (g:=gb700) (o:=.cells #[.int .i64 a0_0,.int .i64 a0_1,.string a0_2] 23 (0,0)) (by (with_reducible repeat (first|refine ze ?_ _|refine zf ?_|refine zg ?_ _));exact BK700.out) hb);replace BK701:=zh (zD (g:=gb701) (o:=.cells #[.int .i64 a1_0,.int .i64 a1_1,.string a1_2] 23 (0,0)) (by (with_reducible repeat (first|refine ze ?_ _|refine zf ?_|refine zg ?_ _));exact BK701.out) hb);replace HB:=zh (zC (by repeat (with_reducible first|exact HB.out|apply za|apply zb|apply zc|refine zd ?_ GE700.out|refine zd ?_ GE701.out)) hb);(try clear hb);(try clear hb2);(try clear hk);(try clear hi);refine hK.out _ _ ⟨(zz BK700.out 0).trans rfl,(zz BK700.out 1).trans rfl,(zz BK700.out 2).trans rfl,(zz BK701.out 0).trans rfl,(zz BK701.out 1).trans rfl,(zz BK701.out 2).trans rfl⟩ (fun hHeld => ?_);clear hK K;refine norm_ (a':=?_) ?_ ?_;rotate_left
  ·
   show Act.put _ (some 30) _=_
   simp only [Act.put,zi,zj,zk,zG,zH]
   rfl
  refine one_ (i:=3) (N:=some 32) (bm_ 4 10) rfl rfl (one_of HT_.out (by kernel_rfl)) (by decide) (fun K hK => ?_);refine goes_ Try.func16 (by kernel_rfl) rfl #[.agg #[.int .i64 a1_0,.int .i64 a1_1,.string a1_2]] (by rfl) rfl rfl (by (try simp only [zt,zu,zv]);first|done|rfl|(simp only [zw,zx];rfl)|(simp only [yr,ys,zV,zW];rfl)) ?_
  with_reducible refine (laws_toValue.calls  a1_0 a1_1 a1_2 t715 t716 t717 _ A23.out).mono ?_
  rintro e w55 ⟨rfl,hb⟩;refine ⟨_,rfl,?_⟩;replace BK700:=zh (zD (g:=gb700) (o:=.cells #[.int .i64 a0_0,.int .i64 a0_1,.string a0_2] 23 (0,0)) (by (with_reducible repeat (first|refine ze ?_ _|refine zf ?_|refine zg ?_ _));exact BK700.out) hb);replace BK701:=zh (zD (g:=gb701) (o:=.cells #[.int .i64 a1_0,.int .i64 a1_1,.string a1_2] 23 (0,0)) (by (with_reducible repeat (first|refine ze ?_ _|refine zf ?_|refine zg ?_ _));exact BK701.out) hb);replace HB:=zh (zC (by repeat (with_reducible first|exact HB.out|apply za|apply zb|apply zc|refine zd ?_ GE700.out|refine zd ?_ GE701.out)) hb);(try clear hb);(try clear hb2);(try clear hk);(try clear hi);refine hK.out _ _ ⟨(zz BK700.out 0).trans rfl,(zz BK700.out 1).trans rfl,(zz BK700.out 2).trans rfl,(zz BK701.out 0).trans rfl,(zz BK701.out 1).trans rfl,(zz BK701.out 2).trans rfl⟩ (fun hHeld => ?_);clear hK K;refine norm_ (a':=?_) ?_ ?_;rotate_left
  ·
   show Act.put _ (some 32) _=_
   simp only [Act.put,zi,zj,zk,zG,zH]
   rfl
  refine one_ (i:=4) (N:=some 33) (bm_ 5 10) rfl rfl (one_of HT_.out (by kernel_rfl)) (by decide) (fun K hK => ?_);refine goes_ Try.func40 (by kernel_rfl) rfl #[.agg #[.int .i64 t712,.int .i64 t713,.string t714],.agg #[.int .i64 t715,.int .i64 t716,.string t717]] (by rfl) rfl rfl (by (try simp only [zt,zu,zv]);first|done|rfl|(simp only [zw,zx];rfl)|(simp only [yr,ys,zV,zW];rfl)) ?_
  with_reducible refine (impl_OrderValues.calls k  t712 t713 t714 t715 t716 t717 t718 t719 _ A24.out).mono ?_
  rintro e w56 ⟨rfl,hb⟩;refine ⟨_,rfl,?_⟩;replace BK700:=zh (zD (g:=gb700) (o:=.cells #[.int .i64 a0_0,.int .i64 a0_1,.string a0_2] 23 (0,0)) (by (with_reducible repeat (first|refine ze ?_ _|refine zf ?_|refine zg ?_ _));exact BK700.out) hb);replace BK701:=zh (zD (g:=gb701) (o:=.cells #[.int .i64 a1_0,.int .i64 a1_1,.string a1_2] 23 (0,0)) (by (with_reducible repeat (first|refine ze ?_ _|refine zf ?_|refine zg ?_ _));exact BK701.out) hb);replace HB:=zh (zC (by repeat (with_reducible first|exact HB.out|apply za|apply zb|apply zc|refine zd ?_ GE700.out|refine zd ?_ GE701.out)) hb);(try clear hb);(try clear hb2);(try clear hk);(try clear hi);refine hK.out _ _ ⟨(zz BK700.out 0).trans rfl,(zz BK700.out 1).trans rfl,(zz BK700.out 2).trans rfl,(zz BK701.out 0).trans rfl,(zz BK701.out 1).trans rfl,(zz BK701.out 2).trans rfl⟩ (fun hHeld => ?_);clear hK K;refine norm_ (a':=?_) ?_ ?_;rotate_left
  ·
   show Act.put _ (some 33) _=_
   simp only [Act.put,zi,zj,zk,zG,zH]
   rfl
  refine pure_ (i:=5) (N:=some 28) (v:=?_) (a':=?_) (bm_ 6 10) rfl rfl (any_of HT_.out (by kernel_rfl)) (fun _ _ _ h => h) (Or.inl ⟨by rfl,?_⟩) ?_ ?_;rotate_left
  ·
   intro w'
   go_simp
   with_reducible rfl
  rotate_left
  ·
   simp only [Act.put,zi,zj,zk,zG,zH]
   rfl
  refine pure_ (i:=6) (N:=some 34) (v:=?_) (a':=?_) (bm_ 7 10) rfl rfl (any_of HT_.out (by kernel_rfl)) (fun _ _ _ h => h) (Or.inl ⟨by rfl,?_⟩) ?_ ?_;rotate_left
  ·
   intro w'
   go_simp
   with_reducible rfl
  rotate_left
  ·
   simp only [Act.put,zi,zj,zk,zG,zH]
   rfl
  refine pure_ (i:=7) (N:=some 35) (v:=?_) (a':=?_) (bm_ 8 10) rfl rfl (any_of HT_.out (by kernel_rfl)) (fun _ _ _ h => h) (Or.inl ⟨by rfl,?_⟩) ?_ ?_;rotate_left
  ·
   intro w'
   go_simp
   with_reducible rfl
  rotate_left
  ·
   simp only [Act.put,zi,zj,zk,zG,zH]
   rfl
  refine pure_ (i:=8) (N:=some 8) (v:=?_) (a':=?_) (bm_ 9 10) rfl rfl (any_of HT_.out (by kernel_rfl)) (fun _ _ _ h => h) (Or.inl ⟨by rfl,?_⟩) ?_ ?_;rotate_left
  ·
   intro w'
   go_simp
   with_reducible rfl
  rotate_left
  ·
   simp only [Act.put,zi,zj,zk,zG,zH]
   rfl
  refine pure_ (i:=9) (N:=some 9) (v:=?_) (a':=?_) (bm_ 10 10) rfl rfl (any_of HT_.out (by kernel_rfl)) (fun _ _ _ h => h) (Or.inl ⟨by rfl,?_⟩) ?_ ?_;rotate_left
  ·
   intro w'
   go_simp
   with_reducible rfl
  rotate_left
  ·
   simp only [Act.put,zi,zj,zk,zG,zH]
   rfl
  refine done_ (done_of HT_.out (by kernel_rfl)) ?_
  try go_wp2
  go_ret
  exact ⟨by first|rfl|(simp [yt,yu] <;> rfl)|(simp [*,yt,yu] <;> rfl),by repeat (with_reducible first|exact HB.out|apply za|apply zb|apply zc|refine zd ?_ GE700.out|refine zd ?_ GE701.out)⟩
 rw [if_neg c25] at H;have c25b0 : (t718 == t710)=false:=zY.mpr c25;have c25b1 : (t718 != t710)=true:=zZ.mpr c25;obtain rfl:=zU H
 go_enter Try.func9,Try.ntmps9
 try go_wp2_with (first|((with_reducible refine zK (N:=2) rfl ?_);refine zI ?hg (N:=2) ?hd (cs:=#[.int .i64 a0_0,.int .i64 a0_1,.string a0_2]) (t:=23) ?hr ?_;(case hd => rfl);(case hg => rfl);(case hr => first|(go_simp;done)|(go_simp;rfl));intro gb700 hg w57 hbox hb;have BK700:=zh (hbox);have GW700:=zh ((by rw [hg];exact (zB (by repeat (with_reducible first|exact HB.out|apply za|apply zb|apply zc))) : w.heap.size≤gb700));have GE700:=zh ((by rw [hg];exact (zB (by repeat (with_reducible first|exact HB.out|apply za|apply zb|apply zc))) : w.heap.size≤gb700));replace HB:=zh (zC (by repeat (with_reducible first|exact HB.out|apply za|apply zb|apply zc)) hb);clear hb hbox hg)|((with_reducible refine zK (N:=3) rfl ?_);refine zI ?hg (N:=3) ?hd (cs:=#[.int .i64 a1_0,.int .i64 a1_1,.string a1_2]) (t:=23) ?hr ?_;(case hd => rfl);(case hg => rfl);(case hr => first|(go_simp;done)|(go_simp;rfl));intro gb701 hg w58 hbox hb;have BK701:=zh (hbox);have GW701:=zh ((by rw [hg];exact (zB (by repeat (with_reducible first|exact HB.out|apply za|apply zb|apply zc|refine zd ?_ GE700.out))) : w.heap.size≤gb701));have GE701:=zh ((by rw [hg];exact (zB (by repeat (with_reducible first|exact HB.out|apply za|apply zb|apply zc|refine zd ?_ GE700.out))) : w.heap.size≤gb701));replace HB:=zh (zC (by repeat (with_reducible first|exact HB.out|apply za|apply zb|apply zc|refine zd ?_ GE700.out)) hb);have NB700_701:=zh ((by rw [hg];exact yc (yi (g:=gb700) (o:=.cells #[.int .i64 a0_0,.int .i64 a0_1,.string a0_2] 23 (0,0)) (by (with_reducible repeat (first|refine ze ?_ _|refine zf ?_|refine zg ?_ _));exact BK700.out)) : gb700≠gb701));have NB701_700:=zh ((by rw [hg];exact yd (yi (g:=gb700) (o:=.cells #[.int .i64 a0_0,.int .i64 a0_1,.string a0_2] 23 (0,0)) (by (with_reducible repeat (first|refine ze ?_ _|refine zf ?_|refine zg ?_ _));exact BK700.out)) : gb701≠gb700));replace BK700:=zh (zD (g:=gb700) (o:=.cells #[.int .i64 a0_0,.int .i64 a0_1,.string a0_2] 23 (0,0)) (by (with_reducible repeat (first|refine ze ?_ _|refine zf ?_|refine zg ?_ _));exact BK700.out) hb);clear hb hbox hg;have hnb59:=NB700_701.out;have hnc59:=NB701_700.out;have hcz60_0 : w58.cell? ⟨gb700,0,none⟩=some (.int .i64 a0_0):=(zz BK700.out 0).trans rfl;have hcz60_1 : w58.cell? ⟨gb700,1,none⟩=some (.int .i64 a0_1):=(zz BK700.out 1).trans rfl;have hcz60_2 : w58.cell? ⟨gb700,2,none⟩=some (.string a0_2):=(zz BK700.out 2).trans rfl;have hfz60_0:=zA BK700.out 0;have hfz60_1:=zA BK700.out 1;have hfz60_2:=zA BK700.out 2)|((with_reducible refine zJ (f:=14) rfl ?_);refine yj (some 12) rfl rfl Try.func14 (by kernel_rfl) rfl #[.agg #[.int .i64 a0_0,.int .i64 a0_1,.string a0_2],.int .i64 1048576] rfl (by (try simp only [zt,zu,zv]);first|done|rfl|(simp only [zw,zx];rfl)|(simp only [yr,ys,zV,zW];rfl)) ?_;(with_reducible refine (laws_szValue.calls  a0_0 a0_1 a0_2 1048576 t702 _ A3.out).mono ?_);rintro e w61 ⟨rfl,hb⟩;refine ⟨_,rfl,?_⟩;replace BK700:=zh (zD (g:=gb700) (o:=.cells #[.int .i64 a0_0,.int .i64 a0_1,.string a0_2] 23 (0,0)) (by (with_reducible repeat (first|refine ze ?_ _|refine zf ?_|refine zg ?_ _));exact BK700.out) hb);replace BK701:=zh (zD (g:=gb701) (o:=.cells #[.int .i64 a1_0,.int .i64 a1_1,.string a1_2] 23 (0,0)) (by (with_reducible repeat (first|refine ze ?_ _|refine zf ?_|refine zg ?_ _));exact BK701.out) hb);replace HB:=zh (zC (by repeat (with_reducible first|exact HB.out|apply za|apply zb|apply zc|refine zd ?_ GE700.out|refine zd ?_ GE701.out)) hb);(try clear hb);(try clear hb2);(try clear hk);(try clear hi);have hcz62_0 : w61.cell? ⟨gb701,0,none⟩=some (.int .i64 a1_0):=(zz BK701.out 0).trans rfl;have hcz62_1 : w61.cell? ⟨gb701,1,none⟩=some (.int .i64 a1_1):=(zz BK701.out 1).trans rfl;have hcz62_2 : w61.cell? ⟨gb701,2,none⟩=some (.string a1_2):=(zz BK701.out 2).trans rfl;have hfz62_0:=zA BK701.out 0;have hfz62_1:=zA BK701.out 1;have hfz62_2:=zA BK701.out 2)|((with_reducible refine zJ (f:=14) rfl ?_);refine yj (some 17) rfl rfl Try.func14 (by kernel_rfl) rfl #[.agg #[.int .i64 a1_0,.int .i64 a1_1,.string a1_2],.int .i64 t702] rfl (by (try simp only [zt,zu,zv]);first|done|rfl|(simp only [zw,zx];rfl)|(simp only [yr,ys,zV,zW];rfl)) ?_;(with_reducible refine (laws_szValue.calls  a1_0 a1_1 a1_2 t702 t703 _ A10.out).mono ?_);rintro e w63 ⟨rfl,hb⟩;refine ⟨_,rfl,?_⟩;replace BK700:=zh (zD (g:=gb700) (o:=.cells #[.int .i64 a0_0,.int .i64 a0_1,.string a0_2] 23 (0,0)) (by (with_reducible repeat (first|refine ze ?_ _|refine zf ?_|refine zg ?_ _));exact BK700.out) hb);replace BK701:=zh (zD (g:=gb701) (o:=.cells #[.int .i64 a1_0,.int .i64 a1_1,.string a1_2] 23 (0,0)) (by (with_reducible repeat (first|refine ze ?_ _|refine zf ?_|refine zg ?_ _));exact BK701.out) hb);replace HB:=zh (zC (by repeat (with_reducible first|exact HB.out|apply za|apply zb|apply zc|refine zd ?_ GE700.out|refine zd ?_ GE701.out)) hb);(try clear hb);(try clear hb2);(try clear hk);(try clear hi)))
 replace BK700:=zh (zf BK700.out);replace BK701:=zh (zf BK701.out);replace HB:=zh (zc HB.out);refine start_ (n:=10) (S:=fun w' => w'.cell? ⟨gb700,0,none⟩=some (.int .i64 a0_0)∧w'.cell? ⟨gb700,1,none⟩=some (.int .i64 a0_1)∧w'.cell? ⟨gb700,2,none⟩=some (.string a0_2)∧w'.cell? ⟨gb701,0,none⟩=some (.int .i64 a1_0)∧w'.cell? ⟨gb701,1,none⟩=some (.int .i64 a1_1)∧w'.cell? ⟨gb701,2,none⟩=some (.string a1_2)) (ds:=[]) (bm_ 0 10) (by kernel_rfl) rfl rfl ⟨(zz BK700.out 0).trans rfl,(zz BK700.out 1).trans rfl,(zz BK700.out 2).trans rfl,(zz BK701.out 0).trans rfl,(zz BK701.out 1).trans rfl,(zz BK701.out 2).trans rfl⟩ (fun hHeld => ?_);refine with_tabW laws_FnExactOrderValues.tab8 laws_FnExactOrderValues.bits8 (fun HT_ HW_ => ?_);generalize w63.drew=w64 at BK700 BK701 HB hHeld ⊢;refine take_ (i:=0) (N:=some 21) (v:=?_) (a':=?_) (bm_ 1 10) rfl rfl (yo HT_.out HW_.out (by kernel_rfl)) (fun _ _ _ h => h) (Or.inl ⟨by rfl,?_⟩) hHeld ?_ ?_;rotate_left
 ·
  rintro w' ⟨s0,s1,s2,s3,s4,s5⟩
  go_simp
  with_reducible rfl
 rotate_left
 ·
  simp only [Act.put,zi,zj,zk,zG,zH]
  rfl
 refine take_ (i:=2) (N:=some 23) (v:=?_) (a':=?_) #[true,false,true,false,false,false,false,false,false,false] rfl rfl (yo HT_.out HW_.out (by kernel_rfl)) (fun _ _ _ h => h) (Or.inl ⟨by rfl,?_⟩) hHeld ?_ ?_;rotate_left
 ·
  rintro w' ⟨s0,s1,s2,s3,s4,s5⟩
  go_simp
  with_reducible rfl
 rotate_left
 ·
  simp only [Act.put,zi,zj,zk,zG,zH]
  rfl
 refine one_ (i:=1) (N:=some 22) (bm_ 3 10) rfl rfl (one_of HT_.out (by kernel_rfl)) (by decide) (fun K hK => ?_);refine goes_ Try.func16 (by kernel_rfl) rfl #[.agg #[.int .i64 a0_0,.int .i64 a0_1,.string a0_2]] (by rfl) rfl rfl (by (try simp only [zt,zu,zv]);first|done|rfl|(simp only [zw,zx];rfl)|(simp only [yr,ys,zV,zW];rfl)) ?_
 with_reducible refine (laws_toValue.calls  a0_0 a0_1 a0_2 t704 t705 t706 _ A19.out).mono ?_
 rintro e w65 ⟨rfl,hb⟩;refine ⟨_,rfl,?_⟩;replace BK700:=zh (zD (g:=gb700) (o:=.cells #[.int .i64 a0_0,.int .i64 a0_1,.string a0_2] 23 (0,0)) (by (with_reducible repeat (first|refine ze ?_ _|refine zf ?_|refine zg ?_ _));exact BK700.out) hb);replace BK701:=zh (zD (g:=gb701) (o:=.cells #[.int .i64 a1_0,.int .i64 a1_1,.string a1_2] 23 (0,0)) (by (with_reducible repeat (first|refine ze ?_ _|refine zf ?_|refine zg ?_ _));exact BK701.out) hb);replace HB:=zh (zC (by repeat (with_reducible first|exact HB.out|apply za|apply zb|apply zc|refine zd ?_ GE700.out|refine zd ?_ GE701.out)) hb);(try clear hb);(try clear hb2);(try clear hk);(try clear hi);refine hK.out _ _ ⟨(zz BK700.out 0).trans rfl,(zz BK700.out 1).trans rfl,(zz BK700.out 2).trans rfl,(zz BK701.out 0).trans rfl,(zz BK701.out 1).trans rfl,(zz BK701.out 2).trans rfl⟩ (fun hHeld => ?_);clear hK K;refine norm_ (a':=?_) ?_ ?_;rotate_left
 ·
  show Act.put _ (some 22) _=_
  simp only [Act.put,zi,zj,zk,zG,zH]
  rfl
 refine one_ (i:=3) (N:=some 24) (bm_ 4 10) rfl rfl (one_of HT_.out (by kernel_rfl)) (by decide) (fun K hK => ?_);refine goes_ Try.func16 (by kernel_rfl) rfl #[.agg #[.int .i64 a1_0,.int .i64 a1_1,.string a1_2]] (by rfl) rfl rfl (by (try simp only [zt,zu,zv]);first|done|rfl|(simp only [zw,zx];rfl)|(simp only [yr,ys,zV,zW];rfl)) ?_
 with_reducible refine (laws_toValue.calls  a1_0 a1_1 a1_2 t707 t708 t709 _ A20.out).mono ?_
 rintro e w66 ⟨rfl,hb⟩;refine ⟨_,rfl,?_⟩;replace BK700:=zh (zD (g:=gb700) (o:=.cells #[.int .i64 a0_0,.int .i64 a0_1,.string a0_2] 23 (0,0)) (by (with_reducible repeat (first|refine ze ?_ _|refine zf ?_|refine zg ?_ _));exact BK700.out) hb);replace BK701:=zh (zD (g:=gb701) (o:=.cells #[.int .i64 a1_0,.int .i64 a1_1,.string a1_2] 23 (0,0)) (by (with_reducible repeat (first|refine ze ?_ _|refine zf ?_|refine zg ?_ _));exact BK701.out) hb);replace HB:=zh (zC (by repeat (with_reducible first|exact HB.out|apply za|apply zb|apply zc|refine zd ?_ GE700.out|refine zd ?_ GE701.out)) hb);(try clear hb);(try clear hb2);(try clear hk);(try clear hi);refine hK.out _ _ ⟨(zz BK700.out 0).trans rfl,(zz BK700.out 1).trans rfl,(zz BK700.out 2).trans rfl,(zz BK701.out 0).trans rfl,(zz BK701.out 1).trans rfl,(zz BK701.out 2).trans rfl⟩ (fun hHeld => ?_);clear hK K;refine norm_ (a':=?_) ?_ ?_;rotate_left
 ·
  show Act.put _ (some 24) _=_
  simp only [Act.put,zi,zj,zk,zG,zH]
  rfl
 refine one_ (i:=4) (N:=some 25) (bm_ 5 10) rfl rfl (one_of HT_.out (by kernel_rfl)) (by decide) (fun K hK => ?_);refine goes_ Try.func39 (by kernel_rfl) rfl #[.agg #[.int .i64 t704,.int .i64 t705,.string t706],.agg #[.int .i64 t707,.int .i64 t708,.string t709]] (by rfl) rfl rfl (by (try simp only [zt,zu,zv]);first|done|rfl|(simp only [zw,zx];rfl)|(simp only [yr,ys,zV,zW];rfl)) ?_
 with_reducible refine (spec_OrderValues.calls k  t704 t705 t706 t707 t708 t709 t710 t711 _ A21.out).mono ?_
 rintro e w67 ⟨rfl,hb⟩;refine ⟨_,rfl,?_⟩;replace BK700:=zh (zD (g:=gb700) (o:=.cells #[.int .i64 a0_0,.int .i64 a0_1,.string a0_2] 23 (0,0)) (by (with_reducible repeat (first|refine ze ?_ _|refine zf ?_|refine zg ?_ _));exact BK700.out) hb);replace BK701:=zh (zD (g:=gb701) (o:=.cells #[.int .i64 a1_0,.int .i64 a1_1,.string a1_2] 23 (0,0)) (by (with_reducible repeat (first|refine ze ?_ _|refine zf ?_|refine zg ?_ _));exact BK701.out) hb);replace HB:=zh (zC (by repeat (with_reducible first|exact HB.out|apply za|apply zb|apply zc|refine zd ?_ GE700.out|refine zd ?_ GE701.out)) hb);(try clear hb);(try clear hb2);(try clear hk);(try clear hi);refine hK.out _ _ ⟨(zz BK700.out 0).trans rfl,(zz BK700.out 1).trans rfl,(zz BK700.out 2).trans rfl,(zz BK701.out 0).trans rfl,(zz BK701.out 1).trans rfl,(zz BK701.out 2).trans rfl⟩ (fun hHeld => ?_);clear hK K;refine norm_ (a':=?_) ?_ ?_;rotate_left
 ·
  show Act.put _ (some 25) _=_
  simp only [Act.put,zi,zj,zk,zG,zH]
  rfl
 refine pure_ (i:=5) (N:=some 20) (v:=?_) (a':=?_) (bm_ 6 10) rfl rfl (any_of HT_.out (by kernel_rfl)) (fun _ _ _ h => h) (Or.inl ⟨by rfl,?_⟩) ?_ ?_;rotate_left
 ·
  intro w'
  go_simp
  with_reducible rfl
 rotate_left
 ·
  simp only [Act.put,zi,zj,zk,zG,zH]
  rfl
 refine pure_ (i:=6) (N:=some 26) (v:=?_) (a':=?_) (bm_ 7 10) rfl rfl (any_of HT_.out (by kernel_rfl)) (fun _ _ _ h => h) (Or.inl ⟨by rfl,?_⟩) ?_ ?_;rotate_left
 ·
  intro w'
  go_simp
  with_reducible rfl
 rotate_left
 ·
  simp only [Act.put,zi,zj,zk,zG,zH]
  rfl
 refine pure_ (i:=7) (N:=some 27) (v:=?_) (a':=?_) (bm_ 8 10) rfl rfl (any_of HT_.out (by kernel_rfl)) (fun _ _ _ h => h) (Or.inl ⟨by rfl,?_⟩) ?_ ?_;rotate_left
 ·
  intro w'
  go_simp
  with_reducible rfl
 rotate_left
 ·
  simp only [Act.put,zi,zj,zk,zG,zH]
  rfl
 refine pure_ (i:=8) (N:=some 6) (v:=?_) (a':=?_) (bm_ 9 10) rfl rfl (any_of HT_.out (by kernel_rfl)) (fun _ _ _ h => h) (Or.inl ⟨by rfl,?_⟩) ?_ ?_;rotate_left
 ·
  intro w'
  go_simp
  with_reducible rfl
 rotate_left
 ·
  simp only [Act.put,zi,zj,zk,zG,zH]
  rfl
 refine pure_ (i:=9) (N:=some 7) (v:=?_) (a':=?_) (bm_ 10 10) rfl rfl (any_of HT_.out (by kernel_rfl)) (fun _ _ _ h => h) (Or.inl ⟨by rfl,?_⟩) ?_ ?_;rotate_left
 ·
  intro w'
  go_simp
  with_reducible rfl
 rotate_left
 ·
  simp only [Act.put,zi,zj,zk,zG,zH]
  rfl
 refine done_ (done_of HT_.out (by kernel_rfl)) ?_
 try go_wp2
 replace BK700:=zh (zf BK700.out);replace BK701:=zh (zf BK701.out);replace HB:=zh (zc HB.out);refine start_ (n:=10) (S:=fun w' => w'.cell? ⟨gb700,0,none⟩=some (.int .i64 a0_0)∧w'.cell? ⟨gb700,1,none⟩=some (.int .i64 a0_1)∧w'.cell? ⟨gb700,2,none⟩=some (.string a0_2)∧w'.cell? ⟨gb701,0,none⟩=some (.int .i64 a1_0)∧w'.cell? ⟨gb701,1,none⟩=some (.int .i64 a1_1)∧w'.cell? ⟨gb701,2,none⟩=some (.string a1_2)) (ds:=[]) (bm_ 0 10) (by kernel_rfl) rfl rfl ⟨(zz BK700.out 0).trans rfl,(zz BK700.out 1).trans rfl,(zz BK700.out 2).trans rfl,(zz BK701.out 0).trans rfl,(zz BK701.out 1).trans rfl,(zz BK701.out 2).trans rfl⟩ (fun hHeld => ?_);refine with_tabW laws_FnExactOrderValues.tab9 laws_FnExactOrderValues.bits9 (fun HT_ HW_ => ?_);generalize w67.drew=w68 at BK700 BK701 HB hHeld ⊢;refine take_ (i:=0) (N:=some 29) (v:=?_) (a':=?_) (bm_ 1 10) rfl rfl (yo HT_.out HW_.out (by kernel_rfl)) (fun _ _ _ h => h) (Or.inl ⟨by rfl,?_⟩) hHeld ?_ ?_;rotate_left
 ·
  rintro w' ⟨s0,s1,s2,s3,s4,s5⟩
  go_simp
  with_reducible rfl
 rotate_left
 ·
  simp only [Act.put,zi,zj,zk,zG,zH]
  rfl
 refine take_ (i:=2) (N:=some 31) (v:=?_) (a':=?_) #[true,false,true,false,false,false,false,false,false,false] rfl rfl (yo HT_.out HW_.out (by kernel_rfl)) (fun _ _ _ h => h) (Or.inl ⟨by rfl,?_⟩) hHeld ?_ ?_;rotate_left
 ·
  rintro w' ⟨s0,s1,s2,s3,s4,s5⟩
  go_simp
  with_reducible rfl
 rotate_left
 ·
  simp only [Act.put,zi,zj,zk,zG,zH]
  rfl
 refine one_ (i:=1) (N:=some 30) (bm_ 3 10) rfl rfl (one_of HT_.out (by kernel_rfl)) (by decide) (fun K hK => ?_);refine goes_ Try.func16 (by kernel_rfl) rfl #[.agg #[.int .i64 a0_0,.int .i64 a0_1,.string a0_2]] (by rfl) rfl rfl (by (try simp only [zt,zu,zv]);first|done|rfl|(simp only [zw,zx];rfl)|(simp only [yr,ys,zV,zW];rfl)) ?_
 with_reducible refine (laws_toValue.calls  a0_0 a0_1 a0_2 t712 t713 t714 _ A22.out).mono ?_
 rintro e w69 ⟨rfl,hb⟩;refine ⟨_,rfl,?_⟩;replace BK700:=zh (zD (g:=gb700) (o:=.cells #[.int .i64 a0_0,.int .i64 a0_1,.string a0_2] 23 (0,0)) (by (with_reducible repeat (first|refine ze ?_ _|refine zf ?_|refine zg ?_ _));exact BK700.out) hb);replace BK701:=zh (zD (g:=gb701) (o:=.cells #[.int .i64 a1_0,.int .i64 a1_1,.string a1_2] 23 (0,0)) (by (with_reducible repeat (first|refine ze ?_ _|refine zf ?_|refine zg ?_ _));exact BK701.out) hb);replace HB:=zh (zC (by repeat (with_reducible first|exact HB.out|apply za|apply zb|apply zc|refine zd ?_ GE700.out|refine zd ?_ GE701.out)) hb);(try clear hb);(try clear hb2);(try clear hk);(try clear hi);refine hK.out _ _ ⟨(zz BK700.out 0).trans rfl,(zz BK700.out 1).trans rfl,(zz BK700.out 2).trans rfl,(zz BK701.out 0).trans rfl,(zz BK701.out 1).trans rfl,(zz BK701.out 2).trans rfl⟩ (fun hHeld => ?_);clear hK K;refine norm_ (a':=?_) ?_ ?_;rotate_left
 ·
  show Act.put _ (some 30) _=_
  simp only [Act.put,zi,zj,zk,zG,zH]
  rfl
 refine one_ (i:=3) (N:=some 32) (bm_ 4 10) rfl rfl (one_of HT_.out (by kernel_rfl)) (by decide) (fun K hK => ?_);refine goes_ Try.func16 (by kernel_rfl) rfl #[.agg #[.int .i64 a1_0,.int .i64 a1_1,.string a1_2]] (by rfl) rfl rfl (by (try simp only [zt,zu,zv]);first|done|rfl|(simp only [zw,zx];rfl)|(simp only [yr,ys,zV,zW];rfl)) ?_
 with_reducible refine (laws_toValue.calls  a1_0 a1_1 a1_2 t715 t716 t717 _ A23.out).mono ?_
 rintro e w70 ⟨rfl,hb⟩;refine ⟨_,rfl,?_⟩;replace BK700:=zh (zD (g:=gb700) (o:=.cells #[.int .i64 a0_0,.int .i64 a0_1,.string a0_2] 23 (0,0)) (by (with_reducible repeat (first|refine ze ?_ _|refine zf ?_|refine zg ?_ _));exact BK700.out) hb);replace BK701:=zh (zD (g:=gb701) (o:=.cells #[.int .i64 a1_0,.int .i64 a1_1,.string a1_2] 23 (0,0)) (by (with_reducible repeat (first|refine ze ?_ _|refine zf ?_|refine zg ?_ _));exact BK701.out) hb);replace HB:=zh (zC (by repeat (with_reducible first|exact HB.out|apply za|apply zb|apply zc|refine zd ?_ GE700.out|refine zd ?_ GE701.out)) hb);(try clear hb);(try clear hb2);(try clear hk);(try clear hi);refine hK.out _ _ ⟨(zz BK700.out 0).trans rfl,(zz BK700.out 1).trans rfl,(zz BK700.out 2).trans rfl,(zz BK701.out 0).trans rfl,(zz BK701.out 1).trans rfl,(zz BK701.out 2).trans rfl⟩ (fun hHeld => ?_);clear hK K;refine norm_ (a':=?_) ?_ ?_;rotate_left
 ·
  show Act.put _ (some 32) _=_
  simp only [Act.put,zi,zj,zk,zG,zH]
  rfl
 refine one_ (i:=4) (N:=some 33) (bm_ 5 10) rfl rfl (one_of HT_.out (by kernel_rfl)) (by decide) (fun K hK => ?_);refine goes_ Try.func40 (by kernel_rfl) rfl #[.agg #[.int .i64 t712,.int .i64 t713,.string t714],.agg #[.int .i64 t715,.int .i64 t716,.string t717]] (by rfl) rfl rfl (by (try simp only [zt,zu,zv]);first|done|rfl|(simp only [zw,zx];rfl)|(simp only [yr,ys,zV,zW];rfl)) ?_
 with_reducible refine (impl_OrderValues.calls k  t712 t713 t714 t715 t716 t717 t718 t719 _ A24.out).mono ?_
 rintro e w71 ⟨rfl,hb⟩;refine ⟨_,rfl,?_⟩;replace BK700:=zh (zD (g:=gb700) (o:=.cells #[.int .i64 a0_0,.int .i64 a0_1,.string a0_2] 23 (0,0)) (by (with_reducible repeat (first|refine ze ?_ _|refine zf ?_|refine zg ?_ _));exact BK700.out) hb);replace BK701:=zh (zD (g:=gb701) (o:=.cells #[.int .i64 a1_0,.int .i64 a1_1,.string a1_2] 23 (0,0)) (by (with_reducible repeat (first|refine ze ?_ _|refine zf ?_|refine zg ?_ _));exact BK701.out) hb);replace HB:=zh (zC (by repeat (with_reducible first|exact HB.out|apply za|apply zb|apply zc|refine zd ?_ GE700.out|refine zd ?_ GE701.out)) hb);(try clear hb);(try clear hb2);(try clear hk);(try clear hi);refine hK.out _ _ ⟨(zz BK700.out 0).trans rfl,(zz BK700.out 1).trans rfl,(zz BK700.out 2).trans rfl,(zz BK701.out 0).trans rfl,(zz BK701.out 1).trans rfl,(zz BK701.out 2).trans rfl⟩ (fun hHeld => ?_);clear hK K;refine norm_ (a':=?_) ?_ ?_;rotate_left
 ·
  show Act.put _ (some 33) _=_
  simp only [Act.put,zi,zj,zk,zG,zH]
  rfl
 refine pure_ (i:=5) (N:=some 28) (v:=?_) (a':=?_) (bm_ 6 10) rfl rfl (any_of HT_.out (by kernel_rfl)) (fun _ _ _ h => h) (Or.inl ⟨by rfl,?_⟩) ?_ ?_;rotate_left
 ·
  intro w'
  go_simp
  with_reducible rfl
 rotate_left
 ·
  simp only [Act.put,zi,zj,zk,zG,zH]
  rfl
 refine pure_ (i:=6) (N:=some 34) (v:=?_) (a':=?_) (bm_ 7 10) rfl rfl (any_of HT_.out (by kernel_rfl)) (fun _ _ _ h => h) (Or.inl ⟨by rfl,?_⟩) ?_ ?_;rotate_left
 ·
  intro w'
  go_simp
  with_reducible rfl
 rotate_left
 ·
  simp only [Act.put,zi,zj,zk,zG,zH]
  rfl
 refine pure_ (i:=7) (N:=some 35) (v:=?_) (a':=?_) (bm_ 8 10) rfl rfl (any_of HT_.out (by kernel_rfl)) (fun _ _ _ h => h) (Or.inl ⟨by rfl,?_⟩) ?_ ?_;rotate_left
 ·
  intro w'
  go_simp
  with_reducible rfl
 rotate_left
 ·
  simp only [Act.put,zi,zj,zk,zG,zH]
  rfl
 refine pure_ (i:=8) (N:=some 8) (v:=?_) (a':=?_) (bm_ 9 10) rfl rfl (any_of HT_.out (by kernel_rfl)) (fun _ _ _ h => h) (Or.inl ⟨by rfl,?_⟩) ?_ ?_;rotate_left
 ·
  intro w'
  go_simp
  with_reducible rfl
 rotate_left
 ·
  simp only [Act.put,zi,zj,zk,zG,zH]
  rfl
 refine pure_ (i:=9) (N:=some 9) (v:=?_) (a':=?_) (bm_ 10 10) rfl rfl (any_of HT_.out (by kernel_rfl)) (fun _ _ _ h => h) (Or.inl ⟨by rfl,?_⟩) ?_ ?_;rotate_left
 ·
  intro w'
  go_simp
  with_reducible rfl
 rotate_left
 ·
  simp only [Act.put,zi,zj,zk,zG,zH]
  rfl
 refine done_ (done_of HT_.out (by kernel_rfl)) ?_
 try go_wp2
 go_ret
 exact ⟨by first|rfl|(simp [yt,yu] <;> rfl)|(simp [*,yt,yu] <;> rfl),by repeat (with_reducible first|exact HB.out|apply za|apply zb|apply zc|refine zd ?_ GE700.out|refine zd ?_ GE701.out)⟩

end Go.Proofs.Ytpmeglcmhiihoaa.Q
end
section
namespace Go.Proofs.YtpmeglcmhiihoaaW.PrintOpen
open Go.RowKit Go.ChangeShapes Go.WideShapes Go.ChangeAt Go.Proofs.YtpmeglcmhiihoaaW.PrintWords
def Opens {α : Type} (P : Program) (d : Kd α) (t : TypeId) (good : α→Prop) : Prop :=
 ∀ (H : Type) (enc : TypeId×Value→H) (w : World) (base : Nat) (spare : Nat→Bool) (held : Bool) (fuel : Nat) (cs : List Value) (x : DataW H×List MemPlace),
  DataW.trod enc P w base spare held fuel t cs=some x → ∃ a,d.K w a cs∧good a
variable {P : Program}
theorem opens_int {t : TypeId} {k : IntKind} (ht : P.underlying t=some (.int k)) : Opens P (Kd.int k) t (fun n => (Lit.int k n).wf=true):=by
 intro H enc w base spare held fuel cs x h;obtain ⟨n,hcs,_,hw⟩:=DataW.trod_int ht h;exact ⟨n,hcs,hw⟩
theorem opens_string {t : TypeId} (ht : P.underlying t=some .string) : Opens P Kd.string t (fun s => s.size≤9223372036854775807):=by
 intro H enc w base spare held fuel cs x h;obtain ⟨s,hcs,_,hs⟩:=DataW.trod_string ht h;exact ⟨s,hcs,by unfold maxLen at hs;exact hs⟩
def OpensF {α : Type} (P : Program) (d : Kd α) (fs : List Field) (off : Nat) (good : α→Prop) : Prop :=
 ∀ (H : Type) (enc : TypeId×Value→H) (w : World) (base : Nat) (spare : Nat→Bool) (held : Bool) (fuel : Nat) (cs : List Value),off + d.sz≤cs.length →
  (∀ f ∈ fs,∃ x,DataW.trod enc P w base spare held fuel f.type ((cs.drop f.offset).take (P.cellsOf f.type))=some x) → ∃ a,d.K w a ((cs.drop off).take d.sz)∧good a
theorem opensF_one {α : Type} {d : Kd α} {f : Field} {off : Nat} {g : α→Prop} (ho : f.offset=off) (hc : P.cellsOf f.type=d.sz) (h : Opens P d f.type g) : OpensF P d [f] off g:=by
 intro H enc w base spare held fuel cs _ hf;obtain ⟨x,hx⟩:=hf f (by simp);obtain ⟨a,hk,hg⟩:=h H enc w base spare held fuel _ x hx;rw [ho,hc] at hk;exact ⟨a,hk,hg⟩
theorem opensF_cons {α β : Type} {d : Kd α} {d' : Kd β} {f : Field} {fs : List Field} {off : Nat} {g : α→Prop} {g' : β→Prop} (ho : f.offset=off) (hc : P.cellsOf f.type=d.sz) (h : Opens P d f.type g) (h' : OpensF P d' fs (off + d.sz) g') :
  OpensF P (Kd.pair d d') (f :: fs) off (fun x => g x.1∧g' x.2):=by
 intro H enc w base spare held fuel cs hl hf;obtain ⟨x,hx⟩:=hf f (by simp);obtain ⟨a,hk,hg⟩:=h H enc w base spare held fuel _ x hx;have hl2 : off + (d.sz + d'.sz)≤cs.length:=hl;obtain ⟨b,hk',hg'⟩:=h' H enc w base spare held fuel cs (by omega) (fun f' hf' => hf f' (by simp [hf']));rw [ho,hc] at hk;refine ⟨(a,b),⟨_,_,?_,hk,hk'⟩,hg,hg'⟩;show (cs.drop off).take (d.sz + d'.sz)=_;rw [List.take_add,List.drop_drop]
theorem opens_struct {α β : Type} {t : TypeId} {fs : Array Field} {d : Kd α} {g : α→Prop} {f : β→α} (f' : α→β) (hf : ∀ a,f (f' a)=a) (ht : P.underlying t=some (.struct fs)) (hc : P.cellsOf t=d.sz) (h : OpensF P d fs.toList 0 g) :
  Opens P (Kd.iso d f) t (fun b => g (f b)):=by
 intro H enc w base spare held fuel cs x hx;obtain ⟨xs,n,_,_,hl,hlen,hxs⟩:=DataW.trod_struct ht hx
 obtain ⟨a,hk,hg⟩:=h H enc w base spare held n cs (by omega) (fun y hy => by
  obtain ⟨i,hi⟩:=List.mem_iff_getElem?.1 hy;have:=hxs i y (by simpa using hi)
  have hlt : i<xs.length:=by
   have:=(List.getElem?_eq_some_iff.1 hi).1;rw [hlen]
   simpa using this
  rw [List.getElem?_eq_getElem hlt] at this
  exact ⟨_,this⟩)
 rw [List.drop_zero,show d.sz=cs.length by omega,List.take_length] at hk;exact ⟨f' a,by show d.K w (f (f' a)) cs;rw [hf];exact hk,by show g (f (f' a));rw [hf];exact hg⟩
theorem arg_struct {α : Type} {d : Kd α} {t : TypeId} {fs : Array Field} {g : α→Prop} {H : Type} {enc : TypeId×Value→H} {w : World} {base b0 : Nat} {spare : Nat→Bool} {held : Bool} {r : Reach} {v : Value} {dd : DataW H} {p : List MemPlace}
  (ht : P.underlying t=some (.struct fs)) (h : Opens P d t g) (hv : Value.okWide P w r b0 t v) (hd : DataW.Trod enc P w base spare held t v dd p) : ∃ (a : α) (cs : List Value),v = .agg ⟨cs⟩∧d.K w a cs∧g a:=by
 obtain ⟨cs,rfl,_⟩:=okWide_struct ht hv;obtain ⟨fuel,hf⟩:=hd;obtain ⟨a,hk,hg⟩:=h H enc w base spare held fuel _ _ hf;exact ⟨a,cs.toList,rfl,hk,hg⟩
end Go.Proofs.YtpmeglcmhiihoaaW.PrintOpen
end
section
namespace Go.Proofs.Ytpmeglcmhiihoaa.Q
open Go.RowKit Go.Proofs.YtpmeglcmhiihoaaW.PrintWords Go.Proofs.YtpmeglcmhiihoaaW.PrintLast Go.Proofs.YtpmeglcmhiihoaaW.PrintMore Go.Proofs.YtpmeglcmhiihoaaW.PrintOpen
def good23 (x_ : S23) : Prop:=((Lit.int .i64 x_.f0).wf=true)∧(((Lit.int .i64 x_.f1).wf=true)∧((x_.f2.size≤9223372036854775807)))
theorem opens23 : Opens Try.prog k23 23 good23 :=
 opens_struct (f:=(fun x : S23 => (x.f0,x.f1,x.f2))) (fun ⟨x0,x1,x2⟩ => ⟨x0,x1,x2⟩) (fun _ => rfl) Try.underlying23 (by kernel_rfl) (opensF_cons rfl (by kernel_rfl) (opens_int Try.underlying3) (opensF_cons rfl (by kernel_rfl) (opens_int Try.underlying3) (opensF_one rfl (by kernel_rfl) (opens_string Try.underlying9))))
end Go.Proofs.Ytpmeglcmhiihoaa.Q
end
section
namespace Go.Proofs.Ytpmeglcmhiihoaa.Q
def laws_FnExactOrderValues.Pure : Prop:=∀ (x0 : S23) (x1 : S23),(good23 x0)→(good23 x1) → ∃ k,laws_FnExactOrderValues.f k x0.f0 x0.f1 x0.f2 x1.f0 x1.f1 x1.f2=some true
end Go.Proofs.Ytpmeglcmhiihoaa.Q
end
section
namespace Go.Proofs.YtpmeglcmhiihoaaW.Pl
open Go Go.RowKit Go.Proofs.YtpmeglcmhiihoaaW.PrintWords Go.Proofs.YtpmeglcmhiihoaaW.PrintMore
theorem w64 {i : Int} (h0 : -9223372036854775808≤i) (h1 : i≤9223372036854775807) : wrap64 i=i:=by unfold wrap64;omega
theorem fuel {k d : Nat} (h : d<k) : ∃ m,k=m + 1∧d≤m:=⟨k - 1,by omega,by omega⟩
theorem rd_at (xs : List Int) (i : Nat) (h : i<xs.length) : rd xs (i : Int)=xs[i]:=by
 unfold rd;simp [List.getD,h]
theorem getD_at {α : Type} (d : α) (xs : List α) (i : Nat) (h : i<xs.length) : xs.getD (i : Int).toNat d=xs[i]:=by
 simp [List.getD,h]
theorem drop_at {α : Type} (xs : List α) (i : Nat) (h : i<xs.length) : xs.drop i=xs[i] :: xs.drop (i + 1):=List.drop_eq_getElem_cons h
theorem ba_toList (a : ByteArray) : a.toList=a.data.toList:=ByteArray.toList_eq a
theorem ba_ext {a b : ByteArray} (h : a.toList=b.toList) : a=b:=by
 rw [ba_toList,ba_toList] at h
 cases a;cases b
 simp at h;rw [h]
def all2 {α β : Type} (e : α→β→Bool) : List α→List β→Bool
 | [],_ => true
 | _ :: _,[] => true
 | x :: xs,y :: ys => e x y && all2 e xs ys
def first {α : Type} (p : α→Bool) : List α→Nat→Int
 | [],_ => -1
 | x :: xs,i => if p x=true then i else first p xs (i + 1)
theorem first_any {α : Type} (p : α→Bool) : ∀ (xs : List α) (i : Nat),decide (first p xs i ≥ 0)=xs.any p
 | [],i => rfl
 | x :: xs,i => by
  by_cases h : p x=true
  ·
   simp [first,h]
  simp only [first,if_neg h,List.any_cons,first_any p xs (i + 1)];simp [h]
theorem first_loop {α : Type} (g : Nat→Int→Option Int) (xs : List α) (p : α→Bool)
  (hstep : ∀ (k i : Nat) (h : i<xs.length),g (k + 1) (i : Int)=if p xs[i]=true then some (i : Int) else g k ((i + 1 : Nat) : Int))
  (hend : ∀ k,g (k + 1) (xs.length : Int)=some (-1)) : ∀ (d k i : Nat),i + d=xs.length→d<k→g k (i : Int)=some (first p (xs.drop i) i):=by
 intro d
 induction d with
 | zero =>
  intro k i hi hk;obtain ⟨k,rfl,_⟩:=fuel hk;obtain rfl : i=xs.length:=by omega
  rw [hend,List.drop_length];rfl
 | succ d ih =>
  intro k i hi hk;obtain ⟨k,rfl,_⟩:=fuel hk;have hlt : i<xs.length:=by omega
  rw [hstep k i hlt,drop_at xs i hlt]
  by_cases h : p xs[i]=true
  ·
   rw [if_pos h]
   simp [first,h]
  rw [if_neg h,ih k (i + 1) (by omega) (by omega)];simp [first,h]
def total {α : Type} (s : α→Nat) : List α→Nat
 | [] => 0
 | x :: xs => s x + total s xs
def less {α : Type} (s : α→Nat) : List α→Int→Int
 | [],l => l
 | x :: xs,l => if l - s x<0 then -1 else less s xs (l - s x)
def Eve {α : Type} (g : Nat→Option α) (v : α) : Prop:=∃ K,∀ k,K≤k→g k=some v
theorem Eve.one {α : Type} {v : α} : Eve (fun _ => some v) v:=⟨0,fun _ _ => rfl⟩
theorem Eve.all {α : Type} {g : Nat→Option α} {v : α} (h : ∀ k,g k=some v) : Eve g v:=⟨0,fun k _ => h k⟩
theorem Eve.of {α : Type} {g : Nat→Option α} {v : α} {n : Nat} (h : ∀ k,n<k→g k=some v) : Eve g v:=⟨n + 1,fun k hk => h k (by omega)⟩
theorem Eve.succ {α : Type} {g : Nat→Option α} {v : α} (h : Eve (fun k => g (k + 1)) v) : Eve g v:=by
 obtain ⟨K,h⟩:=h;refine ⟨K + 1,fun k hk => ?_⟩;obtain ⟨k,rfl⟩ : ∃ m,k=m + 1:=⟨k - 1,by omega⟩;exact h k (by omega)
theorem Eve.bind {α β : Type} {g : Nat→Option α} {f : Nat→α→Option β} {v : α} {u : β} (h : Eve g v) (h2 : Eve (fun k => f k v) u) : Eve (fun k => (g k).bind (f k)) u:=by
 obtain ⟨K,h⟩:=h;obtain ⟨K2,h2⟩:=h2;refine ⟨max K K2,fun k hk => ?_⟩;show (g k).bind (f k)=some u;rw [h k (by omega),Option.bind_some];exact h2 k (by omega)
theorem Eve.ite {α : Type} {c : Prop} [Decidable c] {a b : Nat→Option α} {v : α} (h1 : c→Eve a v) (h2 : ¬ c→Eve b v) : Eve (fun k => if c then a k else b k) v:=by
 by_cases h : c
 ·
  simp only [if_pos h];exact h1 h
 simp only [if_neg h];exact h2 h
theorem Eve.get {α : Type} {g : Nat→Option α} {v : α} (h : Eve g v) : ∃ k,g k=some v:=by
 obtain ⟨K,h⟩:=h;exact ⟨K,h K (by omega)⟩
theorem Eve.eq {α : Type} {g : Nat→Option α} {v u : α} (h : Eve g v) (e : v=u) : Eve g u:=e ▸ h
theorem Eve.congr {α : Type} {g f : Nat→Option α} {v : α} (h : Eve g v) (e : ∀ k,f k=g k) : Eve f v:=by
 obtain ⟨K,h⟩:=h;exact ⟨K,fun k hk => by rw [e,h k hk]⟩
theorem ev_loop {σ α β : Type} (xs : List α) (g : Nat→σ→Int→Option β) (R : Nat→σ→List α→β) (I : Nat→σ→Prop)
  (hend : ∀ s,I xs.length s→Eve (fun k => g (k + 1) s (xs.length : Int)) (R xs.length s []))
  (hstep : ∀ (i : Nat) (h : i<xs.length) (s : σ),I i s→(∀ s',I (i + 1) s' → Eve (fun k => g k s' ((i + 1 : Nat) : Int)) (R (i + 1) s' (xs.drop (i + 1)))) →
   Eve (fun k => g (k + 1) s (i : Int)) (R i s (xs[i] :: xs.drop (i + 1)))) :
  ∀ (d i : Nat) (s : σ),i + d=xs.length→I i s→Eve (fun k => g k s (i : Int)) (R i s (xs.drop i)):=by
 intro d
 induction d with
 | zero =>
  intro i s hi hI;obtain rfl : i=xs.length:=by omega
  rw [List.drop_length];exact Eve.succ (hend s hI)
 | succ d ih =>
  intro i s hi hI;have hlt : i<xs.length:=by omega
  rw [drop_at xs i hlt];exact Eve.succ (hstep i hlt s hI (fun s' h' => ih (i + 1) s' (by omega) h'))
theorem ev_loop0 {σ α β : Type} (xs : List α) (g : Nat→σ→Int→Option β) (R : Nat→σ→List α→β) (I : Nat→σ→Prop)
  (hend : ∀ s,I xs.length s→Eve (fun k => g (k + 1) s (xs.length : Int)) (R xs.length s []))
  (hstep : ∀ (i : Nat) (h : i<xs.length) (s : σ),I i s→(∀ s',I (i + 1) s' → Eve (fun k => g k s' ((i + 1 : Nat) : Int)) (R (i + 1) s' (xs.drop (i + 1)))) →
   Eve (fun k => g (k + 1) s (i : Int)) (R i s (xs[i] :: xs.drop (i + 1)))) (s : σ) (h0 : I 0 s) : Eve (fun k => g k s 0) (R 0 s xs):=by
 have:=ev_loop xs g R I hend hstep xs.length 0 s (by omega) h0
 simpa using this
end Go.Proofs.YtpmeglcmhiihoaaW.Pl
end
section
namespace Go.Proofs.Ytpmeglcmhiihoaa.Pure
open Go Go.RowKit Go.Proofs.Ytpmeglcmhiihoaa.Q Go.Proofs.YtpmeglcmhiihoaaW.PrintWords Go.Proofs.YtpmeglcmhiihoaaW.PrintLast Go.Proofs.YtpmeglcmhiihoaaW.PrintMore Go.Proofs.YtpmeglcmhiihoaaW.Pl
theorem wi {i : Nat} (h : i≤9223372036854775806) : wrap64 ((i : Int) + 1)=((i + 1 : Nat) : Int):=w64 (by omega) (by omega)
theorem w64m (y : Int) : wrap64 y=(y + 9223372036854775808) % 18446744073709551616 - 9223372036854775808:=by unfold wrap64;omega
def stp (x b : Int) : Int:=wrap64 (wrap64 (x * 256) + wrap64 b)
theorem or_byte (x b : Int) (h0 : 0≤b) (h1 : b≤255) : Go.bits .or .i64 (wrap64 (x * 256)) (wrap64 b)=stp x b:=by
 have e1 : (BitVec.ofInt 64 (wrap64 (x * 256))).toNat=2 ^ 8 * (x % 72057594037927936).toNat:=by
  rw [BitVec.toNat_ofInt,w64m];omega
 have e2 : (BitVec.ofInt 64 (wrap64 b)).toNat=b.toNat:=by
  rw [BitVec.toNat_ofInt,w64m];omega
 have e3 : (BitVec.ofInt 64 (wrap64 (x * 256)) ||| BitVec.ofInt 64 (wrap64 b)).toNat=2 ^ 8 * (x % 72057594037927936).toNat + b.toNat:=by
  rw [BitVec.toNat_or,e1,e2,Nat.two_pow_add_eq_or_of_lt (by omega)]
 show IntKind.wrap .i64 ((BitVec.ofInt 64 (wrap64 (x * 256)) ||| BitVec.ofInt 64 (wrap64 b)).toNat : Int)=_;rw [e3,i64_w];unfold stp;rw [w64m,w64m,w64m,w64m]
 omega
def bigV (l : List Int) : Int:=l.foldl stp 0
theorem bytes_in (a : ByteArray) : ∀ b ∈ bytesOf a,0≤b∧b≤255:=by
 intro b hb;obtain ⟨c,_,rfl⟩:=List.mem_map.1 hb;have:=c.toNat_lt
 omega
theorem bt_get (a : ByteArray) (i : Nat) (h : i<(bytesOf a).length) : bt a (i : Int)=(bytesOf a)[i]:=by
 rw [← rd_bytesOf,rd_at _ _ h]
theorem big_tells (l : List Int) (hl : l.length≤1048576) (hb : ∀ b ∈ l,0≤b∧b≤255) : Eve (fun k => impl_big.f k l) (bigV l):=by
 simp only [impl_big.f];refine ev_loop0 l (fun k (s : Int) i => impl_big.l0 k s l (l.length : Int) i) (fun _ s r => r.foldl stp s) (fun _ _ => True) (fun s _ => ?_) (fun i hi s _ ih => ?_) 0 trivial
 ·
  simp only [impl_big.l0]
  exact Eve.ite (fun h => absurd h (by omega)) (fun _ => Eve.one)
 have hx:=hb l[i] (List.getElem_mem hi);simp only [impl_big.l0];refine Eve.ite (fun _ => ?_) (fun h => absurd (by omega) h);refine Eve.ite (fun _ => ?_) (fun h => absurd (by omega) h);refine Eve.ite (fun _ => ?_) (fun h => absurd (by omega) h);simp only [rd_at _ _ hi,or_byte _ _ hx.1 hx.2,wi (show i≤9223372036854775806 by omega)];exact ih _ trivial
theorem of_tells (a : ByteArray) (hl : a.size≤1048576) : Eve (fun k => spec_l01Of.f k a) (bigV (bytesOf a)):=by
 have hn : (bytesOf a).length=a.size:=bytesOf_length a;simp only [spec_l01Of.f];refine ev_loop0 (bytesOf a) (fun k (s : Int) i => spec_l01Of.l0 k a s i) (fun _ s r => r.foldl stp s) (fun _ _ => True) (fun s _ => ?_) (fun i hi s _ ih => ?_) 0 trivial
 ·
  simp only [spec_l01Of.l0]
  exact Eve.ite (fun h => absurd h (by omega)) (fun _ => Eve.one)
 simp only [spec_l01Of.l0];refine Eve.ite (fun _ => ?_) (fun h => absurd (by omega) h);refine Eve.ite (fun _ => ?_) (fun h => absurd (by omega) h);simp only [bt_get a i hi,wi (show i≤9223372036854775806 by omega)];exact ih _ trivial
def zer (n : Nat) : ByteArray:=⟨(Lib.repeatL [0] n).toArray⟩
def takV (a : ByteArray) (f : Bool) (n : Nat) : ByteArray×ByteArray×Bool:=if a.size<n then (zer n,a,true) else (a.extract 0 n,a.extract n a.size,f)
def numV (a : ByteArray) (f : Bool) (n : Nat) : Int×ByteArray×Bool:=if a.size<n then (0,a,true) else (bigV (bytesOf (a.extract 0 n)),a.extract n a.size,f)
theorem take_tells (a : ByteArray) (f : Bool) (n : Nat) (hn : n≤65535) : impl_byteReader_take.f a f (n : Int)=some (takV a f n):=by
 unfold impl_byteReader_take.f takV
 by_cases h : a.size<n
 ·
  rw [if_pos (by omega),if_pos h]
  unfold strings_Repeat.f;rw [if_pos (by omega),if_pos (by rw [show (⟨#[0]⟩ : ByteArray).size=1 from rfl];omega),if_pos (by omega)]
  rfl
 rw [if_neg (by omega),if_pos (by omega),if_pos (by omega),if_neg h]
 rfl
theorem zer_size (n : Nat) : (zer n).size=n:=by
 show (Lib.repeatL [0] n).toArray.size=n;rw [List.size_toArray,Lib.repeatL_length];simp
theorem fold_zero : ∀ n : Nat,((Lib.repeatL [0] n).map fun b : UInt8 => (b.toNat : Int)).foldl stp 0=0
 | 0 => rfl
 | n + 1 => by
  have e : stp 0 0=0:=by unfold stp;rw [w64m,w64m,w64m];omega
  simp only [Lib.repeatL,List.cons_append,List.nil_append,List.map_cons,List.foldl_cons];rw [show ((0 : UInt8).toNat : Int)=0 from rfl,e];exact fold_zero n
theorem big_zer (n : Nat) : bigV (bytesOf (zer n))=0:=by
 unfold bigV bytesOf zer;exact fold_zero n
theorem num_tells (a : ByteArray) (f : Bool) (n : Nat) (hn : n≤65535) : Eve (fun k => impl_byteReader_num.f k a f (n : Int)) (numV a f n):=by
 simp only [impl_byteReader_num.f,take_tells a f n hn,Option.bind_some];unfold takV numV
 by_cases h : a.size<n
 ·
  simp only [if_pos h]
  have hz:=zer_size n;refine Eve.ite (fun _ => ?_) (fun h => absurd (by omega) h);refine Eve.bind (big_tells _ (by rw [bytesOf_length,hz];omega) (bytes_in _)) ?_;rw [big_zer];exact Eve.one
 simp only [if_neg h];have hz : (a.extract 0 n).size≤n:=by rw [ByteArray.size_extract];omega
 refine Eve.ite (fun _ => ?_) (fun h => absurd (by omega) h);exact Eve.bind (big_tells _ (by rw [bytesOf_length];omega) (bytes_in _)) Eve.one
theorem big1 (x : Int) (h : 0≤x∧x≤255) : bigV [x]=x:=by
 simp only [bigV,List.foldl_cons,List.foldl_nil,stp];rw [w64m,w64m,w64m];omega
theorem big2 (x y : Int) (h : 0≤x∧x≤255) (h2 : 0≤y∧y≤255) : 0≤bigV [x,y]∧bigV [x,y]≤65535:=by
 simp only [bigV,List.foldl_cons,List.foldl_nil,stp];simp only [w64m];omega
theorem len1 {l : List Int} (h : l.length=1) : ∃ x,l=[x]:=by
 match l,h with
 | [x],_ => exact ⟨x,rfl⟩
theorem len2 {l : List Int} (h : l.length=2) : ∃ x y,l=[x,y]:=by
 match l,h with
 | [x,y],_ => exact ⟨x,y,rfl⟩
theorem bytes_ext1 (a : ByteArray) (i : Nat) (h : i<a.size) : bigV (bytesOf (a.extract i (i + 1)))=bt a (i : Int):=by
 have hl : (bytesOf (a.extract i (i + 1))).length=1:=by rw [bytesOf_length,ByteArray.size_extract];omega
 obtain ⟨x,hx⟩:=len1 hl;have h2:=bytes_in (a.extract i (i + 1)) x (by rw [hx];simp);have h3:=bt_get (a.extract i (i + 1)) 0 (by omega);rw [hx,big1 x h2];simp only [hx,List.getElem_cons_zero] at h3;rw [← h3];unfold bt;have e0 : (((0 : Nat) : Int)).toNat=0:=rfl;have e1 : ((i : Int)).toNat=i:=Int.toNat_natCast i;simp only [e0,e1];rw [dif_pos (by rw [ByteArray.size_extract];omega),dif_pos h]
 congr 2
 rw [ByteArray.getElem_extract];simp
theorem bytes_ext2 (a : ByteArray) (i : Nat) (h : i + 2≤a.size) : 0≤bigV (bytesOf (a.extract i (i + 2)))∧bigV (bytesOf (a.extract i (i + 2)))≤65535:=by
 have hl : (bytesOf (a.extract i (i + 2))).length=2:=by rw [bytesOf_length,ByteArray.size_extract];omega
 obtain ⟨x,y,hx⟩:=len2 hl;have hb:=bytes_in (a.extract i (i + 2));rw [hx] at hb ⊢;exact big2 x y (hb x (by simp)) (hb y (by simp))
abbrev IVal:=S26
abbrev eB : ByteArray:=⟨#[]⟩
abbrev Rd:=Int×Int×ByteArray×ByteArray×Bool
def valV (a : ByteArray) (f : Bool) : Rd :=
  let q:=numV a f 1
  if q.1=1 then (q.1,(numV q.2.1 q.2.2 1).1,eB,(numV q.2.1 q.2.2 1).2.1,(numV q.2.1 q.2.2 1).2.2)
  else if q.1=2 then (q.1,wrap64 ((numV q.2.1 q.2.2 8).1 - 4611686018427387904),eB,(numV q.2.1 q.2.2 8).2.1,(numV q.2.1 q.2.2 8).2.2)
  else if q.1=3∨q.1=4∨q.1=5 then
    let r:=numV q.2.1 q.2.2 2
    (q.1,0,(takV r.2.1 r.2.2 r.1.toNat).1,(takV r.2.1 r.2.2 r.1.toNat).2.1,(takV r.2.1 r.2.2 r.1.toNat).2.2)
  else (q.1,0,eB,q.2.1,q.2.2)
theorem num2_in (a : ByteArray) (f : Bool) : 0≤(numV a f 2).1∧(numV a f 2).1≤65535:=by
  unfold numV
  by_cases h : a.size<2
  · rw [if_pos h];simp
  rw [if_neg h];exact bytes_ext2 a 0 (by omega)
theorem j0_tells (q x1 : Int) (t : ByteArray) (a : ByteArray) (f : Bool) : Eve (fun k => impl_byteReader_value.j0 k true a f q x1 t) (q,x1,(takV (numV a f 2).2.1 (numV a f 2).2.2 (numV a f 2).1.toNat).1,(takV (numV a f 2).2.1 (numV a f 2).2.2 (numV a f 2).1.toNat).2.1,(takV (numV a f 2).2.1 (numV a f 2).2.2 (numV a f 2).1.toNat).2.2):=by
  refine Eve.succ ?_;simp only [impl_byteReader_value.j0,if_true];refine Eve.bind (num_tells a f 2 (by omega)) ?_;have hb:=num2_in a f;have ht:=take_tells (numV a f 2).2.1 (numV a f 2).2.2 (numV a f 2).1.toNat (by omega);rw [show (((numV a f 2).1.toNat : Nat) : Int)=(numV a f 2).1 from Int.toNat_of_nonneg hb.1] at ht;simp only [ht,Option.bind_some];exact Eve.one
theorem value_tells (a : ByteArray) (f : Bool) : Eve (fun k => impl_byteReader_value.f k a f) (valV a f):=by
  simp only [impl_byteReader_value.f];refine Eve.bind (num_tells a f 1 (by omega)) ?_;unfold valV;generalize numV a f 1=q;simp only;refine Eve.ite (fun h => ?_) (fun h => ?_)
  · rw [if_pos h]
    exact Eve.bind (num_tells q.2.1 q.2.2 1 (by omega)) Eve.one
  rw [if_neg h];refine Eve.ite (fun h2 => ?_) (fun h2 => ?_)
  · rw [if_pos h2]
    exact Eve.bind (num_tells q.2.1 q.2.2 8 (by omega)) Eve.one
  rw [if_neg h2];refine Eve.ite (fun h3 => ?_) (fun h3 => ?_)
  · rw [if_pos (.inl h3)]
    simp only [h3,beq_self_eq_true];exact j0_tells _ _ _ _ _
  refine Eve.ite (fun h4 => ?_) (fun h4 => ?_)
  · rw [if_pos (.inr (.inl h4))]
    simp only [h4,beq_self_eq_true];exact j0_tells _ _ _ _ _
  by_cases h5 : q.1=5
  · rw [if_pos (.inr (.inr h5))]
    simp only [h5,beq_self_eq_true];exact j0_tells _ _ _ _ _
  rw [if_neg (by omega)];have : (q.1 == 5)=false:=by simpa using h5
  simp only [this];refine Eve.succ ?_;simp only [impl_byteReader_value.j0,Bool.false_eq_true,if_false];exact Eve.one
def nxtV (a : ByteArray) : Option (IVal×ByteArray) :=
  if a.size=0 then none
  else if bt a 0=0 then some (⟨0,0,eB⟩,a.extract 1 a.size)
  else if bt a 0=1 then (if a.size<2 then none else some (⟨1,bt a 1,eB⟩,a.extract 2 a.size))
  else if bt a 0=2 then (if a.size<9 then none else if bt a 1 > 127 then none else some (⟨2,wrap64 (bigV (bytesOf (a.extract 1 9)) - 4611686018427387904),eB⟩,a.extract 9 a.size))
  else if bt a 0=3∨bt a 0=4∨bt a 0=5 then
    (if a.size<3 then none else if (a.size : Int)<3 + bigV (bytesOf (a.extract 1 3)) then none
     else some (⟨bt a 0,0,a.extract 3 (3 + bigV (bytesOf (a.extract 1 3))).toNat⟩,a.extract (3 + bigV (bytesOf (a.extract 1 3))).toNat a.size))
  else none
def told (o : Option (IVal×ByteArray)) : Rd:=match o with|some (v,r) => (v.f0,v.f1,v.f2,r,true)|none => (0,0,eB,eB,false)
theorem wbt (a : ByteArray) (i : Int) : wrap64 (bt a i)=bt a i:=w64 (by have:=bt_range a i;omega) (by have:=bt_range a i;omega)
theorem n0_tells (a : ByteArray) (q : Int) (hs : a.size≤1048576) : Eve (fun k => spec_l01Next.j0 k a true q 0 eB)
    (told (if a.size<3 then none else if (a.size : Int)<3 + bigV (bytesOf (a.extract 1 3)) then none
     else some (⟨q,0,a.extract 3 (3 + bigV (bytesOf (a.extract 1 3))).toNat⟩,a.extract (3 + bigV (bytesOf (a.extract 1 3))).toNat a.size))):=by
  refine Eve.succ ?_;simp only [spec_l01Next.j0,if_true];refine Eve.ite (fun h => ?_) (fun h => ?_)
  · rw [if_pos (by omega)];exact Eve.one
  rw [if_neg (by omega)];refine Eve.ite (fun _ => ?_) (fun h => absurd (by omega) h);refine Eve.ite (fun _ => ?_) (fun h => absurd (by omega) h);refine Eve.bind (of_tells (a.extract 1 3) (by rw [ByteArray.size_extract];omega)) ?_;have hb:=bytes_ext2 a 1 (by omega);simp only [show 1 + 2=3 from rfl] at hb;have hw : wrap64 (3 + bigV (bytesOf (a.extract 1 3)))=3 + bigV (bytesOf (a.extract 1 3)):=w64 (by omega) (by omega);simp only [hw];refine Eve.ite (fun h2 => ?_) (fun h2 => ?_)
  · rw [if_pos h2];exact Eve.one
  rw [if_neg h2];refine Eve.ite (fun _ => ?_) (fun h => absurd (by omega) h);refine Eve.ite (fun _ => ?_) (fun h => absurd (by omega) h);exact Eve.ite (fun _ => Eve.one) (fun h => absurd (by omega) h)
theorem next_tells (a : ByteArray) (hs : a.size≤1048576) : Eve (fun k => spec_l01Next.f k a) (told (nxtV a)):=by
  unfold nxtV;simp only [spec_l01Next.f,wbt];refine Eve.ite (fun h => ?_) (fun h => ?_)
  · have hz : a.size=0:=by omega
    rw [if_pos hz];exact Eve.one
  have hz : ¬ a.size=0:=by omega
  rw [if_neg hz];refine Eve.ite (fun _ => ?_) (fun h => absurd (by omega) h);refine Eve.ite (fun h0 => ?_) (fun h0 => ?_)
  · rw [if_pos h0]
    refine Eve.ite (fun _ => ?_) (fun h => absurd (by omega) h);exact Eve.one.eq (by rw [h0];rfl)
  rw [if_neg h0];refine Eve.ite (fun h1 => ?_) (fun h1 => ?_)
  · rw [if_pos h1]
    refine Eve.succ ?_;simp only [spec_l01Next.j1,wbt,h1];have hw : wrap64 (1 + 1)=2:=w64 (by omega) (by omega);simp only [hw,if_true];refine Eve.ite (fun h => ?_) (fun h => ?_)
    · have hy : a.size<2:=by omega
      rw [if_pos hy];exact Eve.one
    have hy : ¬ a.size<2:=by omega
    rw [if_neg hy];refine Eve.ite (fun _ => ?_) (fun h => absurd (by omega) h);refine Eve.ite (fun _ => ?_) (fun h => absurd (by omega) h);exact Eve.ite (fun _ => Eve.one) (fun h => absurd (by omega) h)
  rw [if_neg h1];refine Eve.ite (fun h2 => ?_) (fun h2 => ?_)
  · rw [if_pos h2]
    refine Eve.succ ?_;simp only [spec_l01Next.j1,h2];have hw : wrap64 (1 + 8)=9:=w64 (by omega) (by omega);simp only [hw];refine Eve.ite (fun h => ?_) (fun h => ?_)
    · have hy : a.size<9:=by omega
      rw [if_pos hy];exact Eve.one
    have hy : ¬ a.size<9:=by omega
    rw [if_neg hy];refine Eve.ite (fun h => absurd h (by omega)) (fun _ => ?_);refine Eve.ite (fun _ => ?_) (fun h => absurd (by omega) h);refine Eve.ite (fun h => ?_) (fun h => ?_)
    · rw [if_pos h];exact Eve.one
    rw [if_neg h];refine Eve.ite (fun _ => ?_) (fun h => absurd (by omega) h);refine Eve.ite (fun _ => ?_) (fun h => absurd (by omega) h);refine Eve.bind (of_tells (a.extract 1 9) (by rw [ByteArray.size_extract];omega)) ?_;refine Eve.ite (fun _ => ?_) (fun h => absurd (by omega) h);exact Eve.ite (fun _ => Eve.one) (fun h => absurd (by omega) h)
  rw [if_neg h2];refine Eve.ite (fun h3 => ?_) (fun h3 => ?_)
  · rw [if_pos (show bt a 0=3∨bt a 0=4∨bt a 0=5 from .inl h3)]
    simp only [h3,beq_self_eq_true];exact n0_tells a 3 hs
  refine Eve.ite (fun h4 => ?_) (fun h4 => ?_)
  · rw [if_pos (show bt a 0=3∨bt a 0=4∨bt a 0=5 from .inr (.inl h4))]
    simp only [h4,beq_self_eq_true];exact n0_tells a 4 hs
  by_cases h5 : bt a 0=5
  · rw [if_pos (show bt a 0=3∨bt a 0=4∨bt a 0=5 from .inr (.inr h5))]
    simp only [h5,beq_self_eq_true];exact n0_tells a 5 hs
  have hy : ¬ (bt a 0=3∨bt a 0=4∨bt a 0=5):=by omega
  rw [if_neg hy];have : (bt a 0 == 5)=false:=by simpa using h5
  simp only [this];refine Eve.succ ?_;simp only [spec_l01Next.j0,Bool.false_eq_true,if_false];exact Eve.one
def Bad (v : IVal) : Prop:=v.f0<0∨v.f0 > 5∨(v.f0=2∧(v.f1 < -1000000000000∨v.f1 > 1000000000000))
def rdv (r : Rd) : IVal:=⟨r.1,r.2.1,r.2.2.1⟩
theorem num_one (a : ByteArray) (f : Bool) (h : 0<a.size) : numV a f 1=(bt a 0,a.extract 1 a.size,f):=by
  unfold numV;rw [if_neg (by omega)];have:=bytes_ext1 a 0 h;simp only [Nat.zero_add] at this;rw [this];rfl
theorem num_none (a : ByteArray) (f : Bool) (n : Nat) (h : a.size<n) : numV a f n=(0,a,true):=by unfold numV;rw [if_pos h]
theorem num_some (a : ByteArray) (f : Bool) (n : Nat) (h : n≤a.size) : numV a f n=(bigV (bytesOf (a.extract 0 n)),a.extract n a.size,f):=by unfold numV;rw [if_neg (by omega)]
theorem tail_size (a : ByteArray) (n : Nat) : (a.extract n a.size).size=a.size - n:=by rw [ByteArray.size_extract];omega
theorem ext_ext (a : ByteArray) (n i j : Nat) (h : n + j≤a.size) : (a.extract n a.size).extract i j=a.extract (n + i) (n + j):=by
  rw [ByteArray.extract_extract,Nat.min_eq_left h]
theorem ext_tail (a : ByteArray) (n i : Nat) (h : n≤a.size) : (a.extract n a.size).extract i (a.extract n a.size).size=a.extract (n + i) a.size:=by
  rw [tail_size,ByteArray.extract_extract]
  congr 1
  omega
theorem big8 (l : List Int) (x : Int) (r : List Int) (hl : l=x :: r) (hr : r.length=7) (hb : ∀ b ∈ l,0≤b∧b≤255) (hx : x > 127) : wrap64 (bigV l - 4611686018427387904) < -1000000000000∨wrap64 (bigV l - 4611686018427387904) > 1000000000000:=by
  subst hl
  match r,hr with
  | [b1,b2,b3,b4,b5,b6,b7],_ =>
    have h0:=hb x (by simp);have h1:=hb b1 (by simp);have h2:=hb b2 (by simp);have h3:=hb b3 (by simp);have h4:=hb b4 (by simp);have h5:=hb b5 (by simp);have h6:=hb b6 (by simp);have h7:=hb b7 (by simp)
    have e : bigV [x,b1,b2,b3,b4,b5,b6,b7]=x * 72057594037927936 + b1 * 281474976710656 + b2 * 1099511627776 + b3 * 4294967296 + b4 * 16777216 + b5 * 65536 + b6 * 256 + b7 - 18446744073709551616:=by
      simp only [bigV,List.foldl_cons,List.foldl_nil];have s0 : stp 0 x=x:=by unfold stp;simp only [w64m];omega
      have s1 : stp x b1=x * 256 + b1:=by unfold stp;simp only [w64m];omega
      have s2 : stp (x * 256 + b1) b2=x * 65536 + b1 * 256 + b2:=by unfold stp;simp only [w64m];omega
      have s3 : stp (x * 65536 + b1 * 256 + b2) b3=x * 16777216 + b1 * 65536 + b2 * 256 + b3:=by unfold stp;simp only [w64m];omega
      have s4 : stp (x * 16777216 + b1 * 65536 + b2 * 256 + b3) b4=x * 4294967296 + b1 * 16777216 + b2 * 65536 + b3 * 256 + b4:=by unfold stp;simp only [w64m];omega
      have s5 : stp (x * 4294967296 + b1 * 16777216 + b2 * 65536 + b3 * 256 + b4) b5=x * 1099511627776 + b1 * 4294967296 + b2 * 16777216 + b3 * 65536 + b4 * 256 + b5:=by unfold stp;simp only [w64m];omega
      have s6 : stp (x * 1099511627776 + b1 * 4294967296 + b2 * 16777216 + b3 * 65536 + b4 * 256 + b5) b6=x * 281474976710656 + b1 * 1099511627776 + b2 * 4294967296 + b3 * 16777216 + b4 * 65536 + b5 * 256 + b6:=by unfold stp;simp only [w64m];omega
      rw [s0,s1,s2,s3,s4,s5,s6];unfold stp;simp only [w64m];omega
    rw [e,w64m]
    omega
theorem nxt_some (a : ByteArray) (v : IVal) (r : ByteArray) (h : nxtV a=some (v,r)) : valV a false=(v.f0,v.f1,v.f2,r,false)∧r.size<a.size:=by
  unfold nxtV at h
  by_cases hz : a.size=0
  · rw [if_pos hz] at h;simp at h
  rw [if_neg hz] at h;unfold valV;rw [num_one a false (by omega)];simp only;have ht:=tail_size a 1
  by_cases h0 : bt a 0=0
  · rw [if_pos h0] at h
    obtain ⟨rfl,rfl⟩ : _∧_:=by simpa using h
    rw [if_neg (by omega),if_neg (by omega),if_neg (by omega),h0];exact ⟨rfl,by omega⟩
  rw [if_neg h0] at h
  by_cases h1 : bt a 0=1
  · rw [if_pos h1] at h
    by_cases h2 : a.size<2
    · rw [if_pos h2] at h;simp at h
    rw [if_neg h2] at h;obtain ⟨rfl,rfl⟩ : _∧_:=by simpa using h
    rw [if_pos h1,num_some _ _ _ (by omega),ext_ext _ _ _ _ (by omega),ext_tail _ _ _ (by omega),h1];have:=bytes_ext1 a 1 (by omega);refine ⟨?_,by rw [tail_size];omega⟩;show (1,bigV (bytesOf (a.extract 1 (1 + 1))),eB,a.extract 2 a.size,false)=_;rw [this];rfl
  rw [if_neg h1] at h
  by_cases h2 : bt a 0=2
  · rw [if_pos h2] at h
    by_cases h3 : a.size<9
    · rw [if_pos h3] at h;simp at h
    rw [if_neg h3] at h
    by_cases h4 : bt a 1 > 127
    · rw [if_pos h4] at h;simp at h
    rw [if_neg h4] at h;obtain ⟨rfl,rfl⟩ : _∧_:=by simpa using h
    rw [if_neg h1,if_pos h2,num_some _ _ _ (by omega),ext_ext _ _ _ _ (by omega),ext_tail _ _ _ (by omega),h2];exact ⟨rfl,by rw [tail_size];omega⟩
  rw [if_neg h2] at h
  by_cases h3 : bt a 0=3∨bt a 0=4∨bt a 0=5
  · rw [if_pos h3] at h
    by_cases h4 : a.size<3
    · rw [if_pos h4] at h;simp at h
    rw [if_neg h4] at h;have hb:=bytes_ext2 a 1 (by omega);simp only [show 1 + 2=3 from rfl] at hb
    by_cases h5 : (a.size : Int)<3 + bigV (bytesOf (a.extract 1 3))
    · rw [if_pos h5] at h;simp at h
    rw [if_neg h5] at h;obtain ⟨rfl,rfl⟩ : _∧_:=by simpa using h
    rw [if_neg h1,if_neg h2,if_pos h3,num_some _ _ _ (by omega),ext_ext _ _ _ _ (by omega),ext_tail _ _ _ (by omega)];simp only [show 1 + 0=1 from rfl,show 1 + 2=3 from rfl];generalize bigV (bytesOf (a.extract 1 3))=n at hb h5 ⊢;obtain ⟨n,rfl⟩ : ∃ m : Nat,n=(m : Int):=⟨n.toNat,by omega⟩;have e1 : ((n : Int)).toNat=n:=Int.toNat_natCast n;have e2 : (3 + (n : Int)).toNat=3 + n:=by omega
    have ht3:=tail_size a 3;unfold takV;simp only [e1,e2];rw [if_neg (by omega),ext_ext _ _ _ _ (by omega),ext_tail _ _ _ (by omega)];exact ⟨rfl,by rw [tail_size];omega⟩
  rw [if_neg h3] at h;simp at h
theorem nxt_none (a : ByteArray) (h : nxtV a=none) : (valV a false).2.2.2.2=true∨Bad (rdv (valV a false)):=by
  by_cases hz : a.size=0
  · left
    unfold valV;rw [num_none a false 1 (by omega)];simp
  unfold nxtV at h;rw [if_neg hz] at h;unfold valV;rw [num_one a false (by omega)];simp only;have ht:=tail_size a 1
  by_cases h0 : bt a 0=0
  · rw [if_pos h0] at h;simp at h
  rw [if_neg h0] at h
  by_cases h1 : bt a 0=1
  · rw [if_pos h1] at h ⊢
    by_cases h2 : a.size<2
    · left;rw [num_none _ _ _ (by omega)]
    rw [if_neg h2] at h;simp at h
  rw [if_neg h1] at h ⊢
  by_cases h2 : bt a 0=2
  · rw [if_pos h2] at h ⊢
    by_cases h3 : a.size<9
    · left;rw [num_none _ _ _ (by omega)]
    rw [if_neg h3] at h
    by_cases h4 : bt a 1 > 127
    · right;right;right
      refine ⟨h2,?_⟩;rw [num_some _ _ _ (by omega),ext_ext _ _ _ _ (by omega)];simp only [show 1 + 0=1 from rfl,show 1 + 8=9 from rfl,rdv];have hl : (bytesOf (a.extract 1 9)).length=8:=by rw [bytesOf_length,ByteArray.size_extract];omega
      have hg:=bt_get (a.extract 1 9) 0 (by omega)
      have he : bt (a.extract 1 9) ((0 : Nat) : Int)=bt a 1:=by
        unfold bt;have e0 : (((0 : Nat) : Int)).toNat=0:=rfl;have e1 : ((1 : Int)).toNat=1:=rfl;simp only [e0,e1];rw [dif_pos (by rw [ByteArray.size_extract];omega),dif_pos (by omega)]
        congr 2
        rw [ByteArray.getElem_extract]
      cases hc : bytesOf (a.extract 1 9) with
      | nil => rw [hc] at hl;simp at hl
      | cons x r =>
        have hb:=bytes_in (a.extract 1 9);rw [he] at hg;simp only [hc,List.getElem_cons_zero] at hg;rw [hc] at hl hb;exact big8 _ x r rfl (by simpa using hl) hb (by omega)
    rw [if_neg h4] at h;simp at h
  rw [if_neg h2] at h ⊢
  by_cases h3 : bt a 0=3∨bt a 0=4∨bt a 0=5
  · rw [if_pos h3] at h ⊢
    left
    by_cases h4 : a.size<3
    · rw [num_none _ _ 2 (by omega)]
      unfold takV;simp
    rw [if_neg h4] at h;have hb:=bytes_ext2 a 1 (by omega);simp only [show 1 + 2=3 from rfl] at hb
    by_cases h5 : (a.size : Int)<3 + bigV (bytesOf (a.extract 1 3))
    · rw [num_some _ _ 2 (by omega),ext_ext _ _ _ _ (by omega),ext_tail _ _ _ (by omega)]
      simp only [show 1 + 0=1 from rfl,show 1 + 2=3 from rfl];unfold takV;rw [if_pos (by rw [tail_size];omega)]
    rw [if_neg h5] at h;simp at h
  rw [if_neg h3]
  right
  have:=bt_range a 0
  right;left
  show bt a 0 > 5
  omega
theorem num_mono (a : ByteArray) (f : Bool) (n : Nat) : (numV a f n).2.1.size≤a.size∧(f=true→(numV a f n).2.2=true):=by
  unfold numV
  by_cases h : a.size<n
  · rw [if_pos h];exact ⟨Nat.le_refl _,fun _ => rfl⟩
  rw [if_neg h];exact ⟨by simp only [tail_size];omega,fun h => h⟩
theorem tak_mono (a : ByteArray) (f : Bool) (n : Nat) : (takV a f n).2.1.size≤a.size∧(f=true→(takV a f n).2.2=true):=by
  unfold takV
  by_cases h : a.size<n
  · rw [if_pos h];exact ⟨Nat.le_refl _,fun _ => rfl⟩
  rw [if_neg h];exact ⟨by simp only [tail_size];omega,fun h => h⟩
theorem val_mono (a : ByteArray) (f : Bool) : (valV a f).2.2.2.1.size≤(numV a f 1).2.1.size∧(f=true→(valV a f).2.2.2.2=true):=by
  have hq:=num_mono a f 1;unfold valV;generalize numV a f 1=q at hq;simp only
  by_cases h1 : q.1=1
  · rw [if_pos h1]
    have:=num_mono q.2.1 q.2.2 1;exact ⟨this.1,fun h => this.2 (hq.2 h)⟩
  rw [if_neg h1]
  by_cases h2 : q.1=2
  · rw [if_pos h2]
    have:=num_mono q.2.1 q.2.2 8;exact ⟨this.1,fun h => this.2 (hq.2 h)⟩
  rw [if_neg h2]
  by_cases h3 : q.1=3∨q.1=4∨q.1=5
  · rw [if_pos h3]
    have hr:=num_mono q.2.1 q.2.2 2;have ht:=tak_mono (numV q.2.1 q.2.2 2).2.1 (numV q.2.1 q.2.2 2).2.2 (numV q.2.1 q.2.2 2).1.toNat;exact ⟨Nat.le_trans ht.1 hr.1,fun h => ht.2 (hr.2 (hq.2 h))⟩
  rw [if_neg h3];exact ⟨Nat.le_refl _,hq.2⟩
theorem val_less (a : ByteArray) (f : Bool) (h : 0<a.size) : (valV a f).2.2.2.1.size<a.size:=by
  have h1:=(val_mono a f).1;rw [num_one a f h] at h1;have:=tail_size a 1;simp only at h1
  omega
abbrev IFld:=S68
theorem emp (a : ByteArray) : a.toList=([] : List UInt8)↔a.size=0:=by
 rw [ba_toList,← data_length,List.length_eq_zero_iff]
def itS : Nat→ByteArray→Option (List IVal)
 | 0,a => if a.size=0 then some [] else none
 | m + 1,a => if a.size=0 then some [] else match nxtV a with
  | none => none
  | some (v,r) => (itS m r).map (v :: ·)
def toldL (acc : List IVal) (o : Option (List IVal)) : List IVal×Bool:=match o with|some l => (acc ++ l,true)|none => ([],false)
theorem items_spec : ∀ (m : Nat) (a : ByteArray) (acc : List IVal),a.size≤m→a.size≤1048576→acc.length + a.size≤1048576→Eve (fun k => spec_l01Items.l0 k a acc) (toldL acc (itS m a)):=by
 intro m
 induction m with
 | zero =>
  intro a acc h1 h2 h3;refine Eve.succ ?_;simp only [spec_l01Items.l0,itS];have hz : a.size=0:=by omega
  rw [if_pos hz];exact Eve.ite (fun h => absurd h (by omega)) (fun _ => Eve.one.eq (by simp [toldL]))
 | succ m ih =>
  intro a acc h1 h2 h3;refine Eve.succ ?_;simp only [spec_l01Items.l0,itS]
  by_cases hz : a.size=0
  ·
   rw [if_pos hz]
   exact Eve.ite (fun h => absurd h (by omega)) (fun _ => Eve.one.eq (by simp [toldL]))
  rw [if_neg hz];refine Eve.ite (fun _ => ?_) (fun h => absurd (by omega) h);refine Eve.bind (next_tells a h2) ?_
  cases hn : nxtV a with
  | none => simp only [told,Bool.false_eq_true,if_false];exact Eve.one
  | some p =>
   obtain ⟨v,r⟩:=p;have hs:=nxt_some a v r hn;simp only [told,if_true];refine Eve.ite (fun _ => ?_) (fun h => absurd (by omega) h);refine (ih r (acc ++ [⟨v.f0,v.f1,v.f2⟩]) (by omega) (by omega) (by simp;omega)).eq ?_
   cases itS m r with
   | none => rfl
   | some l => simp [toldL]
theorem tak_size (a : ByteArray) (f : Bool) (n : Nat) (_h : a.size≤1048576) (hn : n≤65535) : (takV a f n).1.size≤1048576:=by
 unfold takV
 by_cases h2 : a.size<n
 ·
  rw [if_pos h2];simp only [zer_size];omega
 rw [if_neg h2];simp only [ByteArray.size_extract];omega
theorem val_size (a : ByteArray) (f : Bool) (h : a.size≤1048576) : (rdv (valV a f)).f2.size≤1048576:=by
 have hq:=num_mono a f 1;unfold valV;generalize numV a f 1=q at hq;simp only [rdv]
 by_cases h1 : q.1=1
 ·
  rw [if_pos h1];exact Nat.zero_le _
 rw [if_neg h1]
 by_cases h2 : q.1=2
 ·
  rw [if_pos h2];exact Nat.zero_le _
 rw [if_neg h2]
 by_cases h3 : q.1=3∨q.1=4∨q.1=5
 ·
  rw [if_pos h3]
  have hr:=num_mono q.2.1 q.2.2 2;have hn:=num2_in q.2.1 q.2.2;exact tak_size _ _ _ (by omega) (by omega)
 rw [if_neg h3];exact Nat.zero_le _
theorem items_stop (acc : List IVal) (a : ByteArray) : Eve (fun k => impl_items.l0 k acc a true) (acc,false):=by
 refine Eve.succ ?_;simp only [impl_items.l0,if_true,Bool.not_true];exact Eve.ite (fun _ => Eve.one) (fun _ => Eve.one)
theorem items_end (acc : List IVal) (a : ByteArray) (h : a.size=0) : Eve (fun k => impl_items.l0 k acc a false) (acc,true):=by
 refine Eve.succ ?_;simp only [impl_items.l0,Bool.not_false];exact Eve.ite (fun _ => Eve.one) (fun h2 => absurd ((emp a).2 h) h2)
theorem items_step (acc : List IVal) (a : ByteArray) (h : 0<a.size) (hl : acc.length≤1048576) {x : List IVal×Bool}
  (hx : Eve (fun k => impl_items.l0 k (acc ++ [rdv (valV a false)]) (valV a false).2.2.2.1 (valV a false).2.2.2.2) x) : Eve (fun k => impl_items.l0 k acc a false) x:=by
 refine Eve.succ ?_;simp only [impl_items.l0,Bool.false_eq_true,if_false];refine Eve.ite (fun h2 => absurd ((emp a).1 h2) (by omega)) (fun _ => ?_);refine Eve.bind (value_tells a false) ?_;exact Eve.ite (fun _ => hx) (fun h2 => absurd (by omega) h2)
theorem items_some : ∀ (m : Nat) (a : ByteArray) (acc l : List IVal),itS m a=some l→acc.length + a.size≤1048576→Eve (fun k => impl_items.l0 k acc a false) (acc ++ l,true):=by
 intro m
 induction m with
 | zero =>
  intro a acc l h h2;simp only [itS] at h
  by_cases hz : a.size=0
  ·
   rw [if_pos hz] at h
   obtain rfl : []=l:=by simpa using h
   exact (items_end acc a hz).eq (by simp)
  rw [if_neg hz] at h;simp at h
 | succ m ih =>
  intro a acc l h h2;simp only [itS] at h
  by_cases hz : a.size=0
  ·
   rw [if_pos hz] at h
   obtain rfl : []=l:=by simpa using h
   exact (items_end acc a hz).eq (by simp)
  rw [if_neg hz] at h
  cases hn : nxtV a with
  | none => rw [hn] at h;simp at h
  | some p =>
   obtain ⟨v,r⟩:=p;rw [hn] at h;simp only [Option.map_eq_some_iff] at h;obtain ⟨l',h',rfl⟩:=h;obtain ⟨hs,hlt⟩:=nxt_some a v r hn;refine items_step acc a (by omega) (by omega) ?_;rw [hs];refine (ih r (acc ++ [rdv (v.f0,v.f1,v.f2,r,false)]) l' h' (by simp;omega)).eq ?_;simp [rdv]
theorem items_some_end : ∀ (m : Nat) (a : ByteArray) (acc : List IVal),a.size≤m→acc.length + a.size≤1048576 → ∃ l ok,Eve (fun k => impl_items.l0 k acc a false) (acc ++ l,ok)∧(l.length≤a.size ∧ ∀ x ∈ l,x.f2.size≤1048576):=by
 intro m
 induction m with
 | zero => intro a acc h1 h2;exact ⟨[],true,(items_end acc a (by omega)).eq (by simp),by simp,by simp⟩
 | succ m ih =>
  intro a acc h1 h2
  by_cases hz : a.size=0
  ·
   exact ⟨[],true,(items_end acc a hz).eq (by simp),by simp,by simp⟩
  have hlt:=val_less a false (by omega);have hvs:=val_size a false (by omega)
  cases hf : (valV a false).2.2.2.2 with
  | true =>
   refine ⟨[rdv (valV a false)],false,items_step acc a (by omega) (by omega) ?_,by simp;omega,by simpa using hvs⟩;rw [hf];exact items_stop _ _
  | false =>
   obtain ⟨l,ok,hl,hl1,hl2⟩:=ih (valV a false).2.2.2.1 (acc ++ [rdv (valV a false)]) (by omega) (by simp;omega);refine ⟨rdv (valV a false) :: l,ok,items_step acc a (by omega) (by omega) ?_,by simp;omega,by simpa using ⟨hvs,hl2⟩⟩;rw [hf];exact hl.eq (by simp)
theorem items_none : ∀ (m : Nat) (a : ByteArray) (acc : List IVal),a.size≤m→itS m a=none→acc.length + a.size≤1048576 → ∃ l ok,Eve (fun k => impl_items.l0 k acc a false) (acc ++ l,ok)∧(ok=false ∨ ∃ v ∈ l,Bad v)∧(l.length≤a.size ∧ ∀ x ∈ l,x.f2.size≤1048576):=by
 intro m
 induction m with
 | zero =>
  intro a acc h1 h h2;simp only [itS] at h;rw [if_pos (show a.size=0 by omega)] at h;simp at h
 | succ m ih =>
  intro a acc h1 h h2;simp only [itS] at h
  by_cases hz : a.size=0
  ·
   rw [if_pos hz] at h;simp at h
  rw [if_neg hz] at h;have hlt:=val_less a false (by omega);have hvs:=val_size a false (by omega)
  cases hn : nxtV a with
  | some p =>
   obtain ⟨v,r⟩:=p;rw [hn] at h;simp only [Option.map_eq_none_iff] at h;obtain ⟨hs,hlt⟩:=nxt_some a v r hn;rw [hs] at hvs;obtain ⟨l,ok,hl,hb,hl1,hl2⟩:=ih r (acc ++ [rdv (v.f0,v.f1,v.f2,r,false)]) (by omega) h (by simp;omega);refine ⟨rdv (v.f0,v.f1,v.f2,r,false) :: l,ok,?_,?_,by simp;omega,by simpa using ⟨hvs,hl2⟩⟩
   ·
    refine items_step acc a (by omega) (by omega) ?_
    rw [hs];exact hl.eq (by simp)
   rcases hb with hb|⟨x,hx,hb⟩
   ·
    exact .inl hb
   exact .inr ⟨x,by simp [hx],hb⟩
  | none =>
   have hv:=nxt_none a hn
   cases hf : (valV a false).2.2.2.2 with
   | true =>
    refine ⟨[rdv (valV a false)],false,items_step acc a (by omega) (by omega) ?_,.inl rfl,by simp;omega,by simpa using hvs⟩;rw [hf];exact items_stop _ _
   | false =>
    rw [hf] at hv;obtain ⟨l,ok,hl,hl1,hl2⟩:=items_some_end m (valV a false).2.2.2.1 (acc ++ [rdv (valV a false)]) (by omega) (by simp;omega);refine ⟨rdv (valV a false) :: l,ok,items_step acc a (by omega) (by omega) ?_,.inr ⟨_,by simp,hv.resolve_left (by simp)⟩,by simp;omega,by simpa using ⟨hvs,hl2⟩⟩;rw [hf];exact hl.eq (by simp)
def fdS : Nat→ByteArray→Option (List IFld)
 | 0,a => if a.size=0 then some [] else none
 | m + 1,a => if a.size=0 then some [] else if (a.size : Int)<1 + bt a 0 then none else match nxtV (a.extract (1 + bt a 0).toNat a.size) with
  | none => none
  | some (v,r) => (fdS m r).map ((⟨a.extract 1 (1 + bt a 0).toNat,v⟩ : IFld) :: ·)
def toldF (acc : List IFld) (o : Option (List IFld)) : List IFld×Bool:=match o with|some l => (acc ++ l,true)|none => ([],false)
theorem wb1 (a : ByteArray) : wrap64 (1 + bt a 0)=1 + bt a 0:=w64 (by have:=bt_range a 0;omega) (by have:=bt_range a 0;omega)
theorem fields_spec : ∀ (m : Nat) (a : ByteArray) (acc : List IFld),a.size≤m→a.size≤1048576→acc.length + a.size≤1048576→Eve (fun k => spec_l01Fields.l0 k a acc) (toldF acc (fdS m a)):=by
 intro m
 induction m with
 | zero =>
  intro a acc h1 h2 h3;refine Eve.succ ?_;simp only [spec_l01Fields.l0,fdS];have hz : a.size=0:=by omega
  rw [if_pos hz];exact Eve.ite (fun h => absurd h (by omega)) (fun _ => Eve.one.eq (by simp [toldF]))
 | succ m ih =>
  intro a acc h1 h2 h3;refine Eve.succ ?_;simp only [spec_l01Fields.l0,fdS,wbt,wb1]
  by_cases hz : a.size=0
  ·
   rw [if_pos hz]
   exact Eve.ite (fun h => absurd h (by omega)) (fun _ => Eve.one.eq (by simp [toldF]))
  rw [if_neg hz];have hb:=bt_range a 0;refine Eve.ite (fun _ => ?_) (fun h => absurd (by omega) h);refine Eve.ite (fun _ => ?_) (fun h => absurd (by omega) h);refine Eve.ite (fun h => ?_) (fun h => ?_)
  ·
   rw [if_pos h];exact Eve.one
  rw [if_neg h];refine Eve.ite (fun _ => ?_) (fun h => absurd (by omega) h);refine Eve.ite (fun _ => ?_) (fun h => absurd (by omega) h);refine Eve.ite (fun _ => ?_) (fun h => absurd (by omega) h);have ht:=tail_size a (1 + bt a 0).toNat;refine Eve.bind (next_tells _ (by omega)) ?_
  cases hn : nxtV (a.extract (1 + bt a 0).toNat a.size) with
  | none => simp only [told,Bool.false_eq_true,if_false];exact Eve.one
  | some p =>
   obtain ⟨v,r⟩:=p;have hs:=nxt_some _ v r hn;simp only [told,if_true];refine Eve.ite (fun _ => ?_) (fun h => absurd (by omega) h);refine (ih r (acc ++ [⟨a.extract 1 (1 + bt a 0).toNat,⟨v.f0,v.f1,v.f2⟩⟩]) (by omega) (by omega) (by simp;omega)).eq ?_
   cases fdS m r with
   | none => rfl
   | some l => simp [toldF]
def fdV (a : ByteArray) : ByteArray×Rd :=
 let q:=numV a false 1
 let t:=takV q.2.1 q.2.2 q.1.toNat
 (t.1,valV t.2.1 t.2.2)
def fdv (x : ByteArray×Rd) : IFld:=⟨x.1,rdv x.2⟩
theorem fields_stop (acc : List IFld) (a : ByteArray) : Eve (fun k => impl_fields.l0 k acc a true) (acc,false):=by
 have hj : Eve (fun k => impl_fields.j1 k acc false a true) (acc,false):=Eve.succ (by simp only [impl_fields.j1,Bool.false_eq_true,if_false,Bool.not_true];exact Eve.one);refine Eve.succ ?_;simp only [impl_fields.l0,Bool.not_true];exact Eve.ite (fun _ => hj) (fun _ => hj)
theorem fields_end (acc : List IFld) (a : ByteArray) (h : a.size=0) : Eve (fun k => impl_fields.l0 k acc a false) (acc,true):=by
 refine Eve.succ ?_;simp only [impl_fields.l0];refine Eve.ite (fun _ => Eve.succ ?_) (fun h2 => absurd ((emp a).2 h) h2);simp only [impl_fields.j1,Bool.false_eq_true,if_false,Bool.not_false];exact Eve.one
theorem fields_step (acc : List IFld) (a : ByteArray) (h : 0<a.size) (hl : acc.length≤1048576) {x : List IFld×Bool}
  (hx : Eve (fun k => impl_fields.l0 k (acc ++ [fdv (fdV a)]) (fdV a).2.2.2.2.1 (fdV a).2.2.2.2.2) x) : Eve (fun k => impl_fields.l0 k acc a false) x:=by
 refine Eve.succ ?_;simp only [impl_fields.l0,Bool.not_false];refine Eve.ite (fun h2 => absurd ((emp a).1 h2) (by omega)) (fun _ => Eve.succ ?_);simp only [impl_fields.j1,if_true];refine Eve.bind (num_tells a false 1 (by omega)) ?_
 have hb : 0≤(numV a false 1).1∧(numV a false 1).1≤65535:=by
  rw [num_one a false h];have:=bt_range a 0;simp only;omega
 have ht:=take_tells (numV a false 1).2.1 (numV a false 1).2.2 (numV a false 1).1.toNat (by omega);rw [show (((numV a false 1).1.toNat : Nat) : Int)=(numV a false 1).1 from Int.toNat_of_nonneg hb.1] at ht;simp only [ht,Option.bind_some];refine Eve.bind (value_tells _ _) ?_;exact Eve.ite (fun _ => hx) (fun h2 => absurd (by omega) h2)
theorem fdV_less (a : ByteArray) (h : 0<a.size) : (fdV a).2.2.2.2.1.size<a.size:=by
 unfold fdV;rw [num_one a false h];simp only;have h1:=tail_size a 1;have h2:=(tak_mono (a.extract 1 a.size) false (bt a 0).toNat).1;have h3:=(val_mono (takV (a.extract 1 a.size) false (bt a 0).toNat).2.1 (takV (a.extract 1 a.size) false (bt a 0).toNat).2.2).1;have h4:=(num_mono (takV (a.extract 1 a.size) false (bt a 0).toNat).2.1 (takV (a.extract 1 a.size) false (bt a 0).toNat).2.2 1).1
 omega
theorem fdV_ok (a : ByteArray) (h : 0<a.size) (h2 : ¬ (a.size : Int)<1 + bt a 0) : fdV a=(a.extract 1 (1 + bt a 0).toNat,valV (a.extract (1 + bt a 0).toNat a.size) false):=by
 unfold fdV;rw [num_one a false h];simp only;have hb:=bt_range a 0;have ht:=tail_size a 1;have e : (1 + bt a 0).toNat=1 + (bt a 0).toNat:=by omega
 unfold takV;rw [if_neg (by omega),e];simp only;rw [ext_ext _ _ _ _ (by omega),ext_tail _ _ _ (by omega)]
theorem fdV_bad (a : ByteArray) (h : 0<a.size) (h2 : (a.size : Int)<1 + bt a 0) : (fdV a).2.2.2.2.2=true:=by
 unfold fdV;rw [num_one a false h];simp only;have hb:=bt_range a 0;have ht:=tail_size a 1;refine (val_mono _ _).2 ?_;unfold takV;rw [if_pos (by omega)]
theorem fields_some : ∀ (m : Nat) (a : ByteArray) (acc l : List IFld),fdS m a=some l→acc.length + a.size≤1048576→Eve (fun k => impl_fields.l0 k acc a false) (acc ++ l,true):=by
 intro m
 induction m with
 | zero =>
  intro a acc l h h2;simp only [fdS] at h
  by_cases hz : a.size=0
  ·
   rw [if_pos hz] at h
   obtain rfl : []=l:=by simpa using h
   exact (fields_end acc a hz).eq (by simp)
  rw [if_neg hz] at h;simp at h
 | succ m ih =>
  intro a acc l h h2;simp only [fdS] at h
  by_cases hz : a.size=0
  ·
   rw [if_pos hz] at h
   obtain rfl : []=l:=by simpa using h
   exact (fields_end acc a hz).eq (by simp)
  rw [if_neg hz] at h
  by_cases hy : (a.size : Int)<1 + bt a 0
  ·
   rw [if_pos hy] at h;simp at h
  rw [if_neg hy] at h
  cases hn : nxtV (a.extract (1 + bt a 0).toNat a.size) with
  | none => rw [hn] at h;simp at h
  | some p =>
   obtain ⟨v,r⟩:=p;rw [hn] at h;simp only [Option.map_eq_some_iff] at h;obtain ⟨l',h',rfl⟩:=h;obtain ⟨hs,hlt⟩:=nxt_some _ v r hn;have ht:=tail_size a (1 + bt a 0).toNat;have hb:=bt_range a 0;refine fields_step acc a (by omega) (by omega) ?_;rw [fdV_ok a (by omega) hy,hs];refine (ih r (acc ++ [fdv (a.extract 1 (1 + bt a 0).toNat,(v.f0,v.f1,v.f2,r,false))]) l' h' (by simp;omega)).eq ?_;simp [fdv,rdv]
theorem fdV_size (a : ByteArray) (h : 0<a.size) (h2 : a.size≤1048576) : (fdv (fdV a)).f0.size≤1048576∧(fdv (fdV a)).f1.f2.size≤1048576:=by
 unfold fdV fdv;rw [num_one a false h];have hb:=bt_range a 0;have ht:=tail_size a 1;have hm:=(tak_mono (a.extract 1 a.size) false (bt a 0).toNat).1;exact ⟨tak_size (a.extract 1 a.size) false (bt a 0).toNat (by omega) (by omega),val_size (takV (a.extract 1 a.size) false (bt a 0).toNat).2.1 (takV (a.extract 1 a.size) false (bt a 0).toNat).2.2 (by omega)⟩
theorem fields_some_end : ∀ (m : Nat) (a : ByteArray) (acc : List IFld),a.size≤m→acc.length + a.size≤1048576 → ∃ l ok,Eve (fun k => impl_fields.l0 k acc a false) (acc ++ l,ok)∧(l.length≤a.size ∧ ∀ x ∈ l,x.f0.size≤1048576∧x.f1.f2.size≤1048576):=by
 intro m
 induction m with
 | zero => intro a acc h1 h2;exact ⟨[],true,(fields_end acc a (by omega)).eq (by simp),by simp,by simp⟩
 | succ m ih =>
  intro a acc h1 h2
  by_cases hz : a.size=0
  ·
   exact ⟨[],true,(fields_end acc a hz).eq (by simp),by simp,by simp⟩
  have hlt:=fdV_less a (by omega);have hvs:=fdV_size a (by omega) (by omega)
  cases hf : (fdV a).2.2.2.2.2 with
  | true =>
   refine ⟨[fdv (fdV a)],false,fields_step acc a (by omega) (by omega) ?_,by simp;omega,by simpa using hvs⟩;rw [hf];exact fields_stop _ _
  | false =>
   obtain ⟨l,ok,hl,hl1,hl2⟩:=ih (fdV a).2.2.2.2.1 (acc ++ [fdv (fdV a)]) (by omega) (by simp;omega);refine ⟨fdv (fdV a) :: l,ok,fields_step acc a (by omega) (by omega) ?_,by simp;omega,by simpa using ⟨hvs,hl2⟩⟩;rw [hf];exact hl.eq (by simp)
theorem fields_none : ∀ (m : Nat) (a : ByteArray) (acc : List IFld),a.size≤m→fdS m a=none→acc.length + a.size≤1048576 → ∃ l ok,Eve (fun k => impl_fields.l0 k acc a false) (acc ++ l,ok)∧(ok=false ∨ ∃ v ∈ l,Bad v.f1)∧(l.length≤a.size ∧ ∀ x ∈ l,x.f0.size≤1048576∧x.f1.f2.size≤1048576):=by
 intro m
 induction m with
 | zero =>
  intro a acc h1 h h2;simp only [fdS] at h;rw [if_pos (show a.size=0 by omega)] at h;simp at h
 | succ m ih =>
  intro a acc h1 h h2;simp only [fdS] at h
  by_cases hz : a.size=0
  ·
   rw [if_pos hz] at h;simp at h
  rw [if_neg hz] at h;have hlt:=fdV_less a (by omega);have hvs:=fdV_size a (by omega) (by omega)
  by_cases hy : (a.size : Int)<1 + bt a 0
  ·
   refine ⟨[fdv (fdV a)],false,fields_step acc a (by omega) (by omega) ?_,.inl rfl,by simp;omega,by simpa using hvs⟩
   rw [fdV_bad a (by omega) hy];exact fields_stop _ _
  rw [if_neg hy] at h;have ht:=tail_size a (1 + bt a 0).toNat;have hb0:=bt_range a 0;have hok:=fdV_ok a (by omega) hy
  cases hn : nxtV (a.extract (1 + bt a 0).toNat a.size) with
  | some p =>
   obtain ⟨v,r⟩:=p;rw [hn] at h;simp only [Option.map_eq_none_iff] at h;obtain ⟨hs,hlt⟩:=nxt_some _ v r hn;rw [hok,hs] at hvs;obtain ⟨l,ok,hl,hb,hl1,hl2⟩:=ih r (acc ++ [fdv (a.extract 1 (1 + bt a 0).toNat,(v.f0,v.f1,v.f2,r,false))]) (by omega) h (by simp;omega);refine ⟨fdv (a.extract 1 (1 + bt a 0).toNat,(v.f0,v.f1,v.f2,r,false)) :: l,ok,?_,?_,by simp;omega,by simpa using ⟨hvs,hl2⟩⟩
   ·
    refine fields_step acc a (by omega) (by omega) ?_
    rw [hok,hs];exact hl.eq (by simp)
   rcases hb with hb|⟨x,hx,hb⟩
   ·
    exact .inl hb
   exact .inr ⟨x,by simp [hx],hb⟩
  | none =>
   have hv:=nxt_none _ hn
   cases hf : (fdV a).2.2.2.2.2 with
   | true =>
    refine ⟨[fdv (fdV a)],false,fields_step acc a (by omega) (by omega) ?_,.inl rfl,by simp;omega,by simpa using hvs⟩;rw [hf];exact fields_stop _ _
   | false =>
    obtain ⟨l,ok,hl,hl1,hl2⟩:=fields_some_end m (fdV a).2.2.2.2.1 (acc ++ [fdv (fdV a)]) (by omega) (by simp;omega);refine ⟨fdv (fdV a) :: l,ok,fields_step acc a (by omega) (by omega) ?_,.inr ⟨fdv (fdV a),by simp,?_⟩,by simp;omega,by simpa using ⟨hvs,hl2⟩⟩
    ·
     rw [hf]
     exact hl.eq (by simp)
    have e1 : (fdV a).2=valV (a.extract (1 + bt a 0).toNat a.size) false:=by rw [hok]
    have e2 : (fdv (fdV a)).f1=rdv (fdV a).2:=rfl;rw [e2,e1];rw [e1] at hf;rcases hv with hv|hv
    ·
     rw [hf] at hv;cases hv
    exact hv
def isL (c : Int) : Bool:=(decide (97≤c) && decide (c≤122)) || (decide (65≤c) && decide (c≤90)) || (c == 95)
def isD (c : Int) : Bool:=decide (48≤c) && decide (c≤57)
theorem specL (c : Int) : spec_l00Letter.f c=some (isL c):=by
 unfold spec_l00Letter.f isL
 split <;> split <;> (try split) <;> (try split) <;> simp <;> omega
theorem implL (c : Int) : impl_isLetter.f c=some (isL c):=by
 unfold impl_isLetter.f isL
 split <;> split <;> (try split) <;> (try split) <;> simp <;> omega
theorem specD (c : Int) : spec_l00Digit.f c=some (isD c):=by
 unfold spec_l00Digit.f isD
 split <;> simp <;> omega
theorem implD (c : Int) : impl_isDigit.f c=some (isD c):=by
 unfold impl_isDigit.f isD
 split <;> simp <;> omega
def wgo (first : Bool) : List Int→Bool
 | [] => true
 | c :: cs => (isL c || (isD c && !first)) && wgo false cs
def word (s : ByteArray) : Bool:=wgo true (bytesOf s) && (decide (1≤(s.size : Int)) && decide ((s.size : Int)≤40))
theorem word_spec (s : ByteArray) (hs : s.size≤1048576) : Eve (fun k => spec_l00Word.f k s) (word s):=by
 have hn : (bytesOf s).length=s.size:=bytesOf_length s;have hj : Eve (fun k => spec_l00Word.j0 k s true) false:=Eve.succ (by simp only [spec_l00Word.j0,if_true];exact Eve.one);simp only [spec_l00Word.f];refine Eve.ite (fun h => hj.eq ?_) (fun h => ?_)
 ·
  have : decide (1≤(s.size : Int))=false:=by simp;omega
  simp [word,this]
 refine Eve.ite (fun h2 => hj.eq ?_) (fun h2 => ?_)
 ·
  have : decide ((s.size : Int)≤40)=false:=by simp;omega
  simp [word,this]
 refine Eve.ite (fun _ => ?_) (fun h => absurd (by omega) h)
 have hw : word s=wgo true (bytesOf s):=by
  have a1 : decide (1≤(s.size : Int))=true:=by simp;omega
  have a2 : decide ((s.size : Int)≤40)=true:=by simp;omega
  simp [word,a1,a2]
 have hb:=bt_get s 0 (by omega);simp only [show ((0 : Nat) : Int)=0 from rfl] at hb;have hc : bytesOf s=bt s 0 :: (bytesOf s).drop 1:=by rw [hb];exact drop_at (bytesOf s) 0 (by omega)
 simp only [specL,Option.bind_some]
 cases hl : isL (bt s 0) with
 | false =>
  refine hj.eq ?_;rw [hw,hc];simp [wgo,hl]
 | true =>
  refine Eve.succ ?_;simp only [spec_l00Word.j0,Bool.not_true,Bool.false_eq_true,if_false]
  have:=ev_loop (bytesOf s) (fun k (_ : Unit) i => spec_l00Word.l0 k s i) (fun _ _ r => wgo false r) (fun i _ => 1≤i) (fun _ _ => by
   simp only [spec_l00Word.l0]
   exact Eve.ite (fun h => absurd h (by omega)) (fun _ => Eve.one)) (fun i hi _ hI ih => by
   have hnx:=ih () (by omega);simp only [spec_l00Word.l0,specL,specD,Option.bind_some,wi (show i≤9223372036854775806 by omega),bt_get s i hi];refine Eve.ite (fun _ => ?_) (fun h => absurd (by omega) h);refine Eve.ite (fun _ => ?_) (fun h => absurd (by omega) h);refine Eve.ite (fun h1 => hnx.eq (by simp [wgo,h1])) (fun h1 => ?_)
   exact Eve.ite (fun h2 => hnx.eq (by simp [wgo,h2])) (fun h2 => Eve.one.eq (by simp [wgo,h1,h2]))) ((bytesOf s).length - 1) 1 () (by omega) (by omega)
  refine this.eq ?_;rw [hw]
  conv => rhs;rw [hc]
  simp [wgo,hl]
theorem word_impl (s : ByteArray) (hs : s.size≤1048576) : Eve (fun k => impl_NameOK.f k s) (word s):=by
 have hn : (bytesOf s).length=s.size:=bytesOf_length s;simp only [impl_NameOK.f];refine ev_loop0 (bytesOf s) (fun k (_ : Unit) i => impl_NameOK.l0 k s (s.size : Int) i) (fun i _ r => wgo (decide (i=0)) r && (decide (1≤(s.size : Int)) && decide ((s.size : Int)≤40))) (fun _ _ => True) (fun _ _ => ?_) (fun i hi _ _ ih => ?_) () trivial
 ·
  simp only [impl_NameOK.l0]
  refine Eve.ite (fun h => absurd h (by omega)) (fun _ => Eve.all fun k => ?_);unfold impl_inRange.f
  by_cases h : 1≤(s.size : Int)
  ·
   rw [if_pos h];simp [wgo,h]
  rw [if_neg h];simp [wgo,h]
 have hnx:=ih () trivial;simp only [Nat.add_one_ne_zero,decide_false] at hnx;simp only [impl_NameOK.l0,implL,implD,Option.bind_some,wi (show i≤9223372036854775806 by omega),bt_get s i hi];refine Eve.ite (fun _ => ?_) (fun h => absurd (by omega) h);refine Eve.ite (fun _ => ?_) (fun h => absurd (by omega) h);refine Eve.ite (fun _ => ?_) (fun h => absurd (by omega) h);refine Eve.ite (fun h1 => hnx.eq (by simp [wgo,h1])) (fun h1 => ?_);refine Eve.ite (fun h2 => ?_) (fun h2 => Eve.one.eq (by simp [wgo,h1,h2]));refine Eve.ite (fun h3 => Eve.one.eq ?_) (fun h3 => hnx.eq ?_)
 ·
  obtain rfl : i=0:=by omega
  simp [wgo,h1]
 have : ¬ i=0:=by omega
 simp [wgo,h2,this]
def nam (s : ByteArray) : Bool:=word s && decide ((s.size : Int)≤12)
theorem nam_spec (s : ByteArray) (hs : s.size≤1048576) : Eve (fun k => spec_l01Name.f k s) (nam s):=by
 simp only [spec_l01Name.f,spec_NameOK.f];refine Eve.bind (v:=word s) (Eve.bind (word_spec s hs) Eve.one) ?_;refine Eve.ite (fun h => Eve.one.eq (by simp [nam,h])) (fun h => Eve.one.eq (by simp [nam,h]))
theorem nam_impl (s : ByteArray) (hs : s.size≤1048576) : Eve (fun k => impl_isShort.f k s) (nam s):=by
 simp only [impl_isShort.f];refine Eve.ite (fun h => (Eve.bind (word_impl s hs) Eve.one).eq (by simp [nam,h])) (fun h => Eve.one.eq (by simp [nam,h]))
def nms : Option ByteArray→List IFld→Bool
 | _,[] => true
 | p,f :: fs => nam f.f0 && ((match p with|none => true|some q => Op.bytesLess q.toList f.f0.toList) && nms (some f.f0) fs)
def inr (a b c : Int) : Bool:=decide (b≤a) && decide (a≤c)
theorem in_spec (a b c : Int) : spec_l01In.f a b c=some (inr a b c):=by
 unfold spec_l01In.f inr
 by_cases h : b≤a
 ·
  rw [if_pos h];simp [h]
 rw [if_neg h];simp [h]
theorem in_impl (a b c : Int) : impl_inRange.f a b c=some (inr a b c):=in_spec a b c
abbrev emB (a : ByteArray) : Bool:=a.toList == ([] : List UInt8)
def flat (v : IVal) : Bool :=
 if v.f0=0 then decide (v.f1=0) && emB v.f2
 else if v.f0=1 then inr v.f1 0 1 && emB v.f2
 else if v.f0=2 then inr v.f1 (-1000000000000) 1000000000000 && emB v.f2
 else if v.f0=3 then decide (v.f1=0) && decide ((v.f2.size : Int)≤300)
 else false
def rightV : Nat→IVal→Bool
 | 0,v => flat v
 | d + 1,v =>
  if v.f0=4 then decide (v.f1=0) && (decide ((v.f2.size : Int)≤300) && (match itS v.f2.size v.f2 with|some l => l.all (rightV d)|none => false))
  else if v.f0=5 then decide (v.f1=0) && (decide ((v.f2.size : Int)≤300) && (match fdS v.f2.size v.f2 with|some l => nms none l && l.all (fun f => rightV d f.f1)|none => false))
  else flat v
theorem bad_right (v : IVal) (h : Bad v) : ∀ d,rightV d v=false:=by
 have hf : flat v=false:=by
  unfold flat;rcases h with h|h|⟨h,h2⟩
  ·
   rw [if_neg (by omega),if_neg (by omega),if_neg (by omega),if_neg (by omega)]
  ·
   rw [if_neg (by omega),if_neg (by omega),if_neg (by omega),if_neg (by omega)]
  rw [if_neg (by omega),if_neg (by omega),if_pos h];have : inr v.f1 (-1000000000000) 1000000000000=false:=by unfold inr;simp;omega
  rw [this];rfl
 intro d
 cases d with
 | zero => exact hf
 | succ d =>
  unfold rightV;rcases h with h|h|⟨h,h2⟩
  ·
   rw [if_neg (by omega),if_neg (by omega)];exact hf
  ·
   rw [if_neg (by omega),if_neg (by omega)];exact hf
  rw [if_neg (by omega),if_neg (by omega)];exact hf
theorem rdV (l : List IVal) (i : Nat) (h : i<l.length) : rd_T26 l (i : Int)=l[i]:=getD_at _ l i h
theorem rdF (l : List IFld) (i : Nat) (h : i<l.length) : rd_T68 l (i : Int)=l[i]:=getD_at _ l i h
theorem its_size : ∀ (m : Nat) (a : ByteArray) (l : List IVal),itS m a=some l→a.size≤1048576→l.length≤a.size ∧ ∀ x ∈ l,x.f2.size≤1048576:=by
 intro m
 induction m with
 | zero =>
  intro a l h h2;simp only [itS] at h
  by_cases hz : a.size=0
  ·
   rw [if_pos hz] at h
   obtain rfl : []=l:=by simpa using h
   simp
  rw [if_neg hz] at h;simp at h
 | succ m ih =>
  intro a l h h2;simp only [itS] at h
  by_cases hz : a.size=0
  ·
   rw [if_pos hz] at h
   obtain rfl : []=l:=by simpa using h
   simp
  rw [if_neg hz] at h
  cases hn : nxtV a with
  | none => rw [hn] at h;simp at h
  | some p =>
   obtain ⟨v,r⟩:=p;rw [hn] at h;simp only [Option.map_eq_some_iff] at h;obtain ⟨l',h',rfl⟩:=h;obtain ⟨hs,hlt⟩:=nxt_some a v r hn;have hv:=val_size a false h2;rw [hs] at hv;obtain ⟨i1,i2⟩:=ih r l' h' (by omega);refine ⟨by simp;omega,fun x hx => ?_⟩;rcases List.mem_cons.1 hx with rfl|hx
   ·
    exact hv
   exact i2 x hx
theorem fds_size : ∀ (m : Nat) (a : ByteArray) (l : List IFld),fdS m a=some l→a.size≤1048576→l.length≤a.size ∧ ∀ x ∈ l,x.f0.size≤1048576∧x.f1.f2.size≤1048576:=by
 intro m
 induction m with
 | zero =>
  intro a l h h2;simp only [fdS] at h
  by_cases hz : a.size=0
  ·
   rw [if_pos hz] at h
   obtain rfl : []=l:=by simpa using h
   simp
  rw [if_neg hz] at h;simp at h
 | succ m ih =>
  intro a l h h2;simp only [fdS] at h
  by_cases hz : a.size=0
  ·
   rw [if_pos hz] at h
   obtain rfl : []=l:=by simpa using h
   simp
  rw [if_neg hz] at h
  by_cases hy : (a.size : Int)<1 + bt a 0
  ·
   rw [if_pos hy] at h;simp at h
  rw [if_neg hy] at h;have ht:=tail_size a (1 + bt a 0).toNat;have hb:=bt_range a 0
  cases hn : nxtV (a.extract (1 + bt a 0).toNat a.size) with
  | none => rw [hn] at h;simp at h
  | some p =>
   obtain ⟨v,r⟩:=p;rw [hn] at h;simp only [Option.map_eq_some_iff] at h;obtain ⟨l',h',rfl⟩:=h;obtain ⟨hs,hlt⟩:=nxt_some _ v r hn;have hv:=val_size (a.extract (1 + bt a 0).toNat a.size) false (by omega);rw [hs] at hv;obtain ⟨i1,i2⟩:=ih r l' h' (by omega);refine ⟨by simp;omega,fun x hx => ?_⟩;rcases List.mem_cons.1 hx with rfl|hx
   ·
    exact ⟨by simp only [ByteArray.size_extract];omega,hv⟩
   exact i2 x hx
theorem dn (d : Nat) (h : d≤1000) : wrap64 (((d + 1 : Nat) : Int) - 1)=(d : Int):=by rw [w64 (by omega) (by omega)];omega
theorem spec_flat (v : IVal) (e : Int) (h4 : v.f0≠4) (h5 : v.f0≠5) : Eve (fun k => spec_l01OK.f k v.f0 v.f1 v.f2 e) (flat v):=by
 refine Eve.succ ?_;simp only [spec_l01OK.f,in_spec,Option.bind_some];unfold flat;refine Eve.ite (fun h => ?_) (fun h => ?_)
 ·
  rw [if_pos h]
  exact Eve.ite (fun h => Eve.one.eq (by simp [h])) (fun h => Eve.one.eq (by simp [h]))
 rw [if_neg h];refine Eve.ite (fun h => ?_) (fun h => ?_)
 ·
  rw [if_pos h]
  exact Eve.ite (fun h => Eve.one.eq (by simp [h])) (fun h => Eve.one.eq (by simp [h]))
 rw [if_neg h];refine Eve.ite (fun h => ?_) (fun h => ?_)
 ·
  rw [if_pos h]
  exact Eve.ite (fun h => Eve.one.eq (by simp [h])) (fun h => Eve.one.eq (by simp [h]))
 rw [if_neg h];refine Eve.ite (fun h => ?_) (fun h => ?_)
 ·
  rw [if_pos h]
  exact Eve.ite (fun h => Eve.one.eq (by simp [h])) (fun h => Eve.one.eq (by simp [h]))
 rw [if_neg h];refine Eve.ite (fun h => absurd h h4) (fun _ => ?_);exact Eve.ite (fun h => absurd h h5) (fun _ => Eve.one)
theorem impl_flat (v : IVal) (e : Int) (h4 : v.f0≠4) (h5 : v.f0≠5) : Eve (fun k => impl_isRight.f k v.f0 v.f1 v.f2 e) (flat v):=by
 refine Eve.succ ?_;simp only [impl_isRight.f,impl_isNumber.f,in_impl,Option.bind_some];unfold flat;refine Eve.ite (fun h => ?_) (fun h => ?_)
 ·
  rw [if_pos h]
  exact Eve.one.eq (by rw [h];by_cases h1 : v.f1=0 <;> simp [h1])
 rw [if_neg h];refine Eve.ite (fun h => ?_) (fun h => ?_)
 ·
  rw [if_pos h]
  exact Eve.ite (fun h => Eve.one.eq (by simp [h])) (fun h => Eve.one.eq (by simp [h]))
 rw [if_neg h];refine Eve.ite (fun h => ?_) (fun h => ?_)
 ·
  rw [if_pos h]
  exact Eve.ite (fun h => Eve.one.eq (by simp [h])) (fun h => Eve.one.eq (by simp [h]))
 rw [if_neg h];refine Eve.ite (fun h => ?_) (fun h => ?_)
 ·
  rw [if_pos h]
  exact Eve.ite (fun h => Eve.one.eq (by simp [h])) (fun h => Eve.one.eq (by simp [h]))
 rw [if_neg h];refine Eve.ite (fun h => absurd h h4) (fun _ => ?_);have : (v.f0 == 5)=false:=by simpa using h5
 simp only [this];refine Eve.succ ?_;simp only [impl_isRight.j0,Bool.false_eq_true,if_false];exact Eve.one
theorem spec_j0_true (e : Int) (l : List IVal) : Eve (fun k => spec_l01OK.j0 k e l true) false:=Eve.succ (by simp only [spec_l01OK.j0,if_true];exact Eve.one)
theorem spec_j2_true (e : Int) (l : List IFld) : Eve (fun k => spec_l01OK.j2 k e l true) false:=Eve.succ (by simp only [spec_l01OK.j2,if_true];exact Eve.one)
theorem right_spec : ∀ (d : Nat) (v : IVal),d≤1000→v.f2.size≤1048576→Eve (fun k => spec_l01OK.f k v.f0 v.f1 v.f2 (d : Int)) (rightV d v):=by
 intro d
 induction d with
 | zero =>
  intro v hd hs
  by_cases h4 : v.f0=4
  ·
   have hf : flat v=false:=by unfold flat;rw [if_neg (by omega),if_neg (by omega),if_neg (by omega),if_neg (by omega)]
   show Eve _ (flat v);rw [hf];refine Eve.succ ?_;simp only [spec_l01OK.f,h4];simp only [show ¬ (4 : Int)=0 by omega,show ¬ (4 : Int)=1 by omega,show ¬ (4 : Int)=2 by omega,show ¬ (4 : Int)=3 by omega,if_false,if_true];simp only [spec_l01Items.f];refine Eve.bind (items_spec _ v.f2 [] (Nat.le_refl _) hs (by simp;omega)) ?_;have hj:=spec_j0_true ((0 : Nat) : Int) (toldL [] (itS v.f2.size v.f2)).1;refine Eve.ite (fun _ => ?_) (fun _ => hj);refine Eve.ite (fun _ => ?_) (fun _ => hj);exact Eve.ite (fun _ => hj) (fun _ => hj)
  by_cases h5 : v.f0=5
  ·
   have hf : flat v=false:=by unfold flat;rw [if_neg (by omega),if_neg (by omega),if_neg (by omega),if_neg (by omega)]
   show Eve _ (flat v);rw [hf];refine Eve.succ ?_;simp only [spec_l01OK.f,h5];simp only [show ¬ (5 : Int)=0 by omega,show ¬ (5 : Int)=1 by omega,show ¬ (5 : Int)=2 by omega,show ¬ (5 : Int)=3 by omega,show ¬ (5 : Int)=4 by omega,if_false,if_true];simp only [spec_l01Fields.f];refine Eve.bind (fields_spec _ v.f2 [] (Nat.le_refl _) hs (by simp;omega)) ?_;have hj:=spec_j2_true ((0 : Nat) : Int) (toldF [] (fdS v.f2.size v.f2)).1;refine Eve.ite (fun _ => ?_) (fun _ => hj);refine Eve.ite (fun _ => ?_) (fun _ => hj);exact Eve.ite (fun _ => hj) (fun _ => hj)
  exact spec_flat v _ h4 h5
 | succ d ih =>
  intro v hd hs;have he : (((d + 1 : Nat) : Int) == 0)=false:=by simp;omega
  by_cases h4 : v.f0=4
  ·
   unfold rightV
   rw [if_pos h4];refine Eve.succ ?_;simp only [spec_l01OK.f,h4];simp only [show ¬ (4 : Int)=0 by omega,show ¬ (4 : Int)=1 by omega,show ¬ (4 : Int)=2 by omega,show ¬ (4 : Int)=3 by omega,if_false,if_true];simp only [spec_l01Items.f];refine Eve.bind (items_spec _ v.f2 [] (Nat.le_refl _) hs (by simp;omega)) ?_;have hj:=spec_j0_true ((d + 1 : Nat) : Int) (toldL [] (itS v.f2.size v.f2)).1;refine Eve.ite (fun h1 => ?_) (fun h1 => hj.eq (by simp [h1]))
   cases hi : itS v.f2.size v.f2 with
   | none =>
    rw [hi] at hj;simp only [toldL,Bool.false_eq_true,if_false];exact hj.eq (by simp)
   | some l =>
    rw [hi] at hj;simp only [toldL,if_true,List.nil_append] at hj ⊢;refine Eve.ite (fun h2 => hj.eq ?_) (fun h2 => ?_)
    ·
     have : decide ((v.f2.size : Int)≤300)=false:=by simp;omega
     simp [this]
    obtain ⟨hl1,hl2⟩:=its_size _ _ l hi hs;have hsz : decide ((v.f2.size : Int)≤300)=true:=by simp;omega
    simp only [he];refine Eve.succ ?_;simp only [spec_l01OK.j0,Bool.false_eq_true,if_false]
    have:=ev_loop0 l (fun k (_ : Unit) i => spec_l01OK.l0 k ((d + 1 : Nat) : Int) l i) (fun _ _ r => r.all (rightV d)) (fun _ _ => True) (fun _ _ => by
     simp only [spec_l01OK.l0]
     exact Eve.ite (fun h => absurd h (by omega)) (fun _ => Eve.one)) (fun i hi _ _ ih2 => by
     simp only [spec_l01OK.l0];refine Eve.ite (fun _ => ?_) (fun h => absurd (by omega) h);refine Eve.ite (fun _ => ?_) (fun h => absurd (by omega) h);simp only [rdV l i hi,dn d (by omega),wi (show i≤9223372036854775806 by omega)];refine Eve.bind (ih l[i] (by omega) (hl2 _ (List.getElem_mem hi))) ?_
     exact Eve.ite (fun h => (ih2 () trivial).eq (by rw [List.all_cons,h,Bool.true_and])) (fun h => Eve.one.eq (by rw [List.all_cons,Bool.eq_false_iff.mpr h,Bool.false_and]))) () trivial
    exact this.eq (by simp [h1,hsz])
  by_cases h5 : v.f0=5
  ·
   unfold rightV
   rw [if_neg h4,if_pos h5];refine Eve.succ ?_;simp only [spec_l01OK.f,h5];simp only [show ¬ (5 : Int)=0 by omega,show ¬ (5 : Int)=1 by omega,show ¬ (5 : Int)=2 by omega,show ¬ (5 : Int)=3 by omega,show ¬ (5 : Int)=4 by omega,if_false,if_true];simp only [spec_l01Fields.f];refine Eve.bind (fields_spec _ v.f2 [] (Nat.le_refl _) hs (by simp;omega)) ?_;have hj:=spec_j2_true ((d + 1 : Nat) : Int) (toldF [] (fdS v.f2.size v.f2)).1;refine Eve.ite (fun h1 => ?_) (fun h1 => hj.eq (by simp [h1]))
   cases hi : fdS v.f2.size v.f2 with
   | none =>
    rw [hi] at hj;simp only [toldF,Bool.false_eq_true,if_false];exact hj.eq (by simp)
   | some l =>
    rw [hi] at hj;simp only [toldF,if_true,List.nil_append] at hj ⊢;refine Eve.ite (fun h2 => hj.eq ?_) (fun h2 => ?_)
    ·
     have : decide ((v.f2.size : Int)≤300)=false:=by simp;omega
     simp [this]
    obtain ⟨hl1,hl2⟩:=fds_size _ _ l hi hs;have hsz : decide ((v.f2.size : Int)≤300)=true:=by simp;omega
    simp only [he];refine Eve.succ ?_;simp only [spec_l01OK.j2,Bool.false_eq_true,if_false]
    have:=ev_loop0 l (fun k (_ : Unit) i => spec_l01OK.l1 k ((d + 1 : Nat) : Int) l i) (fun i _ r => nms (if i=0 then none else some (l.getD (i - 1) z68).f0) r && r.all (fun f => rightV d f.f1)) (fun _ _ => True) (fun _ _ => by
     simp only [spec_l01OK.l1]
     exact Eve.ite (fun h => absurd h (by omega)) (fun _ => Eve.one.eq (by simp [nms]))) (fun i hi _ _ ih2 => by
     have hnx:=ih2 () trivial;simp only [Nat.add_one_ne_zero,if_false,Nat.add_sub_cancel,List.getD_eq_getElem?_getD,List.getElem?_eq_getElem hi,Option.getD_some] at hnx;simp only [spec_l01OK.l1];refine Eve.ite (fun _ => ?_) (fun h => absurd (by omega) h);refine Eve.ite (fun _ => ?_) (fun h => absurd (by omega) h);have hm:=hl2 _ (List.getElem_mem hi);simp only [rdF l i hi,dn d (by omega),wi (show i≤9223372036854775806 by omega)];refine Eve.bind (nam_spec _ hm.1) ?_;refine Eve.ite (fun hn => ?_) (fun hn => Eve.one.eq (by simp [nms,hn]));refine Eve.ite (fun h3 => ?_) (fun h3 => ?_)
     ·
      have hw : wrap64 ((i : Int) - 1)=((i - 1 : Nat) : Int):=by rw [w64 (by omega) (by omega)];omega
      simp only [hw];refine Eve.ite (fun _ => ?_) (fun h => absurd (by omega) h);refine Eve.ite (fun _ => ?_) (fun h => absurd (by omega) h);rw [if_neg (by omega),List.getD_eq_getElem?_getD,List.getElem?_eq_getElem (show i - 1<l.length by omega),Option.getD_some];simp only [rdF l (i - 1) (show i - 1<l.length by omega)];refine Eve.ite (fun h6 => ?_) (fun h6 => Eve.one.eq (by simp [nms,h6]));refine Eve.bind (ih l[i].f1 (by omega) hm.2) ?_;exact Eve.ite (fun h => hnx.eq (by simp only [nms,hn,h6,List.all_cons,h,Bool.true_and])) (fun h => Eve.one.eq (by rw [List.all_cons,Bool.eq_false_iff.mpr h,Bool.false_and,Bool.and_false]))
     obtain rfl : i=0:=by omega
     rw [if_pos rfl];refine Eve.bind (ih l[0].f1 (by omega) hm.2) ?_
     exact Eve.ite (fun h => hnx.eq (by simp [nms,hn,h])) (fun h => Eve.one.eq (by simp [h]))) () trivial
    rw [if_pos rfl] at this;exact this.eq (by simp [h1,hsz])
  unfold rightV;rw [if_neg h4,if_neg h5];exact spec_flat v _ h4 h5
theorem Eve.list {α β : Type} (g : Nat→α→Option β) (q : α→β) : ∀ l : List α,(∀ x ∈ l,Eve (fun k => g k x) (q x)) → ∃ K,∀ k,K≤k → ∀ x ∈ l,g k x=some (q x)
 | [],_ => ⟨0,fun _ _ x hx => by simp at hx⟩
 | y :: l,h => by
  obtain ⟨K,hK⟩:=Eve.list g q l (fun x hx => h x (by simp [hx]));obtain ⟨K2,hK2⟩:=h y (by simp);refine ⟨max K K2,fun k hk x hx => ?_⟩;rcases List.mem_cons.1 hx with rfl|hx
  ·
   exact hK2 k (by omega)
  exact hK k (by omega) x hx
theorem cf_tells (l : List IVal) (q : IVal→Bool) (e : Int) (hl : l.length≤4194304) (h : ∀ x ∈ l,Eve (fun k => impl_isRight.f k x.f0 x.f1 x.f2 (wrap64 (e - 1))) (q x)) :
  Eve (fun k => impl_Value_at_isRight_1.f k (impl_isRight.f k) l e) (l.any (fun x => !q x)):=by
 obtain ⟨K,hK⟩:=Eve.list (fun k (x : IVal) => impl_isRight.f k x.f0 x.f1 x.f2 (wrap64 (e - 1))) q l h;refine ⟨max K (l.length + 1),fun k hk => ?_⟩;have hG : ∀ x ∈ l,impl_isRight.f k x.f0 x.f1 x.f2 (wrap64 (e - 1))=some (q x):=hK k (by omega);show impl_Value_at_isRight_1.f k (impl_isRight.f k) l e=_;generalize impl_isRight.f k=G at hG;unfold impl_Value_at_isRight_1.f impl_Value_at_isRight_1_200001.f
 have:=first_loop (fun k i => impl_Value_at_isRight_1_200001.l0 G k l (l.length : Int) i e) l (fun x => !q x) (fun k i hi => by
  have hx:=hG l[i] (List.getElem_mem hi);simp only [impl_Value_at_isRight_1_200001.l0];rw [if_pos (by omega),if_pos (by omega),if_pos (by omega),rdV l i hi,wi (show i≤9223372036854775806 by omega)];unfold impl_isRight_1.f;rw [hx]
  rfl) (fun k => by simp only [impl_Value_at_isRight_1_200001.l0];rw [if_neg (by omega)]) l.length k 0 (by omega) (by omega)
 rw [show ((0 : Nat) : Int)=0 from rfl,List.drop_zero] at this;rw [this];simp only [Option.bind_some,first_any]
theorem any_not (l : List IVal) (q : IVal→Bool) : (!(l.any (fun x => !q x)))=l.all q:=by
 induction l with
 | nil => rfl
 | cons x l ih => simp only [List.any_cons,List.all_cons,← ih];cases q x <;> simp
theorem inner_loop (l : List IFld) (hl : l.length≤1048576) (hn : ∀ f ∈ l,f.f0.size≤1048576) (ok : Bool) : Eve (fun k => impl_inner.l0 k l ok [] l (l.length : Int) 0) (l.map (·.f1),ok && nms none l):=by
 have:=ev_loop0 l (fun k (s : Bool×List IVal) i => impl_inner.l0 k l s.1 s.2 l (l.length : Int) i) (fun i s r => (s.2 ++ r.map (·.f1),s.1 && nms (if i=0 then none else some (l.getD (i - 1) z68).f0) r)) (fun i s => s.2.length=i) (fun s _ => by
  simp only [impl_inner.l0]
  exact Eve.ite (fun h => absurd h (by omega)) (fun _ => Eve.one.eq (by simp [nms]))) (fun i hi s hI ih => by
  obtain ⟨b,out⟩:=s;simp only at hI;have hf:=hn l[i] (List.getElem_mem hi);have hnx:=fun b' => ih (b',out ++ [⟨l[i].f1.f0,l[i].f1.f1,l[i].f1.f2⟩]) (by simp;omega);simp only [Nat.add_one_ne_zero,if_false,Nat.add_sub_cancel,List.getD_eq_getElem?_getD,List.getElem?_eq_getElem hi,Option.getD_some] at hnx;have hout : ∀ r : List IFld,out ++ [(⟨l[i].f1.f0,l[i].f1.f1,l[i].f1.f2⟩ : IVal)] ++ r.map (·.f1)=out ++ (l[i] :: r).map (·.f1):=by intro r;simp
  simp only [impl_inner.l0];refine Eve.ite (fun _ => ?_) (fun h => absurd (by omega) h);refine Eve.ite (fun _ => ?_) (fun h => absurd (by omega) h);refine Eve.ite (fun _ => ?_) (fun h => absurd (by omega) h);simp only [rdF l i hi,wi (show i≤9223372036854775806 by omega)];refine Eve.ite (fun hb => ?_) (fun hb => ?_)
  ·
   refine Eve.bind (nam_impl _ hf) ?_
   refine Eve.ite (fun h1 => ?_) (fun h1 => ?_)
   ·
    refine Eve.ite (fun h2 => ?_) (fun h2 => ?_)
    ·
     obtain rfl : i=0:=by omega
     refine Eve.ite (fun _ => (hnx true).eq ?_) (fun h => absurd (by omega) h);rw [hout,if_pos rfl];simp only [nms,h1,hb,Bool.true_and]
    have hw : wrap64 ((i : Int) - 1)=((i - 1 : Nat) : Int):=by rw [w64 (by omega) (by omega)];omega
    simp only [hw];refine Eve.ite (fun _ => ?_) (fun h => absurd (by omega) h);refine Eve.ite (fun _ => ?_) (fun h => absurd (by omega) h);refine Eve.ite (fun _ => ?_) (fun h => absurd (by omega) h);have hi1 : i - 1<l.length:=by omega
    have hz : ¬ i=0:=by omega
    simp only [rdF l (i - 1) hi1];refine (hnx _).eq ?_;rw [hout,if_neg hz,List.getD_eq_getElem?_getD,List.getElem?_eq_getElem hi1,Option.getD_some];simp only [nms,h1,hb,Bool.true_and]
   refine Eve.ite (fun _ => (hnx false).eq ?_) (fun h => absurd (by omega) h);rw [hout];simp only [nms,Bool.eq_false_iff.mpr h1,Bool.false_and,Bool.and_false]
  refine Eve.ite (fun _ => (hnx false).eq ?_) (fun h => absurd (by omega) h);rw [hout]
  simp only [Bool.eq_false_iff.mpr hb,Bool.false_and]) (ok,[]) rfl
 exact this.eq (by simp)
theorem inner_four (v : IVal) (h4 : v.f0=4) (hs : v.f2.size≤1048576) : ∃ l ok,Eve (fun k => impl_inner.f k v.f0 v.f1 v.f2) (l,ok)∧l.length≤1048576∧(∀ x ∈ l,x.f2.size≤1048576) ∧
  ((itS v.f2.size v.f2=some l∧ok=true)∨(itS v.f2.size v.f2=none∧(ok=false ∨ ∃ x ∈ l,Bad x))):=by
 simp only [impl_inner.f,impl_items.f,if_pos h4]
 cases hi : itS v.f2.size v.f2 with
 | some l =>
  obtain ⟨h1,h2⟩:=its_size _ _ l hi hs;exact ⟨l,true,(Eve.bind (items_some _ v.f2 [] l hi (by simp;omega)) Eve.one),by omega,h2,.inl ⟨rfl,rfl⟩⟩
 | none =>
  obtain ⟨l,ok,hl,hb,h1,h2⟩:=items_none _ v.f2 [] (Nat.le_refl _) hi (by simp;omega);exact ⟨l,ok,(Eve.bind hl Eve.one),by omega,h2,.inr ⟨rfl,hb⟩⟩
theorem inner_five (v : IVal) (h5 : v.f0=5) (hs : v.f2.size≤1048576) : ∃ l ok,Eve (fun k => impl_inner.f k v.f0 v.f1 v.f2) (l,ok)∧l.length≤1048576∧(∀ x ∈ l,x.f2.size≤1048576) ∧
  ((∃ fs,fdS v.f2.size v.f2=some fs∧l=fs.map (·.f1)∧ok=nms none fs)∨(fdS v.f2.size v.f2=none∧(ok=false ∨ ∃ x ∈ l,Bad x))):=by
 have h4 : ¬ v.f0=4:=by omega
 simp only [impl_inner.f,impl_fields.f,if_neg h4]
 cases hi : fdS v.f2.size v.f2 with
 | some fs =>
  obtain ⟨h1,h2⟩:=fds_size _ _ fs hi hs;refine ⟨fs.map (·.f1),nms none fs,?_,by simp;omega,?_,.inl ⟨fs,rfl,rfl,rfl⟩⟩
  ·
   refine Eve.bind (fields_some _ v.f2 [] fs hi (by simp;omega)) ?_
   exact (inner_loop fs (by omega) (fun f hf => (h2 f hf).1) true).eq (by simp)
  intro x hx;obtain ⟨f,hf,rfl⟩:=List.mem_map.1 hx;exact (h2 f hf).2
 | none =>
  obtain ⟨fs,ok,hl,hb,h1,h2⟩:=fields_none _ v.f2 [] (Nat.le_refl _) hi (by simp;omega);refine ⟨fs.map (·.f1),ok && nms none fs,?_,by simp;omega,?_,.inr ⟨rfl,?_⟩⟩
  ·
   refine Eve.bind hl ?_
   exact inner_loop fs (by omega) (fun f hf => (h2 f hf).1) ok
  ·
   intro x hx
   obtain ⟨f,hf,rfl⟩:=List.mem_map.1 hx;exact (h2 f hf).2
  rcases hb with hb|⟨f,hf,hb⟩
  ·
   left;rw [hb];rfl
  right;exact ⟨f.f1,List.mem_map.2 ⟨f,hf,rfl⟩,hb⟩
theorem all_bad (l : List IVal) (q : IVal→Bool) (x : IVal) (hx : x ∈ l) (h : q x=false) : l.all q=false:=by
 rw [List.all_eq_false];exact ⟨x,hx,by simp [h]⟩
theorem nest_tells (v : IVal) (d : Nat) (l : List IVal) (ok : Bool) (hd : d≤1000) (h45 : v.f0=4∨v.f0=5) (hin : Eve (fun k => impl_inner.f k v.f0 v.f1 v.f2) (l,ok)) (hl : l.length≤1048576)
  (hq : ∀ x ∈ l,Eve (fun k => impl_isRight.f k x.f0 x.f1 x.f2 (d : Int)) (rightV d x)) :
  Eve (fun k => impl_isRight.f k v.f0 v.f1 v.f2 ((d + 1 : Nat) : Int)) (decide (v.f1=0) && (decide ((v.f2.size : Int)≤300) && (ok && l.all (rightV d)))):=by
 have hj : Eve (fun k => impl_isRight.j0 k true v.f0 v.f1 v.f2 ((d + 1 : Nat) : Int)) (decide (v.f1=0) && (decide ((v.f2.size : Int)≤300) && (ok && l.all (rightV d)))):=by
  refine Eve.succ ?_;simp only [impl_isRight.j0,if_true];refine Eve.bind hin ?_;refine Eve.ite (fun h1 => ?_) (fun h1 => Eve.one.eq (by simp [h1]));refine Eve.ite (fun h2 => ?_) (fun h2 => Eve.one.eq (by simp [h2]));refine Eve.ite (fun _ => ?_) (fun h => absurd (by omega) h);refine Eve.ite (fun h3 => ?_) (fun h3 => Eve.one.eq (by rw [show ok=false from Bool.eq_false_iff.mpr h3];simp));have hc:=cf_tells l (rightV d) ((d + 1 : Nat) : Int) (by omega) (fun x hx => by rw [dn d hd];exact hq x hx);refine Eve.bind hc (Eve.one.eq ?_);rw [any_not,show ok=true from h3];simp [h1,h2]
 refine Eve.succ ?_;simp only [impl_isRight.f];rcases h45 with h|h
 ·
  simp only [h] at hj ⊢
  simp only [show ¬ (4 : Int)=0 by omega,show ¬ (4 : Int)=1 by omega,show ¬ (4 : Int)=2 by omega,show ¬ (4 : Int)=3 by omega,if_false,if_true,beq_self_eq_true];exact hj
 simp only [h] at hj ⊢;simp only [show ¬ (5 : Int)=0 by omega,show ¬ (5 : Int)=1 by omega,show ¬ (5 : Int)=2 by omega,show ¬ (5 : Int)=3 by omega,show ¬ (5 : Int)=4 by omega,if_false,beq_self_eq_true];exact hj
theorem nest_zero (v : IVal) (l : List IVal) (ok : Bool) (h45 : v.f0=4∨v.f0=5) (hin : Eve (fun k => impl_inner.f k v.f0 v.f1 v.f2) (l,ok)) : Eve (fun k => impl_isRight.f k v.f0 v.f1 v.f2 ((0 : Nat) : Int)) false:=by
 have hj : Eve (fun k => impl_isRight.j0 k true v.f0 v.f1 v.f2 ((0 : Nat) : Int)) false:=by
  refine Eve.succ ?_;simp only [impl_isRight.j0,if_true];refine Eve.bind hin ?_;refine Eve.ite (fun _ => ?_) (fun _ => Eve.one);refine Eve.ite (fun _ => ?_) (fun _ => Eve.one);exact Eve.ite (fun h => absurd h (by omega)) (fun _ => Eve.one)
 refine Eve.succ ?_;simp only [impl_isRight.f];rcases h45 with h|h
 ·
  simp only [h] at hj ⊢
  simp only [show ¬ (4 : Int)=0 by omega,show ¬ (4 : Int)=1 by omega,show ¬ (4 : Int)=2 by omega,show ¬ (4 : Int)=3 by omega,if_false,if_true,beq_self_eq_true];exact hj
 simp only [h] at hj ⊢;simp only [show ¬ (5 : Int)=0 by omega,show ¬ (5 : Int)=1 by omega,show ¬ (5 : Int)=2 by omega,show ¬ (5 : Int)=3 by omega,show ¬ (5 : Int)=4 by omega,if_false,beq_self_eq_true];exact hj
theorem right_impl : ∀ (d : Nat) (v : IVal),d≤1000→v.f2.size≤1048576→Eve (fun k => impl_isRight.f k v.f0 v.f1 v.f2 (d : Int)) (rightV d v):=by
 intro d
 induction d with
 | zero =>
  intro v hd hs
  by_cases h4 : v.f0=4
  ·
   obtain ⟨l,ok,hin,_⟩:=inner_four v h4 hs
   refine (nest_zero v l ok (.inl h4) hin).eq ?_;show false=flat v;unfold flat;rw [if_neg (by omega),if_neg (by omega),if_neg (by omega),if_neg (by omega)]
  by_cases h5 : v.f0=5
  ·
   obtain ⟨l,ok,hin,_⟩:=inner_five v h5 hs
   refine (nest_zero v l ok (.inr h5) hin).eq ?_;show false=flat v;unfold flat;rw [if_neg (by omega),if_neg (by omega),if_neg (by omega),if_neg (by omega)]
  exact impl_flat v _ h4 h5
 | succ d ih =>
  intro v hd hs
  by_cases h4 : v.f0=4
  ·
   obtain ⟨l,ok,hin,hl,hsz,hc⟩:=inner_four v h4 hs
   refine (nest_tells v d l ok (by omega) (.inl h4) hin hl (fun x hx => ih x (by omega) (hsz x hx))).eq ?_;unfold rightV;rw [if_pos h4];rcases hc with ⟨hi,rfl⟩|⟨hi,hb⟩
   ·
    rw [hi];simp
   rw [hi];rcases hb with rfl|⟨x,hx,hb⟩
   ·
    simp
   rw [all_bad l (rightV d) x hx (bad_right x hb d)];simp
  by_cases h5 : v.f0=5
  ·
   obtain ⟨l,ok,hin,hl,hsz,hc⟩:=inner_five v h5 hs
   refine (nest_tells v d l ok (by omega) (.inr h5) hin hl (fun x hx => ih x (by omega) (hsz x hx))).eq ?_;unfold rightV;rw [if_neg h4,if_pos h5];rcases hc with ⟨fs,hi,rfl,rfl⟩|⟨hi,hb⟩
   ·
    rw [hi,List.all_map];rfl
   rw [hi];rcases hb with rfl|⟨x,hx,hb⟩
   ·
    simp
   rw [all_bad l (rightV d) x hx (bad_right x hb d)];simp
  unfold rightV;rw [if_neg h4,if_neg h5];exact impl_flat v _ h4 h5
theorem right_small (d : Nat) (v : IVal) (h : 300<v.f2.size) : rightV d v=false:=by
 have he : emB v.f2=false:=by
  have : ¬ v.f2.toList=([] : List UInt8):=fun e => by have:=(emp _).1 e;omega
  simpa [emB] using this
 have hz : decide ((v.f2.size : Int)≤300)=false:=by simp;omega
 have hf : flat v=false:=by
  unfold flat;rw [he,hz]
  repeat' split
  all_goals simp
 cases d with
 | zero => exact hf
 | succ d =>
  unfold rightV;rw [hz,hf]
  repeat' split
  all_goals simp
theorem ok_impl (v : IVal) (hs : v.f2.size≤1048576) : Eve (fun k => impl_ValueOK.f k v.f0 v.f1 v.f2) (rightV 5 v):=by
 simp only [impl_ValueOK.f];exact Eve.bind (right_impl 5 v (by omega) hs) Eve.one
theorem ok_spec (v : IVal) (hs : v.f2.size≤1048576) : Eve (fun k => spec_ValueOK.f k v.f0 v.f1 v.f2) (rightV 5 v):=by
 simp only [spec_ValueOK.f];refine Eve.ite (fun _ => Eve.bind (right_spec 5 v (by omega) hs) Eve.one) (fun h => Eve.one.eq ?_);rw [right_small 5 v (by omega)]
abbrev LVal:=S23

def iv (v : LVal) : IVal:=⟨v.f0,v.f1,v.f2⟩
theorem ival_ext {a b : IVal} (h0 : a.f0=b.f0) (h1 : a.f1=b.f1) (h2 : a.f2=b.f2) : a=b:=by cases a;cases b;simp_all
theorem szValue_tells (v : LVal) (h : v.f2.size≤9223372036854775807) {left : Int} (h0 : 0≤left) (h1 : left≤1048576) :
  laws_szValue.f v.f0 v.f1 v.f2 left=some (if left - v.f2.size<0 then -1 else left - v.f2.size):=by
 unfold laws_szValue.f;rw [w64 (by omega) (by omega)]
 split <;> rfl
theorem toValue_tells (v : LVal) : laws_toValue.f v.f0 v.f1 v.f2=some (v.f0,v.f1,v.f2):=rfl
theorem right_four {d : Nat} {v : IVal} (h : rightV d v=true) (h4 : v.f0=4) : ∃ e l,d=e + 1∧itS v.f2.size v.f2=some l∧l.all (rightV e)=true:=by
 cases d with
 | zero =>
  have : flat v=true:=h;unfold flat at this;rw [if_neg (by omega),if_neg (by omega),if_neg (by omega),if_neg (by omega)] at this
  cases this
 | succ e =>
  unfold rightV at h;rw [if_pos h4] at h
  cases hi : itS v.f2.size v.f2 with
  | none => rw [hi] at h;simp at h
  | some l =>
   rw [hi] at h;simp only [Bool.and_eq_true] at h;exact ⟨e,l,rfl,rfl,h.2.2⟩
theorem right_five {d : Nat} {v : IVal} (h : rightV d v=true) (h5 : v.f0=5) : ∃ e l,d=e + 1∧fdS v.f2.size v.f2=some l∧nms none l=true∧l.all (fun f => rightV e f.f1)=true:=by
 have h4 : ¬ v.f0=4:=by omega
 cases d with
 | zero =>
  have : flat v=true:=h;unfold flat at this;rw [if_neg (by omega),if_neg (by omega),if_neg (by omega),if_neg (by omega)] at this
  cases this
 | succ e =>
  unfold rightV at h;rw [if_neg h4,if_pos h5] at h
  cases hi : fdS v.f2.size v.f2 with
  | none => rw [hi] at h;simp at h
  | some l =>
   rw [hi] at h;simp only [Bool.and_eq_true] at h;exact ⟨e,l,rfl,rfl,h.2.2.1,h.2.2.2⟩
theorem pow_pos' (n : Nat) : (1 : Int)≤256 ^ n:=by
 induction n with
 | zero => decide
 | succ n ih => rw [Int.pow_succ];omega
theorem stp_plain (x b : Int) (n : Nat) (h0 : 0≤x) (hb : 0≤b∧b≤255) (h : (x + 1) * 256 ^ (n + 1)≤9223372036854775808) : stp x b=x * 256 + b∧(x * 256 + b + 1) * 256 ^ n≤9223372036854775808:=by
 have hp:=pow_pos' n;have h2 : (x * 256 + b + 1) * 256 ^ n≤(x + 1) * 256 * 256 ^ n:=Int.mul_le_mul_of_nonneg_right (by omega) (by omega);have h3 : (x + 1) * 256 * 256 ^ n=(x + 1) * 256 ^ (n + 1):=by rw [Int.pow_succ,Int.mul_assoc,Int.mul_comm 256]
 have h4 : (x * 256 + b + 1) * 1≤(x * 256 + b + 1) * 256 ^ n:=Int.mul_le_mul_of_nonneg_left hp (by omega);refine ⟨?_,by omega⟩;unfold stp;rw [w64m,w64m,w64m]
 omega
theorem fold_range : ∀ (n : Nat) (l : List Int) (x : Int),l.length=n→(∀ b ∈ l,0≤b∧b≤255)→0≤x→(x + 1) * 256 ^ n≤9223372036854775808→0≤l.foldl stp x∧l.foldl stp x<9223372036854775808:=by
 intro n
 induction n with
 | zero =>
  intro l x hl _ hx h;rw [List.length_eq_zero_iff.1 hl];simp only [Int.pow_zero] at h;exact ⟨hx,by show x<_;omega⟩
 | succ n ih =>
  intro l x hl bl hx h;obtain ⟨b,l,rfl⟩:=List.exists_cons_of_length_eq_add_one hl;have hb:=bl b (by simp);obtain ⟨e1,s1⟩:=stp_plain x b n hx hb h;rw [List.foldl_cons,e1];exact ih l _ (by simpa using hl) (fun z hz => bl z (by simp [hz])) (by omega) s1
theorem fold_inj : ∀ (n : Nat) (l m : List Int) (x y : Int),l.length=n→m.length=n→(∀ b ∈ l,0≤b∧b≤255)→(∀ b ∈ m,0≤b∧b≤255)→0≤x→0≤y→(x + 1) * 256 ^ n≤9223372036854775808→(y + 1) * 256 ^ n≤9223372036854775808 →
  l.foldl stp x=m.foldl stp y→x=y∧l=m:=by
 intro n
 induction n with
 | zero =>
  intro l m x y hl hm _ _ _ _ _ _ h;rw [List.length_eq_zero_iff.1 hl,List.length_eq_zero_iff.1 hm] at *;exact ⟨h,rfl⟩
 | succ n ih =>
  intro l m x y hl hm bl bm hx hy sx sy h;obtain ⟨b,l,rfl⟩:=List.exists_cons_of_length_eq_add_one hl;obtain ⟨c,m,rfl⟩:=List.exists_cons_of_length_eq_add_one hm;have hb:=bl b (by simp);have hc:=bm c (by simp);obtain ⟨e1,s1⟩:=stp_plain x b n hx hb sx;obtain ⟨e2,s2⟩:=stp_plain y c n hy hc sy;rw [List.foldl_cons,List.foldl_cons,e1,e2] at h;obtain ⟨e,e'⟩:=ih l m _ _ (by simpa using hl) (by simpa using hm) (fun z hz => bl z (by simp [hz])) (fun z hz => bm z (by simp [hz])) (by omega) (by omega) s1 s2 h;have e3 : x=y:=by omega
  exact ⟨e3,by rw [e',show b=c by omega]⟩
theorem bytes_cut (a : ByteArray) (i j : Nat) : bytesOf (a.extract i j)=((bytesOf a).drop i).take (j - i):=by
 unfold bytesOf;rw [ByteArray.data_extract,Array.toList_extract,List.map_take,List.map_drop] <;> rfl
theorem bytes_inj {a b : ByteArray} (h : bytesOf a=bytesOf b) : a=b:=by
 have h2 : a.data.toList=b.data.toList:=by
  refine (List.map_inj_right (fun x y hxy => ?_)).1 h;exact UInt8.toNat_inj.1 (by exact_mod_cast hxy)
 cases a;cases b
 simp only [ByteArray.mk.injEq];exact Array.toList_inj.1 h2
theorem bytes_split (a : ByteArray) (i j k : Nat) (h : i≤j) (h2 : j≤k) : bytesOf (a.extract i k)=bytesOf (a.extract i j) ++ bytesOf (a.extract j k):=by
 rw [bytes_cut,bytes_cut,bytes_cut];obtain ⟨d,rfl⟩ : ∃ d,j=i + d:=⟨j - i,by omega⟩;obtain ⟨e,rfl⟩ : ∃ e,k=i + d + e:=⟨k - (i + d),by omega⟩;rw [show i + d + e - i=d + e by omega,show i + d - i=d by omega,show i + d + e - (i + d)=e by omega,List.take_add,List.drop_drop]
theorem bytes_one (a : ByteArray) (i : Nat) (h : i<a.size) : bytesOf (a.extract i (i + 1))=[bt a (i : Int)]:=by
 have hn:=bytesOf_length a;rw [bytes_cut,drop_at _ i (by omega),bt_get a i (by omega),show i + 1 - i=1 by omega,List.take_succ_cons,List.take_zero]
theorem bytes_all (a : ByteArray) : bytesOf (a.extract 0 a.size)=bytesOf a:=by
 rw [bytes_cut];have hn:=bytesOf_length a;simp [← hn]
theorem glue (a b : ByteArray) (n : Nat) (ha : n≤a.size) (hb : n≤b.size) (h : bytesOf (a.extract 0 n)=bytesOf (b.extract 0 n)) (h2 : a.extract n a.size=b.extract n b.size) : a=b:=by
 apply bytes_inj;rw [← bytes_all a,← bytes_all b,bytes_split a 0 n a.size (by omega) ha,bytes_split b 0 n b.size (by omega) hb,h,h2]
theorem bt0 (a : ByteArray) (h : 0<a.size) : bytesOf (a.extract 0 1)=[bt a 0]:=bytes_one a 0 h
theorem bt1 (a : ByteArray) (h : 1<a.size) : bytesOf (a.extract 1 2)=[bt a 1]:=bytes_one a 1 h
theorem nxt_cases (a : ByteArray) (v : IVal) (r : ByteArray) (h : nxtV a=some (v,r)) : ∃ n,n≤a.size∧0<n∧r=a.extract n a.size∧v.f0=bt a 0 ∧
  ((v.f0=0∧n=1)∨(v.f0=1∧n=2∧v.f1=bt a 1)∨(v.f0=2∧n=9∧bt a 1≤127∧v.f1=wrap64 (bigV (bytesOf (a.extract 1 9)) - 4611686018427387904)) ∨
   (3≤v.f0∧v.f0≤5∧n=3 + v.f2.size∧bigV (bytesOf (a.extract 1 3))=v.f2.size∧v.f2=a.extract 3 n)):=by
 unfold nxtV at h
 by_cases hs : a.size=0
 ·
  rw [if_pos hs] at h;cases h
 rw [if_neg hs] at h
 by_cases h0 : bt a 0=0
 ·
  rw [if_pos h0,Option.some.injEq,Prod.mk.injEq] at h
  obtain ⟨rfl,rfl⟩:=h;exact ⟨1,by omega,by omega,rfl,h0.symm,.inl ⟨rfl,rfl⟩⟩
 rw [if_neg h0] at h
 by_cases h1 : bt a 0=1
 ·
  rw [if_pos h1] at h
  by_cases h2 : a.size<2
  ·
   rw [if_pos h2] at h;cases h
  rw [if_neg h2,Option.some.injEq,Prod.mk.injEq] at h;obtain ⟨rfl,rfl⟩:=h;exact ⟨2,by omega,by omega,rfl,h1.symm,.inr (.inl ⟨rfl,rfl,rfl⟩)⟩
 rw [if_neg h1] at h
 by_cases h2 : bt a 0=2
 ·
  rw [if_pos h2] at h
  by_cases h3 : a.size<9
  ·
   rw [if_pos h3] at h;cases h
  rw [if_neg h3] at h
  by_cases h4 : bt a 1 > 127
  ·
   rw [if_pos h4] at h;cases h
  rw [if_neg h4,Option.some.injEq,Prod.mk.injEq] at h;obtain ⟨rfl,rfl⟩:=h;exact ⟨9,by omega,by omega,rfl,h2.symm,.inr (.inr (.inl ⟨rfl,rfl,by omega,rfl⟩))⟩
 rw [if_neg h2] at h
 by_cases h3 : bt a 0=3∨bt a 0=4∨bt a 0=5
 ·
  rw [if_pos h3] at h
  by_cases h4 : a.size<3
  ·
   rw [if_pos h4] at h;cases h
  rw [if_neg h4] at h
  by_cases h5 : (a.size : Int)<3 + bigV (bytesOf (a.extract 1 3))
  ·
   rw [if_pos h5] at h;cases h
  rw [if_neg h5,Option.some.injEq,Prod.mk.injEq] at h;obtain ⟨rfl,rfl⟩:=h;have hb : 0≤bigV (bytesOf (a.extract 1 3)):=(bytes_ext2 a 1 (by omega)).1
  have hz : (a.extract 3 (3 + bigV (bytesOf (a.extract 1 3))).toNat).size=(bigV (bytesOf (a.extract 1 3))).toNat:=by
   rw [ByteArray.size_extract];omega
  refine ⟨(3 + bigV (bytesOf (a.extract 1 3))).toNat,by omega,by omega,rfl,rfl,.inr (.inr (.inr ⟨?_,?_,?_,?_,rfl⟩))⟩
  ·
   show 3≤bt a 0;omega
  ·
   show bt a 0≤5;omega
  ·
   show _=3 + (a.extract 3 (3 + bigV (bytesOf (a.extract 1 3))).toNat).size
   rw [hz];omega
  show _=(((a.extract 3 (3 + bigV (bytesOf (a.extract 1 3))).toNat).size : Nat) : Int);rw [hz];omega
 rw [if_neg h3] at h;cases h
theorem stp_zero (b : Int) (h : 0≤b∧b≤255) : stp 0 b=0 * 256 + b:=by
 unfold stp;rw [w64m,w64m,w64m]
 omega
theorem ext_bytes (a : ByteArray) (i j : Nat) (h : j≤a.size) : (bytesOf (a.extract i j)).length=j - i:=by
 rw [bytesOf_length,ByteArray.size_extract];omega
theorem nxt_inj (a b : ByteArray) (v : IVal) (r : ByteArray) (ha : nxtV a=some (v,r)) (hb : nxtV b=some (v,r)) : a=b:=by
 obtain ⟨n,hn,hp,hr,h0,hc⟩:=nxt_cases a v r ha;obtain ⟨m,hm,hq,hr2,k0,kc⟩:=nxt_cases b v r hb;have e0 : bytesOf (a.extract 0 1)=bytesOf (b.extract 0 1):=by rw [bt0 a (by omega),bt0 b (by omega),← h0,← k0]
 have key : n=m∧bytesOf (a.extract 1 n)=bytesOf (b.extract 1 n):=by
  rcases hc with ⟨c,rfl⟩|⟨c,rfl,c1⟩|⟨c,rfl,c1,c2⟩|⟨c,c5,c1,c2,c3⟩
  ·
   rcases kc with ⟨d,rfl⟩|⟨d,_⟩|⟨d,_⟩|⟨d,_⟩
   ·
    refine ⟨rfl,?_⟩
    rw [List.length_eq_zero_iff.1 (ext_bytes a 1 1 (by omega)),List.length_eq_zero_iff.1 (ext_bytes b 1 1 (by omega))]
   all_goals exact absurd d (by omega)
  ·
   rcases kc with ⟨d,_⟩|⟨d,rfl,d1⟩|⟨d,_⟩|⟨d,_⟩
   ·
    exact absurd d (by omega)
   ·
    exact ⟨rfl,by rw [bt1 a (by omega),bt1 b (by omega),← c1,← d1]⟩
   all_goals exact absurd d (by omega)
  ·
   rcases kc with ⟨d,_⟩|⟨d,_⟩|⟨d,rfl,d1,d2⟩|⟨d,_⟩
   ·
    exact absurd d (by omega)
   ·
    exact absurd d (by omega)
   ·
    refine ⟨rfl,?_⟩
    have sa:=bytes_split a 1 2 9 (by omega) (by omega);have sb:=bytes_split b 1 2 9 (by omega) (by omega);rw [bt1 a (by omega)] at sa;rw [bt1 b (by omega)] at sb;have la : (bytesOf (a.extract 2 9)).length=7:=ext_bytes a 2 9 hn;have lb : (bytesOf (b.extract 2 9)).length=7:=ext_bytes b 2 9 hm;have ra:=bt_range a 1;have rb:=bt_range b 1;have p7 : (256 : Int) ^ 7=72057594037927936:=by decide
    have ga : bigV (bytesOf (a.extract 1 9))=(bytesOf (a.extract 2 9)).foldl stp (0 * 256 + bt a 1):=by rw [sa,← stp_zero _ ra];rfl
    have gb : bigV (bytesOf (b.extract 1 9))=(bytesOf (b.extract 2 9)).foldl stp (0 * 256 + bt b 1):=by rw [sb,← stp_zero _ rb];rfl
    have ia:=fold_range 7 _ (0 * 256 + bt a 1) la (bytes_in _) (by omega) (by rw [p7];omega);have ib:=fold_range 7 _ (0 * 256 + bt b 1) lb (bytes_in _) (by omega) (by rw [p7];omega);have he:=c2.symm.trans d2;rw [ga,gb,w64m,w64m] at he;obtain ⟨x1,x2⟩:=fold_inj 7 _ _ _ _ la lb (bytes_in _) (bytes_in _) (by omega) (by omega) (by rw [p7];omega) (by rw [p7];omega) (show (bytesOf (a.extract 2 9)).foldl stp (0 * 256 + bt a 1)=(bytesOf (b.extract 2 9)).foldl stp (0 * 256 + bt b 1) by omega);rw [sa,sb,x2,show bt a 1=bt b 1 by omega]
   exact absurd d (by omega)
  rcases kc with ⟨d,_⟩|⟨d,_⟩|⟨d,_⟩|⟨d,d5,d1,d2,d3⟩
  ·
   exact absurd d (by omega)
  ·
   exact absurd d (by omega)
  ·
   exact absurd d (by omega)
  obtain rfl : n=m:=by omega
  refine ⟨rfl,?_⟩;rw [bytes_split a 1 3 n (by omega) (by omega),bytes_split b 1 3 n (by omega) (by omega),← c3,← d3]
  congr 1
  have la : (bytesOf (a.extract 1 3)).length=2:=ext_bytes a 1 3 (by omega);have lb : (bytesOf (b.extract 1 3)).length=2:=ext_bytes b 1 3 (by omega);exact (fold_inj 2 _ _ 0 0 la lb (bytes_in _) (bytes_in _) (by omega) (by omega) (by decide) (by decide) (c2.trans d2.symm)).2
 obtain ⟨rfl,e1⟩:=key;refine glue a b n hn hm ?_ (hr.symm.trans hr2);rw [bytes_split a 0 1 n (by omega) (by omega),bytes_split b 0 1 n (by omega) (by omega),e0,e1]
theorem its_nil {m : Nat} {a : ByteArray} (h : itS m a=some []) : a.size=0:=by
 cases m with
 | zero =>
  unfold itS at h
  by_cases hs : a.size=0
  ·
   exact hs
  rw [if_neg hs] at h;cases h
 | succ m =>
  unfold itS at h
  by_cases hs : a.size=0
  ·
   exact hs
  rw [if_neg hs] at h
  cases hn : nxtV a with
  | none => rw [hn] at h;cases h
  | some p => obtain ⟨v,r⟩:=p;rw [hn] at h;simp at h
theorem its_cons {m : Nat} {a : ByteArray} {v : IVal} {l : List IVal} (h : itS m a=some (v :: l)) : ∃ k r,nxtV a=some (v,r)∧itS k r=some l:=by
 cases m with
 | zero =>
  unfold itS at h
  by_cases hs : a.size=0
  ·
   rw [if_pos hs] at h;cases h
  rw [if_neg hs] at h;cases h
 | succ m =>
  unfold itS at h
  by_cases hs : a.size=0
  ·
   rw [if_pos hs] at h;cases h
  rw [if_neg hs] at h
  cases hn : nxtV a with
  | none => rw [hn] at h;cases h
  | some p =>
   obtain ⟨w,r⟩:=p;rw [hn] at h;simp only [Option.map_eq_some_iff,List.cons.injEq] at h;obtain ⟨l2,h2,rfl,rfl⟩:=h;exact ⟨m,r,rfl,h2⟩
theorem its_inj : ∀ (l : List IVal) (m k : Nat) (a b : ByteArray),itS m a=some l→itS k b=some l→a=b:=by
 intro l
 induction l with
 | nil =>
  intro m k a b ha hb;have h1:=its_nil ha;have h2:=its_nil hb;exact ba_ext (by rw [(emp a).2 h1,(emp b).2 h2])
 | cons v l ih =>
  intro m k a b ha hb;obtain ⟨m2,r,n1,i1⟩:=its_cons ha;obtain ⟨k2,s,n2,i2⟩:=its_cons hb;obtain rfl:=ih _ _ _ _ i1 i2;exact nxt_inj a b v r n1 n2
theorem fds_nil {m : Nat} {a : ByteArray} (h : fdS m a=some []) : a.size=0:=by
 cases m with
 | zero =>
  unfold fdS at h
  by_cases hs : a.size=0
  ·
   exact hs
  rw [if_neg hs] at h;cases h
 | succ m =>
  unfold fdS at h
  by_cases hs : a.size=0
  ·
   exact hs
  rw [if_neg hs] at h
  by_cases h1 : (a.size : Int)<1 + bt a 0
  ·
   rw [if_pos h1] at h;cases h
  rw [if_neg h1] at h
  cases hn : nxtV (a.extract (1 + bt a 0).toNat a.size) with
  | none => rw [hn] at h;cases h
  | some p => obtain ⟨v,r⟩:=p;rw [hn] at h;simp at h
theorem fds_cons {m : Nat} {a : ByteArray} {v : IFld} {l : List IFld} (h : fdS m a=some (v :: l)) : ∃ k r,0<a.size∧1 + bt a 0≤a.size∧v.f0=a.extract 1 (1 + bt a 0).toNat∧nxtV (a.extract (1 + bt a 0).toNat a.size)=some (v.f1,r)∧fdS k r=some l:=by
 cases m with
 | zero =>
  unfold fdS at h
  by_cases hs : a.size=0
  ·
   rw [if_pos hs] at h;cases h
  rw [if_neg hs] at h;cases h
 | succ m =>
  unfold fdS at h
  by_cases hs : a.size=0
  ·
   rw [if_pos hs] at h;cases h
  rw [if_neg hs] at h
  by_cases h1 : (a.size : Int)<1 + bt a 0
  ·
   rw [if_pos h1] at h;cases h
  rw [if_neg h1] at h
  cases hn : nxtV (a.extract (1 + bt a 0).toNat a.size) with
  | none => rw [hn] at h;cases h
  | some p =>
   obtain ⟨w,r⟩:=p;rw [hn] at h;simp only [Option.map_eq_some_iff,List.cons.injEq] at h;obtain ⟨l2,h2,rfl,rfl⟩:=h;exact ⟨m,r,by omega,by omega,rfl,rfl,h2⟩
theorem fds_inj : ∀ (l : List IFld) (m k : Nat) (a b : ByteArray),fdS m a=some l→fdS k b=some l→a=b:=by
 intro l
 induction l with
 | nil =>
  intro m k a b ha hb;have h1:=fds_nil ha;have h2:=fds_nil hb;exact ba_ext (by rw [(emp a).2 h1,(emp b).2 h2])
 | cons v l ih =>
  intro m k a b ha hb;obtain ⟨m2,r,p1,q1,f1,n1,i1⟩:=fds_cons ha;obtain ⟨k2,s,p2,q2,f2,n2,i2⟩:=fds_cons hb;obtain rfl:=ih _ _ _ _ i1 i2;have hx:=nxt_inj _ _ _ _ n1 n2;have ra:=bt_range a 0;have rb:=bt_range b 0;have sa : (v.f0.size : Int)=bt a 0:=by rw [f1,ByteArray.size_extract];omega
  have sb : (v.f0.size : Int)=bt b 0:=by rw [f2,ByteArray.size_extract];omega
  have e : bt b 0=bt a 0:=by omega
  rw [e] at f2 hx;refine glue a b (1 + bt a 0).toNat (by omega) (by omega) ?_ hx;rw [bytes_split a 0 1 _ (by omega) (by omega),bytes_split b 0 1 _ (by omega) (by omega),bt0 a p1,bt0 b p2,e,← f1,← f2]
theorem are_list (l : List IVal) (hl : l.length≤1048576) (hs : ∀ x ∈ l,x.f2.size≤1048576) : Eve (fun k => impl_areRight.f k l) (l.all (rightV 5)):=by
 simp only [impl_areRight.f,impl_Value_at_areRight_1.f,impl_Value_at_areRight_1_200003.f]
 have hf : Eve (fun k => impl_Value_at_areRight_1_200003.l0 k l (l.length : Int) 0) (first (fun x => !rightV 5 x) l 0):=by
  refine ev_loop0 l (fun k (_ : Unit) i => impl_Value_at_areRight_1_200003.l0 k l (l.length : Int) i) (fun i _ r => first (fun x => !rightV 5 x) r i) (fun _ _ => True) (fun _ _ => ?_) (fun i hi _ _ ih => ?_) () trivial
  ·
   simp only [impl_Value_at_areRight_1_200003.l0]
   exact Eve.ite (fun h => absurd h (by omega)) (fun _ => Eve.one)
  simp only [impl_Value_at_areRight_1_200003.l0,impl_areRight_1.f,rdV l i hi,wi (show i≤9223372036854775806 by omega)];refine Eve.ite (fun _ => ?_) (fun h => absurd (by omega) h);refine Eve.ite (fun _ => ?_) (fun h => absurd (by omega) h);refine Eve.ite (fun _ => ?_) (fun h => absurd (by omega) h);refine Eve.bind (v:=!rightV 5 l[i]) (Eve.bind (ok_impl l[i] (hs _ (List.getElem_mem hi))) Eve.one) ?_;refine Eve.ite (fun h => Eve.one.eq ?_) (fun h => (ih () trivial).eq ?_)
  ·
   simp [first,h]
  simp [first,h]
 refine Eve.bind (v:=l.any (fun x => !rightV 5 x)) (Eve.bind hf (Eve.one.eq (first_any _ l 0))) ?_;rw [← any_not];exact Eve.one
theorem cb_is : ∀ x y : List UInt8,Lib.compareBytes x y=if Op.bytesLess x y=true then -1 else if x=y then 0 else 1
 | [],[] => by simp [Lib.compareBytes,Op.bytesLess]
 | [],_ :: _ => by simp [Lib.compareBytes,Op.bytesLess]
 | _ :: _,[] => by simp [Lib.compareBytes,Op.bytesLess]
 | a :: x,b :: y => by
  simp only [Lib.compareBytes,Op.bytesLess];rw [cb_is x y]
  by_cases h : a<b
  ·
   simp [h]
  by_cases h2 : b<a
  ·
   have h3 : ¬ a=b:=by rintro rfl;exact h h2
   simp [h,h2,h3]
  have h3 : a=b:=by
   apply UInt8.toNat_inj.mp;rw [UInt8.lt_iff_toNat_lt] at h h2
   omega
  subst h3;simp [h]
theorem cb_self (x : List UInt8) : Lib.compareBytes x x=0:=by
 induction x with
 | nil => rfl
 | cons a x ih => simp [Lib.compareBytes,ih]
def cmpB (a b : ByteArray) : Int:=Lib.compareBytes a.data.toList b.data.toList
def cmpI (a b : Int) : Int:=if a<b then -1 else if a > b then 1 else 0
def or2 (x y : Int) : Int:=if x=0 then y else x
theorem cmpB_self (a : ByteArray) : cmpB a a=0:=cb_self _
theorem cmpB_zero {a b : ByteArray} (h : cmpB a b=0) : a=b:=by
 unfold cmpB at h;rw [cb_is] at h
 by_cases h1 : Op.bytesLess a.data.toList b.data.toList=true
 ·
  rw [if_pos h1] at h;exact absurd h (by decide)
 rw [if_neg h1] at h
 by_cases h2 : a.data.toList=b.data.toList
 ·
  exact ba_ext (by rw [ba_toList,ba_toList,h2])
 rw [if_neg h2] at h;exact absurd h (by decide)
theorem bit1 : wrap64 (wrap64 (2 * 1) - 1)=1:=by rw [w64 (i:=2 * 1) (by omega) (by omega),w64 (by omega) (by omega)];rfl
theorem bit0 : wrap64 (wrap64 (2 * 0) - 1) = -1:=by rw [w64 (i:=2 * 0) (by omega) (by omega),w64 (by omega) (by omega)];rfl
theorem cmpB_ne {a b : ByteArray} (h : ¬ a.toList=b.toList) : cmpB a b=wrap64 (wrap64 (2 * (if Op.bytesLess b.toList a.toList=true then 1 else 0)) - 1):=by
 rw [ba_toList,ba_toList] at h ⊢
 have hb : Op.bytesLess b.data.toList a.data.toList = !(Op.bytesLess a.data.toList b.data.toList):=by
  rw [← bytesLess_total,show (a.data.toList == b.data.toList)=false from by simpa using h,Bool.or_false]
 unfold cmpB;rw [cb_is,hb]
 cases Op.bytesLess a.data.toList b.data.toList with
 | true =>
  simp only [if_true,Bool.not_true,Bool.false_eq_true,if_false];exact bit0.symm
 | false =>
  simp only [Bool.false_eq_true,if_false,if_neg h,Bool.not_false,if_true];exact bit1.symm
theorem cmpI_self (a : Int) : cmpI a a=0:=by unfold cmpI;simp
theorem cmpI_zero {a b : Int} (h : cmpI a b=0) : a=b:=by unfold cmpI at h;split at h <;> (try split at h) <;> omega
theorem cmpI_ne {a b : Int} (h : ¬ a=b) : cmpI a b=wrap64 (wrap64 (2 * (if decide (a > b)=true then 1 else 0)) - 1):=by
 unfold cmpI
 by_cases h1 : a<b
 ·
  rw [if_pos h1,if_neg (show ¬ decide (a > b)=true by simp;omega)];exact bit0.symm
 rw [if_neg h1,if_pos (show a > b by omega),if_pos (show decide (a > b)=true by simp;omega)];exact bit1.symm
theorem or2_zero {x y : Int} (h : or2 x y=0) : x=0∧y=0:=by
 unfold or2 at h
 split at h
 ·
  exact ⟨by assumption,h⟩
 contradiction
theorem or2_r {x y : Int} (h : x=0) : or2 x y=y:=if_pos h
theorem or2_l {x y : Int} (h : ¬ x=0) : or2 x y=x:=if_neg h
def lexL {α : Type} (c : α→α→Int) : List α→List α→Int
 | [],[] => 0
 | [],_ :: _ => -1
 | _ :: _,[] => 1
 | x :: xs,y :: ys => or2 (c x y) (lexL c xs ys)
def lsV (v : IVal) : List IVal:=(itS v.f2.size v.f2).getD []
def fsV (v : IVal) : List IFld:=(fdS v.f2.size v.f2).getD []
def cmpF (c : IVal→IVal→Int) (x y : IFld) : Int:=or2 (cmpB x.f0 y.f0) (c x.f1 y.f1)
def ordV : Nat→IVal→IVal→Int
 | 0,a,b => or2 (or2 (cmpI a.f0 b.f0) (cmpI a.f1 b.f1)) (cmpB a.f2 b.f2)
 | d + 1,a,b => or2 (or2 (cmpI a.f0 b.f0) (cmpI a.f1 b.f1)) (if a.f0=4 then lexL (ordV d) (lsV a) (lsV b) else if a.f0=5 then lexL (cmpF (ordV d)) (fsV a) (fsV b) else cmpB a.f2 b.f2)
theorem lex_self {α : Type} (c : α→α→Int) (h : ∀ x,c x x=0) : ∀ l : List α,lexL c l l=0
 | [] => rfl
 | x :: l => by simp only [lexL,h x,or2,if_true];exact lex_self c h l
theorem ord_self : ∀ (d : Nat) (a : IVal),ordV d a a=0:=by
 intro d
 induction d with
 | zero => intro a;simp [ordV,cmpI_self,cmpB_self,or2]
 | succ d ih =>
  intro a;have hf : ∀ x,cmpF (ordV d) x x=0:=fun x => by simp [cmpF,cmpB_self,or2,ih]
  simp only [ordV,cmpI_self,or2,lex_self _ ih,lex_self _ hf,cmpB_self,ite_self]
theorem lex_zero {α : Type} (c : α→α→Int) : ∀ l m : List α,(∀ x ∈ l,∀ y ∈ m,c x y=0→x=y)→lexL c l m=0→l=m
 | [],[],_,_ => rfl
 | [],_ :: _,_,h => absurd h (by simp [lexL])
 | _ :: _,[],_,h => absurd h (by simp [lexL])
 | x :: l,y :: m,hc,h => by
  obtain ⟨h1,h2⟩:=or2_zero h;rw [hc x (by simp) y (by simp) h1,lex_zero c l m (fun u hu v hv => hc u (by simp [hu]) v (by simp [hv])) h2]
theorem four_holds {d : Nat} {v : IVal} (h : rightV d v=true) (h4 : v.f0=4) (hs : v.f2.size≤1048576) : ∃ e,d=e + 1∧itS v.f2.size v.f2=some (lsV v)∧(lsV v).length≤1048576 ∧ ∀ x ∈ lsV v,rightV e x=true∧x.f2.size≤1048576:=by
 obtain ⟨e,l,he,hi,hr⟩:=right_four h h4;obtain ⟨h1,h2⟩:=its_size _ _ l hi hs;have hl : lsV v=l:=by unfold lsV;rw [hi];rfl
 rw [hl];exact ⟨e,he,hi,by omega,fun x hx => ⟨List.all_eq_true.1 hr x hx,h2 x hx⟩⟩
theorem five_holds {d : Nat} {v : IVal} (h : rightV d v=true) (h5 : v.f0=5) (hs : v.f2.size≤1048576) : ∃ e,d=e + 1∧fdS v.f2.size v.f2=some (fsV v)∧(fsV v).length≤1048576 ∧ ∀ x ∈ fsV v,rightV e x.f1=true∧x.f1.f2.size≤1048576:=by
 obtain ⟨e,l,he,hi,_,hr⟩:=right_five h h5;obtain ⟨h1,h2⟩:=fds_size _ _ l hi hs;have hl : fsV v=l:=by unfold fsV;rw [hi];rfl
 rw [hl];exact ⟨e,he,hi,by omega,fun x hx => ⟨List.all_eq_true.1 hr x hx,(h2 x hx).2⟩⟩
theorem ord_zero : ∀ (d : Nat) (a b : IVal),rightV d a=true→rightV d b=true→a.f2.size≤1048576→b.f2.size≤1048576→ordV d a b=0→a=b:=by
 intro d
 induction d with
 | zero =>
  intro a b _ _ _ _ h;obtain ⟨h1,h2⟩:=or2_zero h;obtain ⟨h3,h4⟩:=or2_zero h1;exact ival_ext (cmpI_zero h3) (cmpI_zero h4) (cmpB_zero h2)
 | succ d ih =>
  intro a b ra rb sa sb h;obtain ⟨h1,h2⟩:=or2_zero h;obtain ⟨h3,h4⟩:=or2_zero h1;have e0:=cmpI_zero h3;refine ival_ext e0 (cmpI_zero h4) ?_
  by_cases k4 : a.f0=4
  ·
   rw [if_pos k4] at h2
   obtain ⟨e,he,ia,_,ha⟩:=four_holds ra k4 sa;obtain ⟨e',he',ib,_,hb⟩:=four_holds rb (e0 ▸ k4) sb;obtain rfl : d=e:=by omega
   obtain rfl : d=e':=by omega
   have hl:=lex_zero _ _ _ (fun x hx y hy => ih x y (ha x hx).1 (hb y hy).1 (ha x hx).2 (hb y hy).2) h2;rw [hl] at ia;exact its_inj _ _ _ _ _ ia ib
  rw [if_neg k4] at h2
  by_cases k5 : a.f0=5
  ·
   rw [if_pos k5] at h2
   obtain ⟨e,he,ia,_,ha⟩:=five_holds ra k5 sa;obtain ⟨e',he',ib,_,hb⟩:=five_holds rb (e0 ▸ k5) sb;obtain rfl : d=e:=by omega
   obtain rfl : d=e':=by omega
   have hl:=lex_zero _ _ _ (fun x hx y hy hxy => by
    obtain ⟨q1,q2⟩:=or2_zero hxy;have q3:=ih x.f1 y.f1 (ha x hx).1 (hb y hy).1 (ha x hx).2 (hb y hy).2 q2;have q4:=cmpB_zero q1
    cases x;cases y
    simp_all) h2
   rw [hl] at ia;exact fds_inj _ _ _ _ _ ia ib
  rw [if_neg k5] at h2;exact cmpB_zero h2
theorem cmp_tells (a b : Int) : cmp_Compare_int.f a b=some (cmpI a b):=by
 unfold cmp_Compare_int.f cmp_isNaN_int.f cmpI;simp only [bne_self_eq_false,Option.bind_some,Bool.false_eq_true,if_false]
 split
 ·
  rfl
 split <;> rfl
theorem or_tells (x y : Int) (k : Nat) (hk : 2<k) : cmp_Or_int.f k [x,y]=some (or2 x y):=by
 obtain ⟨m,rfl⟩ : ∃ m,k=m + 3:=⟨k - 3,by omega⟩;have r0 : rd [x,y] 0=x:=rfl;have r1 : rd [x,y] 1=y:=rfl;have w1 : wrap64 (0 + 1)=1:=w64 (by omega) (by omega);have w2 : wrap64 (1 + 1)=2:=w64 (by omega) (by omega);have l2 : ((([x,y] : List Int).length : Nat) : Int)=2:=rfl;simp only [cmp_Or_int.f,cmp_Or_int.l0,l2,r0,r1,w1,w2];unfold or2
 by_cases h : x=0
 ·
  by_cases h2 : y=0
  ·
   simp [h,h2]
  simp [h,h2]
 simp [h]
theorem Eve.list2 {α β : Type} (g : Nat→α→α→Option β) (q : α→α→β) (m : List α) : ∀ l : List α,(∀ x ∈ l,∀ y ∈ m,Eve (fun k => g k x y) (q x y)) → ∃ K,∀ k,K≤k → ∀ x ∈ l,∀ y ∈ m,g k x y=some (q x y)
 | [],_ => ⟨0,fun _ _ x hx => by simp at hx⟩
 | z :: l,h => by
  obtain ⟨K,hK⟩:=Eve.list2 g q m l (fun x hx => h x (by simp [hx]));obtain ⟨K2,hK2⟩:=Eve.list (fun k y => g k z y) (q z) m (h z (by simp));refine ⟨max K K2,fun k hk x hx y hy => ?_⟩;rcases List.mem_cons.1 hx with rfl|hx
  ·
   exact hK2 k (by omega) y hy
  exact hK k (by omega) x hx y hy
theorem lists_loop (G : Int→Int→ByteArray→Int→Int→ByteArray→Option Int) (c : IVal→IVal→Int) (l m : List IVal) (hl : l.length≤1048576) (hG : ∀ x ∈ l,∀ y ∈ m,G x.f0 x.f1 x.f2 y.f0 y.f1 y.f2=some (c x y)) :
  ∀ (d i k : Nat),i + d=l.length→d<k→i≤m.length→impl_Value_at_order.l0 G k l m l (l.length : Int) (i : Int)=some (lexL c (l.drop i) (m.drop i)):=by
 intro d
 induction d with
 | zero =>
  intro i k hi hk hm;obtain ⟨k,rfl⟩ : ∃ q,k=q + 1:=⟨k - 1,by omega⟩;simp only [impl_Value_at_order.l0];rw [if_neg (by omega),show l.drop i=[] from List.drop_eq_nil_of_le (by omega)]
  by_cases h : i<m.length
  ·
   rw [if_pos (by omega),drop_at m i h];rfl
  rw [if_neg (by omega),show m.drop i=[] from List.drop_eq_nil_of_le (by omega)];rfl
 | succ d ih =>
  intro i k hi hk hm;obtain ⟨k,rfl⟩ : ∃ q,k=q + 1:=⟨k - 1,by omega⟩;have hlt : i<l.length:=by omega
  simp only [impl_Value_at_order.l0];rw [if_pos (by omega),if_pos (by omega),if_pos (by omega),drop_at l i hlt]
  by_cases h : i<m.length
  ·
   rw [if_neg (by omega),if_pos (by omega),rdV l i hlt,rdV m i h,hG _ (List.getElem_mem hlt) _ (List.getElem_mem h),Option.bind_some,wi (by omega),drop_at m i h]
   simp only [lexL,or2]
   by_cases h0 : c l[i] m[i]=0
   ·
    rw [if_pos h0,if_pos h0];exact ih (i + 1) k (by omega) (by omega) (by omega)
   rw [if_neg h0,if_neg h0]
  rw [if_pos (by omega),show m.drop i=[] from List.drop_eq_nil_of_le (by omega)];rfl
theorem docs_loop (G : Int→Int→ByteArray→Int→Int→ByteArray→Option Int) (c : IVal→IVal→Int) (l m : List IFld) (hl : l.length≤1048576) (hG : ∀ x ∈ l,∀ y ∈ m,G x.f1.f0 x.f1.f1 x.f1.f2 y.f1.f0 y.f1.f1 y.f1.f2=some (c x.f1 y.f1)) :
  ∀ (d i k : Nat),i + d=l.length→d + 4<k→i≤m.length→impl_Field_at_orderFields.l0 G k l m l (l.length : Int) (i : Int)=some (lexL (cmpF c) (l.drop i) (m.drop i)):=by
 intro d
 induction d with
 | zero =>
  intro i k hi hk hm;obtain ⟨k,rfl⟩ : ∃ q,k=q + 1:=⟨k - 1,by omega⟩;simp only [impl_Field_at_orderFields.l0];rw [if_neg (by omega),show l.drop i=[] from List.drop_eq_nil_of_le (by omega)]
  by_cases h : i<m.length
  ·
   rw [if_pos (by omega),drop_at m i h];rfl
  rw [if_neg (by omega),show m.drop i=[] from List.drop_eq_nil_of_le (by omega)];rfl
 | succ d ih =>
  intro i k hi hk hm;obtain ⟨k,rfl⟩ : ∃ q,k=q + 1:=⟨k - 1,by omega⟩;have hlt : i<l.length:=by omega
  simp only [impl_Field_at_orderFields.l0];rw [if_pos (by omega),if_pos (by omega),if_pos (by omega),drop_at l i hlt]
  by_cases h : i<m.length
  ·
   rw [if_neg (by omega),if_pos (by omega),rdF l i hlt,rdF m i h]
   simp only [impl_orderFields.f,strings_Compare.f,hG _ (List.getElem_mem hlt) _ (List.getElem_mem h),Option.bind_some,or_tells _ _ k (by omega)];rw [wi (by omega),drop_at m i h];show (if cmpF c l[i] m[i]=0 then _ else some (cmpF c l[i] m[i]))=some (or2 (cmpF c l[i] m[i]) _);unfold or2
   by_cases h0 : cmpF c l[i] m[i]=0
   ·
    rw [if_pos h0,if_pos h0];exact ih (i + 1) k (by omega) (by omega) (by omega)
   rw [if_neg h0,if_neg h0]
  rw [if_pos (by omega),show m.drop i=[] from List.drop_eq_nil_of_le (by omega)];rfl
theorem ord_impl : ∀ (d : Nat) (a b : IVal),rightV d a=true→rightV d b=true→a.f2.size≤1048576→b.f2.size≤1048576→Eve (fun k => impl_order.f k a.f0 a.f1 a.f2 b.f0 b.f1 b.f2) (ordV d a b):=by
 intro d;have head : ∀ (a b : IVal) (w : Int),(a.f0=b.f0→Eve (fun k => if a.f0=4 then ((impl_items.f k a.f0 a.f1 a.f2).bind fun bt674 => ((impl_items.f k b.f0 b.f1 b.f2).bind fun bt678 => ((impl_Value_at_order.f k (impl_order.f k) bt674.1 bt678.1).bind fun t682 => (some t682)))) else (if a.f0=5 then ((impl_fields.f k a.f0 a.f1 a.f2).bind fun bt683 => ((impl_fields.f k b.f0 b.f1 b.f2).bind fun bt687 => ((impl_Field_at_orderFields.f k (impl_order.f k) bt683.1 bt687.1).bind fun t691 => (some t691)))) else ((strings_Compare.f a.f2 b.f2).bind fun t692 => (some t692)))) w) →
   Eve (fun k => impl_order.f k a.f0 a.f1 a.f2 b.f0 b.f1 b.f2) (or2 (or2 (cmpI a.f0 b.f0) (cmpI a.f1 b.f1)) w):=by
  intro a b w h;refine Eve.succ ?_;simp only [impl_order.f,cmp_tells,Option.bind_some];refine Eve.bind (Eve.of (n:=2) (fun k hk => or_tells _ _ k hk)) ?_;refine Eve.ite (fun h0 => (h (cmpI_zero (or2_zero h0).1)).eq ?_) (fun h0 => Eve.one.eq ?_)
  ·
   exact (or2_r h0).symm
  exact (or2_l h0).symm
 induction d with
 | zero =>
  intro a b ra rb sa sb;refine head a b _ (fun _ => Eve.ite (fun h4 => ?_) (fun _ => Eve.ite (fun h5 => ?_) (fun _ => Eve.one)))
  ·
   obtain ⟨e,he,_⟩:=four_holds ra h4 sa;cases he
  obtain ⟨e,he,_⟩:=five_holds ra h5 sa;cases he
 | succ d ih =>
  intro a b ra rb sa sb;refine head a b _ (fun e0 => Eve.ite (fun k4 => ?_) (fun k4 => Eve.ite (fun k5 => ?_) (fun k5 => ?_)))
  ·
   obtain ⟨e,he,ia,la,ha⟩:=four_holds ra k4 sa
   obtain ⟨e',he',ib,lb,hb⟩:=four_holds rb (e0 ▸ k4) sb;obtain rfl : d=e:=by omega
   obtain rfl : d=e':=by omega
   rw [if_pos k4];simp only [impl_items.f];refine Eve.bind (items_some _ a.f2 [] _ ia (by simp;omega)) ?_;refine Eve.bind (items_some _ b.f2 [] _ ib (by simp;omega)) ?_;simp only [List.nil_append];obtain ⟨K,hK⟩:=Eve.list2 (fun k (x y : IVal) => impl_order.f k x.f0 x.f1 x.f2 y.f0 y.f1 y.f2) (ordV d) (lsV b) (lsV a) (fun x hx y hy => ih x y (ha x hx).1 (hb y hy).1 (ha x hx).2 (hb y hy).2);refine ⟨max K ((lsV a).length + 1),fun k hk => ?_⟩;have:=lists_loop (impl_order.f k) (ordV d) (lsV a) (lsV b) la (hK k (by omega)) (lsV a).length 0 k (by omega) (by omega) (by omega);simp only [List.drop_zero] at this;show (impl_Value_at_order.f k (impl_order.f k) (lsV a) (lsV b)).bind _=_;unfold impl_Value_at_order.f;rw [show ((0 : Nat) : Int)=0 from rfl] at this;rw [this];rfl
  ·
   obtain ⟨e,he,ia,la,ha⟩:=five_holds ra k5 sa
   obtain ⟨e',he',ib,lb,hb⟩:=five_holds rb (e0 ▸ k5) sb;obtain rfl : d=e:=by omega
   obtain rfl : d=e':=by omega
   rw [if_neg k4,if_pos k5];simp only [impl_fields.f];refine Eve.bind (fields_some _ a.f2 [] _ ia (by simp;omega)) ?_;refine Eve.bind (fields_some _ b.f2 [] _ ib (by simp;omega)) ?_;simp only [List.nil_append];obtain ⟨K,hK⟩:=Eve.list2 (fun k (x y : IFld) => impl_order.f k x.f1.f0 x.f1.f1 x.f1.f2 y.f1.f0 y.f1.f1 y.f1.f2) (fun x y => ordV d x.f1 y.f1) (fsV b) (fsV a) (fun x hx y hy => ih x.f1 y.f1 (ha x hx).1 (hb y hy).1 (ha x hx).2 (hb y hy).2);refine ⟨max K ((fsV a).length + 5),fun k hk => ?_⟩;have:=docs_loop (impl_order.f k) (ordV d) (fsV a) (fsV b) la (hK k (by omega)) (fsV a).length 0 k (by omega) (by omega) (by omega);simp only [List.drop_zero] at this;show (impl_Field_at_orderFields.f k (impl_order.f k) (fsV a) (fsV b)).bind _=_;unfold impl_Field_at_orderFields.f;rw [show ((0 : Nat) : Int)=0 from rfl] at this;rw [this];rfl
  rw [if_neg k4,if_neg k5];exact Eve.one
theorem bit_tells (p : Bool) : spec_l01Bit.f p=some (if p=true then 1 else 0):=by unfold spec_l01Bit.f;split <;> rfl
theorem len_lt (a b : Nat) (h : a<b) : wrap64 (wrap64 (2 * (if decide ((a : Int) > (b : Int))=true then 1 else 0)) - 1) = -1:=by
 rw [if_neg (show ¬ decide ((a : Int) > (b : Int))=true by simp;omega)];exact bit0
theorem len_gt (a b : Nat) (h : b<a) : wrap64 (wrap64 (2 * (if decide ((a : Int) > (b : Int))=true then 1 else 0)) - 1)=1:=by
 rw [if_pos (show decide ((a : Int) > (b : Int))=true by simp;omega)];exact bit1
theorem spec_lists (c : IVal→IVal→Int) (l m : List IVal) (hl : l.length≤1048576) (hc : ∀ x ∈ l,∀ y ∈ m,Eve (fun k => spec_l01Order.f k x.f0 x.f1 x.f2 y.f0 y.f1 y.f2) (c x y)) :
  ∀ (d i : Nat),i + d=l.length→i≤m.length→lexL c (l.drop i) (m.drop i)≠0→Eve (fun k => spec_l01Order.l0 k l m (i : Int)) (lexL c (l.drop i) (m.drop i)):=by
 intro d
 induction d with
 | zero =>
  intro i hi hm hne;rw [show l.drop i=[] from List.drop_eq_nil_of_le (by omega)] at hne ⊢
  by_cases h : i<m.length
  ·
   rw [drop_at m i h]
   refine Eve.succ ?_;simp only [spec_l01Order.l0];refine Eve.ite (fun h => absurd h (by omega)) (fun _ => ?_);refine Eve.succ ?_;simp only [spec_l01Order.j1,Bool.false_eq_true,if_false,bit_tells,Option.bind_some];exact Eve.one.eq (len_lt _ _ (by omega))
  rw [show m.drop i=[] from List.drop_eq_nil_of_le (by omega)] at hne;exact absurd rfl hne
 | succ d ih =>
  intro i hi hm hne;have hlt : i<l.length:=by omega
  rw [drop_at l i hlt] at hne ⊢;refine Eve.succ ?_;simp only [spec_l01Order.l0];refine Eve.ite (fun _ => ?_) (fun h => absurd (by omega) h);refine Eve.succ ?_
  by_cases h : i<m.length
  ·
   rw [drop_at m i h] at hne ⊢
   have hd : decide ((i : Int)<(m.length : Int))=true:=by simp;omega
   simp only [spec_l01Order.j1,hd,if_true,rdV l i hlt,rdV m i h,wi (show i≤9223372036854775806 by omega)];refine Eve.ite (fun _ => ?_) (fun h => absurd (by omega) h);refine Eve.ite (fun _ => ?_) (fun h => absurd (by omega) h);refine Eve.ite (fun _ => ?_) (fun h => absurd (by omega) h);refine Eve.bind (hc _ (List.getElem_mem hlt) _ (List.getElem_mem h)) ?_;simp only [lexL,or2] at hne ⊢;refine Eve.ite (fun h0 => ?_) (fun h0 => ?_)
   ·
    rw [if_pos h0] at hne ⊢;exact ih (i + 1) (by omega) (by omega) hne
   rw [if_neg h0];exact Eve.one
  rw [show m.drop i=[] from List.drop_eq_nil_of_le (by omega)];have hd : decide ((i : Int)<(m.length : Int))=false:=by simp;omega
  simp only [spec_l01Order.j1,hd,Bool.false_eq_true,if_false,bit_tells,Option.bind_some];exact Eve.one.eq (len_gt _ _ (by omega))
theorem spec_docs (c : IVal→IVal→Int) (l m : List IFld) (hl : l.length≤1048576) (hc : ∀ x ∈ l,∀ y ∈ m,Eve (fun k => spec_l01Order.f k x.f1.f0 x.f1.f1 x.f1.f2 y.f1.f0 y.f1.f1 y.f1.f2) (c x.f1 y.f1)) :
  ∀ (d i : Nat),i + d=l.length→i≤m.length→lexL (cmpF c) (l.drop i) (m.drop i)≠0→Eve (fun k => spec_l01Order.l1 k l m (i : Int)) (lexL (cmpF c) (l.drop i) (m.drop i)):=by
 intro d
 induction d with
 | zero =>
  intro i hi hm hne;rw [show l.drop i=[] from List.drop_eq_nil_of_le (by omega)] at hne ⊢
  by_cases h : i<m.length
  ·
   rw [drop_at m i h]
   refine Eve.succ ?_;simp only [spec_l01Order.l1];refine Eve.ite (fun h => absurd h (by omega)) (fun _ => ?_);refine Eve.succ ?_;simp only [spec_l01Order.j3,Bool.false_eq_true,if_false,bit_tells,Option.bind_some];exact Eve.one.eq (len_lt _ _ (by omega))
  rw [show m.drop i=[] from List.drop_eq_nil_of_le (by omega)] at hne;exact absurd rfl hne
 | succ d ih =>
  intro i hi hm hne;have hlt : i<l.length:=by omega
  rw [drop_at l i hlt] at hne ⊢;refine Eve.succ ?_;simp only [spec_l01Order.l1];refine Eve.ite (fun _ => ?_) (fun h => absurd (by omega) h);refine Eve.succ ?_
  by_cases h : i<m.length
  ·
   rw [drop_at m i h] at hne ⊢
   have hd : decide ((i : Int)<(m.length : Int))=true:=by simp;omega
   simp only [spec_l01Order.j3,hd,if_true,rdF l i hlt,rdF m i h,wi (show i≤9223372036854775806 by omega),bit_tells,Option.bind_some];refine Eve.ite (fun _ => ?_) (fun h => absurd (by omega) h);refine Eve.ite (fun _ => ?_) (fun h => absurd (by omega) h);refine Eve.ite (fun _ => ?_) (fun h => absurd (by omega) h);refine Eve.ite (fun hn => ?_) (fun hn => ?_)
   ·
    refine Eve.bind (hc _ (List.getElem_mem hlt) _ (List.getElem_mem h)) ?_
    have hz : cmpF c l[i] m[i]=c l[i].f1 m[i].f1:=by
     unfold cmpF or2;rw [ba_ext hn,cmpB_self,if_pos rfl]
    simp only [lexL,or2,hz] at hne ⊢;refine Eve.ite (fun h0 => ?_) (fun h0 => ?_)
    ·
     rw [if_pos h0] at hne ⊢;exact ih (i + 1) (by omega) (by omega) hne
    rw [if_neg h0];exact Eve.one
   have hz : cmpB l[i].f0 m[i].f0≠0:=fun h0 => hn (by rw [cmpB_zero h0]);refine Eve.one.eq ?_;rw [← cmpB_ne hn];simp only [lexL,cmpF,or2,if_neg hz]
  rw [show m.drop i=[] from List.drop_eq_nil_of_le (by omega)];have hd : decide ((i : Int)<(m.length : Int))=false:=by simp;omega
  simp only [spec_l01Order.j3,hd,Bool.false_eq_true,if_false,bit_tells,Option.bind_some];exact Eve.one.eq (len_gt _ _ (by omega))
theorem ord_spec : ∀ (d : Nat) (a b : IVal),rightV d a=true→rightV d b=true→a.f2.size≤1048576→b.f2.size≤1048576→Eve (fun k => spec_l01Order.f k a.f0 a.f1 a.f2 b.f0 b.f1 b.f2) (ordV d a b):=by
 intro d
 induction d with
 | zero =>
  intro a b ra rb sa sb;refine Eve.succ ?_;simp only [spec_l01Order.f,bit_tells,Option.bind_some];refine Eve.ite (fun e0 => Eve.ite (fun e1 => Eve.ite (fun e2 => ?_) (fun e2 => ?_)) (fun e1 => ?_)) (fun e0 => ?_)
  ·
   rw [ival_ext e0 e1 (ba_ext e2),ord_self];exact Eve.one
  ·
   have hv : ordV 0 a b=cmpB a.f2 b.f2:=by simp [ordV,or2,e0,e1,cmpI_self]
   rw [hv];have ra0 : flat a=true:=ra;refine Eve.ite (fun _ => Eve.one.eq (cmpB_ne e2).symm) (fun k3 => ?_);exfalso;have rb0 : flat b=true:=rb;unfold flat at ra0 rb0;rw [← e0] at rb0;apply e2
   by_cases q0 : a.f0=0
   ·
    rw [if_pos q0,Bool.and_eq_true] at ra0 rb0
    rw [eq_of_beq ra0.2,eq_of_beq rb0.2]
   rw [if_neg q0] at ra0 rb0
   by_cases q1 : a.f0=1
   ·
    rw [if_pos q1,Bool.and_eq_true] at ra0 rb0
    rw [eq_of_beq ra0.2,eq_of_beq rb0.2]
   rw [if_neg q1] at ra0 rb0
   by_cases q2 : a.f0=2
   ·
    rw [if_pos q2,Bool.and_eq_true] at ra0 rb0
    rw [eq_of_beq ra0.2,eq_of_beq rb0.2]
   rw [if_neg q2,if_neg k3] at ra0
   cases ra0
  ·
   refine Eve.one.eq ?_
   rw [← cmpI_ne e1];have : cmpI a.f1 b.f1≠0:=fun h => e1 (cmpI_zero h);simp [ordV,or2,e0,cmpI_self,this]
  refine Eve.one.eq ?_;rw [← cmpI_ne e0];have : cmpI a.f0 b.f0≠0:=fun h => e0 (cmpI_zero h);simp [ordV,or2,this]
 | succ d ih =>
  intro a b ra rb sa sb;refine Eve.succ ?_;simp only [spec_l01Order.f,bit_tells,Option.bind_some];refine Eve.ite (fun e0 => Eve.ite (fun e1 => Eve.ite (fun e2 => ?_) (fun e2 => ?_)) (fun e1 => ?_)) (fun e0 => ?_)
  ·
   rw [ival_ext e0 e1 (ba_ext e2),ord_self];exact Eve.one
  ·
   have hne : ordV (d + 1) a b≠0:=fun h => e2 (by rw [ord_zero (d + 1) a b ra rb sa sb h])
   have hv : ordV (d + 1) a b=(if a.f0=4 then lexL (ordV d) (lsV a) (lsV b) else if a.f0=5 then lexL (cmpF (ordV d)) (fsV a) (fsV b) else cmpB a.f2 b.f2):=by simp [ordV,or2,e0,e1,cmpI_self]
   rw [hv] at hne ⊢;refine Eve.ite (fun k3 => ?_) (fun k3 => Eve.ite (fun k4 => ?_) (fun k4 => ?_))
   ·
    rw [if_neg (show ¬ a.f0=4 by omega),if_neg (show ¬ a.f0=5 by omega)];exact Eve.one.eq (cmpB_ne e2).symm
   ·
    obtain ⟨e,he,ia,la,ha⟩:=four_holds ra k4 sa
    obtain ⟨e',he',ib,lb,hb⟩:=four_holds rb (e0 ▸ k4) sb;obtain rfl : d=e:=by omega
    obtain rfl : d=e':=by omega
    rw [if_pos k4] at hne ⊢;simp only [spec_l01Items.f];have t1:=items_spec _ a.f2 [] (Nat.le_refl _) sa (by simp;omega);have t2:=items_spec _ b.f2 [] (Nat.le_refl _) sb (by simp;omega);rw [ia] at t1;rw [ib] at t2;refine Eve.bind t1 ?_;refine Eve.bind t2 ?_;simp only [toldL,List.nil_append];have:=spec_lists (ordV d) (lsV a) (lsV b) la (fun x hx y hy => ih x y (ha x hx).1 (hb y hy).1 (ha x hx).2 (hb y hy).2) (lsV a).length 0 (by omega) (by omega);simp only [List.drop_zero] at this;exact this hne
   by_cases k5 : a.f0=5
   ·
    obtain ⟨e,he,ia,la,ha⟩:=five_holds ra k5 sa
    obtain ⟨e',he',ib,lb,hb⟩:=five_holds rb (e0 ▸ k5) sb;obtain rfl : d=e:=by omega
    obtain rfl : d=e':=by omega
    rw [if_neg k4,if_pos k5] at hne ⊢;simp only [spec_l01Fields.f];have t1:=fields_spec _ a.f2 [] (Nat.le_refl _) sa (by simp;omega);have t2:=fields_spec _ b.f2 [] (Nat.le_refl _) sb (by simp;omega);rw [ia] at t1;rw [ib] at t2;refine Eve.bind t1 ?_;refine Eve.bind t2 ?_;simp only [toldF,List.nil_append];have:=spec_docs (ordV d) (fsV a) (fsV b) la (fun x hx y hy => ih x.f1 y.f1 (ha x hx).1 (hb y hy).1 (ha x hx).2 (hb y hy).2) (fsV a).length 0 (by omega) (by omega);simp only [List.drop_zero] at this;exact this hne
   exfalso;have ra0 : flat a=true:=by unfold rightV at ra;rw [if_neg k4,if_neg k5] at ra;exact ra
   have rb0 : flat b=true:=by unfold rightV at rb;rw [if_neg (e0 ▸ k4),if_neg (e0 ▸ k5)] at rb;exact rb
   unfold flat at ra0 rb0;rw [← e0] at rb0;apply e2
   by_cases q0 : a.f0=0
   ·
    rw [if_pos q0,Bool.and_eq_true] at ra0 rb0
    rw [eq_of_beq ra0.2,eq_of_beq rb0.2]
   rw [if_neg q0] at ra0 rb0
   by_cases q1 : a.f0=1
   ·
    rw [if_pos q1,Bool.and_eq_true] at ra0 rb0
    rw [eq_of_beq ra0.2,eq_of_beq rb0.2]
   rw [if_neg q1] at ra0 rb0
   by_cases q2 : a.f0=2
   ·
    rw [if_pos q2,Bool.and_eq_true] at ra0 rb0
    rw [eq_of_beq ra0.2,eq_of_beq rb0.2]
   rw [if_neg q2,if_neg k3] at ra0
   cases ra0
  ·
   refine Eve.one.eq ?_
   rw [← cmpI_ne e1];have : cmpI a.f1 b.f1≠0:=fun h => e1 (cmpI_zero h);simp [ordV,or2,e0,cmpI_self,this]
  refine Eve.one.eq ?_;rw [← cmpI_ne e0];have : cmpI a.f0 b.f0≠0:=fun h => e0 (cmpI_zero h);simp [ordV,or2,this]
def ansO (a b : IVal) : Int×Int:=if rightV 5 a=true∧rightV 5 b=true then (ordV 5 a b,0) else (0,1)
theorem order_spec (a b : IVal) (sa : a.f2.size≤1048576) (sb : b.f2.size≤1048576) : Eve (fun k => spec_OrderValues.f k a.f0 a.f1 a.f2 b.f0 b.f1 b.f2) (ansO a b):=by
 simp only [spec_OrderValues.f];unfold ansO;refine Eve.bind (ok_spec a sa) ?_;refine Eve.ite (fun h1 => ?_) (fun h1 => Eve.one.eq (by rw [if_neg (fun h => h1 h.1)]));refine Eve.bind (ok_spec b sb) ?_;refine Eve.ite (fun h2 => ?_) (fun h2 => Eve.one.eq (by rw [if_neg (fun h => h2 h.2)]));rw [if_pos ⟨h1,h2⟩];exact Eve.bind (ord_spec 5 a b h1 h2 sa sb) Eve.one
theorem order_impl (a b : IVal) (sa : a.f2.size≤1048576) (sb : b.f2.size≤1048576) : Eve (fun k => impl_OrderValues.f k a.f0 a.f1 a.f2 b.f0 b.f1 b.f2) (ansO a b):=by
 simp only [impl_OrderValues.f];unfold ansO
 refine Eve.bind (are_list [⟨a.f0,a.f1,a.f2⟩,⟨b.f0,b.f1,b.f2⟩] (by simp) (fun x hx => by
  rcases List.mem_cons.1 hx with rfl|hx
  ·
   exact sa
  rcases List.mem_cons.1 hx with rfl|hx
  ·
   exact sb
  cases hx)) ?_
 simp only [List.all_cons,List.all_nil,Bool.and_true,Bool.and_eq_true];refine Eve.ite (fun h => ?_) (fun h => ?_)
 ·
  rw [if_pos h]
  exact Eve.bind (ord_impl 5 a b h.1 h.2 sa sb) Eve.one
 rw [if_neg h];exact Eve.one
theorem FnExactOrderValues : laws_FnExactOrderValues.Pure:=by
 rintro x y ⟨_,_,hx⟩ ⟨_,_,hy⟩;refine Eve.get (g:=fun k => laws_FnExactOrderValues.f k x.f0 x.f1 x.f2 y.f0 y.f1 y.f2) ?_;simp only [laws_FnExactOrderValues.f,toValue_tells,szValue_tells x hx (left:=1048576) (by omega) (by omega),Option.bind_some]
 by_cases h : (1048576 : Int) - x.f2.size<0
 ·
  simp only [if_pos h];exact Eve.ite (fun _ => Eve.one) (fun h => absurd h (by omega))
 simp only [if_neg h,szValue_tells y hy (left:=1048576 - x.f2.size) (by omega) (by omega),Option.bind_some]
 by_cases h2 : (1048576 : Int) - x.f2.size - y.f2.size<0
 ·
  simp only [if_pos h2];exact Eve.ite (fun _ => Eve.one) (fun h => absurd (by omega) h)
 simp only [if_neg h2];have h1:=order_spec (iv x) (iv y) (by show x.f2.size≤_;omega) (by show y.f2.size≤_;omega);have h3:=order_impl (iv x) (iv y) (by show x.f2.size≤_;omega) (by show y.f2.size≤_;omega);refine Eve.bind h1 ?_;refine Eve.bind h3 ?_;simp only [if_true];exact Eve.one
end Go.Proofs.Ytpmeglcmhiihoaa.Pure
end
section
namespace Go.Proofs.Ytpmeglcmhiihoaa.fnExactOrderValues
open Go.ChangeShapes Go.WideShapes Go.ChangeAt Go.RowKit Go.Proofs.YtpmeglcmhiihoaaW.PrintWords Go.Proofs.YtpmeglcmhiihoaaW.PrintOpen Go.Proofs.Ytpmeglcmhiihoaa.Q
open Go.ChangeMaps (open_string shut_string)
set_option linter.unusedVariables false
theorem own : ownKnob Try.prog.godebug=none:=by kernel_rfl
theorem laidOut : laidOutB Try.prog=true:=by kernel_rfl
set_option maxRecDepth 100000 in
theorem lifted (os : Os) (started : os.Started) (H : Type) (enc : TypeId×Value→H) :
  ReturnsInHanded {} Try.checked os 9 .any (Rows.fnExactOrderValuesSpec.pre6 enc Try.prog Try.f9 Rows.fnExactOrderValuesRow.domain false) (Rows.fnExactOrderValuesSpec.post enc Try.prog Try.f9 false true false false):=by
 refine returnsInHanded_of_change_sized (C:=Try.checked) own started (by kernel_rfl) Try.func9
  (ChangeSpec.witness6 (enc:=enc) (C:=Try.checked) false ⟨#[],#[.agg #[.int .i64 0,.int .i64 0,.string ByteArray.empty],.agg #[.int .i64 0,.int .i64 0,.string ByteArray.empty]],[]⟩ 8 (by kernel_rfl) (by kernel_rfl) (by kernel_rfl) (by kernel_rfl)) ?_
 intro W base args ds gs before hval0 hW hcnd hsz0 _
 have hval : ∀ (j : Nat) t v,Try.f9.params[j]? = some t→args[j]? = some v→Value.okWide Try.prog W .any base t v:=hval0
 have hW':=hW
 obtain ⟨p,q,hA0,hV,rfl,hfz,hnd⟩:=hW
 have hA : DataW.TrodAll enc Try.prog W 0 (fun _ => true) true Try.f9.params.toList args.toList ds p:=hA0
 rw [Try.params9] at hA hval
 obtain ⟨v0,vs0,d0,ds0,p0,q0,hargs,rfl,rfl,h0,r0⟩:=trodAll_cons hA
 obtain ⟨v1,vs1,d1,ds1,p1,q1,rfl,rfl,rfl,h1,r1⟩:=trodAll_cons r0
 obtain ⟨rfl,rfl,rfl⟩:=trodAll_nil r1
 obtain rfl : args = #[v0,v1]:=by cases args;simp_all
 obtain ⟨rfl,rfl⟩:=trodVars_none hV
 have t0:=h0
 have lt0 : ∀ x ∈ p0,x.block<W.heap.size:=by obtain ⟨m,hm⟩:=t0;exact DataW.trod_lt m _ _ _ hm
 obtain ⟨x0,cs0,rfl,K0,g0⟩:=arg_struct Try.underlying23 opens23 (hval 0 23 v0 rfl rfl) h0
 obtain rfl:=k23_open K0
 have t1:=h1
 have lt1 : ∀ x ∈ p1,x.block<W.heap.size:=by obtain ⟨m,hm⟩:=t1;exact DataW.trod_lt m _ _ _ hm
 obtain ⟨x1,cs1,rfl,K1,g1⟩:=arg_struct Try.underlying23 opens23 (hval 1 23 v1 rfl rfl) h1
 obtain rfl:=k23_open K1
 clear hA0 hval0 hsz0
 obtain ⟨k,hp⟩:=Pure.FnExactOrderValues x0 x1 g0 g1
 refine (laws_FnExactOrderValues.calls k x0.f0 x0.f1 x0.f2 x1.f0 x1.f1 x1.f2 true W  hp).mono fun e W' ⟨he,bel0⟩ => ?_
 have bel : Below W.heap.size W W':=bel0
 subst he
 exact ⟨_,rfl,_,_,_,[],_,[],hW',trodAll_mk1 (shut_bool Try.underlying4 _),(trodAll_cons_mk (Below.trod laidOut (by kernel_rfl) (of_decide_eq_true (by kernel_rfl)) t0 bel lt0) (trodAll_cons_mk (Below.trod laidOut (by kernel_rfl) (of_decide_eq_true (by kernel_rfl)) t1 bel lt1) trodAll_mk0)),rfl,bel.frame _,fun h => by cases h⟩
theorem over : Rows.fnExactOrderValuesRow.holds Try.pinned (OpenSpec.ofChange Rows.fnExactOrderValuesSpec) :=
 OpenClaim.holds_of_wide 9 Try.f9 rfl rfl rfl rfl rfl rfl rfl ⟨rfl,rfl,rfl,rfl,rfl⟩ rfl rfl rfl rfl rfl (by kernel_rfl) Try.func9 (by kernel_rfl)
  (of_decide_eq_true (by kernel_rfl)) (by unfold Func.isWrapper;first|(rw [if_pos (by decide +kernel)];kernel_rfl)|(rw [if_neg (by decide +kernel)];exact ⟨rfl,rfl⟩))
  (fun os started H enc _ => lifted os started H enc)
theorem proved : Rows.FnExactOrderValuesSaid:=over
#print axioms proved
end Go.Proofs.Ytpmeglcmhiihoaa.fnExactOrderValues
namespace Go.Proofs.Ytpmeglcmhiihoaa
theorem fnExactOrderValues_holds : Rows.FnExactOrderValuesSaid:=fnExactOrderValues.proved
end Go.Proofs.Ytpmeglcmhiihoaa
end

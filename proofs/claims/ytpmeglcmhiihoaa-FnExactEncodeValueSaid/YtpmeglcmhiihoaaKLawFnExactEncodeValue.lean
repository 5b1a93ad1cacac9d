/- FnExactEncodeValue: for every argument the law answers true, and the argument reads behind the call as it read before. No condition. -/
import Derived.Test.YtpmeglcmhiihoaaKLawFnExactEncodeValuep22
import Derived.Test.YtpmeglcmhiihoaaKLawFnExactEncodeValuep25
import Derived.Test.YtpmeglcmhiihoaaKLawFnExactEncodeValuep23
import Derived.Test.YtpmeglcmhiihoaaKLawFnExactEncodeValuep0
import Derived.WalkKit
import Derived.ProofKit
import Derived.OpenShut
import Derived.ShutString
import Derived.ChangeOld
import Derived.Below
import Derived.SizedLaws
import Derived.Deep.Slices
import Derived.Lib.SmallJoins
import Derived.Test.YtpmeglcmhiihoaaKLawFnExactEncodeValuep11
import Derived.Test.YtpmeglcmhiihoaaKLawFnExactEncodeValuep12
import Derived.Laws.Entries
import Derived.Test.YtpmeglcmhiihoaaKLawFnExactEncodeValuep24
import Derived.Test.YtpmeglcmhiihoaaRows
import Derived.Carry
section
namespace Go.Proofs.Ytpmeglcmhiihoaa.Q
open Go.RowKit Go.Proofs.YtpmeglcmhiihoaaW.PrintWords Go.Proofs.YtpmeglcmhiihoaaW.PrintLast Go.Proofs.YtpmeglcmhiihoaaW.PrintMore
attribute [local go_sem] max2_int min2_int max_two min_two max_three min_three max_four min_four max2_str min2_str str_geq str_gtr str_leq   -- for this text's walks alone
set_option linter.unusedVariables false
set_option linter.unusedSimpArgs false

def impl_putValue.f (k : Nat) (l0 : List Int) (a1_0 : Int) (a1_1 : Int) (a1_2 : ByteArray) : Option (List Int):=if l0.length<140737488355328 then ((some (l0 ++ [(a1_0) % 256] : List Int)).bind fun y404 => (if a1_0=1 then (if y404.length<140737488355328 then (some (y404 ++ [(a1_1) % 256])) else (none)) else (if a1_0=2 then ((impl_eight.f k (wrap64 (a1_1 + 4611686018427387904))).bind fun t410 => (if y404.length + t410.length<140737488355328 then (some (y404 ++ t410)) else (none))) else (if a1_0=3 then ((some (([((a1_2.size : Int) / 256) % 256,((a1_2.size : Int)) % 256] : List Int) : List Int)).bind fun y416 => (if y404.length + y416.length<140737488355328 then ((some (y404 ++ y416 : List Int)).bind fun y419 => (if y419.length + a1_2.size<140737488355328 then (some (y419 ++ bytesOf a1_2)) else (none))) else (none))) else (if a1_0=4 then ((some (([((a1_2.size : Int) / 256) % 256,((a1_2.size : Int)) % 256] : List Int) : List Int)).bind fun y425 => (if y404.length + y425.length<140737488355328 then ((some (y404 ++ y425 : List Int)).bind fun y428 => (if y428.length + a1_2.size<140737488355328 then (some (y428 ++ bytesOf a1_2)) else (none))) else (none))) else (if a1_0=5 then ((some (([((a1_2.size : Int) / 256) % 256,((a1_2.size : Int)) % 256] : List Int) : List Int)).bind fun y434 => (if y404.length + y434.length<140737488355328 then ((some (y404 ++ y434 : List Int)).bind fun y437 => (if y437.length + a1_2.size<140737488355328 then (some (y437 ++ bytesOf a1_2)) else (none))) else (none))) else (some y404))))))) else (none)
theorem impl_putValue.mono : ∀ a0 a1 a2 a3 k,LeO (impl_putValue.f k a0 a1 a2 a3) (impl_putValue.f (k + 1) a0 a1 a2 a3):=by
 intro a0 a1 a2 a3 k;unfold impl_putValue.f
 repeat' first|(with_reducible exact impl_eight.mono _ _)|(with_reducible exact zQ _)|(with_reducible exact zN _)|(with_reducible refine zP ?_ ?_)|(with_reducible refine zO ?_ (fun _ => ?_))|refine zP ?_ ?_|refine zO ?_ (fun _ => ?_)
def impl_putValue.T10 : Bool×List (List Nat×List Nat):=(true,[([],[]),([],[]),([1],[1]),([2],[2]),([3],[3]),([4],[4]),([],[]),([6],[6]),([7],[7]),([8],[8]),([5,9],[5,9]),([0,10],[0,10]),([],[]),([12],[12]),([11,13,11],[11,13]),([14,14,0,1,2,3,4,5,6,7,8,9,10,11,12,13,14],[14])])
def impl_putValue.B10 : List Nat:=[0,0,2,6,14,30,0,64,192,448,1022,2047,0,4096,16383,32767]
theorem impl_putValue.tab10 : rtab .any (opsOf Try.f60 10)=impl_putValue.T10:=by kernel_rfl
theorem impl_putValue.bits10 : waitsOk impl_putValue.T10.2 impl_putValue.B10=true:=by kernel_rfl
set_option maxHeartbeats 8000000 in
set_option maxRecDepth 100000 in
theorem impl_putValue.calls (k : Nat) (P0_ : Nat→Prop) (u9000_ : Value) (l0 : List Int) (a1_0 : Int) (a1_1 : Int) (a1_2 : ByteArray) (r : List Int) (w0 w : World) (hB : Below w0.heap.size w0 w) (ho0 : Kd.R (Kd.int .u8) 5 w w0.heap.size P0_ u9000_ l0) (h : impl_putValue.f k l0 a1_0 a1_1 a1_2=some r) :
  Calls Try.prog 60 #[u9000_,.agg #[.int .i64 a1_0,.int .i64 a1_1,.string a1_2]] w fun e w' => ∃ v0_ : Value,e = .returned (v0_)∧Kd.R (Kd.int .u8) 5 w' w0.heap.size (fun k_ => (P0_ k_∨w.heap.size≤k_)) v0_ r∧Below w0.heap.size w0 w' ∧ Kept w w' (fun k_ => P0_ k_):=by
 have hu26:=Try.underlying26;have HO0:=zh (show Kd.R (Kd.int .u8) 5 w w0.heap.size (fun k_ => (P0_ k_∨w.heap.size≤k_)) u9000_ l0 from zM ho0 (fun k_ hk => (.inl hk)));have HK:=zh (Kept.refl w (fun k_ => P0_ k_));have HW0:=zh hB.size;have HB:=zh hB;clear hB;have H : (if l0.length<140737488355328 then ((some (l0 ++ [(a1_0) % 256] : List Int)).bind fun y404 => (if a1_0=1 then (if y404.length<140737488355328 then (some (y404 ++ [(a1_1) % 256])) else (none)) else (if a1_0=2 then ((impl_eight.f k (wrap64 (a1_1 + 4611686018427387904))).bind fun t410 => (if y404.length + t410.length<140737488355328 then (some (y404 ++ t410)) else (none))) else (if a1_0=3 then ((some (([((a1_2.size : Int) / 256) % 256,((a1_2.size : Int)) % 256] : List Int) : List Int)).bind fun y416 => (if y404.length + y416.length<140737488355328 then ((some (y404 ++ y416 : List Int)).bind fun y419 => (if y419.length + a1_2.size<140737488355328 then (some (y419 ++ bytesOf a1_2)) else (none))) else (none))) else (if a1_0=4 then ((some (([((a1_2.size : Int) / 256) % 256,((a1_2.size : Int)) % 256] : List Int) : List Int)).bind fun y425 => (if y404.length + y425.length<140737488355328 then ((some (y404 ++ y425 : List Int)).bind fun y428 => (if y428.length + a1_2.size<140737488355328 then (some (y428 ++ bytesOf a1_2)) else (none))) else (none))) else (if a1_0=5 then ((some (([((a1_2.size : Int) / 256) % 256,((a1_2.size : Int)) % 256] : List Int) : List Int)).bind fun y434 => (if y404.length + y434.length<140737488355328 then ((some (y404 ++ y434 : List Int)).bind fun y437 => (if y437.length + a1_2.size<140737488355328 then (some (y437 ++ bytesOf a1_2)) else (none))) else (none))) else (some y404))))))) else (none))=some r:=h;clear h
 by_cases c3 : l0.length<140737488355328
 ·
  rw [if_pos c3] at H
  have LMc3:=zh c3;clear c3;obtain ⟨y404,hy404⟩ : ∃ y_ : List Int,y_=(l0 ++ [(a1_0) % 256]):=⟨_,rfl⟩;replace H : (if a1_0=1 then (if y404.length<140737488355328 then (some (y404 ++ [(a1_1) % 256])) else (none)) else (if a1_0=2 then ((impl_eight.f k (wrap64 (a1_1 + 4611686018427387904))).bind fun t410 => (if y404.length + t410.length<140737488355328 then (some (y404 ++ t410)) else (none))) else (if a1_0=3 then ((some (([((a1_2.size : Int) / 256) % 256,((a1_2.size : Int)) % 256] : List Int) : List Int)).bind fun y416 => (if y404.length + y416.length<140737488355328 then ((some (y404 ++ y416 : List Int)).bind fun y419 => (if y419.length + a1_2.size<140737488355328 then (some (y419 ++ bytesOf a1_2)) else (none))) else (none))) else (if a1_0=4 then ((some (([((a1_2.size : Int) / 256) % 256,((a1_2.size : Int)) % 256] : List Int) : List Int)).bind fun y425 => (if y404.length + y425.length<140737488355328 then ((some (y404 ++ y425 : List Int)).bind fun y428 => (if y428.length + a1_2.size<140737488355328 then (some (y428 ++ bytesOf a1_2)) else (none))) else (none))) else (if a1_0=5 then ((some (([((a1_2.size : Int) / 256) % 256,((a1_2.size : Int)) % 256] : List Int) : List Int)).bind fun y434 => (if y404.length + y434.length<140737488355328 then ((some (y404 ++ y434 : List Int)).bind fun y437 => (if y437.length + a1_2.size<140737488355328 then (some (y437 ++ bytesOf a1_2)) else (none))) else (none))) else (some y404))))))=some r:=by first|(rw [hy404];with_reducible exact H)|(have H2_:=(Option.bind_some _ _).symm.trans H;rw [hy404];with_reducible exact H2_)|(have H2_:=(Option.bind_some _ _).symm.trans H;with_reducible exact H2_)|with_reducible exact H|(rw [hy404];exact H)|exact H
  have Ny404:=zh hy404;clear hy404
  by_cases c4 : a1_0=1
  ·
   rw [if_pos c4] at H
   have c4b0 : (a1_0 == 1)=true:=ya.mpr c4;have c4b1 : (a1_0 != 1)=false:=zX.mpr c4;clear c4
   by_cases c5 : y404.length<140737488355328
   ·
    rw [if_pos c5] at H
    have LMc5:=zh c5;clear c5;obtain ⟨y407,hy407⟩ : ∃ y_ : List Int,y_=(y404 ++ [(a1_1) % 256]):=⟨_,rfl⟩;replace H : (some y407)=some r:=by first|(rw [hy407];with_reducible exact H)|(have H2_:=(Option.bind_some _ _).symm.trans H;rw [hy407];with_reducible exact H2_)|(have H2_:=(Option.bind_some _ _).symm.trans H;with_reducible exact H2_)|with_reducible exact H|(rw [hy407];exact H)|exact H
    have Ny407:=zh hy407;clear hy407;obtain rfl:=zU H
    go_enter Try.func60,Try.ntmps60
    go_wp2_with (first|((with_reducible refine zK (N:=3) rfl ?_);refine zI ?hg (N:=3) ?hd (cs:=#[.int .i64 a1_0,.int .i64 a1_1,.string a1_2]) (t:=26) ?hr ?_;(case hd => rfl);(case hg => rfl);(case hr => first|(go_simp;done)|(go_simp;rfl));intro gb403 hg w6 hbox hb;replace HO0:=zh (yg (by (with_reducible repeat (first|apply zm|apply zn|apply zo));exact HO0.out) hb);have BK403:=zh (hbox);have GW403:=zh ((by rw [hg];exact (by first|exact HK.out.1|exact (show Kept w _ (fun k_ => P0_ k_) from by repeat (with_reducible first|exact HK.out|apply zr|apply zp|apply zq)).1) : w.heap.size≤gb403));replace HK:=zh (Kept.below (S:=(fun k_ => P0_ k_)) (by repeat (with_reducible first|exact HK.out|apply zr|apply zp|apply zq)) hb);have GE403:=zh ((by rw [hg];exact (zB (by repeat (with_reducible first|exact HB.out|apply za|apply zb|apply zc))) : w0.heap.size≤gb403));replace HB:=zh (zC (by repeat (with_reducible first|exact HB.out|apply za|apply zb|apply zc)) hb);clear hb hbox hg;have hcz7_0 : w6.cell? ⟨gb403,0,none⟩=some (.int .i64 a1_0):=(zz BK403.out 0).trans rfl;have hcz7_1 : w6.cell? ⟨gb403,1,none⟩=some (.int .i64 a1_1):=(zz BK403.out 1).trans rfl;have hcz7_2 : w6.cell? ⟨gb403,2,none⟩=some (.string a1_2):=(zz BK403.out 2).trans rfl;have hfz7_0:=zA BK403.out 0;have hfz7_1:=zA BK403.out 1;have hfz7_2:=zA BK403.out 2)|((with_reducible refine yB (b:=.append) (xs:=#[.tmp 5,.tmp 9]) rfl ?_);at_builtin;refine Kd.R_append (Kd.int .u8) (w0:=w0) w0.heap.size rfl (.tmp 5) (.tmp 9) 29 5 (.int .u8 0) 1 rfl Try.underlying29 info5 rfl (by decide) (by omega) u9000_ l0 ((a1_0) % 256) [.int .u8 ((a1_0) % 256)] (fun k_ => (P0_ k_∨w.heap.size≤k_)) (fun _ => False) rfl rfl ?aP (fun _ hk => hk.elim) ?aF ?aO ?aB ?aS ?aL ?_;(case aP => exact rfl);(case aB => exact (by repeat (with_reducible first|exact HB.out|apply za|apply zb|apply zc|refine zd ?_ GE403.out)));(case aF => exact (fun k_ hk => (.inr (Nat.le_trans (by first|exact HK.out.1|exact (show Kept w _ (fun k_ => P0_ k_) from by repeat (with_reducible first|exact HK.out|apply zr|apply zp|apply zq|refine zs ?_ (.inr GW403.out) _)).1) hk))));(case aO => exact (by (with_reducible repeat (first|apply zm|apply zn|apply zo));exact HO0.out));(case aS => exact (zB (by repeat (with_reducible first|exact HB.out|apply za|apply zb|apply zc|refine zd ?_ GE403.out))));(case aL => have:=LMc3.out;omega);intro v405 w8 ho hb hg hat;rw [← Ny404.out] at ho;replace BK403:=zh (yw (g:=gb403) (o:=.cells #[.int .i64 a1_0,.int .i64 a1_1,.string a1_2] 26 (0,0)) (by (with_reducible repeat (first|refine ze ?_ _|refine zf ?_|refine zg ?_ _));exact BK403.out) hg (Kd.R_ne HO0.out BK403.out (by decide)));replace HB:=zh (hb);replace HK:=zh (yA (S:=(fun k_ => P0_ k_)) hg (by repeat (with_reducible first|exact HK.out|apply zr|apply zp|apply zq|refine zs ?_ (.inr GW403.out) _)) (fun k_ e_ => (HO0.out.1 k_ e_)));have HO406:=zh (ho);clear HO0 ho hb hg hat;have hcz9_0 : w8.cell? ⟨gb403,0,none⟩=some (.int .i64 a1_0):=(zz BK403.out 0).trans rfl;have hcz9_1 : w8.cell? ⟨gb403,1,none⟩=some (.int .i64 a1_1):=(zz BK403.out 1).trans rfl;have hcz9_2 : w8.cell? ⟨gb403,2,none⟩=some (.string a1_2):=(zz BK403.out 2).trans rfl;have hfz9_0:=zA BK403.out 0;have hfz9_1:=zA BK403.out 1;have hfz9_2:=zA BK403.out 2)|((with_reducible refine yB (b:=.append) (xs:=#[.tmp 15,.tmp 19]) rfl ?_);at_builtin;refine Kd.R_append (Kd.int .u8) (w0:=w0) w0.heap.size rfl (.tmp 15) (.tmp 19) 29 5 (.int .u8 0) 1 rfl Try.underlying29 info5 rfl (by decide) (by omega) v405 y404 ((a1_1) % 256) [.int .u8 ((a1_1) % 256)] (fun k_ => (P0_ k_∨w.heap.size≤k_)) (fun _ => False) rfl rfl ?aP (fun _ hk => hk.elim) ?aF ?aO ?aB ?aS ?aL ?_;(case aP => exact rfl);(case aB => exact (by repeat (with_reducible first|exact HB.out|apply za|apply zb|apply zc|refine zd ?_ GE403.out)));(case aF => exact (fun k_ hk => (.inr (Nat.le_trans (by first|exact HK.out.1|exact (show Kept w _ (fun k_ => P0_ k_) from by repeat (with_reducible first|exact HK.out|apply zr|apply zp|apply zq|refine zs ?_ (.inr GW403.out) _)).1) hk))));(case aO => exact (by (with_reducible repeat (first|apply zm|apply zn|apply zo));exact HO406.out));(case aS => exact (zB (by repeat (with_reducible first|exact HB.out|apply za|apply zb|apply zc|refine zd ?_ GE403.out))));(case aL => have:=LMc5.out;omega);intro v408 w10 ho hb hg hat;rw [← Ny407.out] at ho;replace BK403:=zh (yw (g:=gb403) (o:=.cells #[.int .i64 a1_0,.int .i64 a1_1,.string a1_2] 26 (0,0)) (by (with_reducible repeat (first|refine ze ?_ _|refine zf ?_|refine zg ?_ _));exact BK403.out) hg (Kd.R_ne HO406.out BK403.out (by decide)));replace HB:=zh (hb);replace HK:=zh (yA (S:=(fun k_ => P0_ k_)) hg (by repeat (with_reducible first|exact HK.out|apply zr|apply zp|apply zq|refine zs ?_ (.inr GW403.out) _)) (fun k_ e_ => (HO406.out.1 k_ e_)));have HO409:=zh (ho);clear HO406 ho hb hg hat))
    go_ret
    exact ⟨_,by first|rfl|(simp [yt,yu] <;> rfl)|(simp [*,yt,yu] <;> rfl),by (with_reducible repeat (first|apply zm|apply zn|apply zo));exact HO409.out,by repeat (with_reducible first|exact HB.out|apply za|apply zb|apply zc|refine zd ?_ GE403.out),by repeat (with_reducible first|exact HK.out|apply zr|apply zp|apply zq|refine zs ?_ (.inr GW403.out) _)⟩
   rw [if_neg c5] at H;exact absurd H (by simp)
  rw [if_neg c4] at H;have c4b0 : (a1_0 == 1)=false:=zY.mpr c4;have c4b1 : (a1_0 != 1)=true:=zZ.mpr c4
  by_cases c11 : a1_0=2
  ·
   rw [if_pos c11] at H
   have c11b0 : (a1_0 == 2)=true:=ya.mpr c11;have c11b1 : (a1_0 != 2)=false:=zX.mpr c11;clear c11;replace H:=zT.mp H;obtain ⟨t410,A120,H⟩:=H;replace H : (if y404.length + t410.length<140737488355328 then (some (y404 ++ t410)) else (none))=some r:=H;have A12:=zh A120;clear A120
   by_cases c13 : y404.length + t410.length<140737488355328
   ·
    rw [if_pos c13] at H
    have LMc13:=zh c13;clear c13;obtain ⟨y413,hy413⟩ : ∃ y_ : List Int,y_=(y404 ++ t410):=⟨_,rfl⟩;replace H : (some y413)=some r:=by first|(rw [hy413];with_reducible exact H)|(have H2_:=(Option.bind_some _ _).symm.trans H;rw [hy413];with_reducible exact H2_)|(have H2_:=(Option.bind_some _ _).symm.trans H;with_reducible exact H2_)|with_reducible exact H|(rw [hy413];exact H)|exact H
    have Ny413:=zh hy413;clear hy413;obtain rfl:=zU H
    go_enter Try.func60,Try.ntmps60
    go_wp2_with (first|((with_reducible refine zK (N:=3) rfl ?_);refine zI ?hg (N:=3) ?hd (cs:=#[.int .i64 a1_0,.int .i64 a1_1,.string a1_2]) (t:=26) ?hr ?_;(case hd => rfl);(case hg => rfl);(case hr => first|(go_simp;done)|(go_simp;rfl));intro gb403 hg w14 hbox hb;replace HO0:=zh (yg (by (with_reducible repeat (first|apply zm|apply zn|apply zo));exact HO0.out) hb);have BK403:=zh (hbox);have GW403:=zh ((by rw [hg];exact (by first|exact HK.out.1|exact (show Kept w _ (fun k_ => P0_ k_) from by repeat (with_reducible first|exact HK.out|apply zr|apply zp|apply zq)).1) : w.heap.size≤gb403));replace HK:=zh (Kept.below (S:=(fun k_ => P0_ k_)) (by repeat (with_reducible first|exact HK.out|apply zr|apply zp|apply zq)) hb);have GE403:=zh ((by rw [hg];exact (zB (by repeat (with_reducible first|exact HB.out|apply za|apply zb|apply zc))) : w0.heap.size≤gb403));replace HB:=zh (zC (by repeat (with_reducible first|exact HB.out|apply za|apply zb|apply zc)) hb);clear hb hbox hg;have hcz15_0 : w14.cell? ⟨gb403,0,none⟩=some (.int .i64 a1_0):=(zz BK403.out 0).trans rfl;have hcz15_1 : w14.cell? ⟨gb403,1,none⟩=some (.int .i64 a1_1):=(zz BK403.out 1).trans rfl;have hcz15_2 : w14.cell? ⟨gb403,2,none⟩=some (.string a1_2):=(zz BK403.out 2).trans rfl;have hfz15_0:=zA BK403.out 0;have hfz15_1:=zA BK403.out 1;have hfz15_2:=zA BK403.out 2)|((with_reducible refine yB (b:=.append) (xs:=#[.tmp 5,.tmp 9]) rfl ?_);at_builtin;refine Kd.R_append (Kd.int .u8) (w0:=w0) w0.heap.size rfl (.tmp 5) (.tmp 9) 29 5 (.int .u8 0) 1 rfl Try.underlying29 info5 rfl (by decide) (by omega) u9000_ l0 ((a1_0) % 256) [.int .u8 ((a1_0) % 256)] (fun k_ => (P0_ k_∨w.heap.size≤k_)) (fun _ => False) rfl rfl ?aP (fun _ hk => hk.elim) ?aF ?aO ?aB ?aS ?aL ?_;(case aP => exact rfl);(case aB => exact (by repeat (with_reducible first|exact HB.out|apply za|apply zb|apply zc|refine zd ?_ GE403.out)));(case aF => exact (fun k_ hk => (.inr (Nat.le_trans (by first|exact HK.out.1|exact (show Kept w _ (fun k_ => P0_ k_) from by repeat (with_reducible first|exact HK.out|apply zr|apply zp|apply zq|refine zs ?_ (.inr GW403.out) _)).1) hk))));(case aO => exact (by (with_reducible repeat (first|apply zm|apply zn|apply zo));exact HO0.out));(case aS => exact (zB (by repeat (with_reducible first|exact HB.out|apply za|apply zb|apply zc|refine zd ?_ GE403.out))));(case aL => have:=LMc3.out;omega);intro v405 w16 ho hb hg hat;rw [← Ny404.out] at ho;replace BK403:=zh (yw (g:=gb403) (o:=.cells #[.int .i64 a1_0,.int .i64 a1_1,.string a1_2] 26 (0,0)) (by (with_reducible repeat (first|refine ze ?_ _|refine zf ?_|refine zg ?_ _));exact BK403.out) hg (Kd.R_ne HO0.out BK403.out (by decide)));replace HB:=zh (hb);replace HK:=zh (yA (S:=(fun k_ => P0_ k_)) hg (by repeat (with_reducible first|exact HK.out|apply zr|apply zp|apply zq|refine zs ?_ (.inr GW403.out) _)) (fun k_ e_ => (HO0.out.1 k_ e_)));have HO406:=zh (ho);clear HO0 ho hb hg hat;have hcz17_0 : w16.cell? ⟨gb403,0,none⟩=some (.int .i64 a1_0):=(zz BK403.out 0).trans rfl;have hcz17_1 : w16.cell? ⟨gb403,1,none⟩=some (.int .i64 a1_1):=(zz BK403.out 1).trans rfl;have hcz17_2 : w16.cell? ⟨gb403,2,none⟩=some (.string a1_2):=(zz BK403.out 2).trans rfl;have hfz17_0:=zA BK403.out 0;have hfz17_1:=zA BK403.out 1;have hfz17_2:=zA BK403.out 2)|((with_reducible refine zJ (f:=94) rfl ?_);refine yj (some 27) rfl rfl Try.func94 (by kernel_rfl) rfl #[.int .i64 (wrap64 (a1_1 + 4611686018427387904))] rfl (by (try simp only [zt,zu,zv]);first|done|rfl|(simp only [zw,zx];rfl)|(simp only [yr,ys,zV,zW];rfl)) ?_;(with_reducible refine (impl_eight.calls k  (wrap64 (a1_1 + 4611686018427387904)) t410 _ A12.out).mono ?_);rintro e w18 ⟨v411,rfl,ho0,hb⟩;refine ⟨_,rfl,?_⟩;have HO412:=zh (yy (Kd.R_new' (Kd.R_newM (M:=fun k_ => (P0_ k_∨w.heap.size≤k_)) ho0 (by first|exact HK.out.1|exact (show Kept w _ (fun k_ => P0_ k_) from by repeat (with_reducible first|exact HK.out|apply zr|apply zp|apply zq|refine zs ?_ (.inr GW403.out) _)).1) (fun k_ h_ => .inr h_)) (Kd.R_lt (by (with_reducible repeat (first|apply zm|apply zn|apply zo));exact HO406.out))) (zB (by repeat (with_reducible first|exact HB.out|apply za|apply zb|apply zc|refine zd ?_ GE403.out))));replace HO406:=zh (Kd.R_elder' (by (with_reducible repeat (first|apply zm|apply zn|apply zo));exact HO406.out) (Kd.R_base ho0) hb);replace BK403:=zh (zD (g:=gb403) (o:=.cells #[.int .i64 a1_0,.int .i64 a1_1,.string a1_2] 26 (0,0)) (by (with_reducible repeat (first|refine ze ?_ _|refine zf ?_|refine zg ?_ _));exact BK403.out) hb);replace HK:=zh (Kept.below (S:=(fun k_ => P0_ k_)) (by repeat (with_reducible first|exact HK.out|apply zr|apply zp|apply zq|refine zs ?_ (.inr GW403.out) _)) hb);replace HB:=zh (zC (by repeat (with_reducible first|exact HB.out|apply za|apply zb|apply zc|refine zd ?_ GE403.out)) hb);(try clear hb);(try clear hb2);(try clear hk);(try clear hi);(try clear ho0);obtain ⟨Ao20,co20,eo20⟩:=yk HO412.out;subst eo20)|((with_reducible refine yB (b:=.append) (xs:=#[.tmp 23,.tmp 27]) rfl ?_);at_builtin;refine Kd.R_append_rows (Kd.int .u8) (w0:=w0) w0.heap.size rfl (.tmp 23) (.tmp 27) 29 5 (.int .u8 0) 1 rfl Try.underlying29 info5 rfl (by decide) (by omega) v405 y404 t410 _ _ _ (fun k_ => (P0_ k_∨w.heap.size≤k_)∧some k_≠(.slice Ao20 t410.length co20 : Value).ownBlock) (fun _ => False) rfl rfl ?aO ?aR (fun _ _ h => h) (fun _ h => h.elim) ?aF ?aB ?aS ?aL ?_;(case aR => repeat (first|exact (yh HO412.out).2.2|(with_reducible refine Kd.C_alloc ?_ _)|(with_reducible refine Kd.C_drewN ?_ _)|(with_reducible refine Kd.C_drew ?_)));(case aB => exact (by repeat (with_reducible first|exact HB.out|apply za|apply zb|apply zc|refine zd ?_ GE403.out)));(case aF => exact (fun k_ hk => ⟨(.inr (Nat.le_trans (by first|exact HK.out.1|exact (show Kept w _ (fun k_ => P0_ k_) from by repeat (with_reducible first|exact HK.out|apply zr|apply zp|apply zq|refine zs ?_ (.inr GW403.out) _)).1) hk)),Kd.fresh' (Kd.R_lt (by (with_reducible repeat (first|apply zm|apply zn|apply zo));exact HO412.out)) k_ hk⟩));(case aO => exact (by (with_reducible repeat (first|apply zm|apply zn|apply zo));exact HO406.out));(case aS => exact (zB (by repeat (with_reducible first|exact HB.out|apply za|apply zb|apply zc|refine zd ?_ GE403.out))));(case aL => have:=LMc13.out;omega);intro v414 w19 ho hb hg hat;rw [← Ny413.out] at ho;replace BK403:=zh (yw (g:=gb403) (o:=.cells #[.int .i64 a1_0,.int .i64 a1_1,.string a1_2] 26 (0,0)) (by (with_reducible repeat (first|refine ze ?_ _|refine zf ?_|refine zg ?_ _));exact BK403.out) hg (Kd.R_ne HO406.out BK403.out (by decide)));replace HO412:=zh (Kd.R_after (ok:=(fun k_ => (P0_ k_∨w.heap.size≤k_))) (by (with_reducible repeat (first|apply zm|apply zn|apply zo));exact zM HO412.out (fun _ hk => ⟨hk.1.1,hk.2⟩)) hg hat);replace HB:=zh (hb);replace HK:=zh (yA (S:=(fun k_ => P0_ k_)) hg (by repeat (with_reducible first|exact HK.out|apply zr|apply zp|apply zq|refine zs ?_ (.inr GW403.out) _)) (fun k_ e_ => (HO406.out.1 k_ e_).1));have HO415:=zh (ho);clear HO406 ho hb hg hat))
    go_ret
    exact ⟨_,by first|rfl|(simp [yt,yu] <;> rfl)|(simp [*,yt,yu] <;> rfl),by (with_reducible repeat (first|apply zm|apply zn|apply zo));exact zM HO415.out (fun _ hk => hk.1),by repeat (with_reducible first|exact HB.out|apply za|apply zb|apply zc|refine zd ?_ GE403.out),by repeat (with_reducible first|exact HK.out|apply zr|apply zp|apply zq|refine zs ?_ (.inr GW403.out) _)⟩
   rw [if_neg c13] at H;exact absurd H (by simp)
  rw [if_neg c11] at H;have c11b0 : (a1_0 == 2)=false:=zY.mpr c11;have c11b1 : (a1_0 != 2)=true:=zZ.mpr c11
  by_cases c21 : a1_0=3
  ·
   rw [if_pos c21] at H
   have c21b0 : (a1_0 == 3)=true:=ya.mpr c21;have c21b1 : (a1_0 != 3)=false:=zX.mpr c21;clear c21;obtain ⟨y416,hy416⟩ : ∃ y_ : List Int,y_=(([((a1_2.size : Int) / 256) % 256,((a1_2.size : Int)) % 256] : List Int)):=⟨_,rfl⟩;replace H : (if y404.length + y416.length<140737488355328 then ((some (y404 ++ y416 : List Int)).bind fun y419 => (if y419.length + a1_2.size<140737488355328 then (some (y419 ++ bytesOf a1_2)) else (none))) else (none))=some r:=by first|(rw [hy416];with_reducible exact H)|(have H2_:=(Option.bind_some _ _).symm.trans H;rw [hy416];with_reducible exact H2_)|(have H2_:=(Option.bind_some _ _).symm.trans H;with_reducible exact H2_)|with_reducible exact H|(rw [hy416];exact H)|exact H
   have Ny416:=zh hy416;clear hy416
   by_cases c22 : y404.length + y416.length<140737488355328
   ·
    rw [if_pos c22] at H
    have LMc22:=zh c22;clear c22;obtain ⟨y419,hy419⟩ : ∃ y_ : List Int,y_=(y404 ++ y416):=⟨_,rfl⟩;replace H : (if y419.length + a1_2.size<140737488355328 then (some (y419 ++ bytesOf a1_2)) else (none))=some r:=by first|(rw [hy419];with_reducible exact H)|(have H2_:=(Option.bind_some _ _).symm.trans H;rw [hy419];with_reducible exact H2_)|(have H2_:=(Option.bind_some _ _).symm.trans H;with_reducible exact H2_)|with_reducible exact H|(rw [hy419];exact H)|exact H
    have Ny419:=zh hy419;clear hy419
    by_cases c23 : y419.length + a1_2.size<140737488355328
    ·
     rw [if_pos c23] at H
     have LMc23:=zh c23;clear c23;obtain ⟨y422,hy422⟩ : ∃ y_ : List Int,y_=(y419 ++ bytesOf a1_2):=⟨_,rfl⟩;replace H : (some y422)=some r:=by first|(rw [hy422];with_reducible exact H)|(have H2_:=(Option.bind_some _ _).symm.trans H;rw [hy422];with_reducible exact H2_)|(have H2_:=(Option.bind_some _ _).symm.trans H;with_reducible exact H2_)|with_reducible exact H|(rw [hy422];exact H)|exact H
     have Ny422:=zh hy422;clear hy422;obtain rfl:=zU H
     go_enter Try.func60,Try.ntmps60
     try go_wp2_with (first|((with_reducible refine zK (N:=3) rfl ?_);refine zI ?hg (N:=3) ?hd (cs:=#[.int .i64 a1_0,.int .i64 a1_1,.string a1_2]) (t:=26) ?hr ?_;(case hd => rfl);(case hg => rfl);(case hr => first|(go_simp;done)|(go_simp;rfl));intro gb403 hg w24 hbox hb;replace HO0:=zh (yg (by (with_reducible repeat (first|apply zm|apply zn|apply zo));exact HO0.out) hb);have BK403:=zh (hbox);have GW403:=zh ((by rw [hg];exact (by first|exact HK.out.1|exact (show Kept w _ (fun k_ => P0_ k_) from by repeat (with_reducible first|exact HK.out|apply zr|apply zp|apply zq)).1) : w.heap.size≤gb403));replace HK:=zh (Kept.below (S:=(fun k_ => P0_ k_)) (by repeat (with_reducible first|exact HK.out|apply zr|apply zp|apply zq)) hb);have GE403:=zh ((by rw [hg];exact (zB (by repeat (with_reducible first|exact HB.out|apply za|apply zb|apply zc))) : w0.heap.size≤gb403));replace HB:=zh (zC (by repeat (with_reducible first|exact HB.out|apply za|apply zb|apply zc)) hb);clear hb hbox hg;have hcz25_0 : w24.cell? ⟨gb403,0,none⟩=some (.int .i64 a1_0):=(zz BK403.out 0).trans rfl;have hcz25_1 : w24.cell? ⟨gb403,1,none⟩=some (.int .i64 a1_1):=(zz BK403.out 1).trans rfl;have hcz25_2 : w24.cell? ⟨gb403,2,none⟩=some (.string a1_2):=(zz BK403.out 2).trans rfl;have hfz25_0:=zA BK403.out 0;have hfz25_1:=zA BK403.out 1;have hfz25_2:=zA BK403.out 2)|((with_reducible refine yB (b:=.append) (xs:=#[.tmp 5,.tmp 9]) rfl ?_);at_builtin;refine Kd.R_append (Kd.int .u8) (w0:=w0) w0.heap.size rfl (.tmp 5) (.tmp 9) 29 5 (.int .u8 0) 1 rfl Try.underlying29 info5 rfl (by decide) (by omega) u9000_ l0 ((a1_0) % 256) [.int .u8 ((a1_0) % 256)] (fun k_ => (P0_ k_∨w.heap.size≤k_)) (fun _ => False) rfl rfl ?aP (fun _ hk => hk.elim) ?aF ?aO ?aB ?aS ?aL ?_;(case aP => exact rfl);(case aB => exact (by repeat (with_reducible first|exact HB.out|apply za|apply zb|apply zc|refine zd ?_ GE403.out)));(case aF => exact (fun k_ hk => (.inr (Nat.le_trans (by first|exact HK.out.1|exact (show Kept w _ (fun k_ => P0_ k_) from by repeat (with_reducible first|exact HK.out|apply zr|apply zp|apply zq|refine zs ?_ (.inr GW403.out) _)).1) hk))));(case aO => exact (by (with_reducible repeat (first|apply zm|apply zn|apply zo));exact HO0.out));(case aS => exact (zB (by repeat (with_reducible first|exact HB.out|apply za|apply zb|apply zc|refine zd ?_ GE403.out))));(case aL => have:=LMc3.out;omega);intro v405 w26 ho hb hg hat;rw [← Ny404.out] at ho;replace BK403:=zh (yw (g:=gb403) (o:=.cells #[.int .i64 a1_0,.int .i64 a1_1,.string a1_2] 26 (0,0)) (by (with_reducible repeat (first|refine ze ?_ _|refine zf ?_|refine zg ?_ _));exact BK403.out) hg (Kd.R_ne HO0.out BK403.out (by decide)));replace HB:=zh (hb);replace HK:=zh (yA (S:=(fun k_ => P0_ k_)) hg (by repeat (with_reducible first|exact HK.out|apply zr|apply zp|apply zq|refine zs ?_ (.inr GW403.out) _)) (fun k_ e_ => (HO0.out.1 k_ e_)));have HO406:=zh (ho);clear HO0 ho hb hg hat;have hcz27_0 : w26.cell? ⟨gb403,0,none⟩=some (.int .i64 a1_0):=(zz BK403.out 0).trans rfl;have hcz27_1 : w26.cell? ⟨gb403,1,none⟩=some (.int .i64 a1_1):=(zz BK403.out 1).trans rfl;have hcz27_2 : w26.cell? ⟨gb403,2,none⟩=some (.string a1_2):=(zz BK403.out 2).trans rfl;have hfz27_0:=zA BK403.out 0;have hfz27_1:=zA BK403.out 1;have hfz27_2:=zA BK403.out 2))
     replace HO406:=zh (zo HO406.out);replace BK403:=zh (zf BK403.out);replace HK:=zh (zq HK.out);replace HB:=zh (zc HB.out);refine start_ (n:=16) (S:=fun w' => w'.cell? ⟨gb403,0,none⟩=some (.int .i64 a1_0)∧w'.cell? ⟨gb403,1,none⟩=some (.int .i64 a1_1)∧w'.cell? ⟨gb403,2,none⟩=some (.string a1_2)) (ds:=[]) (bm_ 0 16) (by kernel_rfl) rfl rfl ⟨(zz BK403.out 0).trans rfl,(zz BK403.out 1).trans rfl,(zz BK403.out 2).trans rfl⟩ (fun hHeld => ?_);refine with_tabW impl_putValue.tab10 impl_putValue.bits10 (fun HT_ HW_ => ?_);generalize w26.drew=w28 at HO406 BK403 HK HB hHeld ⊢;refine pure_ (i:=0) (N:=some 33) (v:=?_) (a':=?_) (bm_ 1 16) rfl rfl (any_of HT_.out (by kernel_rfl)) (fun _ _ _ h => h) (Or.inl ⟨by rfl,?_⟩) ?_ ?_;rotate_left
     ·
      intro w'
      go_simp
      with_reducible rfl
     rotate_left
     ·
      simp only [Act.put,zi,zj,zk,zG,zH]
      rfl
     refine pure_ (i:=1) (N:=some 34) (v:=?_) (a':=?_) (bm_ 2 16) rfl rfl (any_of HT_.out (by kernel_rfl)) (fun _ _ _ h => h) (Or.inl ⟨by rfl,?_⟩) ?_ ?_;rotate_left
     ·
      intro w'
      go_simp
      with_reducible rfl
     rotate_left
     ·
      simp only [Act.put,zi,zj,zk,zG,zH]
      rfl
     refine pure_ (i:=6) (N:=some 39) (v:=?_) (a':=?_) #[true,true,false,false,false,false,true,false,false,false,false,false,false,false,false,false] rfl rfl (any_of HT_.out (by kernel_rfl)) (fun _ _ _ h => h) (Or.inl ⟨by rfl,?_⟩) ?_ ?_;rotate_left
     ·
      intro w'
      go_simp
      with_reducible rfl
     rotate_left
     ·
      simp only [Act.put,zi,zj,zk,zG,zH]
      rfl
     refine pure_ (i:=12) (N:=some 45) (v:=?_) (a':=?_) #[true,true,false,false,false,false,true,false,false,false,false,false,true,false,false,false] rfl rfl (any_of HT_.out (by kernel_rfl)) (fun _ _ _ h => h) (Or.inl ⟨by rfl,?_⟩) ?_ ?_;rotate_left
     ·
      intro w'
      go_simp
      with_reducible rfl
     rotate_left
     ·
      simp only [Act.put,zi,zj,zk,zG,zH]
      rfl
     refine take_ (i:=2) (N:=some 35) (v:=?_) (a':=?_) #[true,true,true,false,false,false,true,false,false,false,false,false,true,false,false,false] rfl rfl (yo HT_.out HW_.out (by kernel_rfl)) (fun _ _ _ h => h) (Or.inl ⟨by rfl,?_⟩) hHeld ?_ ?_;rotate_left
     ·
      rintro w' ⟨s0,s1,s2⟩
      go_simp
      with_reducible rfl
     rotate_left
     ·
      simp only [Act.put,zi,zj,zk,zG,zH]
      rfl
     refine pure_ (i:=3) (N:=some 36) (v:=?_) (a':=?_) #[true,true,true,true,false,false,true,false,false,false,false,false,true,false,false,false] rfl rfl (any_of HT_.out (by kernel_rfl)) (fun _ _ _ h => h) (Or.inl ⟨by rfl,?_⟩) ?_ ?_;rotate_left
     ·
      intro w'
      go_simp
      with_reducible rfl
     rotate_left
     ·
      simp only [Act.put,zi,zj,zk,zG,zH]
      rfl
     refine pure_ (i:=4) (N:=some 37) (v:=?_) (a':=?_) #[true,true,true,true,true,false,true,false,false,false,false,false,true,false,false,false] rfl rfl (any_of HT_.out (by kernel_rfl)) (fun _ _ _ h => h) (Or.inl ⟨by rfl,?_⟩) ?_ ?_;rotate_left
     ·
      intro w'
      go_simp
      with_reducible rfl
     rotate_left
     ·
      simp only [Act.put,zi,zj,zk,zG,zH]
      rfl
     refine pure_ (i:=5) (N:=some 38) (v:=?_) (a':=?_) #[true,true,true,true,true,true,true,false,false,false,false,false,true,false,false,false] rfl rfl (any_of HT_.out (by kernel_rfl)) (fun _ _ _ h => h) (Or.inl ⟨by rfl,?_⟩) ?_ ?_;rotate_left
     ·
      intro w'
      go_simp
      with_reducible rfl
     rotate_left
     ·
      simp only [Act.put,zi,zj,zk,zG,zH]
      rfl
     refine take_ (i:=7) (N:=some 40) (v:=?_) (a':=?_) #[true,true,true,true,true,true,true,true,false,false,false,false,true,false,false,false] rfl rfl (yo HT_.out HW_.out (by kernel_rfl)) (fun _ _ _ h => h) (Or.inl ⟨by rfl,?_⟩) hHeld ?_ ?_;rotate_left
     ·
      rintro w' ⟨s0,s1,s2⟩
      go_simp
      with_reducible rfl
     rotate_left
     ·
      simp only [Act.put,zi,zj,zk,zG,zH]
      rfl
     refine pure_ (i:=8) (N:=some 41) (v:=?_) (a':=?_) #[true,true,true,true,true,true,true,true,true,false,false,false,true,false,false,false] rfl rfl (any_of HT_.out (by kernel_rfl)) (fun _ _ _ h => h) (Or.inl ⟨by rfl,?_⟩) ?_ ?_;rotate_left
     ·
      intro w'
      go_simp
      with_reducible rfl
     rotate_left
     ·
      simp only [Act.put,zi,zj,zk,zG,zH]
      rfl
     refine pure_ (i:=9) (N:=some 42) (v:=?_) (a':=?_) #[true,true,true,true,true,true,true,true,true,true,false,false,true,false,false,false] rfl rfl (any_of HT_.out (by kernel_rfl)) (fun _ _ _ h => h) (Or.inl ⟨by rfl,?_⟩) ?_ ?_;rotate_left
     ·
      intro w'
      go_simp
      with_reducible rfl
     rotate_left
     ·
      simp only [Act.put,zi,zj,zk,zG,zH]
      rfl
     refine take_ (i:=13) (N:=some 46) (v:=?_) (a':=?_) #[true,true,true,true,true,true,true,true,true,true,false,false,true,true,false,false] rfl rfl (yo HT_.out HW_.out (by kernel_rfl)) (fun _ _ _ h => h) (Or.inl ⟨by rfl,?_⟩) hHeld ?_ ?_;rotate_left
     ·
      rintro w' ⟨s0,s1,s2⟩
      go_simp
      with_reducible rfl
     rotate_left
     ·
      simp only [Act.put,zi,zj,zk,zG,zH]
      rfl
     refine one_ (i:=10) (N:=some 43) #[true,true,true,true,true,true,true,true,true,true,true,false,true,true,false,false] rfl rfl (one_of HT_.out (by kernel_rfl)) (by decide) (fun K hK => ?_);refine Kd.R_lit_step (Kd.int .u8) _ 5 ?hg (N:=43) ?hd (xs:=([((a1_2.size : Int) / 256) % 256,((a1_2.size : Int)) % 256] : List Int)) (inner:=[.int .u8 (((a1_2.size : Int) / 256) % 256),.int .u8 (((a1_2.size : Int)) % 256)]) (ok:=fun _ => True) (okp:=fun _ => True) ?hr ?hp (fun _ hk => hk) trivial (Below.refl _ _) (ye _) (by simp) ?_;(case hd => rfl);(case hg => rfl);(case hr => first|(go_simp;done)|(go_simp;rfl));(case hp => exact (Reps.one (show Kd.M (Kd.int .u8) _ _ _ (((a1_2.size : Int) / 256) % 256) [.int .u8 (((a1_2.size : Int) / 256) % 256)] from rfl) (Reps.one (show Kd.M (Kd.int .u8) _ _ _ (((a1_2.size : Int)) % 256) [.int .u8 (((a1_2.size : Int)) % 256)] from rfl) (Reps.none _ _))));intro v417 w29 ho30 hb hg_ hnew_;clear hg_ hnew_;(first|rw [← Ny416.out] at ho30|(simp only [Int.reduceToNat] at ho30;rw [← Ny416.out] at ho30));have HO418:=zh (yy (Kd.R_new' (Kd.R_newM (M:=fun k_ => (P0_ k_∨w.heap.size≤k_)) ho30 (by first|exact HK.out.1|exact (show Kept w _ (fun k_ => P0_ k_) from by repeat (with_reducible first|exact HK.out|apply zr|apply zp|apply zq|refine zs ?_ (.inr GW403.out) _)).1) (fun k_ h_ => .inr h_)) (Kd.R_lt (by (with_reducible repeat (first|apply zm|apply zn|apply zo));exact HO406.out))) (zB (by repeat (with_reducible first|exact HB.out|apply za|apply zb|apply zc|refine zd ?_ GE403.out))));replace HO406:=zh (Kd.R_elder' (by (with_reducible repeat (first|apply zm|apply zn|apply zo));exact HO406.out) (Kd.R_base ho30) hb);replace BK403:=zh (zD (g:=gb403) (o:=.cells #[.int .i64 a1_0,.int .i64 a1_1,.string a1_2] 26 (0,0)) (by (with_reducible repeat (first|refine ze ?_ _|refine zf ?_|refine zg ?_ _));exact BK403.out) hb);replace HK:=zh (Kept.below (S:=(fun k_ => P0_ k_)) (by repeat (with_reducible first|exact HK.out|apply zr|apply zp|apply zq|refine zs ?_ (.inr GW403.out) _)) hb);replace HB:=zh (zC (by repeat (with_reducible first|exact HB.out|apply za|apply zb|apply zc|refine zd ?_ GE403.out)) hb);clear hb ho30;obtain ⟨Ao32,co32,eo32⟩:=yk HO418.out;(first|subst eo32|(injection eo32 with f1_ f2_ f3_;have f4_:=f1_.symm;have f5_:=f3_.symm;clear f1_ f2_ f3_;subst f4_;subst f5_));refine hK.out _ _ ⟨(zz BK403.out 0).trans rfl,(zz BK403.out 1).trans rfl,(zz BK403.out 2).trans rfl⟩ (fun hHeld => ?_);clear hK K;refine norm_ (a':=?_) ?_ ?_;rotate_left
     ·
      show Act.put _ (some 43) _=_
      simp only [Act.put,zi,zj,zk,zG,zH]
      rfl
     refine one_ (i:=11) (N:=some 44) (bm_ 14 16) rfl rfl (one_of HT_.out (by kernel_rfl)) (by decide) (fun K hK => ?_);refine Kd.R_append_rows_step (Kd.int .u8) (w0:=w0) w0.heap.size (by rfl) (.tmp 33) (.tmp 43) 29 5 (.int .u8 0) 1 rfl Try.underlying29 info5 rfl (by decide) (by omega) v405 y404 y416 _ _ _ (fun k_ => (P0_ k_∨w.heap.size≤k_)∧some k_≠(.slice Ao32 y416.length co32 : Value).ownBlock) (fun _ => False) rfl rfl ?aO ?aR (fun _ _ h => h) (fun _ h => h.elim) ?aF ?aB ?aS ?aL ?_;(case aR => repeat (first|exact (yh HO418.out).2.2|(with_reducible refine Kd.C_alloc ?_ _)|(with_reducible refine Kd.C_drewN ?_ _)|(with_reducible refine Kd.C_drew ?_)))
     (case aB => exact (by repeat (with_reducible first|exact HB.out|apply za|apply zb|apply zc|refine zd ?_ GE403.out)))
     (case aF => exact (fun k_ hk => ⟨(.inr (Nat.le_trans (by first|exact HK.out.1|exact (show Kept w _ (fun k_ => P0_ k_) from by repeat (with_reducible first|exact HK.out|apply zr|apply zp|apply zq|refine zs ?_ (.inr GW403.out) _)).1) hk)),Kd.fresh' (Kd.R_lt (by (with_reducible repeat (first|apply zm|apply zn|apply zo));exact HO418.out)) k_ hk⟩))
     (case aO => exact (by (with_reducible repeat (first|apply zm|apply zn|apply zo));exact HO406.out))
     (case aS => exact (zB (by repeat (with_reducible first|exact HB.out|apply za|apply zb|apply zc|refine zd ?_ GE403.out))))
     (case aL => have:=LMc22.out;omega)
     intro v420 w31 ho hb hg hat;rw [← Ny419.out] at ho;replace BK403:=zh (yw (g:=gb403) (o:=.cells #[.int .i64 a1_0,.int .i64 a1_1,.string a1_2] 26 (0,0)) (by (with_reducible repeat (first|refine ze ?_ _|refine zf ?_|refine zg ?_ _));exact BK403.out) hg (Kd.R_ne HO406.out BK403.out (by decide)));replace HO418:=zh (Kd.R_after (ok:=(fun k_ => (P0_ k_∨w.heap.size≤k_))) (by (with_reducible repeat (first|apply zm|apply zn|apply zo));exact zM HO418.out (fun _ hk => ⟨hk.1.1,hk.2⟩)) hg hat);replace HB:=zh (hb);replace HK:=zh (yA (S:=(fun k_ => P0_ k_)) hg (by repeat (with_reducible first|exact HK.out|apply zr|apply zp|apply zq|refine zs ?_ (.inr GW403.out) _)) (fun k_ e_ => (HO406.out.1 k_ e_).1));have HO421:=zh (ho);clear HO406 ho hb hg hat;refine hK.out _ _ ⟨(zz BK403.out 0).trans rfl,(zz BK403.out 1).trans rfl,(zz BK403.out 2).trans rfl⟩ (fun hHeld => ?_);clear hK K;refine norm_ (a':=?_) ?_ ?_;rotate_left
     ·
      show Act.put _ (some 44) _=_
      simp only [Act.put,zi,zj,zk,zG,zH]
      rfl
     refine one_ (i:=14) (N:=some 47) (bm_ 15 16) rfl rfl (one_of HT_.out (by kernel_rfl)) (by decide) (fun K hK => ?_);refine print_append_str_go (w0:=w0) w0.heap.size (by rfl) (.tmp 44) _ 29 9 5 rfl Try.underlying29 Try.underlying9 info5 v420 y419 a1_2 rfl rfl ?aO ?aB ?aS ?aL ?_;(case aB => exact (by repeat (with_reducible first|exact HB.out|apply za|apply zb|apply zc|refine zd ?_ GE403.out)))
     (case aO => exact (Kd.own_of_R (by (with_reducible repeat (first|apply zm|apply zn|apply zo));exact zM HO421.out (fun _ hk => hk.1))))
     (case aS => exact (zB (by repeat (with_reducible first|exact HB.out|apply za|apply zb|apply zc|refine zd ?_ GE403.out))))
     (case aL => have:=LMc23.out;omega)
     intro v423 w33 ho0 hb hg hat;have ho:=Kd.R_of_own (h1:=fun _ => rfl) (ok:=(fun k_ => (P0_ k_∨w.heap.size≤k_))) ho0 (fun k_ e_ => hat.elim (fun h_ => (zM HO421.out (fun _ hk => hk.1)).1 k_ (h_.symm.trans e_)) (fun ⟨b_,h_,hb_⟩ => (fun k_ hk => (.inr (Nat.le_trans (by first|exact HK.out.1|exact (show Kept w _ (fun k_ => P0_ k_) from by repeat (with_reducible first|exact HK.out|apply zr|apply zp|apply zq|refine zs ?_ (.inr GW403.out) _)).1) hk))) k_ (zU (h_.symm.trans e_) ▸ hb_)));clear ho0;rw [← Ny422.out] at ho;change Kd.R (Kd.int .u8) 5 w33 w0.heap.size (fun k_ => (P0_ k_∨w.heap.size≤k_)) v423 y422 at ho;replace BK403:=zh (yw (g:=gb403) (o:=.cells #[.int .i64 a1_0,.int .i64 a1_1,.string a1_2] 26 (0,0)) (by (with_reducible repeat (first|refine ze ?_ _|refine zf ?_|refine zg ?_ _));exact BK403.out) hg (Kd.R_ne HO421.out BK403.out (by decide)));replace HB:=zh (hb);replace HK:=zh (yA (S:=(fun k_ => P0_ k_)) hg (by repeat (with_reducible first|exact HK.out|apply zr|apply zp|apply zq|refine zs ?_ (.inr GW403.out) _)) (fun k_ e_ => (HO421.out.1 k_ e_).1));have HO424:=zh (ho);clear HO421 ho hb hg hat;refine hK.out _ _ ⟨(zz BK403.out 0).trans rfl,(zz BK403.out 1).trans rfl,(zz BK403.out 2).trans rfl⟩ (fun hHeld => ?_);clear hK K;refine norm_ (a':=?_) ?_ ?_;rotate_left
     ·
      show Act.put _ (some 47) _=_
      simp only [Act.put,zi,zj,zk,zG,zH]
      rfl
     refine pure_ (i:=15) (N:=some 4) (v:=?_) (a':=?_) (bm_ 16 16) rfl rfl (any_of HT_.out (by kernel_rfl)) (fun _ _ _ h => h) (Or.inl ⟨by rfl,?_⟩) ?_ ?_;rotate_left
     ·
      intro w'
      go_simp
      with_reducible rfl
     rotate_left
     ·
      simp only [Act.put,zi,zj,zk,zG,zH]
      rfl
     refine done_ (done_of HT_.out (by kernel_rfl)) ?_
     try go_wp2
     go_ret
     exact ⟨_,by first|rfl|(simp [yt,yu] <;> rfl)|(simp [*,yt,yu] <;> rfl),by (with_reducible repeat (first|apply zm|apply zn|apply zo));exact HO424.out,by repeat (with_reducible first|exact HB.out|apply za|apply zb|apply zc|refine zd ?_ GE403.out),by repeat (with_reducible first|exact HK.out|apply zr|apply zp|apply zq|refine zs ?_ (.inr GW403.out) _)⟩
    rw [if_neg c23] at H;exact absurd H (by simp)
   rw [if_neg c22] at H;exact absurd H (by simp)
  rw [if_neg c21] at H;have c21b0 : (a1_0 == 3)=false:=zY.mpr c21;have c21b1 : (a1_0 != 3)=true:=zZ.mpr c21
  by_cases c34 : a1_0=4
  ·
   rw [if_pos c34] at H
   have c34b0 : (a1_0 == 4)=true:=ya.mpr c34;have c34b1 : (a1_0 != 4)=false:=zX.mpr c34;clear c34;obtain ⟨y425,hy425⟩ : ∃ y_ : List Int,y_=(([((a1_2.size : Int) / 256) % 256,((a1_2.size : Int)) % 256] : List Int)):=⟨_,rfl⟩;replace H : (if y404.length + y425.length<140737488355328 then ((some (y404 ++ y425 : List Int)).bind fun y428 => (if y428.length + a1_2.size<140737488355328 then (some (y428 ++ bytesOf a1_2)) else (none))) else (none))=some r:=by first|(rw [hy425];with_reducible exact H)|(have H2_:=(Option.bind_some _ _).symm.trans H;rw [hy425];with_reducible exact H2_)|(have H2_:=(Option.bind_some _ _).symm.trans H;with_reducible exact H2_)|with_reducible exact H|(rw [hy425];exact H)|exact H
   have Ny425:=zh hy425;clear hy425
   by_cases c35 : y404.length + y425.length<140737488355328
   ·
    rw [if_pos c35] at H
    have LMc35:=zh c35;clear c35;obtain ⟨y428,hy428⟩ : ∃ y_ : List Int,y_=(y404 ++ y425):=⟨_,rfl⟩;replace H : (if y428.length + a1_2.size<140737488355328 then (some (y428 ++ bytesOf a1_2)) else (none))=some r:=by first|(rw [hy428];with_reducible exact H)|(have H2_:=(Option.bind_some _ _).symm.trans H;rw [hy428];with_reducible exact H2_)|(have H2_:=(Option.bind_some _ _).symm.trans H;with_reducible exact H2_)|with_reducible exact H|(rw [hy428];exact H)|exact H
    have Ny428:=zh hy428;clear hy428
    by_cases c36 : y428.length + a1_2.size<140737488355328
    ·
     rw [if_pos c36] at H
     have LMc36:=zh c36;clear c36;obtain ⟨y431,hy431⟩ : ∃ y_ : List Int,y_=(y428 ++ bytesOf a1_2):=⟨_,rfl⟩;replace H : (some y431)=some r:=by first|(rw [hy431];with_reducible exact H)|(have H2_:=(Option.bind_some _ _).symm.trans H;rw [hy431];with_reducible exact H2_)|(have H2_:=(Option.bind_some _ _).symm.trans H;with_reducible exact H2_)|with_reducible exact H|(rw [hy431];exact H)|exact H
     have Ny431:=zh hy431;clear hy431;obtain rfl:=zU H
     go_enter Try.func60,Try.ntmps60
     try go_wp2_with (first|((with_reducible refine zK (N:=3) rfl ?_);refine zI ?hg (N:=3) ?hd (cs:=#[.int .i64 a1_0,.int .i64 a1_1,.string a1_2]) (t:=26) ?hr ?_;(case hd => rfl);(case hg => rfl);(case hr => first|(go_simp;done)|(go_simp;rfl));intro gb403 hg w37 hbox hb;replace HO0:=zh (yg (by (with_reducible repeat (first|apply zm|apply zn|apply zo));exact HO0.out) hb);have BK403:=zh (hbox);have GW403:=zh ((by rw [hg];exact (by first|exact HK.out.1|exact (show Kept w _ (fun k_ => P0_ k_) from by repeat (with_reducible first|exact HK.out|apply zr|apply zp|apply zq)).1) : w.heap.size≤gb403));replace HK:=zh (Kept.below (S:=(fun k_ => P0_ k_)) (by repeat (with_reducible first|exact HK.out|apply zr|apply zp|apply zq)) hb);have GE403:=zh ((by rw [hg];exact (zB (by repeat (with_reducible first|exact HB.out|apply za|apply zb|apply zc))) : w0.heap.size≤gb403));replace HB:=zh (zC (by repeat (with_reducible first|exact HB.out|apply za|apply zb|apply zc)) hb);clear hb hbox hg;have hcz38_0 : w37.cell? ⟨gb403,0,none⟩=some (.int .i64 a1_0):=(zz BK403.out 0).trans rfl;have hcz38_1 : w37.cell? ⟨gb403,1,none⟩=some (.int .i64 a1_1):=(zz BK403.out 1).trans rfl;have hcz38_2 : w37.cell? ⟨gb403,2,none⟩=some (.string a1_2):=(zz BK403.out 2).trans rfl;have hfz38_0:=zA BK403.out 0;have hfz38_1:=zA BK403.out 1;have hfz38_2:=zA BK403.out 2)|((with_reducible refine yB (b:=.append) (xs:=#[.tmp 5,.tmp 9]) rfl ?_);at_builtin;refine Kd.R_append (Kd.int .u8) (w0:=w0) w0.heap.size rfl (.tmp 5) (.tmp 9) 29 5 (.int .u8 0) 1 rfl Try.underlying29 info5 rfl (by decide) (by omega) u9000_ l0 ((a1_0) % 256) [.int .u8 ((a1_0) % 256)] (fun k_ => (P0_ k_∨w.heap.size≤k_)) (fun _ => False) rfl rfl ?aP (fun _ hk => hk.elim) ?aF ?aO ?aB ?aS ?aL ?_;(case aP => exact rfl);(case aB => exact (by repeat (with_reducible first|exact HB.out|apply za|apply zb|apply zc|refine zd ?_ GE403.out)));(case aF => exact (fun k_ hk => (.inr (Nat.le_trans (by first|exact HK.out.1|exact (show Kept w _ (fun k_ => P0_ k_) from by repeat (with_reducible first|exact HK.out|apply zr|apply zp|apply zq|refine zs ?_ (.inr GW403.out) _)).1) hk))));(case aO => exact (by (with_reducible repeat (first|apply zm|apply zn|apply zo));exact HO0.out));(case aS => exact (zB (by repeat (with_reducible first|exact HB.out|apply za|apply zb|apply zc|refine zd ?_ GE403.out))));(case aL => have:=LMc3.out;omega);intro v405 w39 ho hb hg hat;rw [← Ny404.out] at ho;replace BK403:=zh (yw (g:=gb403) (o:=.cells #[.int .i64 a1_0,.int .i64 a1_1,.string a1_2] 26 (0,0)) (by (with_reducible repeat (first|refine ze ?_ _|refine zf ?_|refine zg ?_ _));exact BK403.out) hg (Kd.R_ne HO0.out BK403.out (by decide)));replace HB:=zh (hb);replace HK:=zh (yA (S:=(fun k_ => P0_ k_)) hg (by repeat (with_reducible first|exact HK.out|apply zr|apply zp|apply zq|refine zs ?_ (.inr GW403.out) _)) (fun k_ e_ => (HO0.out.1 k_ e_)));have HO406:=zh (ho);clear HO0 ho hb hg hat;have hcz40_0 : w39.cell? ⟨gb403,0,none⟩=some (.int .i64 a1_0):=(zz BK403.out 0).trans rfl;have hcz40_1 : w39.cell? ⟨gb403,1,none⟩=some (.int .i64 a1_1):=(zz BK403.out 1).trans rfl;have hcz40_2 : w39.cell? ⟨gb403,2,none⟩=some (.string a1_2):=(zz BK403.out 2).trans rfl;have hfz40_0:=zA BK403.out 0;have hfz40_1:=zA BK403.out 1;have hfz40_2:=zA BK403.out 2))
     replace HO406:=zh (zo HO406.out);replace BK403:=zh (zf BK403.out);replace HK:=zh (zq HK.out);replace HB:=zh (zc HB.out);refine start_ (n:=16) (S:=fun w' => w'.cell? ⟨gb403,0,none⟩=some (.int .i64 a1_0)∧w'.cell? ⟨gb403,1,none⟩=some (.int .i64 a1_1)∧w'.cell? ⟨gb403,2,none⟩=some (.string a1_2)) (ds:=[]) (bm_ 0 16) (by kernel_rfl) rfl rfl ⟨(zz BK403.out 0).trans rfl,(zz BK403.out 1).trans rfl,(zz BK403.out 2).trans rfl⟩ (fun hHeld => ?_);refine with_tabW impl_putValue.tab10 impl_putValue.bits10 (fun HT_ HW_ => ?_);generalize w39.drew=w41 at HO406 BK403 HK HB hHeld ⊢;refine pure_ (i:=0) (N:=some 33) (v:=?_) (a':=?_) (bm_ 1 16) rfl rfl (any_of HT_.out (by kernel_rfl)) (fun _ _ _ h => h) (Or.inl ⟨by rfl,?_⟩) ?_ ?_;rotate_left
     ·
      intro w'
      go_simp
      with_reducible rfl
     rotate_left
     ·
      simp only [Act.put,zi,zj,zk,zG,zH]
      rfl
     refine pure_ (i:=1) (N:=some 34) (v:=?_) (a':=?_) (bm_ 2 16) rfl rfl (any_of HT_.out (by kernel_rfl)) (fun _ _ _ h => h) (Or.inl ⟨by rfl,?_⟩) ?_ ?_;rotate_left
     ·
      intro w'
      go_simp
      with_reducible rfl
     rotate_left
     ·
      simp only [Act.put,zi,zj,zk,zG,zH]
      rfl
     refine pure_ (i:=6) (N:=some 39) (v:=?_) (a':=?_) #[true,true,false,false,false,false,true,false,false,false,false,false,false,false,false,false] rfl rfl (any_of HT_.out (by kernel_rfl)) (fun _ _ _ h => h) (Or.inl ⟨by rfl,?_⟩) ?_ ?_;rotate_left
     ·
      intro w'
      go_simp
      with_reducible rfl
     rotate_left
     ·
      simp only [Act.put,zi,zj,zk,zG,zH]
      rfl
     refine pure_ (i:=12) (N:=some 45) (v:=?_) (a':=?_) #[true,true,false,false,false,false,true,false,false,false,false,false,true,false,false,false] rfl rfl (any_of HT_.out (by kernel_rfl)) (fun _ _ _ h => h) (Or.inl ⟨by rfl,?_⟩) ?_ ?_;rotate_left
     ·
      intro w'
      go_simp
      with_reducible rfl
     rotate_left
     ·
      simp only [Act.put,zi,zj,zk,zG,zH]
      rfl
     refine take_ (i:=2) (N:=some 35) (v:=?_) (a':=?_) #[true,true,true,false,false,false,true,false,false,false,false,false,true,false,false,false] rfl rfl (yo HT_.out HW_.out (by kernel_rfl)) (fun _ _ _ h => h) (Or.inl ⟨by rfl,?_⟩) hHeld ?_ ?_;rotate_left
     ·
      rintro w' ⟨s0,s1,s2⟩
      go_simp
      with_reducible rfl
     rotate_left
     ·
      simp only [Act.put,zi,zj,zk,zG,zH]
      rfl
     refine pure_ (i:=3) (N:=some 36) (v:=?_) (a':=?_) #[true,true,true,true,false,false,true,false,false,false,false,false,true,false,false,false] rfl rfl (any_of HT_.out (by kernel_rfl)) (fun _ _ _ h => h) (Or.inl ⟨by rfl,?_⟩) ?_ ?_;rotate_left
     ·
      intro w'
      go_simp
      with_reducible rfl
     rotate_left
     ·
      simp only [Act.put,zi,zj,zk,zG,zH]
      rfl
     refine pure_ (i:=4) (N:=some 37) (v:=?_) (a':=?_) #[true,true,true,true,true,false,true,false,false,false,false,false,true,false,false,false] rfl rfl (any_of HT_.out (by kernel_rfl)) (fun _ _ _ h => h) (Or.inl ⟨by rfl,?_⟩) ?_ ?_;rotate_left
     ·
      intro w'
      go_simp
      with_reducible rfl
     rotate_left
     ·
      simp only [Act.put,zi,zj,zk,zG,zH]
      rfl
     refine pure_ (i:=5) (N:=some 38) (v:=?_) (a':=?_) #[true,true,true,true,true,true,true,false,false,false,false,false,true,false,false,false] rfl rfl (any_of HT_.out (by kernel_rfl)) (fun _ _ _ h => h) (Or.inl ⟨by rfl,?_⟩) ?_ ?_;rotate_left
     ·
      intro w'
      go_simp
      with_reducible rfl
     rotate_left
     ·
      simp only [Act.put,zi,zj,zk,zG,zH]
      rfl
     refine take_ (i:=7) (N:=some 40) (v:=?_) (a':=?_) #[true,true,true,true,true,true,true,true,false,false,false,false,true,false,false,false] rfl rfl (yo HT_.out HW_.out (by kernel_rfl)) (fun _ _ _ h => h) (Or.inl ⟨by rfl,?_⟩) hHeld ?_ ?_;rotate_left
     ·
      rintro w' ⟨s0,s1,s2⟩
      go_simp
      with_reducible rfl
     rotate_left
     ·
      simp only [Act.put,zi,zj,zk,zG,zH]
      rfl
     refine pure_ (i:=8) (N:=some 41) (v:=?_) (a':=?_) #[true,true,true,true,true,true,true,true,true,false,false,false,true,false,false,false] rfl rfl (any_of HT_.out (by kernel_rfl)) (fun _ _ _ h => h) (Or.inl ⟨by rfl,?_⟩) ?_ ?_;rotate_left
     ·
      intro w'
      go_simp
      with_reducible rfl
     rotate_left
     ·
      simp only [Act.put,zi,zj,zk,zG,zH]
      rfl
     refine pure_ (i:=9) (N:=some 42) (v:=?_) (a':=?_) #[true,true,true,true,true,true,true,true,true,true,false,false,true,false,false,false] rfl rfl (any_of HT_.out (by kernel_rfl)) (fun _ _ _ h => h) (Or.inl ⟨by rfl,?_⟩) ?_ ?_;rotate_left
     ·
      intro w'
      go_simp
      with_reducible rfl
     rotate_left
     ·
      simp only [Act.put,zi,zj,zk,zG,zH]
      rfl
     refine take_ (i:=13) (N:=some 46) (v:=?_) (a':=?_) #[true,true,true,true,true,true,true,true,true,true,false,false,true,true,false,false] rfl rfl (yo HT_.out HW_.out (by kernel_rfl)) (fun _ _ _ h => h) (Or.inl ⟨by rfl,?_⟩) hHeld ?_ ?_;rotate_left
     ·
      rintro w' ⟨s0,s1,s2⟩
      go_simp
      with_reducible rfl
     rotate_left
     ·
      simp only [Act.put,zi,zj,zk,zG,zH]
      rfl
     refine one_ (i:=10) (N:=some 43) #[true,true,true,true,true,true,true,true,true,true,true,false,true,true,false,false] rfl rfl (one_of HT_.out (by kernel_rfl)) (by decide) (fun K hK => ?_);refine Kd.R_lit_step (Kd.int .u8) _ 5 ?hg (N:=43) ?hd (xs:=([((a1_2.size : Int) / 256) % 256,((a1_2.size : Int)) % 256] : List Int)) (inner:=[.int .u8 (((a1_2.size : Int) / 256) % 256),.int .u8 (((a1_2.size : Int)) % 256)]) (ok:=fun _ => True) (okp:=fun _ => True) ?hr ?hp (fun _ hk => hk) trivial (Below.refl _ _) (ye _) (by simp) ?_;(case hd => rfl);(case hg => rfl);(case hr => first|(go_simp;done)|(go_simp;rfl));(case hp => exact (Reps.one (show Kd.M (Kd.int .u8) _ _ _ (((a1_2.size : Int) / 256) % 256) [.int .u8 (((a1_2.size : Int) / 256) % 256)] from rfl) (Reps.one (show Kd.M (Kd.int .u8) _ _ _ (((a1_2.size : Int)) % 256) [.int .u8 (((a1_2.size : Int)) % 256)] from rfl) (Reps.none _ _))));intro v426 w42 ho43 hb hg_ hnew_;clear hg_ hnew_;(first|rw [← Ny425.out] at ho43|(simp only [Int.reduceToNat] at ho43;rw [← Ny425.out] at ho43));have HO427:=zh (yy (Kd.R_new' (Kd.R_newM (M:=fun k_ => (P0_ k_∨w.heap.size≤k_)) ho43 (by first|exact HK.out.1|exact (show Kept w _ (fun k_ => P0_ k_) from by repeat (with_reducible first|exact HK.out|apply zr|apply zp|apply zq|refine zs ?_ (.inr GW403.out) _)).1) (fun k_ h_ => .inr h_)) (Kd.R_lt (by (with_reducible repeat (first|apply zm|apply zn|apply zo));exact HO406.out))) (zB (by repeat (with_reducible first|exact HB.out|apply za|apply zb|apply zc|refine zd ?_ GE403.out))));replace HO406:=zh (Kd.R_elder' (by (with_reducible repeat (first|apply zm|apply zn|apply zo));exact HO406.out) (Kd.R_base ho43) hb);replace BK403:=zh (zD (g:=gb403) (o:=.cells #[.int .i64 a1_0,.int .i64 a1_1,.string a1_2] 26 (0,0)) (by (with_reducible repeat (first|refine ze ?_ _|refine zf ?_|refine zg ?_ _));exact BK403.out) hb);replace HK:=zh (Kept.below (S:=(fun k_ => P0_ k_)) (by repeat (with_reducible first|exact HK.out|apply zr|apply zp|apply zq|refine zs ?_ (.inr GW403.out) _)) hb);replace HB:=zh (zC (by repeat (with_reducible first|exact HB.out|apply za|apply zb|apply zc|refine zd ?_ GE403.out)) hb);clear hb ho43;obtain ⟨Ao45,co45,eo45⟩:=yk HO427.out;(first|subst eo45|(injection eo45 with f1_ f2_ f3_;have f4_:=f1_.symm;have f5_:=f3_.symm;clear f1_ f2_ f3_;subst f4_;subst f5_));refine hK.out _ _ ⟨(zz BK403.out 0).trans rfl,(zz BK403.out 1).trans rfl,(zz BK403.out 2).trans rfl⟩ (fun hHeld => ?_);clear hK K;refine norm_ (a':=?_) ?_ ?_;rotate_left
     ·
      show Act.put _ (some 43) _=_
      simp only [Act.put,zi,zj,zk,zG,zH]
      rfl
     refine one_ (i:=11) (N:=some 44) (bm_ 14 16) rfl rfl (one_of HT_.out (by kernel_rfl)) (by decide) (fun K hK => ?_);refine Kd.R_append_rows_step (Kd.int .u8) (w0:=w0) w0.heap.size (by rfl) (.tmp 33) (.tmp 43) 29 5 (.int .u8 0) 1 rfl Try.underlying29 info5 rfl (by decide) (by omega) v405 y404 y425 _ _ _ (fun k_ => (P0_ k_∨w.heap.size≤k_)∧some k_≠(.slice Ao45 y425.length co45 : Value).ownBlock) (fun _ => False) rfl rfl ?aO ?aR (fun _ _ h => h) (fun _ h => h.elim) ?aF ?aB ?aS ?aL ?_;(case aR => repeat (first|exact (yh HO427.out).2.2|(with_reducible refine Kd.C_alloc ?_ _)|(with_reducible refine Kd.C_drewN ?_ _)|(with_reducible refine Kd.C_drew ?_)))
     (case aB => exact (by repeat (with_reducible first|exact HB.out|apply za|apply zb|apply zc|refine zd ?_ GE403.out)))
     (case aF => exact (fun k_ hk => ⟨(.inr (Nat.le_trans (by first|exact HK.out.1|exact (show Kept w _ (fun k_ => P0_ k_) from by repeat (with_reducible first|exact HK.out|apply zr|apply zp|apply zq|refine zs ?_ (.inr GW403.out) _)).1) hk)),Kd.fresh' (Kd.R_lt (by (with_reducible repeat (first|apply zm|apply zn|apply zo));exact HO427.out)) k_ hk⟩))
     (case aO => exact (by (with_reducible repeat (first|apply zm|apply zn|apply zo));exact HO406.out))
     (case aS => exact (zB (by repeat (with_reducible first|exact HB.out|apply za|apply zb|apply zc|refine zd ?_ GE403.out))))
     (case aL => have:=LMc35.out;omega)
     intro v429 w44 ho hb hg hat;rw [← Ny428.out] at ho;replace BK403:=zh (yw (g:=gb403) (o:=.cells #[.int .i64 a1_0,.int .i64 a1_1,.string a1_2] 26 (0,0)) (by (with_reducible repeat (first|refine ze ?_ _|refine zf ?_|refine zg ?_ _));exact BK403.out) hg (Kd.R_ne HO406.out BK403.out (by decide)));replace HO427:=zh (Kd.R_after (ok:=(fun k_ => (P0_ k_∨w.heap.size≤k_))) (by (with_reducible repeat (first|apply zm|apply zn|apply zo));exact zM HO427.out (fun _ hk => ⟨hk.1.1,hk.2⟩)) hg hat);replace HB:=zh (hb);replace HK:=zh (yA (S:=(fun k_ => P0_ k_)) hg (by repeat (with_reducible first|exact HK.out|apply zr|apply zp|apply zq|refine zs ?_ (.inr GW403.out) _)) (fun k_ e_ => (HO406.out.1 k_ e_).1));have HO430:=zh (ho);clear HO406 ho hb hg hat;refine hK.out _ _ ⟨(zz BK403.out 0).trans rfl,(zz BK403.out 1).trans rfl,(zz BK403.out 2).trans rfl⟩ (fun hHeld => ?_);clear hK K;refine norm_ (a':=?_) ?_ ?_;rotate_left
     ·
      show Act.put _ (some 44) _=_
      simp only [Act.put,zi,zj,zk,zG,zH]
      rfl
     refine one_ (i:=14) (N:=some 47) (bm_ 15 16) rfl rfl (one_of HT_.out (by kernel_rfl)) (by decide) (fun K hK => ?_);refine print_append_str_go (w0:=w0) w0.heap.size (by rfl) (.tmp 44) _ 29 9 5 rfl Try.underlying29 Try.underlying9 info5 v429 y428 a1_2 rfl rfl ?aO ?aB ?aS ?aL ?_;(case aB => exact (by repeat (with_reducible first|exact HB.out|apply za|apply zb|apply zc|refine zd ?_ GE403.out)))
     (case aO => exact (Kd.own_of_R (by (with_reducible repeat (first|apply zm|apply zn|apply zo));exact zM HO430.out (fun _ hk => hk.1))))
     (case aS => exact (zB (by repeat (with_reducible first|exact HB.out|apply za|apply zb|apply zc|refine zd ?_ GE403.out))))
     (case aL => have:=LMc36.out;omega)
     intro v432 w46 ho0 hb hg hat;have ho:=Kd.R_of_own (h1:=fun _ => rfl) (ok:=(fun k_ => (P0_ k_∨w.heap.size≤k_))) ho0 (fun k_ e_ => hat.elim (fun h_ => (zM HO430.out (fun _ hk => hk.1)).1 k_ (h_.symm.trans e_)) (fun ⟨b_,h_,hb_⟩ => (fun k_ hk => (.inr (Nat.le_trans (by first|exact HK.out.1|exact (show Kept w _ (fun k_ => P0_ k_) from by repeat (with_reducible first|exact HK.out|apply zr|apply zp|apply zq|refine zs ?_ (.inr GW403.out) _)).1) hk))) k_ (zU (h_.symm.trans e_) ▸ hb_)));clear ho0;rw [← Ny431.out] at ho;change Kd.R (Kd.int .u8) 5 w46 w0.heap.size (fun k_ => (P0_ k_∨w.heap.size≤k_)) v432 y431 at ho;replace BK403:=zh (yw (g:=gb403) (o:=.cells #[.int .i64 a1_0,.int .i64 a1_1,.string a1_2] 26 (0,0)) (by (with_reducible repeat (first|refine ze ?_ _|refine zf ?_|refine zg ?_ _));exact BK403.out) hg (Kd.R_ne HO430.out BK403.out (by decide)));replace HB:=zh (hb);replace HK:=zh (yA (S:=(fun k_ => P0_ k_)) hg (by repeat (with_reducible first|exact HK.out|apply zr|apply zp|apply zq|refine zs ?_ (.inr GW403.out) _)) (fun k_ e_ => (HO430.out.1 k_ e_).1));have HO433:=zh (ho);clear HO430 ho hb hg hat;refine hK.out _ _ ⟨(zz BK403.out 0).trans rfl,(zz BK403.out 1).trans rfl,(zz BK403.out 2).trans rfl⟩ (fun hHeld => ?_);clear hK K;refine norm_ (a':=?_) ?_ ?_;rotate_left
     ·
      show Act.put _ (some 47) _=_
      simp only [Act.put,zi,zj,zk,zG,zH]
      rfl
     refine pure_ (i:=15) (N:=some 4) (v:=?_) (a':=?_) (bm_ 16 16) rfl rfl (any_of HT_.out (by kernel_rfl)) (fun _ _ _ h => h) (Or.inl ⟨by rfl,?_⟩) ?_ ?_;rotate_left
     ·
      intro w'
      go_simp
      with_reducible rfl
     rotate_left
     ·
      simp only [Act.put,zi,zj,zk,zG,zH]
      rfl
     refine done_ (done_of HT_.out (by kernel_rfl)) ?_
     try go_wp2
     go_ret
     exact ⟨_,by first|rfl|(simp [yt,yu] <;> rfl)|(simp [*,yt,yu] <;> rfl),by (with_reducible repeat (first|apply zm|apply zn|apply zo));exact HO433.out,by repeat (with_reducible first|exact HB.out|apply za|apply zb|apply zc|refine zd ?_ GE403.out),by repeat (with_reducible first|exact HK.out|apply zr|apply zp|apply zq|refine zs ?_ (.inr GW403.out) _)⟩
    rw [if_neg c36] at H;exact absurd H (by simp)
   rw [if_neg c35] at H;exact absurd H (by simp)
  rw [if_neg c34] at H;have c34b0 : (a1_0 == 4)=false:=zY.mpr c34;have c34b1 : (a1_0 != 4)=true:=zZ.mpr c34
  by_cases c47 : a1_0=5
  ·
   rw [if_pos c47] at H
   have c47b0 : (a1_0 == 5)=true:=ya.mpr c47;have c47b1 : (a1_0 != 5)=false:=zX.mpr c47;clear c47;obtain ⟨y434,hy434⟩ : ∃ y_ : List Int,y_=(([((a1_2.size : Int) / 256) % 256,((a1_2.size : Int)) % 256] : List Int)):=⟨_,rfl⟩;replace H : (if y404.length + y434.length<140737488355328 then ((some (y404 ++ y434 : List Int)).bind fun y437 => (if y437.length + a1_2.size<140737488355328 then (some (y437 ++ bytesOf a1_2)) else (none))) else (none))=some r:=by first|(rw [hy434];with_reducible exact H)|(have H2_:=(Option.bind_some _ _).symm.trans H;rw [hy434];with_reducible exact H2_)|(have H2_:=(Option.bind_some _ _).symm.trans H;with_reducible exact H2_)|with_reducible exact H|(rw [hy434];exact H)|exact H
   have Ny434:=zh hy434;clear hy434
   by_cases c48 : y404.length + y434.length<140737488355328
   ·
    rw [if_pos c48] at H
    have LMc48:=zh c48;clear c48;obtain ⟨y437,hy437⟩ : ∃ y_ : List Int,y_=(y404 ++ y434):=⟨_,rfl⟩;replace H : (if y437.length + a1_2.size<140737488355328 then (some (y437 ++ bytesOf a1_2)) else (none))=some r:=by first|(rw [hy437];with_reducible exact H)|(have H2_:=(Option.bind_some _ _).symm.trans H;rw [hy437];with_reducible exact H2_)|(have H2_:=(Option.bind_some _ _).symm.trans H;with_reducible exact H2_)|with_reducible exact H|(rw [hy437];exact H)|exact H
    have Ny437:=zh hy437;clear hy437
    by_cases c49 : y437.length + a1_2.size<140737488355328
    ·
     rw [if_pos c49] at H
     have LMc49:=zh c49;clear c49;obtain ⟨y440,hy440⟩ : ∃ y_ : List Int,y_=(y437 ++ bytesOf a1_2):=⟨_,rfl⟩;replace H : (some y440)=some r:=by first|(rw [hy440];with_reducible exact H)|(have H2_:=(Option.bind_some _ _).symm.trans H;rw [hy440];with_reducible exact H2_)|(have H2_:=(Option.bind_some _ _).symm.trans H;with_reducible exact H2_)|with_reducible exact H|(rw [hy440];exact H)|exact H
     have Ny440:=zh hy440;clear hy440;obtain rfl:=zU H
     go_enter Try.func60,Try.ntmps60
     try go_wp2_with (first|((with_reducible refine zK (N:=3) rfl ?_);refine zI ?hg (N:=3) ?hd (cs:=#[.int .i64 a1_0,.int .i64 a1_1,.string a1_2]) (t:=26) ?hr ?_;(case hd => rfl);(case hg => rfl);(case hr => first|(go_simp;done)|(go_simp;rfl));intro gb403 hg w50 hbox hb;replace HO0:=zh (yg (by (with_reducible repeat (first|apply zm|apply zn|apply zo));exact HO0.out) hb);have BK403:=zh (hbox);have GW403:=zh ((by rw [hg];exact (by first|exact HK.out.1|exact (show Kept w _ (fun k_ => P0_ k_) from by repeat (with_reducible first|exact HK.out|apply zr|apply zp|apply zq)).1) : w.heap.size≤gb403));replace HK:=zh (Kept.below (S:=(fun k_ => P0_ k_)) (by repeat (with_reducible first|exact HK.out|apply zr|apply zp|apply zq)) hb);have GE403:=zh ((by rw [hg];exact (zB (by repeat (with_reducible first|exact HB.out|apply za|apply zb|apply zc))) : w0.heap.size≤gb403));replace HB:=zh (zC (by repeat (with_reducible first|exact HB.out|apply za|apply zb|apply zc)) hb);clear hb hbox hg;have hcz51_0 : w50.cell? ⟨gb403,0,none⟩=some (.int .i64 a1_0):=(zz BK403.out 0).trans rfl;have hcz51_1 : w50.cell? ⟨gb403,1,none⟩=some (.int .i64 a1_1):=(zz BK403.out 1).trans rfl;have hcz51_2 : w50.cell? ⟨gb403,2,none⟩=some (.string a1_2):=(zz BK403.out 2).trans rfl;have hfz51_0:=zA BK403.out 0;have hfz51_1:=zA BK403.out 1;have hfz51_2:=zA BK403.out 2)|((with_reducible refine yB (b:=.append) (xs:=#[.tmp 5,.tmp 9]) rfl ?_);at_builtin;refine Kd.R_append (Kd.int .u8) (w0:=w0) w0.heap.size rfl (.tmp 5) (.tmp 9) 29 5 (.int .u8 0) 1 rfl Try.underlying29 info5 rfl (by decide) (by omega) u9000_ l0 ((a1_0) % 256) [.int .u8 ((a1_0) % 256)] (fun k_ => (P0_ k_∨w.heap.size≤k_)) (fun _ => False) rfl rfl ?aP (fun _ hk => hk.elim) ?aF ?aO ?aB ?aS ?aL ?_;(case aP => exact rfl);(case aB => exact (by repeat (with_reducible first|exact HB.out|apply za|apply zb|apply zc|refine zd ?_ GE403.out)));(case aF => exact (fun k_ hk => (.inr (Nat.le_trans (by first|exact HK.out.1|exact (show Kept w _ (fun k_ => P0_ k_) from by repeat (with_reducible first|exact HK.out|apply zr|apply zp|apply zq|refine zs ?_ (.inr GW403.out) _)).1) hk))));(case aO => exact (by (with_reducible repeat (first|apply zm|apply zn|apply zo));exact HO0.out));(case aS => exact (zB (by repeat (with_reducible first|exact HB.out|apply za|apply zb|apply zc|refine zd ?_ GE403.out))));(case aL => have:=LMc3.out;omega);intro v405 w52 ho hb hg hat;rw [← Ny404.out] at ho;replace BK403:=zh (yw (g:=gb403) (o:=.cells #[.int .i64 a1_0,.int .i64 a1_1,.string a1_2] 26 (0,0)) (by (with_reducible repeat (first|refine ze ?_ _|refine zf ?_|refine zg ?_ _));exact BK403.out) hg (Kd.R_ne HO0.out BK403.out (by decide)));replace HB:=zh (hb);replace HK:=zh (yA (S:=(fun k_ => P0_ k_)) hg (by repeat (with_reducible first|exact HK.out|apply zr|apply zp|apply zq|refine zs ?_ (.inr GW403.out) _)) (fun k_ e_ => (HO0.out.1 k_ e_)));have HO406:=zh (ho);clear HO0 ho hb hg hat;have hcz53_0 : w52.cell? ⟨gb403,0,none⟩=some (.int .i64 a1_0):=(zz BK403.out 0).trans rfl;have hcz53_1 : w52.cell? ⟨gb403,1,none⟩=some (.int .i64 a1_1):=(zz BK403.out 1).trans rfl;have hcz53_2 : w52.cell? ⟨gb403,2,none⟩=some (.string a1_2):=(zz BK403.out 2).trans rfl;have hfz53_0:=zA BK403.out 0;have hfz53_1:=zA BK403.out 1;have hfz53_2:=zA BK403.out 2))
     replace HO406:=zh (zo HO406.out);replace BK403:=zh (zf BK403.out);replace HK:=zh (zq HK.out);replace HB:=zh (zc HB.out);refine start_ (n:=16) (S:=fun w' => w'.cell? ⟨gb403,0,none⟩=some (.int .i64 a1_0)∧w'.cell? ⟨gb403,1,none⟩=some (.int .i64 a1_1)∧w'.cell? ⟨gb403,2,none⟩=some (.string a1_2)) (ds:=[]) (bm_ 0 16) (by kernel_rfl) rfl rfl ⟨(zz BK403.out 0).trans rfl,(zz BK403.out 1).trans rfl,(zz BK403.out 2).trans rfl⟩ (fun hHeld => ?_);refine with_tabW impl_putValue.tab10 impl_putValue.bits10 (fun HT_ HW_ => ?_);generalize w52.drew=w54 at HO406 BK403 HK HB hHeld ⊢;refine pure_ (i:=0) (N:=some 33) (v:=?_) (a':=?_) (bm_ 1 16) rfl rfl (any_of HT_.out (by kernel_rfl)) (fun _ _ _ h => h) (Or.inl ⟨by rfl,?_⟩) ?_ ?_;rotate_left
     ·
      intro w'
      go_simp
      with_reducible rfl
     rotate_left
     ·
      simp only [Act.put,zi,zj,zk,zG,zH]
      rfl
     refine pure_ (i:=1) (N:=some 34) (v:=?_) (a':=?_) (bm_ 2 16) rfl rfl (any_of HT_.out (by kernel_rfl)) (fun _ _ _ h => h) (Or.inl ⟨by rfl,?_⟩) ?_ ?_;rotate_left
     ·
      intro w'
      go_simp
      with_reducible rfl
     rotate_left
     ·
      simp only [Act.put,zi,zj,zk,zG,zH]
      rfl
     refine pure_ (i:=6) (N:=some 39) (v:=?_) (a':=?_) #[true,true,false,false,false,false,true,false,false,false,false,false,false,false,false,false] rfl rfl (any_of HT_.out (by kernel_rfl)) (fun _ _ _ h => h) (Or.inl ⟨by rfl,?_⟩) ?_ ?_;rotate_left
     ·
      intro w'
      go_simp
      with_reducible rfl
     rotate_left
     ·
      simp only [Act.put,zi,zj,zk,zG,zH]
      rfl
     refine pure_ (i:=12) (N:=some 45) (v:=?_) (a':=?_) #[true,true,false,false,false,false,true,false,false,false,false,false,true,false,false,false] rfl rfl (any_of HT_.out (by kernel_rfl)) (fun _ _ _ h => h) (Or.inl ⟨by rfl,?_⟩) ?_ ?_;rotate_left
     ·
      intro w'
      go_simp
      with_reducible rfl
     rotate_left
     ·
      simp only [Act.put,zi,zj,zk,zG,zH]
      rfl
     refine take_ (i:=2) (N:=some 35) (v:=?_) (a':=?_) #[true,true,true,false,false,false,true,false,false,false,false,false,true,false,false,false] rfl rfl (yo HT_.out HW_.out (by kernel_rfl)) (fun _ _ _ h => h) (Or.inl ⟨by rfl,?_⟩) hHeld ?_ ?_;rotate_left
     ·
      rintro w' ⟨s0,s1,s2⟩
      go_simp
      with_reducible rfl
     rotate_left
     ·
      simp only [Act.put,zi,zj,zk,zG,zH]
      rfl
     refine pure_ (i:=3) (N:=some 36) (v:=?_) (a':=?_) #[true,true,true,true,false,false,true,false,false,false,false,false,true,false,false,false] rfl rfl (any_of HT_.out (by kernel_rfl)) (fun _ _ _ h => h) (Or.inl ⟨by rfl,?_⟩) ?_ ?_;rotate_left
     ·
      intro w'
      go_simp
      with_reducible rfl
     rotate_left
     ·
      simp only [Act.put,zi,zj,zk,zG,zH]
      rfl
     refine pure_ (i:=4) (N:=some 37) (v:=?_) (a':=?_) #[true,true,true,true,true,false,true,false,false,false,false,false,true,false,false,false] rfl rfl (any_of HT_.out (by kernel_rfl)) (fun _ _ _ h => h) (Or.inl ⟨by rfl,?_⟩) ?_ ?_;rotate_left
     ·
      intro w'
      go_simp
      with_reducible rfl
     rotate_left
     ·
      simp only [Act.put,zi,zj,zk,zG,zH]
      rfl
     refine pure_ (i:=5) (N:=some 38) (v:=?_) (a':=?_) #[true,true,true,true,true,true,true,false,false,false,false,false,true,false,false,false] rfl rfl (any_of HT_.out (by kernel_rfl)) (fun _ _ _ h => h) (Or.inl ⟨by rfl,?_⟩) ?_ ?_;rotate_left
     ·
      intro w'
      go_simp
      with_reducible rfl
     rotate_left
     ·
      simp only [Act.put,zi,zj,zk,zG,zH]
      rfl
     refine take_ (i:=7) (N:=some 40) (v:=?_) (a':=?_) #[true,true,true,true,true,true,true,true,false,false,false,false,true,false,false,false] rfl rfl (yo HT_.out HW_.out (by kernel_rfl)) (fun _ _ _ h => h) (Or.inl ⟨by rfl,?_⟩) hHeld ?_ ?_;rotate_left
     ·
      rintro w' ⟨s0,s1,s2⟩
      go_simp
      with_reducible rfl
     rotate_left
     ·
      simp only [Act.put,zi,zj,zk,zG,zH]
      rfl
     refine pure_ (i:=8) (N:=some 41) (v:=?_) (a':=?_) #[true,true,true,true,true,true,true,true,true,false,false,false,true,false,false,false] rfl rfl (any_of HT_.out (by kernel_rfl)) (fun _ _ _ h => h) (Or.inl ⟨by rfl,?_⟩) ?_ ?_;rotate_left
     ·
      intro w'
      go_simp
      with_reducible rfl
     rotate_left
     ·
      simp only [Act.put,zi,zj,zk,zG,zH]
      rfl
     refine pure_ (i:=9) (N:=some 42) (v:=?_) (a':=?_) #[true,true,true,true,true,true,true,true,true,true,false,false,true,false,false,false] rfl rfl (any_of HT_.out (by kernel_rfl)) (fun _ _ _ h => h) (Or.inl ⟨by rfl,?_⟩) ?_ ?_;rotate_left
     ·
      intro w'
      go_simp
      with_reducible rfl
     rotate_left
     ·
      simp only [Act.put,zi,zj,zk,zG,zH]
      rfl
     refine take_ (i:=13) (N:=some 46) (v:=?_) (a':=?_) #[true,true,true,true,true,true,true,true,true,true,false,false,true,true,false,false] rfl rfl (yo HT_.out HW_.out (by kernel_rfl)) (fun _ _ _ h => h) (Or.inl ⟨by rfl,?_⟩) hHeld ?_ ?_;rotate_left
     ·
      rintro w' ⟨s0,s1,s2⟩
      go_simp
      with_reducible rfl
     rotate_left
     ·
      simp only [Act.put,zi,zj,zk,zG,zH]
      rfl
     refine one_ (i:=10) (N:=some 43) #[true,true,true,true,true,true,true,true,true,true,true,false,true,true,false,false] rfl rfl (one_of HT_.out (by kernel_rfl)) (by decide) (fun K hK => ?_);refine Kd.R_lit_step (Kd.int .u8) _ 5 ?hg (N:=43) ?hd (xs:=([((a1_2.size : Int) / 256) % 256,((a1_2.size : Int)) % 256] : List Int)) (inner:=[.int .u8 (((a1_2.size : Int) / 256) % 256),.int .u8 (((a1_2.size : Int)) % 256)]) (ok:=fun _ => True) (okp:=fun _ => True) ?hr ?hp (fun _ hk => hk) trivial (Below.refl _ _) (ye _) (by simp) ?_;(case hd => rfl);(case hg => rfl);(case hr => first|(go_simp;done)|(go_simp;rfl));(case hp => exact (Reps.one (show Kd.M (Kd.int .u8) _ _ _ (((a1_2.size : Int) / 256) % 256) [.int .u8 (((a1_2.size : Int) / 256) % 256)] from rfl) (Reps.one (show Kd.M (Kd.int .u8) _ _ _ (((a1_2.size : Int)) % 256) [.int .u8 (((a1_2.size : Int)) % 256)] from rfl) (Reps.none _ _))));intro v435 w55 ho56 hb hg_ hnew_;clear hg_ hnew_;(first|rw [← Ny434.out] at ho56|(simp only [Int.reduceToNat] at ho56;rw [← Ny434.out] at ho56));have HO436:=zh (yy (Kd.R_new' (Kd.R_newM (M:=fun k_ => (P0_ k_∨w.heap.size≤k_)) ho56 (by first|exact HK.out.1|exact (show Kept w _ (fun k_ => P0_ k_) from by repeat (with_reducible first|exact HK.out|apply zr|apply zp|apply zq|refine zs ?_ (.inr GW403.out) _)).1) (fun k_ h_ => .inr h_)) (Kd.R_lt (by (with_reducible repeat (first|apply zm|apply zn|apply zo));exact HO406.out))) (zB (by repeat (with_reducible first|exact HB.out|apply za|apply zb|apply zc|refine zd ?_ GE403.out))));replace HO406:=zh (Kd.R_elder' (by (with_reducible repeat (first|apply zm|apply zn|apply zo));exact HO406.out) (Kd.R_base ho56) hb);replace BK403:=zh (zD (g:=gb403) (o:=.cells #[.int .i64 a1_0,.int .i64 a1_1,.string a1_2] 26 (0,0)) (by (with_reducible repeat (first|refine ze ?_ _|refine zf ?_|refine zg ?_ _));exact BK403.out) hb);replace HK:=zh (Kept.below (S:=(fun k_ => P0_ k_)) (by repeat (with_reducible first|exact HK.out|apply zr|apply zp|apply zq|refine zs ?_ (.inr GW403.out) _)) hb);replace HB:=zh (zC (by repeat (with_reducible first|exact HB.out|apply za|apply zb|apply zc|refine zd ?_ GE403.out)) hb);clear hb ho56;obtain ⟨Ao58,co58,eo58⟩:=yk HO436.out;(first|subst eo58|(injection eo58 with f1_ f2_ f3_;have f4_:=f1_.symm;have f5_:=f3_.symm;clear f1_ f2_ f3_;subst f4_;subst f5_));refine hK.out _ _ ⟨(zz BK403.out 0).trans rfl,(zz BK403.out 1).trans rfl,(zz BK403.out 2).trans rfl⟩ (fun hHeld => ?_);clear hK K;refine norm_ (a':=?_) ?_ ?_;rotate_left
     ·
      show Act.put _ (some 43) _=_
      simp only [Act.put,zi,zj,zk,zG,zH]
      rfl
     refine one_ (i:=11) (N:=some 44) (bm_ 14 16) rfl rfl (one_of HT_.out (by kernel_rfl)) (by decide) (fun K hK => ?_);refine Kd.R_append_rows_step (Kd.int .u8) (w0:=w0) w0.heap.size (by rfl) (.tmp 33) (.tmp 43) 29 5 (.int .u8 0) 1 rfl Try.underlying29 info5 rfl (by decide) (by omega) v405 y404 y434 _ _ _ (fun k_ => (P0_ k_∨w.heap.size≤k_)∧some k_≠(.slice Ao58 y434.length co58 : Value).ownBlock) (fun _ => False) rfl rfl ?aO ?aR (fun _ _ h => h) (fun _ h => h.elim) ?aF ?aB ?aS ?aL ?_;(case aR => repeat (first|exact (yh HO436.out).2.2|(with_reducible refine Kd.C_alloc ?_ _)|(with_reducible refine Kd.C_drewN ?_ _)|(with_reducible refine Kd.C_drew ?_)))
     (case aB => exact (by repeat (with_reducible first|exact HB.out|apply za|apply zb|apply zc|refine zd ?_ GE403.out)))
     (case aF => exact (fun k_ hk => ⟨(.inr (Nat.le_trans (by first|exact HK.out.1|exact (show Kept w _ (fun k_ => P0_ k_) from by repeat (with_reducible first|exact HK.out|apply zr|apply zp|apply zq|refine zs ?_ (.inr GW403.out) _)).1) hk)),Kd.fresh' (Kd.R_lt (by (with_reducible repeat (first|apply zm|apply zn|apply zo));exact HO436.out)) k_ hk⟩))
     (case aO => exact (by (with_reducible repeat (first|apply zm|apply zn|apply zo));exact HO406.out))
     (case aS => exact (zB (by repeat (with_reducible first|exact HB.out|apply za|apply zb|apply zc|refine zd ?_ GE403.out))))
     (case aL => have:=LMc48.out;omega)
     intro v438 w57 ho hb hg hat;rw [← Ny437.out] at ho;replace BK403:=zh (yw (g:=gb403) (o:=.cells #[.int .i64 a1_0,.int .i64 a1_1,.string a1_2] 26 (0,0)) (by (with_reducible repeat (first|refine ze ?_ _|refine zf ?_|refine zg ?_ _));exact BK403.out) hg (Kd.R_ne HO406.out BK403.out (by decide)));replace HO436:=zh (Kd.R_after (ok:=(fun k_ => (P0_ k_∨w.heap.size≤k_))) (by (with_reducible repeat (first|apply zm|apply zn|apply zo));exact zM HO436.out (fun _ hk => ⟨hk.1.1,hk.2⟩)) hg hat);replace HB:=zh (hb);replace HK:=zh (yA (S:=(fun k_ => P0_ k_)) hg (by repeat (with_reducible first|exact HK.out|apply zr|apply zp|apply zq|refine zs ?_ (.inr GW403.out) _)) (fun k_ e_ => (HO406.out.1 k_ e_).1));have HO439:=zh (ho);clear HO406 ho hb hg hat;refine hK.out _ _ ⟨(zz BK403.out 0).trans rfl,(zz BK403.out 1).trans rfl,(zz BK403.out 2).trans rfl⟩ (fun hHeld => ?_);clear hK K;refine norm_ (a':=?_) ?_ ?_;rotate_left
     ·
      show Act.put _ (some 44) _=_
      simp only [Act.put,zi,zj,zk,zG,zH]
      rfl
     refine one_ (i:=14) (N:=some 47) (bm_ 15 16) rfl rfl (one_of HT_.out (by kernel_rfl)) (by decide) (fun K hK => ?_);refine print_append_str_go (w0:=w0) w0.heap.size (by rfl) (.tmp 44) _ 29 9 5 rfl Try.underlying29 Try.underlying9 info5 v438 y437 a1_2 rfl rfl ?aO ?aB ?aS ?aL ?_;(case aB => exact (by repeat (with_reducible first|exact HB.out|apply za|apply zb|apply zc|refine zd ?_ GE403.out)))
     (case aO => exact (Kd.own_of_R (by (with_reducible repeat (first|apply zm|apply zn|apply zo));exact zM HO439.out (fun _ hk => hk.1))))
     (case aS => exact (zB (by repeat (with_reducible first|exact HB.out|apply za|apply zb|apply zc|refine zd ?_ GE403.out))))
     (case aL => have:=LMc49.out;omega)
     intro v441 w59 ho0 hb hg hat;have ho:=Kd.R_of_own (h1:=fun _ => rfl) (ok:=(fun k_ => (P0_ k_∨w.heap.size≤k_))) ho0 (fun k_ e_ => hat.elim (fun h_ => (zM HO439.out (fun _ hk => hk.1)).1 k_ (h_.symm.trans e_)) (fun ⟨b_,h_,hb_⟩ => (fun k_ hk => (.inr (Nat.le_trans (by first|exact HK.out.1|exact (show Kept w _ (fun k_ => P0_ k_) from by repeat (with_reducible first|exact HK.out|apply zr|apply zp|apply zq|refine zs ?_ (.inr GW403.out) _)).1) hk))) k_ (zU (h_.symm.trans e_) ▸ hb_)));clear ho0;rw [← Ny440.out] at ho;change Kd.R (Kd.int .u8) 5 w59 w0.heap.size (fun k_ => (P0_ k_∨w.heap.size≤k_)) v441 y440 at ho;replace BK403:=zh (yw (g:=gb403) (o:=.cells #[.int .i64 a1_0,.int .i64 a1_1,.string a1_2] 26 (0,0)) (by (with_reducible repeat (first|refine ze ?_ _|refine zf ?_|refine zg ?_ _));exact BK403.out) hg (Kd.R_ne HO439.out BK403.out (by decide)));replace HB:=zh (hb);replace HK:=zh (yA (S:=(fun k_ => P0_ k_)) hg (by repeat (with_reducible first|exact HK.out|apply zr|apply zp|apply zq|refine zs ?_ (.inr GW403.out) _)) (fun k_ e_ => (HO439.out.1 k_ e_).1));have HO442:=zh (ho);clear HO439 ho hb hg hat;refine hK.out _ _ ⟨(zz BK403.out 0).trans rfl,(zz BK403.out 1).trans rfl,(zz BK403.out 2).trans rfl⟩ (fun hHeld => ?_);clear hK K;refine norm_ (a':=?_) ?_ ?_;rotate_left
     ·
      show Act.put _ (some 47) _=_
      simp only [Act.put,zi,zj,zk,zG,zH]
      rfl
     refine pure_ (i:=15) (N:=some 4) (v:=?_) (a':=?_) (bm_ 16 16) rfl rfl (any_of HT_.out (by kernel_rfl)) (fun _ _ _ h => h) (Or.inl ⟨by rfl,?_⟩) ?_ ?_;rotate_left
     ·
      intro w'
      go_simp
      with_reducible rfl
     rotate_left
     ·
      simp only [Act.put,zi,zj,zk,zG,zH]
      rfl
     refine done_ (done_of HT_.out (by kernel_rfl)) ?_
     try go_wp2
     go_ret
     exact ⟨_,by first|rfl|(simp [yt,yu] <;> rfl)|(simp [*,yt,yu] <;> rfl),by (with_reducible repeat (first|apply zm|apply zn|apply zo));exact HO442.out,by repeat (with_reducible first|exact HB.out|apply za|apply zb|apply zc|refine zd ?_ GE403.out),by repeat (with_reducible first|exact HK.out|apply zr|apply zp|apply zq|refine zs ?_ (.inr GW403.out) _)⟩
    rw [if_neg c49] at H;exact absurd H (by simp)
   rw [if_neg c48] at H;exact absurd H (by simp)
  rw [if_neg c47] at H;have c47b0 : (a1_0 == 5)=false:=zY.mpr c47;have c47b1 : (a1_0 != 5)=true:=zZ.mpr c47;obtain rfl:=zU H
  go_enter Try.func60,Try.ntmps60
  go_wp2_with (first|((with_reducible refine zK (N:=3) rfl ?_);refine zI ?hg (N:=3) ?hd (cs:=#[.int .i64 a1_0,.int .i64 a1_1,.string a1_2]) (t:=26) ?hr ?_;(case hd => rfl);(case hg => rfl);(case hr => first|(go_simp;done)|(go_simp;rfl));intro gb403 hg w60 hbox hb;replace HO0:=zh (yg (by (with_reducible repeat (first|apply zm|apply zn|apply zo));exact HO0.out) hb);have BK403:=zh (hbox);have GW403:=zh ((by rw [hg];exact (by first|exact HK.out.1|exact (show Kept w _ (fun k_ => P0_ k_) from by repeat (with_reducible first|exact HK.out|apply zr|apply zp|apply zq)).1) : w.heap.size≤gb403));replace HK:=zh (Kept.below (S:=(fun k_ => P0_ k_)) (by repeat (with_reducible first|exact HK.out|apply zr|apply zp|apply zq)) hb);have GE403:=zh ((by rw [hg];exact (zB (by repeat (with_reducible first|exact HB.out|apply za|apply zb|apply zc))) : w0.heap.size≤gb403));replace HB:=zh (zC (by repeat (with_reducible first|exact HB.out|apply za|apply zb|apply zc)) hb);clear hb hbox hg;have hcz61_0 : w60.cell? ⟨gb403,0,none⟩=some (.int .i64 a1_0):=(zz BK403.out 0).trans rfl;have hcz61_1 : w60.cell? ⟨gb403,1,none⟩=some (.int .i64 a1_1):=(zz BK403.out 1).trans rfl;have hcz61_2 : w60.cell? ⟨gb403,2,none⟩=some (.string a1_2):=(zz BK403.out 2).trans rfl;have hfz61_0:=zA BK403.out 0;have hfz61_1:=zA BK403.out 1;have hfz61_2:=zA BK403.out 2)|((with_reducible refine yB (b:=.append) (xs:=#[.tmp 5,.tmp 9]) rfl ?_);at_builtin;refine Kd.R_append (Kd.int .u8) (w0:=w0) w0.heap.size rfl (.tmp 5) (.tmp 9) 29 5 (.int .u8 0) 1 rfl Try.underlying29 info5 rfl (by decide) (by omega) u9000_ l0 ((a1_0) % 256) [.int .u8 ((a1_0) % 256)] (fun k_ => (P0_ k_∨w.heap.size≤k_)) (fun _ => False) rfl rfl ?aP (fun _ hk => hk.elim) ?aF ?aO ?aB ?aS ?aL ?_;(case aP => exact rfl);(case aB => exact (by repeat (with_reducible first|exact HB.out|apply za|apply zb|apply zc|refine zd ?_ GE403.out)));(case aF => exact (fun k_ hk => (.inr (Nat.le_trans (by first|exact HK.out.1|exact (show Kept w _ (fun k_ => P0_ k_) from by repeat (with_reducible first|exact HK.out|apply zr|apply zp|apply zq|refine zs ?_ (.inr GW403.out) _)).1) hk))));(case aO => exact (by (with_reducible repeat (first|apply zm|apply zn|apply zo));exact HO0.out));(case aS => exact (zB (by repeat (with_reducible first|exact HB.out|apply za|apply zb|apply zc|refine zd ?_ GE403.out))));(case aL => have:=LMc3.out;omega);intro v405 w62 ho hb hg hat;rw [← Ny404.out] at ho;replace BK403:=zh (yw (g:=gb403) (o:=.cells #[.int .i64 a1_0,.int .i64 a1_1,.string a1_2] 26 (0,0)) (by (with_reducible repeat (first|refine ze ?_ _|refine zf ?_|refine zg ?_ _));exact BK403.out) hg (Kd.R_ne HO0.out BK403.out (by decide)));replace HB:=zh (hb);replace HK:=zh (yA (S:=(fun k_ => P0_ k_)) hg (by repeat (with_reducible first|exact HK.out|apply zr|apply zp|apply zq|refine zs ?_ (.inr GW403.out) _)) (fun k_ e_ => (HO0.out.1 k_ e_)));have HO406:=zh (ho);clear HO0 ho hb hg hat;have hcz63_0 : w62.cell? ⟨gb403,0,none⟩=some (.int .i64 a1_0):=(zz BK403.out 0).trans rfl;have hcz63_1 : w62.cell? ⟨gb403,1,none⟩=some (.int .i64 a1_1):=(zz BK403.out 1).trans rfl;have hcz63_2 : w62.cell? ⟨gb403,2,none⟩=some (.string a1_2):=(zz BK403.out 2).trans rfl;have hfz63_0:=zA BK403.out 0;have hfz63_1:=zA BK403.out 1;have hfz63_2:=zA BK403.out 2))
  go_ret
  exact ⟨_,by first|rfl|(simp [yt,yu] <;> rfl)|(simp [*,yt,yu] <;> rfl),by (with_reducible repeat (first|apply zm|apply zn|apply zo));exact HO406.out,by repeat (with_reducible first|exact HB.out|apply za|apply zb|apply zc|refine zd ?_ GE403.out),by repeat (with_reducible first|exact HK.out|apply zr|apply zp|apply zq|refine zs ?_ (.inr GW403.out) _)⟩
 rw [if_neg c3] at H;exact absurd H (by simp)

end Go.Proofs.Ytpmeglcmhiihoaa.Q
end
section
namespace Go.Proofs.Ytpmeglcmhiihoaa.Q
open Go.RowKit Go.Proofs.YtpmeglcmhiihoaaW.PrintWords Go.Proofs.YtpmeglcmhiihoaaW.PrintLast Go.Proofs.YtpmeglcmhiihoaaW.PrintMore
attribute [local go_sem] max2_int min2_int max_two min_two max_three min_three max_four min_four max2_str min2_str str_geq str_gtr str_leq   -- for this text's walks alone
set_option linter.unusedVariables false
set_option linter.unusedSimpArgs false

def impl_EncodeValue.f (k : Nat) (a0_0 : Int) (a0_1 : Int) (a0_2 : ByteArray) : Option (List Int×Int):=(impl_ValueOK.f k a0_0 a0_1 a0_2).bind fun t444 => (if t444=true then ((impl_putValue.f k ([] : List Int) a0_0 a0_1 a0_2).bind fun t445 => (some (t445,0))) else (some (([] : List Int),1)))
theorem impl_EncodeValue.mono : ∀ a0 a1 a2 k,LeO (impl_EncodeValue.f k a0 a1 a2) (impl_EncodeValue.f (k + 1) a0 a1 a2):=by
 intro a0 a1 a2 k;unfold impl_EncodeValue.f
 repeat' first|(with_reducible exact impl_ValueOK.mono _ _ _ _)|(with_reducible exact impl_putValue.mono _ _ _ _ _)|(with_reducible exact zQ _)|(with_reducible exact zN _)|(with_reducible refine zP ?_ ?_)|(with_reducible refine zO ?_ (fun _ => ?_))|refine zP ?_ ?_|refine zO ?_ (fun _ => ?_)
set_option maxHeartbeats 8000000 in
set_option maxRecDepth 100000 in
theorem impl_EncodeValue.calls (k : Nat) (a0_0 : Int) (a0_1 : Int) (a0_2 : ByteArray) (r1 : List Int) (r2 : Int) (w : World) (h : impl_EncodeValue.f k a0_0 a0_1 a0_2=some (r1,r2)) :
  Calls Try.prog 26 #[.agg #[.int .i64 a0_0,.int .i64 a0_1,.string a0_2]] w fun e w' => ∃ v0_ : Value,e = .returned (.tuple #[v0_,.int .i64 r2])∧Kd.R (Kd.int .u8) 5 w' w.heap.size (fun _ => True) v0_ r1∧Below w.heap.size w w':=by
 have hu26:=Try.underlying26;have HB:=zh (Below.refl w.heap.size w);have H : ((impl_ValueOK.f k a0_0 a0_1 a0_2).bind fun t444 => (if t444=true then ((impl_putValue.f k ([] : List Int) a0_0 a0_1 a0_2).bind fun t445 => (some (t445,0))) else (some (([] : List Int),1))))=some (r1,r2):=h;clear h;replace H:=zT.mp H;obtain ⟨t444,A20,H⟩:=H;replace H : (if t444=true then ((impl_putValue.f k ([] : List Int) a0_0 a0_1 a0_2).bind fun t445 => (some (t445,0))) else (some (([] : List Int),1)))=some (r1,r2):=H;have A2:=zh A20;clear A20
 by_cases c3 : t444=true
 ·
  subst c3
  have H1 : ((impl_putValue.f k ([] : List Int) a0_0 a0_1 a0_2).bind fun t445 => (some (t445,0)))=some (r1,r2):=by rw [if_pos rfl] at H;exact H
  clear H;have H:=H1;clear H1;replace H:=zT.mp H;obtain ⟨t445,A40,H⟩:=H;replace H : (some (t445,0))=some (r1,r2):=H;have A4:=zh A40;clear A40;simp only [Option.some.injEq,Prod.mk.injEq] at H;obtain ⟨rfl,rfl⟩:=H
  go_enter Try.func26,Try.ntmps26
  go_wp2_with (first|((with_reducible refine zK (N:=1) rfl ?_);refine zI ?hg (N:=1) ?hd (cs:=#[.int .i64 a0_0,.int .i64 a0_1,.string a0_2]) (t:=26) ?hr ?_;(case hd => rfl);(case hg => rfl);(case hr => first|(go_simp;done)|(go_simp;rfl));intro gb443 hg w5 hbox hb;have BK443:=zh (hbox);have GW443:=zh ((by rw [hg];exact (zB (by repeat (with_reducible first|exact HB.out|apply za|apply zb|apply zc))) : w.heap.size≤gb443));have GE443:=zh ((by rw [hg];exact (zB (by repeat (with_reducible first|exact HB.out|apply za|apply zb|apply zc))) : w.heap.size≤gb443));replace HB:=zh (zC (by repeat (with_reducible first|exact HB.out|apply za|apply zb|apply zc)) hb);clear hb hbox hg;have hcz6_0 : w5.cell? ⟨gb443,0,none⟩=some (.int .i64 a0_0):=(zz BK443.out 0).trans rfl;have hcz6_1 : w5.cell? ⟨gb443,1,none⟩=some (.int .i64 a0_1):=(zz BK443.out 1).trans rfl;have hcz6_2 : w5.cell? ⟨gb443,2,none⟩=some (.string a0_2):=(zz BK443.out 2).trans rfl;have hfz6_0:=zA BK443.out 0;have hfz6_1:=zA BK443.out 1;have hfz6_2:=zA BK443.out 2)|((with_reducible refine zJ (f:=17) rfl ?_);refine yj (some 5) rfl rfl Try.func17 (by kernel_rfl) rfl #[.agg #[.int .i64 a0_0,.int .i64 a0_1,.string a0_2]] rfl (by (try simp only [zt,zu,zv]);first|done|rfl|(simp only [zw,zx];rfl)|(simp only [yr,ys,zV,zW];rfl)) ?_;(with_reducible refine (impl_ValueOK.calls k  a0_0 a0_1 a0_2 true _ A2.out).mono ?_);rintro e w7 ⟨rfl,hb⟩;refine ⟨_,rfl,?_⟩;replace BK443:=zh (zD (g:=gb443) (o:=.cells #[.int .i64 a0_0,.int .i64 a0_1,.string a0_2] 26 (0,0)) (by (with_reducible repeat (first|refine ze ?_ _|refine zf ?_|refine zg ?_ _));exact BK443.out) hb);replace HB:=zh (zC (by repeat (with_reducible first|exact HB.out|apply za|apply zb|apply zc|refine zd ?_ GE443.out)) hb);(try clear hb);(try clear hb2);(try clear hk);(try clear hi);have hcz8_0 : w7.cell? ⟨gb443,0,none⟩=some (.int .i64 a0_0):=(zz BK443.out 0).trans rfl;have hcz8_1 : w7.cell? ⟨gb443,1,none⟩=some (.int .i64 a0_1):=(zz BK443.out 1).trans rfl;have hcz8_2 : w7.cell? ⟨gb443,2,none⟩=some (.string a0_2):=(zz BK443.out 2).trans rfl;have hfz8_0:=zA BK443.out 0;have hfz8_1:=zA BK443.out 1;have hfz8_2:=zA BK443.out 2)|((with_reducible refine zJ (f:=60) rfl ?_);refine yj (some 8) rfl rfl Try.func60 (by kernel_rfl) rfl #[.slice none 0 0,.agg #[.int .i64 a0_0,.int .i64 a0_1,.string a0_2]] rfl (by (try simp only [zt,zu,zv]);first|done|rfl|(simp only [zw,zx];rfl)|(simp only [yr,ys,zV,zW];rfl)) ?_;(refine (impl_putValue.calls k  (fun k_ => some k_=(.slice none 0 0 : Value).ownBlock) (.slice none 0 0) ([] : List Int) a0_0 a0_1 a0_2 t445 w _ ?side1 ?side2 A4.out).mono ?_);(case side1 => repeat (with_reducible first|exact HB.out|apply za|apply zb|apply zc|refine zd ?_ GE443.out));(case side2 => exact Kd.R_nil _ _ _ _ _);rintro e w9 ⟨v446,rfl,ho0,hb,hkp⟩;refine ⟨_,rfl,?_⟩;replace BK443:=zh (blk_kept (by (with_reducible repeat (first|refine ze ?_ _|refine zf ?_|refine zg ?_ _));exact BK443.out) hkp (fun hs_ => (fun e_ => by simp [Value.ownBlock] at e_) hs_));have HO447:=zh (zM (ok':=fun k_ => True) ho0 (fun k_ hk_ => trivial));replace HB:=zh (hb);(try clear hb);(try clear hkp);(try clear ho0)))
  go_ret2
  exact ⟨_,by first|rfl|(simp [yt,yu] <;> rfl)|(simp [*,yt,yu] <;> rfl),by (with_reducible repeat (first|apply zm|apply zn|apply zo));exact HO447.out,by repeat (with_reducible first|exact HB.out|apply za|apply zb|apply zc|refine zd ?_ GE443.out)⟩
 replace c3:=yb.mpr c3;subst c3;have H1 : (some (([] : List Int),1))=some (r1,r2):=by rw [if_neg (show ¬ (false=true) by decide)] at H;exact H
 clear H;have H:=H1;clear H1;simp only [Option.some.injEq,Prod.mk.injEq] at H;obtain ⟨rfl,rfl⟩:=H
 go_enter Try.func26,Try.ntmps26
 go_wp2_with (first|((with_reducible refine zK (N:=1) rfl ?_);refine zI ?hg (N:=1) ?hd (cs:=#[.int .i64 a0_0,.int .i64 a0_1,.string a0_2]) (t:=26) ?hr ?_;(case hd => rfl);(case hg => rfl);(case hr => first|(go_simp;done)|(go_simp;rfl));intro gb443 hg w10 hbox hb;have BK443:=zh (hbox);have GW443:=zh ((by rw [hg];exact (zB (by repeat (with_reducible first|exact HB.out|apply za|apply zb|apply zc))) : w.heap.size≤gb443));have GE443:=zh ((by rw [hg];exact (zB (by repeat (with_reducible first|exact HB.out|apply za|apply zb|apply zc))) : w.heap.size≤gb443));replace HB:=zh (zC (by repeat (with_reducible first|exact HB.out|apply za|apply zb|apply zc)) hb);clear hb hbox hg;have hcz11_0 : w10.cell? ⟨gb443,0,none⟩=some (.int .i64 a0_0):=(zz BK443.out 0).trans rfl;have hcz11_1 : w10.cell? ⟨gb443,1,none⟩=some (.int .i64 a0_1):=(zz BK443.out 1).trans rfl;have hcz11_2 : w10.cell? ⟨gb443,2,none⟩=some (.string a0_2):=(zz BK443.out 2).trans rfl;have hfz11_0:=zA BK443.out 0;have hfz11_1:=zA BK443.out 1;have hfz11_2:=zA BK443.out 2)|((with_reducible refine zJ (f:=17) rfl ?_);refine yj (some 5) rfl rfl Try.func17 (by kernel_rfl) rfl #[.agg #[.int .i64 a0_0,.int .i64 a0_1,.string a0_2]] rfl (by (try simp only [zt,zu,zv]);first|done|rfl|(simp only [zw,zx];rfl)|(simp only [yr,ys,zV,zW];rfl)) ?_;(with_reducible refine (impl_ValueOK.calls k  a0_0 a0_1 a0_2 false _ A2.out).mono ?_);rintro e w12 ⟨rfl,hb⟩;refine ⟨_,rfl,?_⟩;replace BK443:=zh (zD (g:=gb443) (o:=.cells #[.int .i64 a0_0,.int .i64 a0_1,.string a0_2] 26 (0,0)) (by (with_reducible repeat (first|refine ze ?_ _|refine zf ?_|refine zg ?_ _));exact BK443.out) hb);replace HB:=zh (zC (by repeat (with_reducible first|exact HB.out|apply za|apply zb|apply zc|refine zd ?_ GE443.out)) hb);(try clear hb);(try clear hb2);(try clear hk);(try clear hi)))
 go_ret2
 exact ⟨_,by first|rfl|(simp [yt,yu] <;> rfl)|(simp [*,yt,yu] <;> rfl),by first|exact Kd.R_nil _ _ _ _ _|exact Kd.N_nil _ _ _ _ _|exact Kd.V_nil _ _ _ _ _|exact Kd.Q_nil _ _ _ _ _|exact Kd.S_nil _ _ _ _ _,by repeat (with_reducible first|exact HB.out|apply za|apply zb|apply zc|refine zd ?_ GE443.out)⟩

end Go.Proofs.Ytpmeglcmhiihoaa.Q
end
section
namespace Go.Proofs.Ytpmeglcmhiihoaa.Q
open Go.RowKit Go.Proofs.YtpmeglcmhiihoaaW.PrintWords Go.Proofs.YtpmeglcmhiihoaaW.PrintLast Go.Proofs.YtpmeglcmhiihoaaW.PrintMore
attribute [local go_sem] max2_int min2_int max_two min_two max_three min_three max_four min_four max2_str min2_str str_geq str_gtr str_leq   -- for this text's walks alone
set_option linter.unusedVariables false
set_option linter.unusedSimpArgs false

def laws_markByteS.l0 : Nat→List Int→Int→Int→Option (Int×List Int)
 | 0,_,_,_ => none
 | k + 1,x0,x1,x5 => if x5<(x0.length : Int) then (if 0≤x5 then (laws_markByteS.l0 k (x0.set (x5 : Int).toNat ((x1) % 256)) (wrap64 (x1 + 1)) (wrap64 (x5 + 1))) else (none)) else (some (x1,x0))
def laws_markByteS.f (k : Nat) (l0 : List Int) (a1 : Int) : Option (Int×List Int):=laws_markByteS.l0 k l0 a1 0
theorem laws_markByteS.mono_l : ∀ k,(∀ y0 y1 y2,LeO (laws_markByteS.l0 k y0 y1 y2) (laws_markByteS.l0 (k + 1) y0 y1 y2))
 | 0 => fun _ _ _ r h => by simp [laws_markByteS.l0] at h
 | k + 1 => by
  have ih0:=laws_markByteS.mono_l k;intro y0 y1 y2;unfold laws_markByteS.l0
  repeat' first|(with_reducible exact ih0 _ _ _)|(with_reducible exact zQ _)|(with_reducible exact zN _)|(with_reducible refine zP ?_ ?_)|(with_reducible refine zO ?_ (fun _ => ?_))|refine zP ?_ ?_|refine zO ?_ (fun _ => ?_)
theorem laws_markByteS.mono : ∀ a0 a1 k,LeO (laws_markByteS.f k a0 a1) (laws_markByteS.f (k + 1) a0 a1):=by
 intro a0 a1 k;have ih0:=laws_markByteS.mono_l k;unfold laws_markByteS.f
 repeat' first|(with_reducible exact ih0 _ _ _)|(with_reducible exact zQ _)|(with_reducible exact zN _)|(with_reducible refine zP ?_ ?_)|(with_reducible refine zO ?_ (fun _ => ?_))|refine zP ?_ ?_|refine zO ?_ (fun _ => ?_)
set_option maxHeartbeats 8000000 in
set_option maxRecDepth 100000 in
theorem laws_markByteS.calls (k : Nat) (P0_ : Nat→Prop) (u9000_ : Value) (l0 : List Int) (a1 : Int) (r1 : Int) (r2 : List Int) (w0 w : World) (hB : Below w0.heap.size w0 w) (ho0 : Kd.R (Kd.int .u8) 5 w w0.heap.size P0_ u9000_ l0) (h : laws_markByteS.f k l0 a1=some (r1,r2)) :
  Calls Try.prog 27 #[u9000_,.int .i64 a1] w fun e w' => e = .returned (.int .i64 r1)∧Kd.R (Kd.int .u8) 5 w' w0.heap.size (fun k_ => (P0_ k_∨w.heap.size≤k_)) u9000_ r2∧Below w0.heap.size w0 w' ∧ Kept w w' (fun k_ => P0_ k_):=by
 have HO0:=zh (show Kd.R (Kd.int .u8) 5 w w0.heap.size (fun k_ => (P0_ k_∨w.heap.size≤k_)) u9000_ l0 from zM ho0 (fun k_ hk => (.inl hk)));have HK:=zh (Kept.refl w (fun k_ => P0_ k_));have HW0:=zh hB.size;have HB:=zh hB;clear hB;have H : (laws_markByteS.l0 k l0 a1 0)=some (r1,r2):=h;clear h;have H':=zh H;clear H
 go_enter Try.func27,Try.ntmps27
 go_wp2
 go_loopg [1,5] k (fun kq v1 v5 w' => ∃ (x0_1 : List Int) (x1_1 : Int) (x5_1 : Int),v1 = .int .i64 x1_1∧v5 = .int .i64 x5_1∧Aside0 (laws_markByteS.l0 kq x0_1 x1_1 x5_1=some (r1,r2))∧Aside0 (kq≤k)∧Aside0 (Kd.R (Kd.int .u8) 5 w' w0.heap.size (fun k_ => (P0_ k_∨w.heap.size≤k_)) u9000_ x0_1)∧Aside0 (Kept w w' (fun k_ => P0_ k_))∧Aside0 (Below w0.heap.size w0 w'))
 case atStart => exact ⟨(l0),(a1),(0),(by first|rfl|(simp;done)|(simp [*];done)),(by first|rfl|(simp;done)|(simp [*];done)),H',⟨ye _⟩,⟨by (with_reducible repeat (first|apply zm|apply zn|apply zo));exact HO0.out⟩,⟨by repeat (with_reducible first|exact HK.out|apply zr|apply zp|apply zq)⟩,⟨by repeat (with_reducible first|exact HB.out|apply za|apply zb|apply zc)⟩⟩
 case round =>
  clear H'
  try clear c2
  try clear p2
  obtain ⟨x0_1,x1_1,x5_1,rfl,rfl,HA,HK1,HO_0,HK,HB⟩:=hrel
  cases gk with
  | zero => exact absurd HA.out (by simp [laws_markByteS.l0])
  | succ k1 =>
   have H:=HA.out;clear HA;simp only [laws_markByteS.l0] at H
   by_cases c3 : x5_1<(x0_1.length : Int)
   ·
    rw [if_pos c3] at H
    have c3b0 : decide (x5_1<(x0_1.length : Int))=true:=decide_eq_true c3;clear c3
    by_cases c4 : 0≤x5_1
    ·
     rw [if_pos c4] at H
     have c4b0 : decide (0≤x5_1)=true:=decide_eq_true c4;clear c4;obtain ⟨y448,hy448⟩ : ∃ y_ : List Int,y_=(x0_1.set (x5_1 : Int).toNat ((x1_1) % 256)):=⟨_,rfl⟩;replace H : (laws_markByteS.l0 k1 y448 (wrap64 (x1_1 + 1)) (wrap64 (x5_1 + 1)))=some (r1,r2):=by first|(rw [hy448];with_reducible exact H)|(have H2_:=(Option.bind_some _ _).symm.trans H;rw [hy448];with_reducible exact H2_)|(have H2_:=(Option.bind_some _ _).symm.trans H;with_reducible exact H2_)|with_reducible exact H|(rw [hy448];exact H)|exact H
     have Ny448:=zh hy448;clear hy448;have H':=zh H;clear H;obtain ⟨Ao6,co6,eo6⟩:=yk HO_0.out;subst eo6;have p5 : 0≤(x5_1 : Int):=zy (by first|(with_reducible assumption)|assumption);have q5 : (x5_1 : Int)<((x0_1.length : Int) : Int):=zy (by first|(with_reducible assumption)|assumption);obtain ⟨go5,co5,eo5,gb5,gl5,cl5,HG5⟩:=Kd.R_form HO_0.out (by omega);(first|cases eo5|(injection eo5 with ea_ en_ ec_;(first|subst ea_|(injection ea_ with ea_;subst ea_));subst ec_;clear en_));have GB5:=zh gb5;have GG5:=zh HG5;clear gb5 gl5 HG5;have HMgo5:=zh (show (P0_ go5∨w.heap.size≤go5) from (HO_0.out.1 _ rfl));obtain ⟨hx5_0,hf5_0⟩:=Kd.R_celln 0 HO_0.out (x5_1 : Int) p5 q5;replace p5:=eq_true p5;replace q5:=eq_true q5;have HP7:=Kd.R_putg HO_0.out (x5_1 : Int) ((x1_1) % 256)
     go_wp2_with (first|((with_reducible refine gate_store (t:=5) (p:=16) rfl ?_);refine store_event (t:=5) (p:=16) (v:=?vo_w8) (w1:=(wr.setCell ⟨go5,(x5_1 : Int).toNat,none⟩ (.int .u8 ((x1_1) % 256)))) ?hg ?ho ?hn ?hr ?_;(case ho => rfl);(case hg => rfl);(case hn => rfl);(case hr => first|(go_simp;done)|(go_simp;rfl));intro w8 hw;have hg : wr.grownBy w8 (some go5):=(by rw [hw];exact HP7.2);have hp_ : Kd.R (Kd.int .u8) 5 w8 w0.heap.size (fun k_ => (P0_ k_∨w.heap.size≤k_)) (.slice (some ⟨go5,0,none⟩) x0_1.length co6) y448:=(by rw [hw,Ny448.out];exact HP7.1);clear HP7;replace HB:=zh ((by rw [hw];exact zd (HB.out) GB5.out : Below w0.heap.size w0 w8));replace HK:=zh (yA (S:=(fun k_ => P0_ k_)) hg (by repeat (with_reducible first|exact HK.out|apply zr|apply zp|apply zq)) (fun k_ e_ => (HO_0.out.1 k_ e_)));replace HO_0:=zh (hp_);clear hg hw hp_))
     go_roundg k1
     case measure => have:=HK1.out;omega
     case rel => exact ⟨(y448),(wrap64 (x1_1 + 1)),(wrap64 (x5_1 + 1)),(by first|rfl|(simp;done)|(simp [*];done)),(by first|rfl|(simp;done)|(simp [*];done)),H',⟨by have:=HK1.out;omega⟩,⟨by (with_reducible repeat (first|apply zm|apply zn|apply zo));exact HO_0.out⟩,⟨by repeat (with_reducible first|exact HK.out|apply zr|apply zp|apply zq)⟩,⟨by repeat (with_reducible first|exact HB.out|apply za|apply zb|apply zc)⟩⟩
    rw [if_neg c4] at H;exact absurd H (by simp)
   rw [if_neg c3] at H;have c3b0 : decide (x5_1<(x0_1.length : Int))=false:=decide_eq_false c3;clear c3;simp only [Option.some.injEq,Prod.mk.injEq] at H;obtain ⟨rfl,rfl⟩:=H;obtain ⟨Ao9,co9,eo9⟩:=yk HO_0.out;subst eo9
   go_wp2
   go_ret
   exact ⟨by first|rfl|(simp [yt,yu] <;> rfl)|(simp [*,yt,yu] <;> rfl),by (with_reducible repeat (first|apply zm|apply zn|apply zo));exact HO_0.out,by repeat (with_reducible first|exact HB.out|apply za|apply zb|apply zc),by repeat (with_reducible first|exact HK.out|apply zr|apply zp|apply zq)⟩

end Go.Proofs.Ytpmeglcmhiihoaa.Q
end
section
namespace Go.Proofs.Ytpmeglcmhiihoaa.Q
open Go.RowKit Go.Proofs.YtpmeglcmhiihoaaW.PrintWords Go.Proofs.YtpmeglcmhiihoaaW.PrintLast Go.Proofs.YtpmeglcmhiihoaaW.PrintMore
attribute [local go_sem] max2_int min2_int max_two min_two max_three min_three max_four min_four max2_str min2_str str_geq str_gtr str_leq   -- for this text's walks alone
set_option linter.unusedVariables false
set_option linter.unusedSimpArgs false

def laws_heldByteS.l0 : Nat→List Int→Int→Int→Option (Int)
 | 0,_,_,_ => none
 | k + 1,x0,x1,x5 => if x5<(x0.length : Int) then (if 0≤x5 then (if (rd x0 x5)=((x1) % 256) then (laws_heldByteS.l0 k x0 (wrap64 (x1 + 1)) (wrap64 (x5 + 1))) else (some (-1))) else (none)) else (some x1)
def laws_heldByteS.f (k : Nat) (l0 : List Int) (a1 : Int) : Option (Int):=laws_heldByteS.l0 k l0 a1 0
theorem laws_heldByteS.mono_l : ∀ k,(∀ y0 y1 y2,LeO (laws_heldByteS.l0 k y0 y1 y2) (laws_heldByteS.l0 (k + 1) y0 y1 y2))
 | 0 => fun _ _ _ r h => by simp [laws_heldByteS.l0] at h
 | k + 1 => by
  have ih0:=laws_heldByteS.mono_l k;intro y0 y1 y2;unfold laws_heldByteS.l0
  repeat' first|(with_reducible exact ih0 _ _ _)|(with_reducible exact zQ _)|(with_reducible exact zN _)|(with_reducible refine zP ?_ ?_)|(with_reducible refine zO ?_ (fun _ => ?_))|refine zP ?_ ?_|refine zO ?_ (fun _ => ?_)
theorem laws_heldByteS.mono : ∀ a0 a1 k,LeO (laws_heldByteS.f k a0 a1) (laws_heldByteS.f (k + 1) a0 a1):=by
 intro a0 a1 k;have ih0:=laws_heldByteS.mono_l k;unfold laws_heldByteS.f
 repeat' first|(with_reducible exact ih0 _ _ _)|(with_reducible exact zQ _)|(with_reducible exact zN _)|(with_reducible refine zP ?_ ?_)|(with_reducible refine zO ?_ (fun _ => ?_))|refine zP ?_ ?_|refine zO ?_ (fun _ => ?_)
set_option maxHeartbeats 8000000 in
set_option maxRecDepth 100000 in
theorem laws_heldByteS.calls (k : Nat) (A0 : Option Addr) (c0 : Nat) (l0 : List Int) (a1 : Int) (r : Int) (w : World) (hr0 : Kd.C (Kd.int .u8) w A0 l0.length l0) (hc0 : l0.length≤c0) (h : laws_heldByteS.f k l0 a1=some r) :
  Calls Try.prog 28 #[.slice A0 l0.length c0,.int .i64 a1] w fun e w' => e = .returned (.int .i64 r)∧Drawn0 w w':=by
 have HR0:=zh hr0;have HC0:=zh hc0;clear hr0 hc0;have H : (laws_heldByteS.l0 k l0 a1 0)=some r:=h;clear h;have H':=zh H;clear H
 go_enter Try.func28,Try.ntmps28
 go_wp2
 go_loopg [1,5] k (fun kq v1 v5 w' => ∃ (x1_1 : Int) (x5_1 : Int),v1 = .int .i64 x1_1∧v5 = .int .i64 x5_1∧Aside0 (laws_heldByteS.l0 kq l0 x1_1 x5_1=some r)∧Aside0 (kq≤k)∧Drawn0 w w')
 case atStart => exact ⟨(a1),(0),(by first|rfl|(simp;done)|(simp [*];done)),(by first|rfl|(simp;done)|(simp [*];done)),H',⟨ye _⟩,by repeat (first|exact yp _|apply yq)⟩
 case round =>
  clear H'
  try clear c2
  try clear p2
  obtain ⟨x1_1,x5_1,rfl,rfl,HA,HK1,⟨m1,rfl⟩⟩:=hrel
  cases gk with
  | zero => exact absurd HA.out (by simp [laws_heldByteS.l0])
  | succ k1 =>
   have H:=HA.out;clear HA;simp only [laws_heldByteS.l0] at H
   by_cases c3 : x5_1<(l0.length : Int)
   ·
    rw [if_pos c3] at H
    have c3b0 : decide (x5_1<(l0.length : Int))=true:=decide_eq_true c3;clear c3
    by_cases c4 : 0≤x5_1
    ·
     rw [if_pos c4] at H
     have c4b0 : decide (0≤x5_1)=true:=decide_eq_true c4;clear c4
     by_cases c5 : (rd l0 x5_1)=((x1_1) % 256)
     ·
      rw [if_pos c5] at H
      have c5b0 : ((rd l0 x5_1) == ((x1_1) % 256))=true:=ya.mpr c5;have c5b1 : ((rd l0 x5_1) != ((x1_1) % 256))=false:=zX.mpr c5;clear c5;have H':=zh H;clear H;have p449 : 0≤(x5_1 : Int):=zy (by first|(with_reducible assumption)|assumption);have q449 : x5_1<(l0.length : Int):=zy (by first|(with_reducible assumption)|assumption);obtain ⟨ad449,e449,hx449_0⟩:=Kd.at_int HR0.out x5_1 p449 q449
      cases e449
      replace p449:=eq_true p449;replace q449:=eq_true q449
      go_wp2
      go_roundg k1
      case measure => have:=HK1.out;omega
      case rel => exact ⟨(wrap64 (x1_1 + 1)),(wrap64 (x5_1 + 1)),(by first|rfl|(simp;done)|(simp [*];done)),(by first|rfl|(simp;done)|(simp [*];done)),H',⟨by have:=HK1.out;omega⟩,by repeat (first|exact yp _|apply yq)⟩
     rw [if_neg c5] at H;have c5b0 : ((rd l0 x5_1) == ((x1_1) % 256))=false:=zY.mpr c5;have c5b1 : ((rd l0 x5_1) != ((x1_1) % 256))=true:=zZ.mpr c5;obtain rfl:=zU H;have p449 : 0≤(x5_1 : Int):=zy (by first|(with_reducible assumption)|assumption);have q449 : x5_1<(l0.length : Int):=zy (by first|(with_reducible assumption)|assumption);obtain ⟨ad449,e449,hx449_0⟩:=Kd.at_int HR0.out x5_1 p449 q449
     cases e449
     replace p449:=eq_true p449;replace q449:=eq_true q449
     go_wp2
     go_ret
     exact ⟨by first|rfl|(simp;done)|(simp [*];done),by repeat (first|exact yp _|apply yq)⟩
    rw [if_neg c4] at H;exact absurd H (by simp)
   rw [if_neg c3] at H;have c3b0 : decide (x5_1<(l0.length : Int))=false:=decide_eq_false c3;clear c3;obtain rfl:=zU H
   go_wp2
   go_ret
   exact ⟨by first|rfl|(simp;done)|(simp [*];done),by repeat (first|exact yp _|apply yq)⟩

end Go.Proofs.Ytpmeglcmhiihoaa.Q
end
section
namespace Go.Proofs.Ytpmeglcmhiihoaa.Q
open Go.RowKit Go.Proofs.YtpmeglcmhiihoaaW.PrintWords Go.Proofs.YtpmeglcmhiihoaaW.PrintLast Go.Proofs.YtpmeglcmhiihoaaW.PrintMore
attribute [local go_sem] max2_int min2_int max_two min_two max_three min_three max_four min_four max2_str min2_str str_geq str_gtr str_leq   -- for this text's walks alone
set_option linter.unusedVariables false
set_option linter.unusedSimpArgs false

mutual
def laws_FnExactEncodeValue.j0 : Nat→List Int→Int→List Int→Bool→Int→Int→ByteArray→Option (Bool)
 | 0,_,_,_,_,_,_,_ => none
 | k + 1,x4,x5,x6,x37,x451000,x451001,x451002 => if x37=true then (some false) else ((laws_markByteS.f k x6 1).bind fun bt467 => ((laws_heldByteS.f k bt467.2 1).bind fun t469 => (if t469<0 then (some false) else (if t469=bt467.1 then ((laws_toValue.f x451000 x451001 x451002).bind fun bt470 => ((impl_EncodeValue.f k bt470.1 bt470.2.1 bt470.2.2).bind fun bt473 => ((laws_eqByteS.f k bt473.1 x4).bind fun t477 => (if t477=true then (laws_FnExactEncodeValue.j1 k bt467.2 bt467.1 (bt473.2 != x5)) else (laws_FnExactEncodeValue.j1 k bt467.2 bt467.1 true))))) else (some false)))))
def laws_FnExactEncodeValue.j1 : Nat→List Int→Int→Bool→Option (Bool)
 | 0,_,_,_ => none
 | k + 1,x6,x8,x63 => if x63=true then (some false) else ((laws_heldByteS.f k x6 1).bind fun t478 => (if t478<0 then (some false) else (if t478=x8 then (some true) else (some false))))
end
def laws_FnExactEncodeValue.f (k : Nat) (a0_0 : Int) (a0_1 : Int) (a0_2 : ByteArray) : Option (Bool):=(laws_szValue.f a0_0 a0_1 a0_2 1048576).bind fun t451 => (if t451<0 then (some true) else ((laws_toValue.f a0_0 a0_1 a0_2).bind fun bt452 => ((spec_EncodeValue.f k bt452.1 bt452.2.1 bt452.2.2).bind fun bt455 => ((laws_toValue.f a0_0 a0_1 a0_2).bind fun bt459 => ((impl_EncodeValue.f k bt459.1 bt459.2.1 bt459.2.2).bind fun bt462 => ((laws_eqByteS.f k bt462.1 bt455.1).bind fun t466 => (if t466=true then (laws_FnExactEncodeValue.j0 k bt455.1 bt455.2 bt462.1 (bt462.2 != bt455.2) a0_0 a0_1 a0_2) else (laws_FnExactEncodeValue.j0 k bt455.1 bt455.2 bt462.1 true a0_0 a0_1 a0_2))))))))
theorem laws_FnExactEncodeValue.mono_l : ∀ k,(∀ y0 y1 y2 y3 y4 y5 y6,LeO (laws_FnExactEncodeValue.j0 k y0 y1 y2 y3 y4 y5 y6) (laws_FnExactEncodeValue.j0 (k + 1) y0 y1 y2 y3 y4 y5 y6))∧(∀ y0 y1 y2,LeO (laws_FnExactEncodeValue.j1 k y0 y1 y2) (laws_FnExactEncodeValue.j1 (k + 1) y0 y1 y2))
 | 0 => ⟨fun _ _ _ _ _ _ _ r h => by simp [laws_FnExactEncodeValue.j0] at h,fun _ _ _ r h => by simp [laws_FnExactEncodeValue.j1] at h⟩
 | k + 1 => by
  obtain ⟨ih0,ih1⟩:=laws_FnExactEncodeValue.mono_l k;refine ⟨?_,?_⟩
  ·
   intro y0 y1 y2 y3 y4 y5 y6
   unfold laws_FnExactEncodeValue.j0
   repeat' first|(with_reducible exact ih0 _ _ _ _ _ _ _)|(with_reducible exact ih1 _ _ _)|(with_reducible exact laws_eqByteS.mono _ _ _)|(with_reducible exact spec_EncodeValue.mono _ _ _ _)|(with_reducible exact impl_EncodeValue.mono _ _ _ _)|(with_reducible exact laws_markByteS.mono _ _ _)|(with_reducible exact laws_heldByteS.mono _ _ _)|(with_reducible exact zQ _)|(with_reducible exact zN _)|(with_reducible refine zP ?_ ?_)|(with_reducible refine zO ?_ (fun _ => ?_))|refine zP ?_ ?_|refine zO ?_ (fun _ => ?_)
  intro y0 y1 y2;unfold laws_FnExactEncodeValue.j1
  repeat' first|(with_reducible exact ih0 _ _ _ _ _ _ _)|(with_reducible exact ih1 _ _ _)|(with_reducible exact laws_eqByteS.mono _ _ _)|(with_reducible exact spec_EncodeValue.mono _ _ _ _)|(with_reducible exact impl_EncodeValue.mono _ _ _ _)|(with_reducible exact laws_markByteS.mono _ _ _)|(with_reducible exact laws_heldByteS.mono _ _ _)|(with_reducible exact zQ _)|(with_reducible exact zN _)|(with_reducible refine zP ?_ ?_)|(with_reducible refine zO ?_ (fun _ => ?_))|refine zP ?_ ?_|refine zO ?_ (fun _ => ?_)
theorem laws_FnExactEncodeValue.mono : ∀ a0 a1 a2 k,LeO (laws_FnExactEncodeValue.f k a0 a1 a2) (laws_FnExactEncodeValue.f (k + 1) a0 a1 a2):=by
 intro a0 a1 a2 k;obtain ⟨ih0,ih1⟩:=laws_FnExactEncodeValue.mono_l k;unfold laws_FnExactEncodeValue.f
 repeat' first|(with_reducible exact ih0 _ _ _ _ _ _ _)|(with_reducible exact ih1 _ _ _)|(with_reducible exact laws_eqByteS.mono _ _ _)|(with_reducible exact spec_EncodeValue.mono _ _ _ _)|(with_reducible exact impl_EncodeValue.mono _ _ _ _)|(with_reducible exact laws_markByteS.mono _ _ _)|(with_reducible exact laws_heldByteS.mono _ _ _)|(with_reducible exact zQ _)|(with_reducible exact zN _)|(with_reducible refine zP ?_ ?_)|(with_reducible refine zO ?_ (fun _ => ?_))|refine zP ?_ ?_|refine zO ?_ (fun _ => ?_)
set_option maxHeartbeats 8000000 in
set_option maxRecDepth 100000 in
theorem laws_FnExactEncodeValue.calls (k : Nat) (a0_0 : Int) (a0_1 : Int) (a0_2 : ByteArray) (r : Bool) (w : World) (h : laws_FnExactEncodeValue.f k a0_0 a0_1 a0_2=some r) :
  Calls Try.prog 6 #[.agg #[.int .i64 a0_0,.int .i64 a0_1,.string a0_2]] w fun e w' => e = .returned (.bool r)∧Below w.heap.size w w':=by
 have hu23:=Try.underlying23;have HB:=zh (Below.refl w.heap.size w);have H : ((laws_szValue.f a0_0 a0_1 a0_2 1048576).bind fun t451 => (if t451<0 then (some true) else ((laws_toValue.f a0_0 a0_1 a0_2).bind fun bt452 => ((spec_EncodeValue.f k bt452.1 bt452.2.1 bt452.2.2).bind fun bt455 => ((laws_toValue.f a0_0 a0_1 a0_2).bind fun bt459 => ((impl_EncodeValue.f k bt459.1 bt459.2.1 bt459.2.2).bind fun bt462 => ((laws_eqByteS.f k bt462.1 bt455.1).bind fun t466 => (if t466=true then (laws_FnExactEncodeValue.j0 k bt455.1 bt455.2 bt462.1 (bt462.2 != bt455.2) a0_0 a0_1 a0_2) else (laws_FnExactEncodeValue.j0 k bt455.1 bt455.2 bt462.1 true a0_0 a0_1 a0_2)))))))))=some r:=h;clear h;replace H:=zT.mp H;obtain ⟨t451,A20,H⟩:=H;replace H : (if t451<0 then (some true) else ((laws_toValue.f a0_0 a0_1 a0_2).bind fun bt452 => ((spec_EncodeValue.f k bt452.1 bt452.2.1 bt452.2.2).bind fun bt455 => ((laws_toValue.f a0_0 a0_1 a0_2).bind fun bt459 => ((impl_EncodeValue.f k bt459.1 bt459.2.1 bt459.2.2).bind fun bt462 => ((laws_eqByteS.f k bt462.1 bt455.1).bind fun t466 => (if t466=true then (laws_FnExactEncodeValue.j0 k bt455.1 bt455.2 bt462.1 (bt462.2 != bt455.2) a0_0 a0_1 a0_2) else (laws_FnExactEncodeValue.j0 k bt455.1 bt455.2 bt462.1 true a0_0 a0_1 a0_2))))))))=some r:=H;have A2:=zh A20;clear A20
 by_cases c3 : t451<0
 ·
  rw [if_pos c3] at H
  have c3b0 : decide (t451<0)=true:=decide_eq_true c3;clear c3;obtain rfl:=zU H
  go_enter Try.func6,Try.ntmps6
  go_wp2_with (first|((with_reducible refine zK (N:=1) rfl ?_);refine zI ?hg (N:=1) ?hd (cs:=#[.int .i64 a0_0,.int .i64 a0_1,.string a0_2]) (t:=23) ?hr ?_;(case hd => rfl);(case hg => rfl);(case hr => first|(go_simp;done)|(go_simp;rfl));intro gb450 hg w4 hbox hb;have BK450:=zh (hbox);have GW450:=zh ((by rw [hg];exact (zB (by repeat (with_reducible first|exact HB.out|apply za|apply zb|apply zc))) : w.heap.size≤gb450));have GE450:=zh ((by rw [hg];exact (zB (by repeat (with_reducible first|exact HB.out|apply za|apply zb|apply zc))) : w.heap.size≤gb450));replace HB:=zh (zC (by repeat (with_reducible first|exact HB.out|apply za|apply zb|apply zc)) hb);clear hb hbox hg;have hcz5_0 : w4.cell? ⟨gb450,0,none⟩=some (.int .i64 a0_0):=(zz BK450.out 0).trans rfl;have hcz5_1 : w4.cell? ⟨gb450,1,none⟩=some (.int .i64 a0_1):=(zz BK450.out 1).trans rfl;have hcz5_2 : w4.cell? ⟨gb450,2,none⟩=some (.string a0_2):=(zz BK450.out 2).trans rfl;have hfz5_0:=zA BK450.out 0;have hfz5_1:=zA BK450.out 1;have hfz5_2:=zA BK450.out 2)|((with_reducible refine zJ (f:=14) rfl ?_);refine yj (some 14) rfl rfl Try.func14 (by kernel_rfl) rfl #[.agg #[.int .i64 a0_0,.int .i64 a0_1,.string a0_2],.int .i64 1048576] rfl (by (try simp only [zt,zu,zv]);first|done|rfl|(simp only [zw,zx];rfl)|(simp only [yr,ys,zV,zW];rfl)) ?_;(with_reducible refine (laws_szValue.calls  a0_0 a0_1 a0_2 1048576 t451 _ A2.out).mono ?_);rintro e w6 ⟨rfl,hb⟩;refine ⟨_,rfl,?_⟩;replace BK450:=zh (zD (g:=gb450) (o:=.cells #[.int .i64 a0_0,.int .i64 a0_1,.string a0_2] 23 (0,0)) (by (with_reducible repeat (first|refine ze ?_ _|refine zf ?_|refine zg ?_ _));exact BK450.out) hb);replace HB:=zh (zC (by repeat (with_reducible first|exact HB.out|apply za|apply zb|apply zc|refine zd ?_ GE450.out)) hb);(try clear hb);(try clear hb2);(try clear hk);(try clear hi)))
  go_ret
  exact ⟨by first|rfl|(simp [yt,yu] <;> rfl)|(simp [*,yt,yu] <;> rfl),by repeat (with_reducible first|exact HB.out|apply za|apply zb|apply zc|refine zd ?_ GE450.out)⟩
 rw [if_neg c3] at H;have c3b0 : decide (t451<0)=false:=decide_eq_false c3;clear c3;replace H:=zT.mp H;obtain ⟨⟨t452,t453,t454⟩,A70,H⟩:=H;replace H : ((spec_EncodeValue.f k t452 t453 t454).bind fun bt455 => ((laws_toValue.f a0_0 a0_1 a0_2).bind fun bt459 => ((impl_EncodeValue.f k bt459.1 bt459.2.1 bt459.2.2).bind fun bt462 => ((laws_eqByteS.f k bt462.1 bt455.1).bind fun t466 => (if t466=true then (laws_FnExactEncodeValue.j0 k bt455.1 bt455.2 bt462.1 (bt462.2 != bt455.2) a0_0 a0_1 a0_2) else (laws_FnExactEncodeValue.j0 k bt455.1 bt455.2 bt462.1 true a0_0 a0_1 a0_2))))))=some r:=H;have A7:=zh A70;clear A70;replace H:=zT.mp H;obtain ⟨⟨t455,t458⟩,A80,H⟩:=H;replace H : ((laws_toValue.f a0_0 a0_1 a0_2).bind fun bt459 => ((impl_EncodeValue.f k bt459.1 bt459.2.1 bt459.2.2).bind fun bt462 => ((laws_eqByteS.f k bt462.1 t455).bind fun t466 => (if t466=true then (laws_FnExactEncodeValue.j0 k t455 t458 bt462.1 (bt462.2 != t458) a0_0 a0_1 a0_2) else (laws_FnExactEncodeValue.j0 k t455 t458 bt462.1 true a0_0 a0_1 a0_2)))))=some r:=H;have A8:=zh A80;clear A80;replace H:=zT.mp H;obtain ⟨⟨t459,t460,t461⟩,A90,H⟩:=H;replace H : ((impl_EncodeValue.f k t459 t460 t461).bind fun bt462 => ((laws_eqByteS.f k bt462.1 t455).bind fun t466 => (if t466=true then (laws_FnExactEncodeValue.j0 k t455 t458 bt462.1 (bt462.2 != t458) a0_0 a0_1 a0_2) else (laws_FnExactEncodeValue.j0 k t455 t458 bt462.1 true a0_0 a0_1 a0_2))))=some r:=H;have A9:=zh A90;clear A90;replace H:=zT.mp H;obtain ⟨⟨t462,t465⟩,A100,H⟩:=H;replace H : ((laws_eqByteS.f k t462 t455).bind fun t466 => (if t466=true then (laws_FnExactEncodeValue.j0 k t455 t458 t462 (t465 != t458) a0_0 a0_1 a0_2) else (laws_FnExactEncodeValue.j0 k t455 t458 t462 true a0_0 a0_1 a0_2)))=some r:=H;have A10:=zh A100;clear A100;have HC11:=zh H;clear H
 go_enter Try.func6,Try.ntmps6
 go_upto_region 7 with (first|((with_reducible refine zK (N:=1) rfl ?_);refine zI ?hg (N:=1) ?hd (cs:=#[.int .i64 a0_0,.int .i64 a0_1,.string a0_2]) (t:=23) ?hr ?_;(case hd => rfl);(case hg => rfl);(case hr => first|(go_simp;done)|(go_simp;rfl));intro gb450 hg w12 hbox hb;have BK450:=zh (hbox);have GW450:=zh ((by rw [hg];exact (zB (by repeat (with_reducible first|exact HB.out|apply za|apply zb|apply zc))) : w.heap.size≤gb450));have GE450:=zh ((by rw [hg];exact (zB (by repeat (with_reducible first|exact HB.out|apply za|apply zb|apply zc))) : w.heap.size≤gb450));replace HB:=zh (zC (by repeat (with_reducible first|exact HB.out|apply za|apply zb|apply zc)) hb);clear hb hbox hg;have hcz13_0 : w12.cell? ⟨gb450,0,none⟩=some (.int .i64 a0_0):=(zz BK450.out 0).trans rfl;have hcz13_1 : w12.cell? ⟨gb450,1,none⟩=some (.int .i64 a0_1):=(zz BK450.out 1).trans rfl;have hcz13_2 : w12.cell? ⟨gb450,2,none⟩=some (.string a0_2):=(zz BK450.out 2).trans rfl;have hfz13_0:=zA BK450.out 0;have hfz13_1:=zA BK450.out 1;have hfz13_2:=zA BK450.out 2)|((with_reducible refine zJ (f:=14) rfl ?_);refine yj (some 14) rfl rfl Try.func14 (by kernel_rfl) rfl #[.agg #[.int .i64 a0_0,.int .i64 a0_1,.string a0_2],.int .i64 1048576] rfl (by (try simp only [zt,zu,zv]);first|done|rfl|(simp only [zw,zx];rfl)|(simp only [yr,ys,zV,zW];rfl)) ?_;(with_reducible refine (laws_szValue.calls  a0_0 a0_1 a0_2 1048576 t451 _ A2.out).mono ?_);rintro e w14 ⟨rfl,hb⟩;refine ⟨_,rfl,?_⟩;replace BK450:=zh (zD (g:=gb450) (o:=.cells #[.int .i64 a0_0,.int .i64 a0_1,.string a0_2] 23 (0,0)) (by (with_reducible repeat (first|refine ze ?_ _|refine zf ?_|refine zg ?_ _));exact BK450.out) hb);replace HB:=zh (zC (by repeat (with_reducible first|exact HB.out|apply za|apply zb|apply zc|refine zd ?_ GE450.out)) hb);(try clear hb);(try clear hb2);(try clear hk);(try clear hi);have hcz15_0 : w14.cell? ⟨gb450,0,none⟩=some (.int .i64 a0_0):=(zz BK450.out 0).trans rfl;have hcz15_1 : w14.cell? ⟨gb450,1,none⟩=some (.int .i64 a0_1):=(zz BK450.out 1).trans rfl;have hcz15_2 : w14.cell? ⟨gb450,2,none⟩=some (.string a0_2):=(zz BK450.out 2).trans rfl;have hfz15_0:=zA BK450.out 0;have hfz15_1:=zA BK450.out 1;have hfz15_2:=zA BK450.out 2)|((with_reducible refine zJ (f:=16) rfl ?_);refine yj (some 19) rfl rfl Try.func16 (by kernel_rfl) rfl #[.agg #[.int .i64 a0_0,.int .i64 a0_1,.string a0_2]] rfl (by (try simp only [zt,zu,zv]);first|done|rfl|(simp only [zw,zx];rfl)|(simp only [yr,ys,zV,zW];rfl)) ?_;(with_reducible refine (laws_toValue.calls  a0_0 a0_1 a0_2 t452 t453 t454 _ A7.out).mono ?_);rintro e w16 ⟨rfl,hb⟩;refine ⟨_,rfl,?_⟩;replace BK450:=zh (zD (g:=gb450) (o:=.cells #[.int .i64 a0_0,.int .i64 a0_1,.string a0_2] 23 (0,0)) (by (with_reducible repeat (first|refine ze ?_ _|refine zf ?_|refine zg ?_ _));exact BK450.out) hb);replace HB:=zh (zC (by repeat (with_reducible first|exact HB.out|apply za|apply zb|apply zc|refine zd ?_ GE450.out)) hb);(try clear hb);(try clear hb2);(try clear hk);(try clear hi))|((with_reducible refine zJ (f:=25) rfl ?_);refine yj (some 20) rfl rfl Try.func25 (by kernel_rfl) rfl #[.agg #[.int .i64 t452,.int .i64 t453,.string t454]] rfl (by (try simp only [zt,zu,zv]);first|done|rfl|(simp only [zw,zx];rfl)|(simp only [yr,ys,zV,zW];rfl)) ?_;(with_reducible refine (spec_EncodeValue.calls k  t452 t453 t454 t455 t458 _ A8.out).mono ?_);rintro e w17 ⟨v456,rfl,ho0,hb⟩;refine ⟨_,rfl,?_⟩;have HO457:=zh (Kd.V_lower (Kd.V_mono (ok':=fun k_ => k_≠gb450) ho0 (fun k_ hk_ => (Kd.freshB (g:=gb450) (o:=.cells #[.int .i64 a0_0,.int .i64 a0_1,.string a0_2] 23 (0,0)) (by (with_reducible repeat (first|refine ze ?_ _|refine zf ?_|refine zg ?_ _));exact BK450.out) k_ hk_))) (zB (by repeat (with_reducible first|exact HB.out|apply za|apply zb|apply zc|refine zd ?_ GE450.out))));replace BK450:=zh (zD (g:=gb450) (o:=.cells #[.int .i64 a0_0,.int .i64 a0_1,.string a0_2] 23 (0,0)) (by (with_reducible repeat (first|refine ze ?_ _|refine zf ?_|refine zg ?_ _));exact BK450.out) hb);replace HB:=zh (zC (by repeat (with_reducible first|exact HB.out|apply za|apply zb|apply zc|refine zd ?_ GE450.out)) hb);(try clear hb);(try clear hb2);(try clear hk);(try clear hi);(try clear ho0);have hcz18_0 : w17.cell? ⟨gb450,0,none⟩=some (.int .i64 a0_0):=(zz BK450.out 0).trans rfl;have hcz18_1 : w17.cell? ⟨gb450,1,none⟩=some (.int .i64 a0_1):=(zz BK450.out 1).trans rfl;have hcz18_2 : w17.cell? ⟨gb450,2,none⟩=some (.string a0_2):=(zz BK450.out 2).trans rfl;have hfz18_0:=zA BK450.out 0;have hfz18_1:=zA BK450.out 1;have hfz18_2:=zA BK450.out 2)|((with_reducible refine zJ (f:=16) rfl ?_);refine yj (some 25) rfl rfl Try.func16 (by kernel_rfl) rfl #[.agg #[.int .i64 a0_0,.int .i64 a0_1,.string a0_2]] rfl (by (try simp only [zt,zu,zv]);first|done|rfl|(simp only [zw,zx];rfl)|(simp only [yr,ys,zV,zW];rfl)) ?_;(with_reducible refine (laws_toValue.calls  a0_0 a0_1 a0_2 t459 t460 t461 _ A9.out).mono ?_);rintro e w19 ⟨rfl,hb⟩;refine ⟨_,rfl,?_⟩;replace HO457:=zh (Kd.V_below (by (with_reducible repeat (first|apply Kd.V_alloc|apply Kd.V_drewN|apply Kd.V_drew));exact HO457.out) hb);replace BK450:=zh (zD (g:=gb450) (o:=.cells #[.int .i64 a0_0,.int .i64 a0_1,.string a0_2] 23 (0,0)) (by (with_reducible repeat (first|refine ze ?_ _|refine zf ?_|refine zg ?_ _));exact BK450.out) hb);replace HB:=zh (zC (by repeat (with_reducible first|exact HB.out|apply za|apply zb|apply zc|refine zd ?_ GE450.out)) hb);(try clear hb);(try clear hb2);(try clear hk);(try clear hi))|((with_reducible refine zJ (f:=26) rfl ?_);refine yj (some 26) rfl rfl Try.func26 (by kernel_rfl) rfl #[.agg #[.int .i64 t459,.int .i64 t460,.string t461]] rfl (by (try simp only [zt,zu,zv]);first|done|rfl|(simp only [zw,zx];rfl)|(simp only [yr,ys,zV,zW];rfl)) ?_;(with_reducible refine (impl_EncodeValue.calls k  t459 t460 t461 t462 t465 _ A10.out).mono ?_);rintro e w20 ⟨v463,rfl,ho0,hb⟩;refine ⟨_,rfl,?_⟩;replace HO457:=zh (Kd.V_elder' (by (with_reducible repeat (first|apply Kd.V_alloc|apply Kd.V_drewN|apply Kd.V_drew));exact HO457.out) (Kd.R_base ho0) hb);have HO464:=zh (yy ho0 (zB (by repeat (with_reducible first|exact HB.out|apply za|apply zb|apply zc|refine zd ?_ GE450.out))));replace BK450:=zh (zD (g:=gb450) (o:=.cells #[.int .i64 a0_0,.int .i64 a0_1,.string a0_2] 23 (0,0)) (by (with_reducible repeat (first|refine ze ?_ _|refine zf ?_|refine zg ?_ _));exact BK450.out) hb);replace HB:=zh (zC (by repeat (with_reducible first|exact HB.out|apply za|apply zb|apply zc|refine zd ?_ GE450.out)) hb);(try clear hb);(try clear hb2);(try clear hk);(try clear hi);(try clear ho0)))
 (try simp only [Act.put,zi,zj,zk])
 go_cut [37] (fun v37 wc => ∃ (kq : Nat) (x37_10 : Bool),v37 = .bool x37_10∧Aside0 (laws_FnExactEncodeValue.j0 kq t455 t458 t462 x37_10 a0_0 a0_1 a0_2=some r)∧Aside0 (kq≤k)∧Aside0 (Kd.V (Kd.int .u8) 5 wc w.heap.size (fun k_ => some k_≠(v463 : Value).ownBlock∧k_≠gb450) v456 t455)∧Aside0 (Kd.R (Kd.int .u8) 5 wc w.heap.size (fun _ => True) v463 t462)∧Aside0 (wc.heap[gb450]? = some (.cells #[.int .i64 a0_0,.int .i64 a0_1,.string a0_2] 23 (0,0)))∧Aside0 (Below w.heap.size w wc))
 case first =>
  have H:=HC11.out;clear HC11;replace H:=zT.mp H;obtain ⟨t466,A210,H⟩:=H;replace H : (if t466=true then (laws_FnExactEncodeValue.j0 k t455 t458 t462 (t465 != t458) a0_0 a0_1 a0_2) else (laws_FnExactEncodeValue.j0 k t455 t458 t462 true a0_0 a0_1 a0_2))=some r:=H;have A21:=zh A210;clear A210
  by_cases c22 : t466=true
  ·
   subst c22
   have H1 : (laws_FnExactEncodeValue.j0 k t455 t458 t462 (t465 != t458) a0_0 a0_1 a0_2)=some r:=by rw [if_pos rfl] at H;exact H
   clear H;have H:=H1;clear H1;have H':=zh H;clear H;obtain ⟨Ao23,co23,eo23⟩:=yk HO464.out;subst eo23;obtain ⟨Ao24,co24,eo24⟩:=Kd.V_slice HO457.out;subst eo24
   go_wp2_with (first|((with_reducible refine zJ (f:=22) rfl ?_);refine yj (some 31) rfl rfl Try.func22 (by kernel_rfl) rfl #[.slice Ao23 t462.length co23,.slice Ao24 t455.length co24] rfl (by (try simp only [zt,zu,zv]);first|done|rfl|(simp only [zw,zx];rfl)|(simp only [yr,ys,zV,zW];rfl)) ?_;(with_reducible refine (laws_eqByteS.calls k  _ _ t462 _ _ t455 true _ ?side1 ?side2 ?side3 ?side4 A21.out).mono ?_);(case side1 => repeat (first|exact (yh HO464.out).2.2|(with_reducible refine Kd.C_alloc ?_ _)|(with_reducible refine Kd.C_drewN ?_ _)|(with_reducible refine Kd.C_drew ?_)));(case side2 => exact (yh HO464.out).2.1);(case side3 => repeat (first|exact (Kd.V_reads' HO457.out).2.2|(with_reducible refine Kd.C_alloc ?_ _)|(with_reducible refine Kd.C_drewN ?_ _)|(with_reducible refine Kd.C_drew ?_)));(case side4 => exact (Kd.V_reads' HO457.out).2.1);rintro e w' ⟨rfl,⟨nd,rfl⟩⟩;refine ⟨_,rfl,?_⟩))
   go_meet
   case rel => exact ⟨_,((t465 != t458)),(by first|rfl|(simp;done)|(simp [*];done)),H',⟨by first|omega|exact ye _⟩,⟨by (with_reducible repeat (first|apply Kd.V_alloc|apply Kd.V_drewN|apply Kd.V_drew));exact Kd.V_mono HO457.out (fun _ hk => ⟨hk.2,hk.1⟩)⟩,⟨by (with_reducible repeat (first|apply zm|apply zn|apply zo));exact HO464.out⟩,⟨by (with_reducible repeat (first|refine ze ?_ _|refine zf ?_|refine zg ?_ _));exact BK450.out⟩,⟨by repeat (with_reducible first|exact HB.out|apply za|apply zb|apply zc|refine zd ?_ GE450.out)⟩⟩
  replace c22:=yb.mpr c22;subst c22;have H1 : (laws_FnExactEncodeValue.j0 k t455 t458 t462 true a0_0 a0_1 a0_2)=some r:=by rw [if_neg (show ¬ (false=true) by decide)] at H;exact H
  clear H;have H:=H1;clear H1;have H':=zh H;clear H;obtain ⟨Ao25,co25,eo25⟩:=yk HO464.out;subst eo25;obtain ⟨Ao26,co26,eo26⟩:=Kd.V_slice HO457.out;subst eo26
  go_wp2_with (first|((with_reducible refine zJ (f:=22) rfl ?_);refine yj (some 31) rfl rfl Try.func22 (by kernel_rfl) rfl #[.slice Ao25 t462.length co25,.slice Ao26 t455.length co26] rfl (by (try simp only [zt,zu,zv]);first|done|rfl|(simp only [zw,zx];rfl)|(simp only [yr,ys,zV,zW];rfl)) ?_;(with_reducible refine (laws_eqByteS.calls k  _ _ t462 _ _ t455 false _ ?side1 ?side2 ?side3 ?side4 A21.out).mono ?_);(case side1 => repeat (first|exact (yh HO464.out).2.2|(with_reducible refine Kd.C_alloc ?_ _)|(with_reducible refine Kd.C_drewN ?_ _)|(with_reducible refine Kd.C_drew ?_)));(case side2 => exact (yh HO464.out).2.1);(case side3 => repeat (first|exact (Kd.V_reads' HO457.out).2.2|(with_reducible refine Kd.C_alloc ?_ _)|(with_reducible refine Kd.C_drewN ?_ _)|(with_reducible refine Kd.C_drew ?_)));(case side4 => exact (Kd.V_reads' HO457.out).2.1);rintro e w' ⟨rfl,⟨nd,rfl⟩⟩;refine ⟨_,rfl,?_⟩))
  go_meet
  case rel => exact ⟨_,(true),(by first|rfl|(simp;done)|(simp [*];done)),H',⟨by first|omega|exact ye _⟩,⟨by (with_reducible repeat (first|apply Kd.V_alloc|apply Kd.V_drewN|apply Kd.V_drew));exact Kd.V_mono HO457.out (fun _ hk => ⟨hk.2,hk.1⟩)⟩,⟨by (with_reducible repeat (first|apply zm|apply zn|apply zo));exact HO464.out⟩,⟨by (with_reducible repeat (first|refine ze ?_ _|refine zf ?_|refine zg ?_ _));exact BK450.out⟩,⟨by repeat (with_reducible first|exact HB.out|apply za|apply zb|apply zc|refine zd ?_ GE450.out)⟩⟩
 case rest =>
  clear HC11
  try clear c1
  try clear c2
  try clear p2
  try clear c3
  try clear c3b0
  try clear c6
  try clear c14
  try clear c16
  try clear c22
  try clear c25
  try clear c26
  try clear hcz13_0
  try clear hcz13_1
  try clear hcz13_2
  try clear hcz15_0
  try clear hcz15_1
  try clear hcz15_2
  try clear hcz18_0
  try clear hcz18_1
  try clear hcz18_2
  try clear hcz5_0
  try clear hcz5_1
  try clear hcz5_2
  try clear hfz13_0
  try clear hfz13_1
  try clear hfz13_2
  try clear hfz15_0
  try clear hfz15_1
  try clear hfz15_2
  try clear hfz18_0
  try clear hfz18_1
  try clear hfz18_2
  try clear hfz5_0
  try clear hfz5_1
  try clear hfz5_2
  obtain ⟨kq,x37_10,rfl,HA,HJ10,HO_4,HO_6,BK450,HB⟩:=hcut
  cases kq with
  | zero => exact absurd HA.out (by simp [laws_FnExactEncodeValue.j0])
  | succ kj10 =>
   have H:=HA.out;clear HA;simp only [laws_FnExactEncodeValue.j0] at H
   by_cases c27 : x37_10=true
   ·
    subst c27
    have H1 : (some false)=some r:=by rw [if_pos rfl] at H;exact H
    clear H;have H:=H1;clear H1;obtain rfl:=zU H
    go_wp2
    go_ret
    exact ⟨by first|rfl|(simp [yt,yu] <;> rfl)|(simp [*,yt,yu] <;> rfl),by repeat (with_reducible first|exact HB.out|apply za|apply zb|apply zc|refine zd ?_ GE450.out)⟩
   replace c27:=yb.mpr c27;subst c27;have H1 : ((laws_markByteS.f kj10 t462 1).bind fun bt467 => ((laws_heldByteS.f kj10 bt467.2 1).bind fun t469 => (if t469<0 then (some false) else (if t469=bt467.1 then ((laws_toValue.f a0_0 a0_1 a0_2).bind fun bt470 => ((impl_EncodeValue.f kj10 bt470.1 bt470.2.1 bt470.2.2).bind fun bt473 => ((laws_eqByteS.f kj10 bt473.1 t455).bind fun t477 => (if t477=true then (laws_FnExactEncodeValue.j1 kj10 bt467.2 bt467.1 (bt473.2 != t458)) else (laws_FnExactEncodeValue.j1 kj10 bt467.2 bt467.1 true))))) else (some false)))))=some r:=by rw [if_neg (show ¬ (false=true) by decide)] at H;exact H
   clear H;have H:=H1;clear H1;replace H:=zT.mp H;obtain ⟨⟨t467,t468⟩,A280,H⟩:=H;replace H : ((laws_heldByteS.f kj10 t468 1).bind fun t469 => (if t469<0 then (some false) else (if t469=t467 then ((laws_toValue.f a0_0 a0_1 a0_2).bind fun bt470 => ((impl_EncodeValue.f kj10 bt470.1 bt470.2.1 bt470.2.2).bind fun bt473 => ((laws_eqByteS.f kj10 bt473.1 t455).bind fun t477 => (if t477=true then (laws_FnExactEncodeValue.j1 kj10 t468 t467 (bt473.2 != t458)) else (laws_FnExactEncodeValue.j1 kj10 t468 t467 true))))) else (some false))))=some r:=H;have A28:=zh A280;clear A280;replace H:=zT.mp H;obtain ⟨t469,A290,H⟩:=H;replace H : (if t469<0 then (some false) else (if t469=t467 then ((laws_toValue.f a0_0 a0_1 a0_2).bind fun bt470 => ((impl_EncodeValue.f kj10 bt470.1 bt470.2.1 bt470.2.2).bind fun bt473 => ((laws_eqByteS.f kj10 bt473.1 t455).bind fun t477 => (if t477=true then (laws_FnExactEncodeValue.j1 kj10 t468 t467 (bt473.2 != t458)) else (laws_FnExactEncodeValue.j1 kj10 t468 t467 true))))) else (some false)))=some r:=H;have A29:=zh A290;clear A290
   by_cases c30 : t469<0
   ·
    rw [if_pos c30] at H
    have c30b0 : decide (t469<0)=true:=decide_eq_true c30;clear c30;obtain rfl:=zU H;obtain ⟨Ao31,co31,eo31⟩:=yk HO_6.out;subst eo31
    go_wp2_with (first|((with_reducible refine zJ (f:=27) rfl ?_);refine yj (some 40) rfl rfl Try.func27 (by kernel_rfl) rfl #[.slice Ao31 t462.length co31,.int .i64 1] rfl (by (try simp only [zt,zu,zv]);first|done|rfl|(simp only [zw,zx];rfl)|(simp only [yr,ys,zV,zW];rfl)) ?_;(with_reducible refine (laws_markByteS.calls kj10  (fun k_ => some k_=(.slice Ao31 t462.length co31 : Value).ownBlock) (.slice Ao31 t462.length co31) t462 1 t467 t468 w _ ?side1 ?side2 A28.out).mono ?_);(case side1 => repeat (with_reducible first|exact HB.out|apply za|apply zb|apply zc|refine zd ?_ GE450.out));(case side2 => exact Kd.R_tight rfl HO_6.out);rintro e w32 ⟨rfl,hy0,hb,hkp⟩;refine ⟨_,rfl,?_⟩;replace HO_4:=zh (Kd.V_mono (ok':=fun k_ => some k_≠(.slice Ao31 t462.length co31 : Value).ownBlock∧k_≠gb450) (Kd.V_keptB (HO_4.out) hkp (fun k_ hk_ hs_ => (hk_.1) hs_)) (fun k_ hk_ => ⟨hk_.1.1,hk_.1.2⟩));replace BK450:=zh (blk_kept (by (with_reducible repeat (first|refine ze ?_ _|refine zf ?_|refine zg ?_ _));exact BK450.out) hkp (fun hs_ => (fun e_ => (Kd.R_ne HO_6.out BK450.out (by decide)) e_) hs_));replace HO_6:=zh (Kd.R_reok rfl hy0 (fun k_ e_ => HO_6.out.1 k_ e_));replace HB:=zh (hb);(try clear hb);(try clear hkp);(try clear hy0))|((with_reducible refine zJ (f:=28) rfl ?_);refine yj (some 43) rfl rfl Try.func28 (by kernel_rfl) rfl #[.slice Ao31 t468.length co31,.int .i64 1] rfl (by (try simp only [zt,zu,zv]);first|done|(rw [show t468.length=t462.length from (yh HO_6.out).1.symm] <;> rfl)|rfl|(simp only [zw,zx];rfl)|(simp only [yr,ys,zV,zW];rfl)) ?_;(with_reducible refine (laws_heldByteS.calls kj10  _ _ t468 1 t469 _ ?side1 ?side2 A29.out).mono ?_);(case side1 => repeat (first|exact (yh HO_6.out).2.2|(with_reducible refine Kd.C_alloc ?_ _)|(with_reducible refine Kd.C_drewN ?_ _)|(with_reducible refine Kd.C_drew ?_)));(case side2 => rw [show t468.length=t462.length from (yh HO_6.out).1.symm];exact (yh HO_6.out).2.1);rintro e w' ⟨rfl,⟨nd,rfl⟩⟩;refine ⟨_,rfl,?_⟩))
    go_ret
    exact ⟨by first|rfl|(simp [yt,yu] <;> rfl)|(simp [*,yt,yu] <;> rfl),by repeat (with_reducible first|exact HB.out|apply za|apply zb|apply zc|refine zd ?_ GE450.out)⟩
   rw [if_neg c30] at H;have c30b0 : decide (t469<0)=false:=decide_eq_false c30;clear c30
   by_cases c33 : t469=t467
   ·
    rw [if_pos c33] at H
    have c33b0 : (t469 == t467)=true:=ya.mpr c33;have c33b1 : (t469 != t467)=false:=zX.mpr c33;clear c33;replace H:=zT.mp H;obtain ⟨⟨t470,t471,t472⟩,A340,H⟩:=H;replace H : ((impl_EncodeValue.f kj10 t470 t471 t472).bind fun bt473 => ((laws_eqByteS.f kj10 bt473.1 t455).bind fun t477 => (if t477=true then (laws_FnExactEncodeValue.j1 kj10 t468 t467 (bt473.2 != t458)) else (laws_FnExactEncodeValue.j1 kj10 t468 t467 true))))=some r:=H;have A34:=zh A340;clear A340;replace H:=zT.mp H;obtain ⟨⟨t473,t476⟩,A350,H⟩:=H;replace H : ((laws_eqByteS.f kj10 t473 t455).bind fun t477 => (if t477=true then (laws_FnExactEncodeValue.j1 kj10 t468 t467 (t476 != t458)) else (laws_FnExactEncodeValue.j1 kj10 t468 t467 true)))=some r:=H;have A35:=zh A350;clear A350;have HC36:=zh H;clear H;obtain ⟨Ao37,co37,eo37⟩:=yk HO_6.out;subst eo37
    go_upto_region 18 with (first|((with_reducible refine zJ (f:=27) rfl ?_);refine yj (some 40) rfl rfl Try.func27 (by kernel_rfl) rfl #[.slice Ao37 t462.length co37,.int .i64 1] rfl (by (try simp only [zt,zu,zv]);first|done|rfl|(simp only [zw,zx];rfl)|(simp only [yr,ys,zV,zW];rfl)) ?_;(with_reducible refine (laws_markByteS.calls kj10  (fun k_ => some k_=(.slice Ao37 t462.length co37 : Value).ownBlock) (.slice Ao37 t462.length co37) t462 1 t467 t468 w _ ?side1 ?side2 A28.out).mono ?_);(case side1 => repeat (with_reducible first|exact HB.out|apply za|apply zb|apply zc|refine zd ?_ GE450.out));(case side2 => exact Kd.R_tight rfl HO_6.out);rintro e w38 ⟨rfl,hy0,hb,hkp⟩;refine ⟨_,rfl,?_⟩;replace HO_4:=zh (Kd.V_mono (ok':=fun k_ => some k_≠(.slice Ao37 t462.length co37 : Value).ownBlock∧k_≠gb450) (Kd.V_keptB (HO_4.out) hkp (fun k_ hk_ hs_ => (hk_.1) hs_)) (fun k_ hk_ => ⟨hk_.1.1,hk_.1.2⟩));replace BK450:=zh (blk_kept (by (with_reducible repeat (first|refine ze ?_ _|refine zf ?_|refine zg ?_ _));exact BK450.out) hkp (fun hs_ => (fun e_ => (Kd.R_ne HO_6.out BK450.out (by decide)) e_) hs_));replace HO_6:=zh (Kd.R_reok rfl hy0 (fun k_ e_ => HO_6.out.1 k_ e_));replace HB:=zh (hb);(try clear hb);(try clear hkp);(try clear hy0))|((with_reducible refine zJ (f:=28) rfl ?_);refine yj (some 43) rfl rfl Try.func28 (by kernel_rfl) rfl #[.slice Ao37 t468.length co37,.int .i64 1] rfl (by (try simp only [zt,zu,zv]);first|done|(rw [show t468.length=t462.length from (yh HO_6.out).1.symm] <;> rfl)|rfl|(simp only [zw,zx];rfl)|(simp only [yr,ys,zV,zW];rfl)) ?_;(with_reducible refine (laws_heldByteS.calls kj10  _ _ t468 1 t469 _ ?side1 ?side2 A29.out).mono ?_);(case side1 => repeat (first|exact (yh HO_6.out).2.2|(with_reducible refine Kd.C_alloc ?_ _)|(with_reducible refine Kd.C_drewN ?_ _)|(with_reducible refine Kd.C_drew ?_)));(case side2 => rw [show t468.length=t462.length from (yh HO_6.out).1.symm];exact (yh HO_6.out).2.1);rintro e w' ⟨rfl,⟨nd,rfl⟩⟩;refine ⟨_,rfl,?_⟩;have hcz39_0 : w38.cell? ⟨gb450,0,none⟩=some (.int .i64 a0_0):=(zz BK450.out 0).trans rfl;have hcz39_1 : w38.cell? ⟨gb450,1,none⟩=some (.int .i64 a0_1):=(zz BK450.out 1).trans rfl;have hcz39_2 : w38.cell? ⟨gb450,2,none⟩=some (.string a0_2):=(zz BK450.out 2).trans rfl;have hfz39_0:=zA BK450.out 0;have hfz39_1:=zA BK450.out 1;have hfz39_2:=zA BK450.out 2)|((with_reducible refine zJ (f:=16) rfl ?_);refine yj (some 51) rfl rfl Try.func16 (by kernel_rfl) rfl #[.agg #[.int .i64 a0_0,.int .i64 a0_1,.string a0_2]] rfl (by (try simp only [zt,zu,zv]);first|done|rfl|(simp only [zw,zx];rfl)|(simp only [yr,ys,zV,zW];rfl)) ?_;(with_reducible refine (laws_toValue.calls  a0_0 a0_1 a0_2 t470 t471 t472 _ A34.out).mono ?_);rintro e w40 ⟨rfl,hb⟩;refine ⟨_,rfl,?_⟩;replace HO_4:=zh (Kd.V_below (by (with_reducible repeat (first|apply Kd.V_alloc|apply Kd.V_drewN|apply Kd.V_drew));exact HO_4.out) hb);replace HO_6:=zh (yg (by (with_reducible repeat (first|apply zm|apply zn|apply zo));exact HO_6.out) hb);replace BK450:=zh (zD (g:=gb450) (o:=.cells #[.int .i64 a0_0,.int .i64 a0_1,.string a0_2] 23 (0,0)) (by (with_reducible repeat (first|refine ze ?_ _|refine zf ?_|refine zg ?_ _));exact BK450.out) hb);replace HB:=zh (zC (by repeat (with_reducible first|exact HB.out|apply za|apply zb|apply zc|refine zd ?_ GE450.out)) hb);(try clear hb);(try clear hb2);(try clear hk);(try clear hi))|((with_reducible refine zJ (f:=26) rfl ?_);refine yj (some 52) rfl rfl Try.func26 (by kernel_rfl) rfl #[.agg #[.int .i64 t470,.int .i64 t471,.string t472]] rfl (by (try simp only [zt,zu,zv]);first|done|rfl|(simp only [zw,zx];rfl)|(simp only [yr,ys,zV,zW];rfl)) ?_;(with_reducible refine (impl_EncodeValue.calls kj10  t470 t471 t472 t473 t476 _ A35.out).mono ?_);rintro e w41 ⟨v474,rfl,ho0,hb⟩;refine ⟨_,rfl,?_⟩;replace HO_4:=zh (Kd.V_elder' (by (with_reducible repeat (first|apply Kd.V_alloc|apply Kd.V_drewN|apply Kd.V_drew));exact HO_4.out) (Kd.R_base ho0) hb);have HO475:=zh (yy (Kd.R_new' ho0 (Kd.R_lt (by (with_reducible repeat (first|apply zm|apply zn|apply zo));exact HO_6.out))) (zB (by repeat (with_reducible first|exact HB.out|apply za|apply zb|apply zc|refine zd ?_ GE450.out))));replace HO_6:=zh (Kd.R_elder' (by (with_reducible repeat (first|apply zm|apply zn|apply zo));exact HO_6.out) (Kd.R_base ho0) hb);replace BK450:=zh (zD (g:=gb450) (o:=.cells #[.int .i64 a0_0,.int .i64 a0_1,.string a0_2] 23 (0,0)) (by (with_reducible repeat (first|refine ze ?_ _|refine zf ?_|refine zg ?_ _));exact BK450.out) hb);replace HB:=zh (zC (by repeat (with_reducible first|exact HB.out|apply za|apply zb|apply zc|refine zd ?_ GE450.out)) hb);(try clear hb);(try clear hb2);(try clear hk);(try clear hi);(try clear ho0)))
    (try simp only [Act.put,zi,zj,zk])
    go_cut [63] (fun v63 wc => ∃ (kq : Nat) (x63_35 : Bool),v63 = .bool x63_35∧Aside0 (laws_FnExactEncodeValue.j1 kq t468 t467 x63_35=some r)∧Aside0 (kq≤kj10)∧Aside0 (Kd.R (Kd.int .u8) 5 wc w.heap.size (fun _ => True) (.slice Ao37 t462.length co37) t468)∧Aside0 (wc.heap[gb450]? = some (.cells #[.int .i64 a0_0,.int .i64 a0_1,.string a0_2] 23 (0,0)))∧Aside0 (Below w.heap.size w wc))
    case first =>
     have H:=HC36.out;clear HC36;replace H:=zT.mp H;obtain ⟨t477,A420,H⟩:=H;replace H : (if t477=true then (laws_FnExactEncodeValue.j1 kj10 t468 t467 (t476 != t458)) else (laws_FnExactEncodeValue.j1 kj10 t468 t467 true))=some r:=H;have A42:=zh A420;clear A420
     by_cases c43 : t477=true
     ·
      subst c43
      have H1 : (laws_FnExactEncodeValue.j1 kj10 t468 t467 (t476 != t458))=some r:=by rw [if_pos rfl] at H;exact H
      clear H;have H:=H1;clear H1;have H':=zh H;clear H;obtain ⟨Ao44,co44,eo44⟩:=yk HO475.out;subst eo44;obtain ⟨Ao45,co45,eo45⟩:=Kd.V_slice HO_4.out;subst eo45
      go_wp2_with (first|((with_reducible refine zJ (f:=22) rfl ?_);refine yj (some 57) rfl rfl Try.func22 (by kernel_rfl) rfl #[.slice Ao44 t473.length co44,.slice Ao45 t455.length co45] rfl (by (try simp only [zt,zu,zv]);first|done|rfl|(simp only [zw,zx];rfl)|(simp only [yr,ys,zV,zW];rfl)) ?_;(with_reducible refine (laws_eqByteS.calls kj10  _ _ t473 _ _ t455 true _ ?side1 ?side2 ?side3 ?side4 A42.out).mono ?_);(case side1 => repeat (first|exact (yh HO475.out).2.2|(with_reducible refine Kd.C_alloc ?_ _)|(with_reducible refine Kd.C_drewN ?_ _)|(with_reducible refine Kd.C_drew ?_)));(case side2 => exact (yh HO475.out).2.1);(case side3 => repeat (first|exact (Kd.V_reads' HO_4.out).2.2|(with_reducible refine Kd.C_alloc ?_ _)|(with_reducible refine Kd.C_drewN ?_ _)|(with_reducible refine Kd.C_drew ?_)));(case side4 => exact (Kd.V_reads' HO_4.out).2.1);rintro e w' ⟨rfl,⟨nd,rfl⟩⟩;refine ⟨_,rfl,?_⟩))
      go_meet
      case rel => exact ⟨_,((t476 != t458)),(by first|rfl|(simp;done)|(simp [*];done)),H',⟨by have:=HJ10.out;first|omega|exact ye _⟩,⟨by (with_reducible repeat (first|apply zm|apply zn|apply zo));exact zM HO_6.out (fun _ hk => trivial)⟩,⟨by (with_reducible repeat (first|refine ze ?_ _|refine zf ?_|refine zg ?_ _));exact BK450.out⟩,⟨by repeat (with_reducible first|exact HB.out|apply za|apply zb|apply zc|refine zd ?_ GE450.out)⟩⟩
     replace c43:=yb.mpr c43;subst c43;have H1 : (laws_FnExactEncodeValue.j1 kj10 t468 t467 true)=some r:=by rw [if_neg (show ¬ (false=true) by decide)] at H;exact H
     clear H;have H:=H1;clear H1;have H':=zh H;clear H;obtain ⟨Ao46,co46,eo46⟩:=yk HO475.out;subst eo46;obtain ⟨Ao47,co47,eo47⟩:=Kd.V_slice HO_4.out;subst eo47
     go_wp2_with (first|((with_reducible refine zJ (f:=22) rfl ?_);refine yj (some 57) rfl rfl Try.func22 (by kernel_rfl) rfl #[.slice Ao46 t473.length co46,.slice Ao47 t455.length co47] rfl (by (try simp only [zt,zu,zv]);first|done|rfl|(simp only [zw,zx];rfl)|(simp only [yr,ys,zV,zW];rfl)) ?_;(with_reducible refine (laws_eqByteS.calls kj10  _ _ t473 _ _ t455 false _ ?side1 ?side2 ?side3 ?side4 A42.out).mono ?_);(case side1 => repeat (first|exact (yh HO475.out).2.2|(with_reducible refine Kd.C_alloc ?_ _)|(with_reducible refine Kd.C_drewN ?_ _)|(with_reducible refine Kd.C_drew ?_)));(case side2 => exact (yh HO475.out).2.1);(case side3 => repeat (first|exact (Kd.V_reads' HO_4.out).2.2|(with_reducible refine Kd.C_alloc ?_ _)|(with_reducible refine Kd.C_drewN ?_ _)|(with_reducible refine Kd.C_drew ?_)));(case side4 => exact (Kd.V_reads' HO_4.out).2.1);rintro e w' ⟨rfl,⟨nd,rfl⟩⟩;refine ⟨_,rfl,?_⟩))
     go_meet
     case rel => exact ⟨_,(true),(by first|rfl|(simp;done)|(simp [*];done)),H',⟨by have:=HJ10.out;first|omega|exact ye _⟩,⟨by (with_reducible repeat (first|apply zm|apply zn|apply zo));exact zM HO_6.out (fun _ hk => trivial)⟩,⟨by (with_reducible repeat (first|refine ze ?_ _|refine zf ?_|refine zg ?_ _));exact BK450.out⟩,⟨by repeat (with_reducible first|exact HB.out|apply za|apply zb|apply zc|refine zd ?_ GE450.out)⟩⟩
    case rest =>
     clear HC36
     try clear c1
     try clear c2
     try clear p2
     try clear c3
     try clear c3b0
     try clear c4
     try clear c6
     try clear c14
     try clear c16
     try clear c22
     try clear c25
     try clear c26
     try clear c27
     try clear c28
     try clear c30
     try clear c30b0
     try clear c33
     try clear c33b0
     try clear c33b1
     try clear c43
     try clear hcz13_0
     try clear hcz13_1
     try clear hcz13_2
     try clear hcz15_0
     try clear hcz15_1
     try clear hcz15_2
     try clear hcz18_0
     try clear hcz18_1
     try clear hcz18_2
     try clear hcz39_0
     try clear hcz39_1
     try clear hcz39_2
     try clear hcz5_0
     try clear hcz5_1
     try clear hcz5_2
     try clear hfz13_0
     try clear hfz13_1
     try clear hfz13_2
     try clear hfz15_0
     try clear hfz15_1
     try clear hfz15_2
     try clear hfz18_0
     try clear hfz18_1
     try clear hfz18_2
     try clear hfz39_0
     try clear hfz39_1
     try clear hfz39_2
     try clear hfz5_0
     try clear hfz5_1
     try clear hfz5_2
     try clear p2
     obtain ⟨kq,x63_35,rfl,HA,HJ35,HO_6,BK450,HB⟩:=hcut;have hl6_35:=(yh HO_6.out).1;rw [hl6_35] at HO_6;(try simp only [hl6_35]);(try simp only [hl6_35] at BK450)
     cases kq with
     | zero => exact absurd HA.out (by simp [laws_FnExactEncodeValue.j1])
     | succ kj35 =>
      have H:=HA.out;clear HA;simp only [laws_FnExactEncodeValue.j1] at H
      by_cases c48 : x63_35=true
      ·
       subst c48
       have H1 : (some false)=some r:=by rw [if_pos rfl] at H;exact H
       clear H;have H:=H1;clear H1;obtain rfl:=zU H
       go_wp2
       go_ret
       exact ⟨by first|rfl|(simp [yt,yu] <;> rfl)|(simp [*,yt,yu] <;> rfl),by repeat (with_reducible first|exact HB.out|apply za|apply zb|apply zc|refine zd ?_ GE450.out)⟩
      replace c48:=yb.mpr c48;subst c48;have H1 : ((laws_heldByteS.f kj35 t468 1).bind fun t478 => (if t478<0 then (some false) else (if t478=t467 then (some true) else (some false))))=some r:=by rw [if_neg (show ¬ (false=true) by decide)] at H;exact H
      clear H;have H:=H1;clear H1;replace H:=zT.mp H;obtain ⟨t478,A490,H⟩:=H;replace H : (if t478<0 then (some false) else (if t478=t467 then (some true) else (some false)))=some r:=H;have A49:=zh A490;clear A490
      by_cases c50 : t478<0
      ·
       rw [if_pos c50] at H
       have c50b0 : decide (t478<0)=true:=decide_eq_true c50;clear c50;obtain rfl:=zU H
       go_wp2_with (first|((with_reducible refine zJ (f:=28) rfl ?_);refine yj (some 66) rfl rfl Try.func28 (by kernel_rfl) rfl #[.slice Ao37 t468.length co37,.int .i64 1] rfl (by (try simp only [zt,zu,zv]);first|done|rfl|(simp only [zw,zx];rfl)|(simp only [yr,ys,zV,zW];rfl)) ?_;(with_reducible refine (laws_heldByteS.calls kj35  _ _ t468 1 t478 _ ?side1 ?side2 A49.out).mono ?_);(case side1 => repeat (first|exact (yh HO_6.out).2.2|(with_reducible refine Kd.C_alloc ?_ _)|(with_reducible refine Kd.C_drewN ?_ _)|(with_reducible refine Kd.C_drew ?_)));(case side2 => exact (yh HO_6.out).2.1);rintro e w' ⟨rfl,⟨nd,rfl⟩⟩;refine ⟨_,rfl,?_⟩))
       go_ret
       exact ⟨by first|rfl|(simp [yt,yu] <;> rfl)|(simp [*,yt,yu] <;> rfl),by repeat (with_reducible first|exact HB.out|apply za|apply zb|apply zc|refine zd ?_ GE450.out)⟩
      rw [if_neg c50] at H;have c50b0 : decide (t478<0)=false:=decide_eq_false c50;clear c50
      by_cases c51 : t478=t467
      ·
       rw [if_pos c51] at H
       have c51b0 : (t478 == t467)=true:=ya.mpr c51;have c51b1 : (t478 != t467)=false:=zX.mpr c51;clear c51;obtain rfl:=zU H
       go_wp2_with (first|((with_reducible refine zJ (f:=28) rfl ?_);refine yj (some 66) rfl rfl Try.func28 (by kernel_rfl) rfl #[.slice Ao37 t468.length co37,.int .i64 1] rfl (by (try simp only [zt,zu,zv]);first|done|rfl|(simp only [zw,zx];rfl)|(simp only [yr,ys,zV,zW];rfl)) ?_;(with_reducible refine (laws_heldByteS.calls kj35  _ _ t468 1 t478 _ ?side1 ?side2 A49.out).mono ?_);(case side1 => repeat (first|exact (yh HO_6.out).2.2|(with_reducible refine Kd.C_alloc ?_ _)|(with_reducible refine Kd.C_drewN ?_ _)|(with_reducible refine Kd.C_drew ?_)));(case side2 => exact (yh HO_6.out).2.1);rintro e w' ⟨rfl,⟨nd,rfl⟩⟩;refine ⟨_,rfl,?_⟩))
       go_ret
       exact ⟨by first|rfl|(simp [yt,yu] <;> rfl)|(simp [*,yt,yu] <;> rfl),by repeat (with_reducible first|exact HB.out|apply za|apply zb|apply zc|refine zd ?_ GE450.out)⟩
      rw [if_neg c51] at H;have c51b0 : (t478 == t467)=false:=zY.mpr c51;have c51b1 : (t478 != t467)=true:=zZ.mpr c51;obtain rfl:=zU H
      go_wp2_with (first|((with_reducible refine zJ (f:=28) rfl ?_);refine yj (some 66) rfl rfl Try.func28 (by kernel_rfl) rfl #[.slice Ao37 t468.length co37,.int .i64 1] rfl (by (try simp only [zt,zu,zv]);first|done|rfl|(simp only [zw,zx];rfl)|(simp only [yr,ys,zV,zW];rfl)) ?_;(with_reducible refine (laws_heldByteS.calls kj35  _ _ t468 1 t478 _ ?side1 ?side2 A49.out).mono ?_);(case side1 => repeat (first|exact (yh HO_6.out).2.2|(with_reducible refine Kd.C_alloc ?_ _)|(with_reducible refine Kd.C_drewN ?_ _)|(with_reducible refine Kd.C_drew ?_)));(case side2 => exact (yh HO_6.out).2.1);rintro e w' ⟨rfl,⟨nd,rfl⟩⟩;refine ⟨_,rfl,?_⟩))
      go_ret
      exact ⟨by first|rfl|(simp [yt,yu] <;> rfl)|(simp [*,yt,yu] <;> rfl),by repeat (with_reducible first|exact HB.out|apply za|apply zb|apply zc|refine zd ?_ GE450.out)⟩
   rw [if_neg c33] at H;have c33b0 : (t469 == t467)=false:=zY.mpr c33;have c33b1 : (t469 != t467)=true:=zZ.mpr c33;obtain rfl:=zU H;obtain ⟨Ao52,co52,eo52⟩:=yk HO_6.out;subst eo52
   go_wp2_with (first|((with_reducible refine zJ (f:=27) rfl ?_);refine yj (some 40) rfl rfl Try.func27 (by kernel_rfl) rfl #[.slice Ao52 t462.length co52,.int .i64 1] rfl (by (try simp only [zt,zu,zv]);first|done|rfl|(simp only [zw,zx];rfl)|(simp only [yr,ys,zV,zW];rfl)) ?_;(with_reducible refine (laws_markByteS.calls kj10  (fun k_ => some k_=(.slice Ao52 t462.length co52 : Value).ownBlock) (.slice Ao52 t462.length co52) t462 1 t467 t468 w _ ?side1 ?side2 A28.out).mono ?_);(case side1 => repeat (with_reducible first|exact HB.out|apply za|apply zb|apply zc|refine zd ?_ GE450.out));(case side2 => exact Kd.R_tight rfl HO_6.out);rintro e w53 ⟨rfl,hy0,hb,hkp⟩;refine ⟨_,rfl,?_⟩;replace HO_4:=zh (Kd.V_mono (ok':=fun k_ => some k_≠(.slice Ao52 t462.length co52 : Value).ownBlock∧k_≠gb450) (Kd.V_keptB (HO_4.out) hkp (fun k_ hk_ hs_ => (hk_.1) hs_)) (fun k_ hk_ => ⟨hk_.1.1,hk_.1.2⟩));replace BK450:=zh (blk_kept (by (with_reducible repeat (first|refine ze ?_ _|refine zf ?_|refine zg ?_ _));exact BK450.out) hkp (fun hs_ => (fun e_ => (Kd.R_ne HO_6.out BK450.out (by decide)) e_) hs_));replace HO_6:=zh (Kd.R_reok rfl hy0 (fun k_ e_ => HO_6.out.1 k_ e_));replace HB:=zh (hb);(try clear hb);(try clear hkp);(try clear hy0))|((with_reducible refine zJ (f:=28) rfl ?_);refine yj (some 43) rfl rfl Try.func28 (by kernel_rfl) rfl #[.slice Ao52 t468.length co52,.int .i64 1] rfl (by (try simp only [zt,zu,zv]);first|done|(rw [show t468.length=t462.length from (yh HO_6.out).1.symm] <;> rfl)|rfl|(simp only [zw,zx];rfl)|(simp only [yr,ys,zV,zW];rfl)) ?_;(with_reducible refine (laws_heldByteS.calls kj10  _ _ t468 1 t469 _ ?side1 ?side2 A29.out).mono ?_);(case side1 => repeat (first|exact (yh HO_6.out).2.2|(with_reducible refine Kd.C_alloc ?_ _)|(with_reducible refine Kd.C_drewN ?_ _)|(with_reducible refine Kd.C_drew ?_)));(case side2 => rw [show t468.length=t462.length from (yh HO_6.out).1.symm];exact (yh HO_6.out).2.1);rintro e w' ⟨rfl,⟨nd,rfl⟩⟩;refine ⟨_,rfl,?_⟩))
   go_ret
   exact ⟨by first|rfl|(simp [yt,yu] <;> rfl)|(simp [*,yt,yu] <;> rfl),by repeat (with_reducible first|exact HB.out|apply za|apply zb|apply zc|refine zd ?_ GE450.out)⟩

end Go.Proofs.Ytpmeglcmhiihoaa.Q
end
section
namespace Go.Proofs.YtpmeglcmhiihoaaW.PrintOpen
open Go.RowKit Go.ChangeShapes Go.WideShapes Go.ChangeAt Go.Proofs.YtpmeglcmhiihoaaW.PrintWords
def Opens {α : Type} (P : Program) (d : Kd α) (t : TypeId) (good : α→Prop) : Prop :=
 ∀ (H : Type) (enc : TypeId×Value→H) (w : World) (base : Nat) (spare : Nat→Bool) (held : Bool) (fuel : Nat) (cs : List Value) (x : DataW H×List MemPlace),
  DataW.trod enc P w base spare held fuel t cs=some x → ∃ a,d.K w a cs∧good a
variable {P : Program}
theorem opens_int {t : TypeId} {k : IntKind} (ht : P.underlying t=some (.int k)) : Opens P (Kd.int k) t (fun n => (Lit.int k n).wf=true):=by
 intro H enc w base spare held fuel cs x h;obtain ⟨n,hcs,_,hw⟩:=DataW.trod_int ht h;exact ⟨n,hcs,hw⟩
theorem opens_string {t : TypeId} (ht : P.underlying t=some .string) : Opens P Kd.string t (fun s => s.size≤9223372036854775807):=by
 intro H enc w base spare held fuel cs x h;obtain ⟨s,hcs,_,hs⟩:=DataW.trod_string ht h;exact ⟨s,hcs,by unfold maxLen at hs;exact hs⟩
def OpensF {α : Type} (P : Program) (d : Kd α) (fs : List Field) (off : Nat) (good : α→Prop) : Prop :=
 ∀ (H : Type) (enc : TypeId×Value→H) (w : World) (base : Nat) (spare : Nat→Bool) (held : Bool) (fuel : Nat) (cs : List Value),off + d.sz≤cs.length →
  (∀ f ∈ fs,∃ x,DataW.trod enc P w base spare held fuel f.type ((cs.drop f.offset).take (P.cellsOf f.type))=some x) → ∃ a,d.K w a ((cs.drop off).take d.sz)∧good a
theorem opensF_one {α : Type} {d : Kd α} {f : Field} {off : Nat} {g : α→Prop} (ho : f.offset=off) (hc : P.cellsOf f.type=d.sz) (h : Opens P d f.type g) : OpensF P d [f] off g:=by
 intro H enc w base spare held fuel cs _ hf;obtain ⟨x,hx⟩:=hf f (by simp);obtain ⟨a,hk,hg⟩:=h H enc w base spare held fuel _ x hx;rw [ho,hc] at hk;exact ⟨a,hk,hg⟩
theorem opensF_cons {α β : Type} {d : Kd α} {d' : Kd β} {f : Field} {fs : List Field} {off : Nat} {g : α→Prop} {g' : β→Prop} (ho : f.offset=off) (hc : P.cellsOf f.type=d.sz) (h : Opens P d f.type g) (h' : OpensF P d' fs (off + d.sz) g') :
  OpensF P (Kd.pair d d') (f :: fs) off (fun x => g x.1∧g' x.2):=by
 intro H enc w base spare held fuel cs hl hf;obtain ⟨x,hx⟩:=hf f (by simp);obtain ⟨a,hk,hg⟩:=h H enc w base spare held fuel _ x hx;have hl2 : off + (d.sz + d'.sz)≤cs.length:=hl;obtain ⟨b,hk',hg'⟩:=h' H enc w base spare held fuel cs (by omega) (fun f' hf' => hf f' (by simp [hf']));rw [ho,hc] at hk;refine ⟨(a,b),⟨_,_,?_,hk,hk'⟩,hg,hg'⟩;show (cs.drop off).take (d.sz + d'.sz)=_;rw [List.take_add,List.drop_drop]
theorem opens_struct {α β : Type} {t : TypeId} {fs : Array Field} {d : Kd α} {g : α→Prop} {f : β→α} (f' : α→β) (hf : ∀ a,f (f' a)=a) (ht : P.underlying t=some (.struct fs)) (hc : P.cellsOf t=d.sz) (h : OpensF P d fs.toList 0 g) :
  Opens P (Kd.iso d f) t (fun b => g (f b)):=by
 intro H enc w base spare held fuel cs x hx;obtain ⟨xs,n,_,_,hl,hlen,hxs⟩:=DataW.trod_struct ht hx
 obtain ⟨a,hk,hg⟩:=h H enc w base spare held n cs (by omega) (fun y hy => by
  obtain ⟨i,hi⟩:=List.mem_iff_getElem?.1 hy;have:=hxs i y (by simpa using hi)
  have hlt : i<xs.length:=by
   have:=(List.getElem?_eq_some_iff.1 hi).1;rw [hlen]
   simpa using this
  rw [List.getElem?_eq_getElem hlt] at this
  exact ⟨_,this⟩)
 rw [List.drop_zero,show d.sz=cs.length by omega,List.take_length] at hk;exact ⟨f' a,by show d.K w (f (f' a)) cs;rw [hf];exact hk,by show g (f (f' a));rw [hf];exact hg⟩
theorem arg_struct {α : Type} {d : Kd α} {t : TypeId} {fs : Array Field} {g : α→Prop} {H : Type} {enc : TypeId×Value→H} {w : World} {base b0 : Nat} {spare : Nat→Bool} {held : Bool} {r : Reach} {v : Value} {dd : DataW H} {p : List MemPlace}
  (ht : P.underlying t=some (.struct fs)) (h : Opens P d t g) (hv : Value.okWide P w r b0 t v) (hd : DataW.Trod enc P w base spare held t v dd p) : ∃ (a : α) (cs : List Value),v = .agg ⟨cs⟩∧d.K w a cs∧g a:=by
 obtain ⟨cs,rfl,_⟩:=okWide_struct ht hv;obtain ⟨fuel,hf⟩:=hd;obtain ⟨a,hk,hg⟩:=h H enc w base spare held fuel _ _ hf;exact ⟨a,cs.toList,rfl,hk,hg⟩
end Go.Proofs.YtpmeglcmhiihoaaW.PrintOpen
end
section
namespace Go.Proofs.Ytpmeglcmhiihoaa.Q
open Go.RowKit Go.Proofs.YtpmeglcmhiihoaaW.PrintWords Go.Proofs.YtpmeglcmhiihoaaW.PrintLast Go.Proofs.YtpmeglcmhiihoaaW.PrintMore Go.Proofs.YtpmeglcmhiihoaaW.PrintOpen
def good23 (x_ : S23) : Prop:=((Lit.int .i64 x_.f0).wf=true)∧(((Lit.int .i64 x_.f1).wf=true)∧((x_.f2.size≤9223372036854775807)))
theorem opens23 : Opens Try.prog k23 23 good23 :=
 opens_struct (f:=(fun x : S23 => (x.f0,x.f1,x.f2))) (fun ⟨x0,x1,x2⟩ => ⟨x0,x1,x2⟩) (fun _ => rfl) Try.underlying23 (by kernel_rfl) (opensF_cons rfl (by kernel_rfl) (opens_int Try.underlying3) (opensF_cons rfl (by kernel_rfl) (opens_int Try.underlying3) (opensF_one rfl (by kernel_rfl) (opens_string Try.underlying9))))
end Go.Proofs.Ytpmeglcmhiihoaa.Q
end
section
namespace Go.Proofs.Ytpmeglcmhiihoaa.Q
def laws_FnExactEncodeValue.Pure : Prop:=∀ (x0 : S23),(good23 x0) → ∃ k,laws_FnExactEncodeValue.f k x0.f0 x0.f1 x0.f2=some true
end Go.Proofs.Ytpmeglcmhiihoaa.Q
end
section
namespace Go.Proofs.YtpmeglcmhiihoaaW.Pl
open Go Go.RowKit Go.Proofs.YtpmeglcmhiihoaaW.PrintWords Go.Proofs.YtpmeglcmhiihoaaW.PrintMore
theorem w64 {i : Int} (h0 : -9223372036854775808≤i) (h1 : i≤9223372036854775807) : wrap64 i=i:=by unfold wrap64;omega
theorem fuel {k d : Nat} (h : d<k) : ∃ m,k=m + 1∧d≤m:=⟨k - 1,by omega,by omega⟩
theorem rd_at (xs : List Int) (i : Nat) (h : i<xs.length) : rd xs (i : Int)=xs[i]:=by
 unfold rd;simp [List.getD,h]
theorem getD_at {α : Type} (d : α) (xs : List α) (i : Nat) (h : i<xs.length) : xs.getD (i : Int).toNat d=xs[i]:=by
 simp [List.getD,h]
theorem drop_at {α : Type} (xs : List α) (i : Nat) (h : i<xs.length) : xs.drop i=xs[i] :: xs.drop (i + 1):=List.drop_eq_getElem_cons h
theorem ba_toList (a : ByteArray) : a.toList=a.data.toList:=ByteArray.toList_eq a
theorem ba_ext {a b : ByteArray} (h : a.toList=b.toList) : a=b:=by
 rw [ba_toList,ba_toList] at h
 cases a;cases b
 simp at h;rw [h]
def all2 {α β : Type} (e : α→β→Bool) : List α→List β→Bool
 | [],_ => true
 | _ :: _,[] => true
 | x :: xs,y :: ys => e x y && all2 e xs ys
def first {α : Type} (p : α→Bool) : List α→Nat→Int
 | [],_ => -1
 | x :: xs,i => if p x=true then i else first p xs (i + 1)
theorem first_any {α : Type} (p : α→Bool) : ∀ (xs : List α) (i : Nat),decide (first p xs i ≥ 0)=xs.any p
 | [],i => rfl
 | x :: xs,i => by
  by_cases h : p x=true
  ·
   simp [first,h]
  simp only [first,if_neg h,List.any_cons,first_any p xs (i + 1)];simp [h]
theorem first_loop {α : Type} (g : Nat→Int→Option Int) (xs : List α) (p : α→Bool)
  (hstep : ∀ (k i : Nat) (h : i<xs.length),g (k + 1) (i : Int)=if p xs[i]=true then some (i : Int) else g k ((i + 1 : Nat) : Int))
  (hend : ∀ k,g (k + 1) (xs.length : Int)=some (-1)) : ∀ (d k i : Nat),i + d=xs.length→d<k→g k (i : Int)=some (first p (xs.drop i) i):=by
 intro d
 induction d with
 | zero =>
  intro k i hi hk;obtain ⟨k,rfl,_⟩:=fuel hk;obtain rfl : i=xs.length:=by omega
  rw [hend,List.drop_length];rfl
 | succ d ih =>
  intro k i hi hk;obtain ⟨k,rfl,_⟩:=fuel hk;have hlt : i<xs.length:=by omega
  rw [hstep k i hlt,drop_at xs i hlt]
  by_cases h : p xs[i]=true
  ·
   rw [if_pos h]
   simp [first,h]
  rw [if_neg h,ih k (i + 1) (by omega) (by omega)];simp [first,h]
def total {α : Type} (s : α→Nat) : List α→Nat
 | [] => 0
 | x :: xs => s x + total s xs
def less {α : Type} (s : α→Nat) : List α→Int→Int
 | [],l => l
 | x :: xs,l => if l - s x<0 then -1 else less s xs (l - s x)
def Eve {α : Type} (g : Nat→Option α) (v : α) : Prop:=∃ K,∀ k,K≤k→g k=some v
theorem Eve.one {α : Type} {v : α} : Eve (fun _ => some v) v:=⟨0,fun _ _ => rfl⟩
theorem Eve.all {α : Type} {g : Nat→Option α} {v : α} (h : ∀ k,g k=some v) : Eve g v:=⟨0,fun k _ => h k⟩
theorem Eve.of {α : Type} {g : Nat→Option α} {v : α} {n : Nat} (h : ∀ k,n<k→g k=some v) : Eve g v:=⟨n + 1,fun k hk => h k (by omega)⟩
theorem Eve.succ {α : Type} {g : Nat→Option α} {v : α} (h : Eve (fun k => g (k + 1)) v) : Eve g v:=by
 obtain ⟨K,h⟩:=h;refine ⟨K + 1,fun k hk => ?_⟩;obtain ⟨k,rfl⟩ : ∃ m,k=m + 1:=⟨k - 1,by omega⟩;exact h k (by omega)
theorem Eve.bind {α β : Type} {g : Nat→Option α} {f : Nat→α→Option β} {v : α} {u : β} (h : Eve g v) (h2 : Eve (fun k => f k v) u) : Eve (fun k => (g k).bind (f k)) u:=by
 obtain ⟨K,h⟩:=h;obtain ⟨K2,h2⟩:=h2;refine ⟨max K K2,fun k hk => ?_⟩;show (g k).bind (f k)=some u;rw [h k (by omega),Option.bind_some];exact h2 k (by omega)
theorem Eve.ite {α : Type} {c : Prop} [Decidable c] {a b : Nat→Option α} {v : α} (h1 : c→Eve a v) (h2 : ¬ c→Eve b v) : Eve (fun k => if c then a k else b k) v:=by
 by_cases h : c
 ·
  simp only [if_pos h];exact h1 h
 simp only [if_neg h];exact h2 h
theorem Eve.get {α : Type} {g : Nat→Option α} {v : α} (h : Eve g v) : ∃ k,g k=some v:=by
 obtain ⟨K,h⟩:=h;exact ⟨K,h K (by omega)⟩
theorem Eve.eq {α : Type} {g : Nat→Option α} {v u : α} (h : Eve g v) (e : v=u) : Eve g u:=e ▸ h
theorem Eve.congr {α : Type} {g f : Nat→Option α} {v : α} (h : Eve g v) (e : ∀ k,f k=g k) : Eve f v:=by
 obtain ⟨K,h⟩:=h;exact ⟨K,fun k hk => by rw [e,h k hk]⟩
theorem ev_loop {σ α β : Type} (xs : List α) (g : Nat→σ→Int→Option β) (R : Nat→σ→List α→β) (I : Nat→σ→Prop)
  (hend : ∀ s,I xs.length s→Eve (fun k => g (k + 1) s (xs.length : Int)) (R xs.length s []))
  (hstep : ∀ (i : Nat) (h : i<xs.length) (s : σ),I i s→(∀ s',I (i + 1) s' → Eve (fun k => g k s' ((i + 1 : Nat) : Int)) (R (i + 1) s' (xs.drop (i + 1)))) →
   Eve (fun k => g (k + 1) s (i : Int)) (R i s (xs[i] :: xs.drop (i + 1)))) :
  ∀ (d i : Nat) (s : σ),i + d=xs.length→I i s→Eve (fun k => g k s (i : Int)) (R i s (xs.drop i)):=by
 intro d
 induction d with
 | zero =>
  intro i s hi hI;obtain rfl : i=xs.length:=by omega
  rw [List.drop_length];exact Eve.succ (hend s hI)
 | succ d ih =>
  intro i s hi hI;have hlt : i<xs.length:=by omega
  rw [drop_at xs i hlt];exact Eve.succ (hstep i hlt s hI (fun s' h' => ih (i + 1) s' (by omega) h'))
theorem ev_loop0 {σ α β : Type} (xs : List α) (g : Nat→σ→Int→Option β) (R : Nat→σ→List α→β) (I : Nat→σ→Prop)
  (hend : ∀ s,I xs.length s→Eve (fun k => g (k + 1) s (xs.length : Int)) (R xs.length s []))
  (hstep : ∀ (i : Nat) (h : i<xs.length) (s : σ),I i s→(∀ s',I (i + 1) s' → Eve (fun k => g k s' ((i + 1 : Nat) : Int)) (R (i + 1) s' (xs.drop (i + 1)))) →
   Eve (fun k => g (k + 1) s (i : Int)) (R i s (xs[i] :: xs.drop (i + 1)))) (s : σ) (h0 : I 0 s) : Eve (fun k => g k s 0) (R 0 s xs):=by
 have:=ev_loop xs g R I hend hstep xs.length 0 s (by omega) h0
 simpa using this
theorem ev_all {α : Type} (xs : List α) (g : Nat→Int→Option Bool) (q : α→Bool)
  (hend : Eve (fun k => g (k + 1) (xs.length : Int)) true)
  (hstep : ∀ (i : Nat) (h : i<xs.length) (v : Bool),Eve (fun k => g k ((i + 1 : Nat) : Int)) v→Eve (fun k => g (k + 1) (i : Int)) (q xs[i] && v)) : Eve (fun k => g k 0) (xs.all q) :=
 ev_loop0 xs (fun k (_ : Unit) i => g k i) (fun _ _ r => r.all q) (fun _ _ => True) (fun _ _ => hend) (fun i hi s _ ih => by
  rw [List.all_cons];exact hstep i hi _ (ih () trivial)) () trivial
end Go.Proofs.YtpmeglcmhiihoaaW.Pl
end
section
namespace Go.Proofs.Ytpmeglcmhiihoaa.Pure
open Go Go.RowKit Go.Proofs.Ytpmeglcmhiihoaa.Q Go.Proofs.YtpmeglcmhiihoaaW.PrintWords Go.Proofs.YtpmeglcmhiihoaaW.PrintLast Go.Proofs.YtpmeglcmhiihoaaW.PrintMore Go.Proofs.YtpmeglcmhiihoaaW.Pl
theorem wi {i : Nat} (h : i≤9223372036854775806) : wrap64 ((i : Int) + 1)=((i + 1 : Nat) : Int):=w64 (by omega) (by omega)
theorem w64m (y : Int) : wrap64 y=(y + 9223372036854775808) % 18446744073709551616 - 9223372036854775808:=by unfold wrap64;omega
def stp (x b : Int) : Int:=wrap64 (wrap64 (x * 256) + wrap64 b)
theorem or_byte (x b : Int) (h0 : 0≤b) (h1 : b≤255) : Go.bits .or .i64 (wrap64 (x * 256)) (wrap64 b)=stp x b:=by
 have e1 : (BitVec.ofInt 64 (wrap64 (x * 256))).toNat=2 ^ 8 * (x % 72057594037927936).toNat:=by
  rw [BitVec.toNat_ofInt,w64m];omega
 have e2 : (BitVec.ofInt 64 (wrap64 b)).toNat=b.toNat:=by
  rw [BitVec.toNat_ofInt,w64m];omega
 have e3 : (BitVec.ofInt 64 (wrap64 (x * 256)) ||| BitVec.ofInt 64 (wrap64 b)).toNat=2 ^ 8 * (x % 72057594037927936).toNat + b.toNat:=by
  rw [BitVec.toNat_or,e1,e2,Nat.two_pow_add_eq_or_of_lt (by omega)]
 show IntKind.wrap .i64 ((BitVec.ofInt 64 (wrap64 (x * 256)) ||| BitVec.ofInt 64 (wrap64 b)).toNat : Int)=_;rw [e3,i64_w];unfold stp;rw [w64m,w64m,w64m,w64m]
 omega
def bigV (l : List Int) : Int:=l.foldl stp 0
theorem bytes_in (a : ByteArray) : ∀ b ∈ bytesOf a,0≤b∧b≤255:=by
 intro b hb;obtain ⟨c,_,rfl⟩:=List.mem_map.1 hb;have:=c.toNat_lt
 omega
theorem bt_get (a : ByteArray) (i : Nat) (h : i<(bytesOf a).length) : bt a (i : Int)=(bytesOf a)[i]:=by
 rw [← rd_bytesOf,rd_at _ _ h]
theorem big_tells (l : List Int) (hl : l.length≤1048576) (hb : ∀ b ∈ l,0≤b∧b≤255) : Eve (fun k => impl_big.f k l) (bigV l):=by
 simp only [impl_big.f];refine ev_loop0 l (fun k (s : Int) i => impl_big.l0 k s l (l.length : Int) i) (fun _ s r => r.foldl stp s) (fun _ _ => True) (fun s _ => ?_) (fun i hi s _ ih => ?_) 0 trivial
 ·
  simp only [impl_big.l0]
  exact Eve.ite (fun h => absurd h (by omega)) (fun _ => Eve.one)
 have hx:=hb l[i] (List.getElem_mem hi);simp only [impl_big.l0];refine Eve.ite (fun _ => ?_) (fun h => absurd (by omega) h);refine Eve.ite (fun _ => ?_) (fun h => absurd (by omega) h);refine Eve.ite (fun _ => ?_) (fun h => absurd (by omega) h);simp only [rd_at _ _ hi,or_byte _ _ hx.1 hx.2,wi (show i≤9223372036854775806 by omega)];exact ih _ trivial
theorem of_tells (a : ByteArray) (hl : a.size≤1048576) : Eve (fun k => spec_l01Of.f k a) (bigV (bytesOf a)):=by
 have hn : (bytesOf a).length=a.size:=bytesOf_length a;simp only [spec_l01Of.f];refine ev_loop0 (bytesOf a) (fun k (s : Int) i => spec_l01Of.l0 k a s i) (fun _ s r => r.foldl stp s) (fun _ _ => True) (fun s _ => ?_) (fun i hi s _ ih => ?_) 0 trivial
 ·
  simp only [spec_l01Of.l0]
  exact Eve.ite (fun h => absurd h (by omega)) (fun _ => Eve.one)
 simp only [spec_l01Of.l0];refine Eve.ite (fun _ => ?_) (fun h => absurd (by omega) h);refine Eve.ite (fun _ => ?_) (fun h => absurd (by omega) h);simp only [bt_get a i hi,wi (show i≤9223372036854775806 by omega)];exact ih _ trivial
def zer (n : Nat) : ByteArray:=⟨(Lib.repeatL [0] n).toArray⟩
def takV (a : ByteArray) (f : Bool) (n : Nat) : ByteArray×ByteArray×Bool:=if a.size<n then (zer n,a,true) else (a.extract 0 n,a.extract n a.size,f)
def numV (a : ByteArray) (f : Bool) (n : Nat) : Int×ByteArray×Bool:=if a.size<n then (0,a,true) else (bigV (bytesOf (a.extract 0 n)),a.extract n a.size,f)
theorem take_tells (a : ByteArray) (f : Bool) (n : Nat) (hn : n≤65535) : impl_byteReader_take.f a f (n : Int)=some (takV a f n):=by
 unfold impl_byteReader_take.f takV
 by_cases h : a.size<n
 ·
  rw [if_pos (by omega),if_pos h]
  unfold strings_Repeat.f;rw [if_pos (by omega),if_pos (by rw [show (⟨#[0]⟩ : ByteArray).size=1 from rfl];omega),if_pos (by omega)]
  rfl
 rw [if_neg (by omega),if_pos (by omega),if_pos (by omega),if_neg h]
 rfl
theorem zer_size (n : Nat) : (zer n).size=n:=by
 show (Lib.repeatL [0] n).toArray.size=n;rw [List.size_toArray,Lib.repeatL_length];simp
theorem fold_zero : ∀ n : Nat,((Lib.repeatL [0] n).map fun b : UInt8 => (b.toNat : Int)).foldl stp 0=0
 | 0 => rfl
 | n + 1 => by
  have e : stp 0 0=0:=by unfold stp;rw [w64m,w64m,w64m];omega
  simp only [Lib.repeatL,List.cons_append,List.nil_append,List.map_cons,List.foldl_cons];rw [show ((0 : UInt8).toNat : Int)=0 from rfl,e];exact fold_zero n
theorem big_zer (n : Nat) : bigV (bytesOf (zer n))=0:=by
 unfold bigV bytesOf zer;exact fold_zero n
theorem num_tells (a : ByteArray) (f : Bool) (n : Nat) (hn : n≤65535) : Eve (fun k => impl_byteReader_num.f k a f (n : Int)) (numV a f n):=by
 simp only [impl_byteReader_num.f,take_tells a f n hn,Option.bind_some];unfold takV numV
 by_cases h : a.size<n
 ·
  simp only [if_pos h]
  have hz:=zer_size n;refine Eve.ite (fun _ => ?_) (fun h => absurd (by omega) h);refine Eve.bind (big_tells _ (by rw [bytesOf_length,hz];omega) (bytes_in _)) ?_;rw [big_zer];exact Eve.one
 simp only [if_neg h];have hz : (a.extract 0 n).size≤n:=by rw [ByteArray.size_extract];omega
 refine Eve.ite (fun _ => ?_) (fun h => absurd (by omega) h);exact Eve.bind (big_tells _ (by rw [bytesOf_length];omega) (bytes_in _)) Eve.one
theorem big1 (x : Int) (h : 0≤x∧x≤255) : bigV [x]=x:=by
 simp only [bigV,List.foldl_cons,List.foldl_nil,stp];rw [w64m,w64m,w64m];omega
theorem big2 (x y : Int) (h : 0≤x∧x≤255) (h2 : 0≤y∧y≤255) : 0≤bigV [x,y]∧bigV [x,y]≤65535:=by
 simp only [bigV,List.foldl_cons,List.foldl_nil,stp];simp only [w64m];omega
theorem len1 {l : List Int} (h : l.length=1) : ∃ x,l=[x]:=by
 match l,h with
 | [x],_ => exact ⟨x,rfl⟩
theorem len2 {l : List Int} (h : l.length=2) : ∃ x y,l=[x,y]:=by
 match l,h with
 | [x,y],_ => exact ⟨x,y,rfl⟩
theorem bytes_ext1 (a : ByteArray) (i : Nat) (h : i<a.size) : bigV (bytesOf (a.extract i (i + 1)))=bt a (i : Int):=by
 have hl : (bytesOf (a.extract i (i + 1))).length=1:=by rw [bytesOf_length,ByteArray.size_extract];omega
 obtain ⟨x,hx⟩:=len1 hl;have h2:=bytes_in (a.extract i (i + 1)) x (by rw [hx];simp);have h3:=bt_get (a.extract i (i + 1)) 0 (by omega);rw [hx,big1 x h2];simp only [hx,List.getElem_cons_zero] at h3;rw [← h3];unfold bt;have e0 : (((0 : Nat) : Int)).toNat=0:=rfl;have e1 : ((i : Int)).toNat=i:=Int.toNat_natCast i;simp only [e0,e1];rw [dif_pos (by rw [ByteArray.size_extract];omega),dif_pos h]
 congr 2
 rw [ByteArray.getElem_extract];simp
theorem bytes_ext2 (a : ByteArray) (i : Nat) (h : i + 2≤a.size) : 0≤bigV (bytesOf (a.extract i (i + 2)))∧bigV (bytesOf (a.extract i (i + 2)))≤65535:=by
 have hl : (bytesOf (a.extract i (i + 2))).length=2:=by rw [bytesOf_length,ByteArray.size_extract];omega
 obtain ⟨x,y,hx⟩:=len2 hl;have hb:=bytes_in (a.extract i (i + 2));rw [hx] at hb ⊢;exact big2 x y (hb x (by simp)) (hb y (by simp))
abbrev IVal:=S26
abbrev eB : ByteArray:=⟨#[]⟩
abbrev Rd:=Int×Int×ByteArray×ByteArray×Bool
def valV (a : ByteArray) (f : Bool) : Rd :=
  let q:=numV a f 1
  if q.1=1 then (q.1,(numV q.2.1 q.2.2 1).1,eB,(numV q.2.1 q.2.2 1).2.1,(numV q.2.1 q.2.2 1).2.2)
  else if q.1=2 then (q.1,wrap64 ((numV q.2.1 q.2.2 8).1 - 4611686018427387904),eB,(numV q.2.1 q.2.2 8).2.1,(numV q.2.1 q.2.2 8).2.2)
  else if q.1=3∨q.1=4∨q.1=5 then
    let r:=numV q.2.1 q.2.2 2
    (q.1,0,(takV r.2.1 r.2.2 r.1.toNat).1,(takV r.2.1 r.2.2 r.1.toNat).2.1,(takV r.2.1 r.2.2 r.1.toNat).2.2)
  else (q.1,0,eB,q.2.1,q.2.2)
theorem num2_in (a : ByteArray) (f : Bool) : 0≤(numV a f 2).1∧(numV a f 2).1≤65535:=by
  unfold numV
  by_cases h : a.size<2
  · rw [if_pos h];simp
  rw [if_neg h];exact bytes_ext2 a 0 (by omega)
theorem j0_tells (q x1 : Int) (t : ByteArray) (a : ByteArray) (f : Bool) : Eve (fun k => impl_byteReader_value.j0 k true a f q x1 t) (q,x1,(takV (numV a f 2).2.1 (numV a f 2).2.2 (numV a f 2).1.toNat).1,(takV (numV a f 2).2.1 (numV a f 2).2.2 (numV a f 2).1.toNat).2.1,(takV (numV a f 2).2.1 (numV a f 2).2.2 (numV a f 2).1.toNat).2.2):=by
  refine Eve.succ ?_;simp only [impl_byteReader_value.j0,if_true];refine Eve.bind (num_tells a f 2 (by omega)) ?_;have hb:=num2_in a f;have ht:=take_tells (numV a f 2).2.1 (numV a f 2).2.2 (numV a f 2).1.toNat (by omega);rw [show (((numV a f 2).1.toNat : Nat) : Int)=(numV a f 2).1 from Int.toNat_of_nonneg hb.1] at ht;simp only [ht,Option.bind_some];exact Eve.one
theorem value_tells (a : ByteArray) (f : Bool) : Eve (fun k => impl_byteReader_value.f k a f) (valV a f):=by
  simp only [impl_byteReader_value.f];refine Eve.bind (num_tells a f 1 (by omega)) ?_;unfold valV;generalize numV a f 1=q;simp only;refine Eve.ite (fun h => ?_) (fun h => ?_)
  · rw [if_pos h]
    exact Eve.bind (num_tells q.2.1 q.2.2 1 (by omega)) Eve.one
  rw [if_neg h];refine Eve.ite (fun h2 => ?_) (fun h2 => ?_)
  · rw [if_pos h2]
    exact Eve.bind (num_tells q.2.1 q.2.2 8 (by omega)) Eve.one
  rw [if_neg h2];refine Eve.ite (fun h3 => ?_) (fun h3 => ?_)
  · rw [if_pos (.inl h3)]
    simp only [h3,beq_self_eq_true];exact j0_tells _ _ _ _ _
  refine Eve.ite (fun h4 => ?_) (fun h4 => ?_)
  · rw [if_pos (.inr (.inl h4))]
    simp only [h4,beq_self_eq_true];exact j0_tells _ _ _ _ _
  by_cases h5 : q.1=5
  · rw [if_pos (.inr (.inr h5))]
    simp only [h5,beq_self_eq_true];exact j0_tells _ _ _ _ _
  rw [if_neg (by omega)];have : (q.1 == 5)=false:=by simpa using h5
  simp only [this];refine Eve.succ ?_;simp only [impl_byteReader_value.j0,Bool.false_eq_true,if_false];exact Eve.one
def nxtV (a : ByteArray) : Option (IVal×ByteArray) :=
  if a.size=0 then none
  else if bt a 0=0 then some (⟨0,0,eB⟩,a.extract 1 a.size)
  else if bt a 0=1 then (if a.size<2 then none else some (⟨1,bt a 1,eB⟩,a.extract 2 a.size))
  else if bt a 0=2 then (if a.size<9 then none else if bt a 1 > 127 then none else some (⟨2,wrap64 (bigV (bytesOf (a.extract 1 9)) - 4611686018427387904),eB⟩,a.extract 9 a.size))
  else if bt a 0=3∨bt a 0=4∨bt a 0=5 then
    (if a.size<3 then none else if (a.size : Int)<3 + bigV (bytesOf (a.extract 1 3)) then none
     else some (⟨bt a 0,0,a.extract 3 (3 + bigV (bytesOf (a.extract 1 3))).toNat⟩,a.extract (3 + bigV (bytesOf (a.extract 1 3))).toNat a.size))
  else none
def told (o : Option (IVal×ByteArray)) : Rd:=match o with|some (v,r) => (v.f0,v.f1,v.f2,r,true)|none => (0,0,eB,eB,false)
theorem wbt (a : ByteArray) (i : Int) : wrap64 (bt a i)=bt a i:=w64 (by have:=bt_range a i;omega) (by have:=bt_range a i;omega)
theorem n0_tells (a : ByteArray) (q : Int) (hs : a.size≤1048576) : Eve (fun k => spec_l01Next.j0 k a true q 0 eB)
    (told (if a.size<3 then none else if (a.size : Int)<3 + bigV (bytesOf (a.extract 1 3)) then none
     else some (⟨q,0,a.extract 3 (3 + bigV (bytesOf (a.extract 1 3))).toNat⟩,a.extract (3 + bigV (bytesOf (a.extract 1 3))).toNat a.size))):=by
  refine Eve.succ ?_;simp only [spec_l01Next.j0,if_true];refine Eve.ite (fun h => ?_) (fun h => ?_)
  · rw [if_pos (by omega)];exact Eve.one
  rw [if_neg (by omega)];refine Eve.ite (fun _ => ?_) (fun h => absurd (by omega) h);refine Eve.ite (fun _ => ?_) (fun h => absurd (by omega) h);refine Eve.bind (of_tells (a.extract 1 3) (by rw [ByteArray.size_extract];omega)) ?_;have hb:=bytes_ext2 a 1 (by omega);simp only [show 1 + 2=3 from rfl] at hb;have hw : wrap64 (3 + bigV (bytesOf (a.extract 1 3)))=3 + bigV (bytesOf (a.extract 1 3)):=w64 (by omega) (by omega);simp only [hw];refine Eve.ite (fun h2 => ?_) (fun h2 => ?_)
  · rw [if_pos h2];exact Eve.one
  rw [if_neg h2];refine Eve.ite (fun _ => ?_) (fun h => absurd (by omega) h);refine Eve.ite (fun _ => ?_) (fun h => absurd (by omega) h);exact Eve.ite (fun _ => Eve.one) (fun h => absurd (by omega) h)
theorem next_tells (a : ByteArray) (hs : a.size≤1048576) : Eve (fun k => spec_l01Next.f k a) (told (nxtV a)):=by
  unfold nxtV;simp only [spec_l01Next.f,wbt];refine Eve.ite (fun h => ?_) (fun h => ?_)
  · have hz : a.size=0:=by omega
    rw [if_pos hz];exact Eve.one
  have hz : ¬ a.size=0:=by omega
  rw [if_neg hz];refine Eve.ite (fun _ => ?_) (fun h => absurd (by omega) h);refine Eve.ite (fun h0 => ?_) (fun h0 => ?_)
  · rw [if_pos h0]
    refine Eve.ite (fun _ => ?_) (fun h => absurd (by omega) h);exact Eve.one.eq (by rw [h0];rfl)
  rw [if_neg h0];refine Eve.ite (fun h1 => ?_) (fun h1 => ?_)
  · rw [if_pos h1]
    refine Eve.succ ?_;simp only [spec_l01Next.j1,wbt,h1];have hw : wrap64 (1 + 1)=2:=w64 (by omega) (by omega);simp only [hw,if_true];refine Eve.ite (fun h => ?_) (fun h => ?_)
    · have hy : a.size<2:=by omega
      rw [if_pos hy];exact Eve.one
    have hy : ¬ a.size<2:=by omega
    rw [if_neg hy];refine Eve.ite (fun _ => ?_) (fun h => absurd (by omega) h);refine Eve.ite (fun _ => ?_) (fun h => absurd (by omega) h);exact Eve.ite (fun _ => Eve.one) (fun h => absurd (by omega) h)
  rw [if_neg h1];refine Eve.ite (fun h2 => ?_) (fun h2 => ?_)
  · rw [if_pos h2]
    refine Eve.succ ?_;simp only [spec_l01Next.j1,h2];have hw : wrap64 (1 + 8)=9:=w64 (by omega) (by omega);simp only [hw];refine Eve.ite (fun h => ?_) (fun h => ?_)
    · have hy : a.size<9:=by omega
      rw [if_pos hy];exact Eve.one
    have hy : ¬ a.size<9:=by omega
    rw [if_neg hy];refine Eve.ite (fun h => absurd h (by omega)) (fun _ => ?_);refine Eve.ite (fun _ => ?_) (fun h => absurd (by omega) h);refine Eve.ite (fun h => ?_) (fun h => ?_)
    · rw [if_pos h];exact Eve.one
    rw [if_neg h];refine Eve.ite (fun _ => ?_) (fun h => absurd (by omega) h);refine Eve.ite (fun _ => ?_) (fun h => absurd (by omega) h);refine Eve.bind (of_tells (a.extract 1 9) (by rw [ByteArray.size_extract];omega)) ?_;refine Eve.ite (fun _ => ?_) (fun h => absurd (by omega) h);exact Eve.ite (fun _ => Eve.one) (fun h => absurd (by omega) h)
  rw [if_neg h2];refine Eve.ite (fun h3 => ?_) (fun h3 => ?_)
  · rw [if_pos (show bt a 0=3∨bt a 0=4∨bt a 0=5 from .inl h3)]
    simp only [h3,beq_self_eq_true];exact n0_tells a 3 hs
  refine Eve.ite (fun h4 => ?_) (fun h4 => ?_)
  · rw [if_pos (show bt a 0=3∨bt a 0=4∨bt a 0=5 from .inr (.inl h4))]
    simp only [h4,beq_self_eq_true];exact n0_tells a 4 hs
  by_cases h5 : bt a 0=5
  · rw [if_pos (show bt a 0=3∨bt a 0=4∨bt a 0=5 from .inr (.inr h5))]
    simp only [h5,beq_self_eq_true];exact n0_tells a 5 hs
  have hy : ¬ (bt a 0=3∨bt a 0=4∨bt a 0=5):=by omega
  rw [if_neg hy];have : (bt a 0 == 5)=false:=by simpa using h5
  simp only [this];refine Eve.succ ?_;simp only [spec_l01Next.j0,Bool.false_eq_true,if_false];exact Eve.one
def Bad (v : IVal) : Prop:=v.f0<0∨v.f0 > 5∨(v.f0=2∧(v.f1 < -1000000000000∨v.f1 > 1000000000000))
def rdv (r : Rd) : IVal:=⟨r.1,r.2.1,r.2.2.1⟩
theorem num_one (a : ByteArray) (f : Bool) (h : 0<a.size) : numV a f 1=(bt a 0,a.extract 1 a.size,f):=by
  unfold numV;rw [if_neg (by omega)];have:=bytes_ext1 a 0 h;simp only [Nat.zero_add] at this;rw [this];rfl
theorem num_none (a : ByteArray) (f : Bool) (n : Nat) (h : a.size<n) : numV a f n=(0,a,true):=by unfold numV;rw [if_pos h]
theorem num_some (a : ByteArray) (f : Bool) (n : Nat) (h : n≤a.size) : numV a f n=(bigV (bytesOf (a.extract 0 n)),a.extract n a.size,f):=by unfold numV;rw [if_neg (by omega)]
theorem tail_size (a : ByteArray) (n : Nat) : (a.extract n a.size).size=a.size - n:=by rw [ByteArray.size_extract];omega
theorem ext_ext (a : ByteArray) (n i j : Nat) (h : n + j≤a.size) : (a.extract n a.size).extract i j=a.extract (n + i) (n + j):=by
  rw [ByteArray.extract_extract,Nat.min_eq_left h]
theorem ext_tail (a : ByteArray) (n i : Nat) (h : n≤a.size) : (a.extract n a.size).extract i (a.extract n a.size).size=a.extract (n + i) a.size:=by
  rw [tail_size,ByteArray.extract_extract]
  congr 1
  omega
theorem big8 (l : List Int) (x : Int) (r : List Int) (hl : l=x :: r) (hr : r.length=7) (hb : ∀ b ∈ l,0≤b∧b≤255) (hx : x > 127) : wrap64 (bigV l - 4611686018427387904) < -1000000000000∨wrap64 (bigV l - 4611686018427387904) > 1000000000000:=by
  subst hl
  match r,hr with
  | [b1,b2,b3,b4,b5,b6,b7],_ =>
    have h0:=hb x (by simp);have h1:=hb b1 (by simp);have h2:=hb b2 (by simp);have h3:=hb b3 (by simp);have h4:=hb b4 (by simp);have h5:=hb b5 (by simp);have h6:=hb b6 (by simp);have h7:=hb b7 (by simp)
    have e : bigV [x,b1,b2,b3,b4,b5,b6,b7]=x * 72057594037927936 + b1 * 281474976710656 + b2 * 1099511627776 + b3 * 4294967296 + b4 * 16777216 + b5 * 65536 + b6 * 256 + b7 - 18446744073709551616:=by
      simp only [bigV,List.foldl_cons,List.foldl_nil];have s0 : stp 0 x=x:=by unfold stp;simp only [w64m];omega
      have s1 : stp x b1=x * 256 + b1:=by unfold stp;simp only [w64m];omega
      have s2 : stp (x * 256 + b1) b2=x * 65536 + b1 * 256 + b2:=by unfold stp;simp only [w64m];omega
      have s3 : stp (x * 65536 + b1 * 256 + b2) b3=x * 16777216 + b1 * 65536 + b2 * 256 + b3:=by unfold stp;simp only [w64m];omega
      have s4 : stp (x * 16777216 + b1 * 65536 + b2 * 256 + b3) b4=x * 4294967296 + b1 * 16777216 + b2 * 65536 + b3 * 256 + b4:=by unfold stp;simp only [w64m];omega
      have s5 : stp (x * 4294967296 + b1 * 16777216 + b2 * 65536 + b3 * 256 + b4) b5=x * 1099511627776 + b1 * 4294967296 + b2 * 16777216 + b3 * 65536 + b4 * 256 + b5:=by unfold stp;simp only [w64m];omega
      have s6 : stp (x * 1099511627776 + b1 * 4294967296 + b2 * 16777216 + b3 * 65536 + b4 * 256 + b5) b6=x * 281474976710656 + b1 * 1099511627776 + b2 * 4294967296 + b3 * 16777216 + b4 * 65536 + b5 * 256 + b6:=by unfold stp;simp only [w64m];omega
      rw [s0,s1,s2,s3,s4,s5,s6];unfold stp;simp only [w64m];omega
    rw [e,w64m]
    omega
theorem nxt_some (a : ByteArray) (v : IVal) (r : ByteArray) (h : nxtV a=some (v,r)) : valV a false=(v.f0,v.f1,v.f2,r,false)∧r.size<a.size:=by
  unfold nxtV at h
  by_cases hz : a.size=0
  · rw [if_pos hz] at h;simp at h
  rw [if_neg hz] at h;unfold valV;rw [num_one a false (by omega)];simp only;have ht:=tail_size a 1
  by_cases h0 : bt a 0=0
  · rw [if_pos h0] at h
    obtain ⟨rfl,rfl⟩ : _∧_:=by simpa using h
    rw [if_neg (by omega),if_neg (by omega),if_neg (by omega),h0];exact ⟨rfl,by omega⟩
  rw [if_neg h0] at h
  by_cases h1 : bt a 0=1
  · rw [if_pos h1] at h
    by_cases h2 : a.size<2
    · rw [if_pos h2] at h;simp at h
    rw [if_neg h2] at h;obtain ⟨rfl,rfl⟩ : _∧_:=by simpa using h
    rw [if_pos h1,num_some _ _ _ (by omega),ext_ext _ _ _ _ (by omega),ext_tail _ _ _ (by omega),h1];have:=bytes_ext1 a 1 (by omega);refine ⟨?_,by rw [tail_size];omega⟩;show (1,bigV (bytesOf (a.extract 1 (1 + 1))),eB,a.extract 2 a.size,false)=_;rw [this];rfl
  rw [if_neg h1] at h
  by_cases h2 : bt a 0=2
  · rw [if_pos h2] at h
    by_cases h3 : a.size<9
    · rw [if_pos h3] at h;simp at h
    rw [if_neg h3] at h
    by_cases h4 : bt a 1 > 127
    · rw [if_pos h4] at h;simp at h
    rw [if_neg h4] at h;obtain ⟨rfl,rfl⟩ : _∧_:=by simpa using h
    rw [if_neg h1,if_pos h2,num_some _ _ _ (by omega),ext_ext _ _ _ _ (by omega),ext_tail _ _ _ (by omega),h2];exact ⟨rfl,by rw [tail_size];omega⟩
  rw [if_neg h2] at h
  by_cases h3 : bt a 0=3∨bt a 0=4∨bt a 0=5
  · rw [if_pos h3] at h
    by_cases h4 : a.size<3
    · rw [if_pos h4] at h;simp at h
    rw [if_neg h4] at h;have hb:=bytes_ext2 a 1 (by omega);simp only [show 1 + 2=3 from rfl] at hb
    by_cases h5 : (a.size : Int)<3 + bigV (bytesOf (a.extract 1 3))
    · rw [if_pos h5] at h;simp at h
    rw [if_neg h5] at h;obtain ⟨rfl,rfl⟩ : _∧_:=by simpa using h
    rw [if_neg h1,if_neg h2,if_pos h3,num_some _ _ _ (by omega),ext_ext _ _ _ _ (by omega),ext_tail _ _ _ (by omega)];simp only [show 1 + 0=1 from rfl,show 1 + 2=3 from rfl];generalize bigV (bytesOf (a.extract 1 3))=n at hb h5 ⊢;obtain ⟨n,rfl⟩ : ∃ m : Nat,n=(m : Int):=⟨n.toNat,by omega⟩;have e1 : ((n : Int)).toNat=n:=Int.toNat_natCast n;have e2 : (3 + (n : Int)).toNat=3 + n:=by omega
    have ht3:=tail_size a 3;unfold takV;simp only [e1,e2];rw [if_neg (by omega),ext_ext _ _ _ _ (by omega),ext_tail _ _ _ (by omega)];exact ⟨rfl,by rw [tail_size];omega⟩
  rw [if_neg h3] at h;simp at h
theorem nxt_none (a : ByteArray) (h : nxtV a=none) : (valV a false).2.2.2.2=true∨Bad (rdv (valV a false)):=by
  by_cases hz : a.size=0
  · left
    unfold valV;rw [num_none a false 1 (by omega)];simp
  unfold nxtV at h;rw [if_neg hz] at h;unfold valV;rw [num_one a false (by omega)];simp only;have ht:=tail_size a 1
  by_cases h0 : bt a 0=0
  · rw [if_pos h0] at h;simp at h
  rw [if_neg h0] at h
  by_cases h1 : bt a 0=1
  · rw [if_pos h1] at h ⊢
    by_cases h2 : a.size<2
    · left;rw [num_none _ _ _ (by omega)]
    rw [if_neg h2] at h;simp at h
  rw [if_neg h1] at h ⊢
  by_cases h2 : bt a 0=2
  · rw [if_pos h2] at h ⊢
    by_cases h3 : a.size<9
    · left;rw [num_none _ _ _ (by omega)]
    rw [if_neg h3] at h
    by_cases h4 : bt a 1 > 127
    · right;right;right
      refine ⟨h2,?_⟩;rw [num_some _ _ _ (by omega),ext_ext _ _ _ _ (by omega)];simp only [show 1 + 0=1 from rfl,show 1 + 8=9 from rfl,rdv];have hl : (bytesOf (a.extract 1 9)).length=8:=by rw [bytesOf_length,ByteArray.size_extract];omega
      have hg:=bt_get (a.extract 1 9) 0 (by omega)
      have he : bt (a.extract 1 9) ((0 : Nat) : Int)=bt a 1:=by
        unfold bt;have e0 : (((0 : Nat) : Int)).toNat=0:=rfl;have e1 : ((1 : Int)).toNat=1:=rfl;simp only [e0,e1];rw [dif_pos (by rw [ByteArray.size_extract];omega),dif_pos (by omega)]
        congr 2
        rw [ByteArray.getElem_extract]
      cases hc : bytesOf (a.extract 1 9) with
      | nil => rw [hc] at hl;simp at hl
      | cons x r =>
        have hb:=bytes_in (a.extract 1 9);rw [he] at hg;simp only [hc,List.getElem_cons_zero] at hg;rw [hc] at hl hb;exact big8 _ x r rfl (by simpa using hl) hb (by omega)
    rw [if_neg h4] at h;simp at h
  rw [if_neg h2] at h ⊢
  by_cases h3 : bt a 0=3∨bt a 0=4∨bt a 0=5
  · rw [if_pos h3] at h ⊢
    left
    by_cases h4 : a.size<3
    · rw [num_none _ _ 2 (by omega)]
      unfold takV;simp
    rw [if_neg h4] at h;have hb:=bytes_ext2 a 1 (by omega);simp only [show 1 + 2=3 from rfl] at hb
    by_cases h5 : (a.size : Int)<3 + bigV (bytesOf (a.extract 1 3))
    · rw [num_some _ _ 2 (by omega),ext_ext _ _ _ _ (by omega),ext_tail _ _ _ (by omega)]
      simp only [show 1 + 0=1 from rfl,show 1 + 2=3 from rfl];unfold takV;rw [if_pos (by rw [tail_size];omega)]
    rw [if_neg h5] at h;simp at h
  rw [if_neg h3]
  right
  have:=bt_range a 0
  right;left
  show bt a 0 > 5
  omega
theorem num_mono (a : ByteArray) (f : Bool) (n : Nat) : (numV a f n).2.1.size≤a.size∧(f=true→(numV a f n).2.2=true):=by
  unfold numV
  by_cases h : a.size<n
  · rw [if_pos h];exact ⟨Nat.le_refl _,fun _ => rfl⟩
  rw [if_neg h];exact ⟨by simp only [tail_size];omega,fun h => h⟩
theorem tak_mono (a : ByteArray) (f : Bool) (n : Nat) : (takV a f n).2.1.size≤a.size∧(f=true→(takV a f n).2.2=true):=by
  unfold takV
  by_cases h : a.size<n
  · rw [if_pos h];exact ⟨Nat.le_refl _,fun _ => rfl⟩
  rw [if_neg h];exact ⟨by simp only [tail_size];omega,fun h => h⟩
theorem val_mono (a : ByteArray) (f : Bool) : (valV a f).2.2.2.1.size≤(numV a f 1).2.1.size∧(f=true→(valV a f).2.2.2.2=true):=by
  have hq:=num_mono a f 1;unfold valV;generalize numV a f 1=q at hq;simp only
  by_cases h1 : q.1=1
  · rw [if_pos h1]
    have:=num_mono q.2.1 q.2.2 1;exact ⟨this.1,fun h => this.2 (hq.2 h)⟩
  rw [if_neg h1]
  by_cases h2 : q.1=2
  · rw [if_pos h2]
    have:=num_mono q.2.1 q.2.2 8;exact ⟨this.1,fun h => this.2 (hq.2 h)⟩
  rw [if_neg h2]
  by_cases h3 : q.1=3∨q.1=4∨q.1=5
  · rw [if_pos h3]
    have hr:=num_mono q.2.1 q.2.2 2;have ht:=tak_mono (numV q.2.1 q.2.2 2).2.1 (numV q.2.1 q.2.2 2).2.2 (numV q.2.1 q.2.2 2).1.toNat;exact ⟨Nat.le_trans ht.1 hr.1,fun h => ht.2 (hr.2 (hq.2 h))⟩
  rw [if_neg h3];exact ⟨Nat.le_refl _,hq.2⟩
theorem val_less (a : ByteArray) (f : Bool) (h : 0<a.size) : (valV a f).2.2.2.1.size<a.size:=by
  have h1:=(val_mono a f).1;rw [num_one a f h] at h1;have:=tail_size a 1;simp only at h1
  omega
abbrev IFld:=S68
theorem emp (a : ByteArray) : a.toList=([] : List UInt8)↔a.size=0:=by
 rw [ba_toList,← data_length,List.length_eq_zero_iff]
def itS : Nat→ByteArray→Option (List IVal)
 | 0,a => if a.size=0 then some [] else none
 | m + 1,a => if a.size=0 then some [] else match nxtV a with
  | none => none
  | some (v,r) => (itS m r).map (v :: ·)
def toldL (acc : List IVal) (o : Option (List IVal)) : List IVal×Bool:=match o with|some l => (acc ++ l,true)|none => ([],false)
theorem items_spec : ∀ (m : Nat) (a : ByteArray) (acc : List IVal),a.size≤m→a.size≤1048576→acc.length + a.size≤1048576→Eve (fun k => spec_l01Items.l0 k a acc) (toldL acc (itS m a)):=by
 intro m
 induction m with
 | zero =>
  intro a acc h1 h2 h3;refine Eve.succ ?_;simp only [spec_l01Items.l0,itS];have hz : a.size=0:=by omega
  rw [if_pos hz];exact Eve.ite (fun h => absurd h (by omega)) (fun _ => Eve.one.eq (by simp [toldL]))
 | succ m ih =>
  intro a acc h1 h2 h3;refine Eve.succ ?_;simp only [spec_l01Items.l0,itS]
  by_cases hz : a.size=0
  ·
   rw [if_pos hz]
   exact Eve.ite (fun h => absurd h (by omega)) (fun _ => Eve.one.eq (by simp [toldL]))
  rw [if_neg hz];refine Eve.ite (fun _ => ?_) (fun h => absurd (by omega) h);refine Eve.bind (next_tells a h2) ?_
  cases hn : nxtV a with
  | none => simp only [told,Bool.false_eq_true,if_false];exact Eve.one
  | some p =>
   obtain ⟨v,r⟩:=p;have hs:=nxt_some a v r hn;simp only [told,if_true];refine Eve.ite (fun _ => ?_) (fun h => absurd (by omega) h);refine (ih r (acc ++ [⟨v.f0,v.f1,v.f2⟩]) (by omega) (by omega) (by simp;omega)).eq ?_
   cases itS m r with
   | none => rfl
   | some l => simp [toldL]
theorem tak_size (a : ByteArray) (f : Bool) (n : Nat) (_h : a.size≤1048576) (hn : n≤65535) : (takV a f n).1.size≤1048576:=by
 unfold takV
 by_cases h2 : a.size<n
 ·
  rw [if_pos h2];simp only [zer_size];omega
 rw [if_neg h2];simp only [ByteArray.size_extract];omega
theorem val_size (a : ByteArray) (f : Bool) (h : a.size≤1048576) : (rdv (valV a f)).f2.size≤1048576:=by
 have hq:=num_mono a f 1;unfold valV;generalize numV a f 1=q at hq;simp only [rdv]
 by_cases h1 : q.1=1
 ·
  rw [if_pos h1];exact Nat.zero_le _
 rw [if_neg h1]
 by_cases h2 : q.1=2
 ·
  rw [if_pos h2];exact Nat.zero_le _
 rw [if_neg h2]
 by_cases h3 : q.1=3∨q.1=4∨q.1=5
 ·
  rw [if_pos h3]
  have hr:=num_mono q.2.1 q.2.2 2;have hn:=num2_in q.2.1 q.2.2;exact tak_size _ _ _ (by omega) (by omega)
 rw [if_neg h3];exact Nat.zero_le _
theorem items_stop (acc : List IVal) (a : ByteArray) : Eve (fun k => impl_items.l0 k acc a true) (acc,false):=by
 refine Eve.succ ?_;simp only [impl_items.l0,if_true,Bool.not_true];exact Eve.ite (fun _ => Eve.one) (fun _ => Eve.one)
theorem items_end (acc : List IVal) (a : ByteArray) (h : a.size=0) : Eve (fun k => impl_items.l0 k acc a false) (acc,true):=by
 refine Eve.succ ?_;simp only [impl_items.l0,Bool.not_false];exact Eve.ite (fun _ => Eve.one) (fun h2 => absurd ((emp a).2 h) h2)
theorem items_step (acc : List IVal) (a : ByteArray) (h : 0<a.size) (hl : acc.length≤1048576) {x : List IVal×Bool}
  (hx : Eve (fun k => impl_items.l0 k (acc ++ [rdv (valV a false)]) (valV a false).2.2.2.1 (valV a false).2.2.2.2) x) : Eve (fun k => impl_items.l0 k acc a false) x:=by
 refine Eve.succ ?_;simp only [impl_items.l0,Bool.false_eq_true,if_false];refine Eve.ite (fun h2 => absurd ((emp a).1 h2) (by omega)) (fun _ => ?_);refine Eve.bind (value_tells a false) ?_;exact Eve.ite (fun _ => hx) (fun h2 => absurd (by omega) h2)
theorem items_some : ∀ (m : Nat) (a : ByteArray) (acc l : List IVal),itS m a=some l→acc.length + a.size≤1048576→Eve (fun k => impl_items.l0 k acc a false) (acc ++ l,true):=by
 intro m
 induction m with
 | zero =>
  intro a acc l h h2;simp only [itS] at h
  by_cases hz : a.size=0
  ·
   rw [if_pos hz] at h
   obtain rfl : []=l:=by simpa using h
   exact (items_end acc a hz).eq (by simp)
  rw [if_neg hz] at h;simp at h
 | succ m ih =>
  intro a acc l h h2;simp only [itS] at h
  by_cases hz : a.size=0
  ·
   rw [if_pos hz] at h
   obtain rfl : []=l:=by simpa using h
   exact (items_end acc a hz).eq (by simp)
  rw [if_neg hz] at h
  cases hn : nxtV a with
  | none => rw [hn] at h;simp at h
  | some p =>
   obtain ⟨v,r⟩:=p;rw [hn] at h;simp only [Option.map_eq_some_iff] at h;obtain ⟨l',h',rfl⟩:=h;obtain ⟨hs,hlt⟩:=nxt_some a v r hn;refine items_step acc a (by omega) (by omega) ?_;rw [hs];refine (ih r (acc ++ [rdv (v.f0,v.f1,v.f2,r,false)]) l' h' (by simp;omega)).eq ?_;simp [rdv]
theorem items_some_end : ∀ (m : Nat) (a : ByteArray) (acc : List IVal),a.size≤m→acc.length + a.size≤1048576 → ∃ l ok,Eve (fun k => impl_items.l0 k acc a false) (acc ++ l,ok)∧(l.length≤a.size ∧ ∀ x ∈ l,x.f2.size≤1048576):=by
 intro m
 induction m with
 | zero => intro a acc h1 h2;exact ⟨[],true,(items_end acc a (by omega)).eq (by simp),by simp,by simp⟩
 | succ m ih =>
  intro a acc h1 h2
  by_cases hz : a.size=0
  ·
   exact ⟨[],true,(items_end acc a hz).eq (by simp),by simp,by simp⟩
  have hlt:=val_less a false (by omega);have hvs:=val_size a false (by omega)
  cases hf : (valV a false).2.2.2.2 with
  | true =>
   refine ⟨[rdv (valV a false)],false,items_step acc a (by omega) (by omega) ?_,by simp;omega,by simpa using hvs⟩;rw [hf];exact items_stop _ _
  | false =>
   obtain ⟨l,ok,hl,hl1,hl2⟩:=ih (valV a false).2.2.2.1 (acc ++ [rdv (valV a false)]) (by omega) (by simp;omega);refine ⟨rdv (valV a false) :: l,ok,items_step acc a (by omega) (by omega) ?_,by simp;omega,by simpa using ⟨hvs,hl2⟩⟩;rw [hf];exact hl.eq (by simp)
theorem items_none : ∀ (m : Nat) (a : ByteArray) (acc : List IVal),a.size≤m→itS m a=none→acc.length + a.size≤1048576 → ∃ l ok,Eve (fun k => impl_items.l0 k acc a false) (acc ++ l,ok)∧(ok=false ∨ ∃ v ∈ l,Bad v)∧(l.length≤a.size ∧ ∀ x ∈ l,x.f2.size≤1048576):=by
 intro m
 induction m with
 | zero =>
  intro a acc h1 h h2;simp only [itS] at h;rw [if_pos (show a.size=0 by omega)] at h;simp at h
 | succ m ih =>
  intro a acc h1 h h2;simp only [itS] at h
  by_cases hz : a.size=0
  ·
   rw [if_pos hz] at h;simp at h
  rw [if_neg hz] at h;have hlt:=val_less a false (by omega);have hvs:=val_size a false (by omega)
  cases hn : nxtV a with
  | some p =>
   obtain ⟨v,r⟩:=p;rw [hn] at h;simp only [Option.map_eq_none_iff] at h;obtain ⟨hs,hlt⟩:=nxt_some a v r hn;rw [hs] at hvs;obtain ⟨l,ok,hl,hb,hl1,hl2⟩:=ih r (acc ++ [rdv (v.f0,v.f1,v.f2,r,false)]) (by omega) h (by simp;omega);refine ⟨rdv (v.f0,v.f1,v.f2,r,false) :: l,ok,?_,?_,by simp;omega,by simpa using ⟨hvs,hl2⟩⟩
   ·
    refine items_step acc a (by omega) (by omega) ?_
    rw [hs];exact hl.eq (by simp)
   rcases hb with hb|⟨x,hx,hb⟩
   ·
    exact .inl hb
   exact .inr ⟨x,by simp [hx],hb⟩
  | none =>
   have hv:=nxt_none a hn
   cases hf : (valV a false).2.2.2.2 with
   | true =>
    refine ⟨[rdv (valV a false)],false,items_step acc a (by omega) (by omega) ?_,.inl rfl,by simp;omega,by simpa using hvs⟩;rw [hf];exact items_stop _ _
   | false =>
    rw [hf] at hv;obtain ⟨l,ok,hl,hl1,hl2⟩:=items_some_end m (valV a false).2.2.2.1 (acc ++ [rdv (valV a false)]) (by omega) (by simp;omega);refine ⟨rdv (valV a false) :: l,ok,items_step acc a (by omega) (by omega) ?_,.inr ⟨_,by simp,hv.resolve_left (by simp)⟩,by simp;omega,by simpa using ⟨hvs,hl2⟩⟩;rw [hf];exact hl.eq (by simp)
def fdS : Nat→ByteArray→Option (List IFld)
 | 0,a => if a.size=0 then some [] else none
 | m + 1,a => if a.size=0 then some [] else if (a.size : Int)<1 + bt a 0 then none else match nxtV (a.extract (1 + bt a 0).toNat a.size) with
  | none => none
  | some (v,r) => (fdS m r).map ((⟨a.extract 1 (1 + bt a 0).toNat,v⟩ : IFld) :: ·)
def toldF (acc : List IFld) (o : Option (List IFld)) : List IFld×Bool:=match o with|some l => (acc ++ l,true)|none => ([],false)
theorem wb1 (a : ByteArray) : wrap64 (1 + bt a 0)=1 + bt a 0:=w64 (by have:=bt_range a 0;omega) (by have:=bt_range a 0;omega)
theorem fields_spec : ∀ (m : Nat) (a : ByteArray) (acc : List IFld),a.size≤m→a.size≤1048576→acc.length + a.size≤1048576→Eve (fun k => spec_l01Fields.l0 k a acc) (toldF acc (fdS m a)):=by
 intro m
 induction m with
 | zero =>
  intro a acc h1 h2 h3;refine Eve.succ ?_;simp only [spec_l01Fields.l0,fdS];have hz : a.size=0:=by omega
  rw [if_pos hz];exact Eve.ite (fun h => absurd h (by omega)) (fun _ => Eve.one.eq (by simp [toldF]))
 | succ m ih =>
  intro a acc h1 h2 h3;refine Eve.succ ?_;simp only [spec_l01Fields.l0,fdS,wbt,wb1]
  by_cases hz : a.size=0
  ·
   rw [if_pos hz]
   exact Eve.ite (fun h => absurd h (by omega)) (fun _ => Eve.one.eq (by simp [toldF]))
  rw [if_neg hz];have hb:=bt_range a 0;refine Eve.ite (fun _ => ?_) (fun h => absurd (by omega) h);refine Eve.ite (fun _ => ?_) (fun h => absurd (by omega) h);refine Eve.ite (fun h => ?_) (fun h => ?_)
  ·
   rw [if_pos h];exact Eve.one
  rw [if_neg h];refine Eve.ite (fun _ => ?_) (fun h => absurd (by omega) h);refine Eve.ite (fun _ => ?_) (fun h => absurd (by omega) h);refine Eve.ite (fun _ => ?_) (fun h => absurd (by omega) h);have ht:=tail_size a (1 + bt a 0).toNat;refine Eve.bind (next_tells _ (by omega)) ?_
  cases hn : nxtV (a.extract (1 + bt a 0).toNat a.size) with
  | none => simp only [told,Bool.false_eq_true,if_false];exact Eve.one
  | some p =>
   obtain ⟨v,r⟩:=p;have hs:=nxt_some _ v r hn;simp only [told,if_true];refine Eve.ite (fun _ => ?_) (fun h => absurd (by omega) h);refine (ih r (acc ++ [⟨a.extract 1 (1 + bt a 0).toNat,⟨v.f0,v.f1,v.f2⟩⟩]) (by omega) (by omega) (by simp;omega)).eq ?_
   cases fdS m r with
   | none => rfl
   | some l => simp [toldF]
def fdV (a : ByteArray) : ByteArray×Rd :=
 let q:=numV a false 1
 let t:=takV q.2.1 q.2.2 q.1.toNat
 (t.1,valV t.2.1 t.2.2)
def fdv (x : ByteArray×Rd) : IFld:=⟨x.1,rdv x.2⟩
theorem fields_stop (acc : List IFld) (a : ByteArray) : Eve (fun k => impl_fields.l0 k acc a true) (acc,false):=by
 have hj : Eve (fun k => impl_fields.j1 k acc false a true) (acc,false):=Eve.succ (by simp only [impl_fields.j1,Bool.false_eq_true,if_false,Bool.not_true];exact Eve.one);refine Eve.succ ?_;simp only [impl_fields.l0,Bool.not_true];exact Eve.ite (fun _ => hj) (fun _ => hj)
theorem fields_end (acc : List IFld) (a : ByteArray) (h : a.size=0) : Eve (fun k => impl_fields.l0 k acc a false) (acc,true):=by
 refine Eve.succ ?_;simp only [impl_fields.l0];refine Eve.ite (fun _ => Eve.succ ?_) (fun h2 => absurd ((emp a).2 h) h2);simp only [impl_fields.j1,Bool.false_eq_true,if_false,Bool.not_false];exact Eve.one
theorem fields_step (acc : List IFld) (a : ByteArray) (h : 0<a.size) (hl : acc.length≤1048576) {x : List IFld×Bool}
  (hx : Eve (fun k => impl_fields.l0 k (acc ++ [fdv (fdV a)]) (fdV a).2.2.2.2.1 (fdV a).2.2.2.2.2) x) : Eve (fun k => impl_fields.l0 k acc a false) x:=by
 refine Eve.succ ?_;simp only [impl_fields.l0,Bool.not_false];refine Eve.ite (fun h2 => absurd ((emp a).1 h2) (by omega)) (fun _ => Eve.succ ?_);simp only [impl_fields.j1,if_true];refine Eve.bind (num_tells a false 1 (by omega)) ?_
 have hb : 0≤(numV a false 1).1∧(numV a false 1).1≤65535:=by
  rw [num_one a false h];have:=bt_range a 0;simp only;omega
 have ht:=take_tells (numV a false 1).2.1 (numV a false 1).2.2 (numV a false 1).1.toNat (by omega);rw [show (((numV a false 1).1.toNat : Nat) : Int)=(numV a false 1).1 from Int.toNat_of_nonneg hb.1] at ht;simp only [ht,Option.bind_some];refine Eve.bind (value_tells _ _) ?_;exact Eve.ite (fun _ => hx) (fun h2 => absurd (by omega) h2)
theorem fdV_less (a : ByteArray) (h : 0<a.size) : (fdV a).2.2.2.2.1.size<a.size:=by
 unfold fdV;rw [num_one a false h];simp only;have h1:=tail_size a 1;have h2:=(tak_mono (a.extract 1 a.size) false (bt a 0).toNat).1;have h3:=(val_mono (takV (a.extract 1 a.size) false (bt a 0).toNat).2.1 (takV (a.extract 1 a.size) false (bt a 0).toNat).2.2).1;have h4:=(num_mono (takV (a.extract 1 a.size) false (bt a 0).toNat).2.1 (takV (a.extract 1 a.size) false (bt a 0).toNat).2.2 1).1
 omega
theorem fdV_ok (a : ByteArray) (h : 0<a.size) (h2 : ¬ (a.size : Int)<1 + bt a 0) : fdV a=(a.extract 1 (1 + bt a 0).toNat,valV (a.extract (1 + bt a 0).toNat a.size) false):=by
 unfold fdV;rw [num_one a false h];simp only;have hb:=bt_range a 0;have ht:=tail_size a 1;have e : (1 + bt a 0).toNat=1 + (bt a 0).toNat:=by omega
 unfold takV;rw [if_neg (by omega),e];simp only;rw [ext_ext _ _ _ _ (by omega),ext_tail _ _ _ (by omega)]
theorem fdV_bad (a : ByteArray) (h : 0<a.size) (h2 : (a.size : Int)<1 + bt a 0) : (fdV a).2.2.2.2.2=true:=by
 unfold fdV;rw [num_one a false h];simp only;have hb:=bt_range a 0;have ht:=tail_size a 1;refine (val_mono _ _).2 ?_;unfold takV;rw [if_pos (by omega)]
theorem fields_some : ∀ (m : Nat) (a : ByteArray) (acc l : List IFld),fdS m a=some l→acc.length + a.size≤1048576→Eve (fun k => impl_fields.l0 k acc a false) (acc ++ l,true):=by
 intro m
 induction m with
 | zero =>
  intro a acc l h h2;simp only [fdS] at h
  by_cases hz : a.size=0
  ·
   rw [if_pos hz] at h
   obtain rfl : []=l:=by simpa using h
   exact (fields_end acc a hz).eq (by simp)
  rw [if_neg hz] at h;simp at h
 | succ m ih =>
  intro a acc l h h2;simp only [fdS] at h
  by_cases hz : a.size=0
  ·
   rw [if_pos hz] at h
   obtain rfl : []=l:=by simpa using h
   exact (fields_end acc a hz).eq (by simp)
  rw [if_neg hz] at h
  by_cases hy : (a.size : Int)<1 + bt a 0
  ·
   rw [if_pos hy] at h;simp at h
  rw [if_neg hy] at h
  cases hn : nxtV (a.extract (1 + bt a 0).toNat a.size) with
  | none => rw [hn] at h;simp at h
  | some p =>
   obtain ⟨v,r⟩:=p;rw [hn] at h;simp only [Option.map_eq_some_iff] at h;obtain ⟨l',h',rfl⟩:=h;obtain ⟨hs,hlt⟩:=nxt_some _ v r hn;have ht:=tail_size a (1 + bt a 0).toNat;have hb:=bt_range a 0;refine fields_step acc a (by omega) (by omega) ?_;rw [fdV_ok a (by omega) hy,hs];refine (ih r (acc ++ [fdv (a.extract 1 (1 + bt a 0).toNat,(v.f0,v.f1,v.f2,r,false))]) l' h' (by simp;omega)).eq ?_;simp [fdv,rdv]
theorem fdV_size (a : ByteArray) (h : 0<a.size) (h2 : a.size≤1048576) : (fdv (fdV a)).f0.size≤1048576∧(fdv (fdV a)).f1.f2.size≤1048576:=by
 unfold fdV fdv;rw [num_one a false h];have hb:=bt_range a 0;have ht:=tail_size a 1;have hm:=(tak_mono (a.extract 1 a.size) false (bt a 0).toNat).1;exact ⟨tak_size (a.extract 1 a.size) false (bt a 0).toNat (by omega) (by omega),val_size (takV (a.extract 1 a.size) false (bt a 0).toNat).2.1 (takV (a.extract 1 a.size) false (bt a 0).toNat).2.2 (by omega)⟩
theorem fields_some_end : ∀ (m : Nat) (a : ByteArray) (acc : List IFld),a.size≤m→acc.length + a.size≤1048576 → ∃ l ok,Eve (fun k => impl_fields.l0 k acc a false) (acc ++ l,ok)∧(l.length≤a.size ∧ ∀ x ∈ l,x.f0.size≤1048576∧x.f1.f2.size≤1048576):=by
 intro m
 induction m with
 | zero => intro a acc h1 h2;exact ⟨[],true,(fields_end acc a (by omega)).eq (by simp),by simp,by simp⟩
 | succ m ih =>
  intro a acc h1 h2
  by_cases hz : a.size=0
  ·
   exact ⟨[],true,(fields_end acc a hz).eq (by simp),by simp,by simp⟩
  have hlt:=fdV_less a (by omega);have hvs:=fdV_size a (by omega) (by omega)
  cases hf : (fdV a).2.2.2.2.2 with
  | true =>
   refine ⟨[fdv (fdV a)],false,fields_step acc a (by omega) (by omega) ?_,by simp;omega,by simpa using hvs⟩;rw [hf];exact fields_stop _ _
  | false =>
   obtain ⟨l,ok,hl,hl1,hl2⟩:=ih (fdV a).2.2.2.2.1 (acc ++ [fdv (fdV a)]) (by omega) (by simp;omega);refine ⟨fdv (fdV a) :: l,ok,fields_step acc a (by omega) (by omega) ?_,by simp;omega,by simpa using ⟨hvs,hl2⟩⟩;rw [hf];exact hl.eq (by simp)
theorem fields_none : ∀ (m : Nat) (a : ByteArray) (acc : List IFld),a.size≤m→fdS m a=none→acc.length + a.size≤1048576 → ∃ l ok,Eve (fun k => impl_fields.l0 k acc a false) (acc ++ l,ok)∧(ok=false ∨ ∃ v ∈ l,Bad v.f1)∧(l.length≤a.size ∧ ∀ x ∈ l,x.f0.size≤1048576∧x.f1.f2.size≤1048576):=by
 intro m
 induction m with
 | zero =>
  intro a acc h1 h h2;simp only [fdS] at h;rw [if_pos (show a.size=0 by omega)] at h;simp at h
 | succ m ih =>
  intro a acc h1 h h2;simp only [fdS] at h
  by_cases hz : a.size=0
  ·
   rw [if_pos hz] at h;simp at h
  rw [if_neg hz] at h;have hlt:=fdV_less a (by omega);have hvs:=fdV_size a (by omega) (by omega)
  by_cases hy : (a.size : Int)<1 + bt a 0
  ·
   refine ⟨[fdv (fdV a)],false,fields_step acc a (by omega) (by omega) ?_,.inl rfl,by simp;omega,by simpa using hvs⟩
   rw [fdV_bad a (by omega) hy];exact fields_stop _ _
  rw [if_neg hy] at h;have ht:=tail_size a (1 + bt a 0).toNat;have hb0:=bt_range a 0;have hok:=fdV_ok a (by omega) hy
  cases hn : nxtV (a.extract (1 + bt a 0).toNat a.size) with
  | some p =>
   obtain ⟨v,r⟩:=p;rw [hn] at h;simp only [Option.map_eq_none_iff] at h;obtain ⟨hs,hlt⟩:=nxt_some _ v r hn;rw [hok,hs] at hvs;obtain ⟨l,ok,hl,hb,hl1,hl2⟩:=ih r (acc ++ [fdv (a.extract 1 (1 + bt a 0).toNat,(v.f0,v.f1,v.f2,r,false))]) (by omega) h (by simp;omega);refine ⟨fdv (a.extract 1 (1 + bt a 0).toNat,(v.f0,v.f1,v.f2,r,false)) :: l,ok,?_,?_,by simp;omega,by simpa using ⟨hvs,hl2⟩⟩
   ·
    refine fields_step acc a (by omega) (by omega) ?_
    rw [hok,hs];exact hl.eq (by simp)
   rcases hb with hb|⟨x,hx,hb⟩
   ·
    exact .inl hb
   exact .inr ⟨x,by simp [hx],hb⟩
  | none =>
   have hv:=nxt_none _ hn
   cases hf : (fdV a).2.2.2.2.2 with
   | true =>
    refine ⟨[fdv (fdV a)],false,fields_step acc a (by omega) (by omega) ?_,.inl rfl,by simp;omega,by simpa using hvs⟩;rw [hf];exact fields_stop _ _
   | false =>
    obtain ⟨l,ok,hl,hl1,hl2⟩:=fields_some_end m (fdV a).2.2.2.2.1 (acc ++ [fdv (fdV a)]) (by omega) (by simp;omega);refine ⟨fdv (fdV a) :: l,ok,fields_step acc a (by omega) (by omega) ?_,.inr ⟨fdv (fdV a),by simp,?_⟩,by simp;omega,by simpa using ⟨hvs,hl2⟩⟩
    ·
     rw [hf]
     exact hl.eq (by simp)
    have e1 : (fdV a).2=valV (a.extract (1 + bt a 0).toNat a.size) false:=by rw [hok]
    have e2 : (fdv (fdV a)).f1=rdv (fdV a).2:=rfl;rw [e2,e1];rw [e1] at hf;rcases hv with hv|hv
    ·
     rw [hf] at hv;cases hv
    exact hv
def isL (c : Int) : Bool:=(decide (97≤c) && decide (c≤122)) || (decide (65≤c) && decide (c≤90)) || (c == 95)
def isD (c : Int) : Bool:=decide (48≤c) && decide (c≤57)
theorem specL (c : Int) : spec_l00Letter.f c=some (isL c):=by
 unfold spec_l00Letter.f isL
 split <;> split <;> (try split) <;> (try split) <;> simp <;> omega
theorem implL (c : Int) : impl_isLetter.f c=some (isL c):=by
 unfold impl_isLetter.f isL
 split <;> split <;> (try split) <;> (try split) <;> simp <;> omega
theorem specD (c : Int) : spec_l00Digit.f c=some (isD c):=by
 unfold spec_l00Digit.f isD
 split <;> simp <;> omega
theorem implD (c : Int) : impl_isDigit.f c=some (isD c):=by
 unfold impl_isDigit.f isD
 split <;> simp <;> omega
def wgo (first : Bool) : List Int→Bool
 | [] => true
 | c :: cs => (isL c || (isD c && !first)) && wgo false cs
def word (s : ByteArray) : Bool:=wgo true (bytesOf s) && (decide (1≤(s.size : Int)) && decide ((s.size : Int)≤40))
theorem word_spec (s : ByteArray) (hs : s.size≤1048576) : Eve (fun k => spec_l00Word.f k s) (word s):=by
 have hn : (bytesOf s).length=s.size:=bytesOf_length s;have hj : Eve (fun k => spec_l00Word.j0 k s true) false:=Eve.succ (by simp only [spec_l00Word.j0,if_true];exact Eve.one);simp only [spec_l00Word.f];refine Eve.ite (fun h => hj.eq ?_) (fun h => ?_)
 ·
  have : decide (1≤(s.size : Int))=false:=by simp;omega
  simp [word,this]
 refine Eve.ite (fun h2 => hj.eq ?_) (fun h2 => ?_)
 ·
  have : decide ((s.size : Int)≤40)=false:=by simp;omega
  simp [word,this]
 refine Eve.ite (fun _ => ?_) (fun h => absurd (by omega) h)
 have hw : word s=wgo true (bytesOf s):=by
  have a1 : decide (1≤(s.size : Int))=true:=by simp;omega
  have a2 : decide ((s.size : Int)≤40)=true:=by simp;omega
  simp [word,a1,a2]
 have hb:=bt_get s 0 (by omega);simp only [show ((0 : Nat) : Int)=0 from rfl] at hb;have hc : bytesOf s=bt s 0 :: (bytesOf s).drop 1:=by rw [hb];exact drop_at (bytesOf s) 0 (by omega)
 simp only [specL,Option.bind_some]
 cases hl : isL (bt s 0) with
 | false =>
  refine hj.eq ?_;rw [hw,hc];simp [wgo,hl]
 | true =>
  refine Eve.succ ?_;simp only [spec_l00Word.j0,Bool.not_true,Bool.false_eq_true,if_false]
  have:=ev_loop (bytesOf s) (fun k (_ : Unit) i => spec_l00Word.l0 k s i) (fun _ _ r => wgo false r) (fun i _ => 1≤i) (fun _ _ => by
   simp only [spec_l00Word.l0]
   exact Eve.ite (fun h => absurd h (by omega)) (fun _ => Eve.one)) (fun i hi _ hI ih => by
   have hnx:=ih () (by omega);simp only [spec_l00Word.l0,specL,specD,Option.bind_some,wi (show i≤9223372036854775806 by omega),bt_get s i hi];refine Eve.ite (fun _ => ?_) (fun h => absurd (by omega) h);refine Eve.ite (fun _ => ?_) (fun h => absurd (by omega) h);refine Eve.ite (fun h1 => hnx.eq (by simp [wgo,h1])) (fun h1 => ?_)
   exact Eve.ite (fun h2 => hnx.eq (by simp [wgo,h2])) (fun h2 => Eve.one.eq (by simp [wgo,h1,h2]))) ((bytesOf s).length - 1) 1 () (by omega) (by omega)
  refine this.eq ?_;rw [hw]
  conv => rhs;rw [hc]
  simp [wgo,hl]
theorem word_impl (s : ByteArray) (hs : s.size≤1048576) : Eve (fun k => impl_NameOK.f k s) (word s):=by
 have hn : (bytesOf s).length=s.size:=bytesOf_length s;simp only [impl_NameOK.f];refine ev_loop0 (bytesOf s) (fun k (_ : Unit) i => impl_NameOK.l0 k s (s.size : Int) i) (fun i _ r => wgo (decide (i=0)) r && (decide (1≤(s.size : Int)) && decide ((s.size : Int)≤40))) (fun _ _ => True) (fun _ _ => ?_) (fun i hi _ _ ih => ?_) () trivial
 ·
  simp only [impl_NameOK.l0]
  refine Eve.ite (fun h => absurd h (by omega)) (fun _ => Eve.all fun k => ?_);unfold impl_inRange.f
  by_cases h : 1≤(s.size : Int)
  ·
   rw [if_pos h];simp [wgo,h]
  rw [if_neg h];simp [wgo,h]
 have hnx:=ih () trivial;simp only [Nat.add_one_ne_zero,decide_false] at hnx;simp only [impl_NameOK.l0,implL,implD,Option.bind_some,wi (show i≤9223372036854775806 by omega),bt_get s i hi];refine Eve.ite (fun _ => ?_) (fun h => absurd (by omega) h);refine Eve.ite (fun _ => ?_) (fun h => absurd (by omega) h);refine Eve.ite (fun _ => ?_) (fun h => absurd (by omega) h);refine Eve.ite (fun h1 => hnx.eq (by simp [wgo,h1])) (fun h1 => ?_);refine Eve.ite (fun h2 => ?_) (fun h2 => Eve.one.eq (by simp [wgo,h1,h2]));refine Eve.ite (fun h3 => Eve.one.eq ?_) (fun h3 => hnx.eq ?_)
 ·
  obtain rfl : i=0:=by omega
  simp [wgo,h1]
 have : ¬ i=0:=by omega
 simp [wgo,h2,this]
def nam (s : ByteArray) : Bool:=word s && decide ((s.size : Int)≤12)
theorem nam_spec (s : ByteArray) (hs : s.size≤1048576) : Eve (fun k => spec_l01Name.f k s) (nam s):=by
 simp only [spec_l01Name.f,spec_NameOK.f];refine Eve.bind (v:=word s) (Eve.bind (word_spec s hs) Eve.one) ?_;refine Eve.ite (fun h => Eve.one.eq (by simp [nam,h])) (fun h => Eve.one.eq (by simp [nam,h]))
theorem nam_impl (s : ByteArray) (hs : s.size≤1048576) : Eve (fun k => impl_isShort.f k s) (nam s):=by
 simp only [impl_isShort.f];refine Eve.ite (fun h => (Eve.bind (word_impl s hs) Eve.one).eq (by simp [nam,h])) (fun h => Eve.one.eq (by simp [nam,h]))
def nms : Option ByteArray→List IFld→Bool
 | _,[] => true
 | p,f :: fs => nam f.f0 && ((match p with|none => true|some q => Op.bytesLess q.toList f.f0.toList) && nms (some f.f0) fs)
def inr (a b c : Int) : Bool:=decide (b≤a) && decide (a≤c)
theorem in_spec (a b c : Int) : spec_l01In.f a b c=some (inr a b c):=by
 unfold spec_l01In.f inr
 by_cases h : b≤a
 ·
  rw [if_pos h];simp [h]
 rw [if_neg h];simp [h]
theorem in_impl (a b c : Int) : impl_inRange.f a b c=some (inr a b c):=in_spec a b c
abbrev emB (a : ByteArray) : Bool:=a.toList == ([] : List UInt8)
def flat (v : IVal) : Bool :=
 if v.f0=0 then decide (v.f1=0) && emB v.f2
 else if v.f0=1 then inr v.f1 0 1 && emB v.f2
 else if v.f0=2 then inr v.f1 (-1000000000000) 1000000000000 && emB v.f2
 else if v.f0=3 then decide (v.f1=0) && decide ((v.f2.size : Int)≤300)
 else false
def rightV : Nat→IVal→Bool
 | 0,v => flat v
 | d + 1,v =>
  if v.f0=4 then decide (v.f1=0) && (decide ((v.f2.size : Int)≤300) && (match itS v.f2.size v.f2 with|some l => l.all (rightV d)|none => false))
  else if v.f0=5 then decide (v.f1=0) && (decide ((v.f2.size : Int)≤300) && (match fdS v.f2.size v.f2 with|some l => nms none l && l.all (fun f => rightV d f.f1)|none => false))
  else flat v
theorem bad_right (v : IVal) (h : Bad v) : ∀ d,rightV d v=false:=by
 have hf : flat v=false:=by
  unfold flat;rcases h with h|h|⟨h,h2⟩
  ·
   rw [if_neg (by omega),if_neg (by omega),if_neg (by omega),if_neg (by omega)]
  ·
   rw [if_neg (by omega),if_neg (by omega),if_neg (by omega),if_neg (by omega)]
  rw [if_neg (by omega),if_neg (by omega),if_pos h];have : inr v.f1 (-1000000000000) 1000000000000=false:=by unfold inr;simp;omega
  rw [this];rfl
 intro d
 cases d with
 | zero => exact hf
 | succ d =>
  unfold rightV;rcases h with h|h|⟨h,h2⟩
  ·
   rw [if_neg (by omega),if_neg (by omega)];exact hf
  ·
   rw [if_neg (by omega),if_neg (by omega)];exact hf
  rw [if_neg (by omega),if_neg (by omega)];exact hf
theorem rdV (l : List IVal) (i : Nat) (h : i<l.length) : rd_T26 l (i : Int)=l[i]:=getD_at _ l i h
theorem rdF (l : List IFld) (i : Nat) (h : i<l.length) : rd_T68 l (i : Int)=l[i]:=getD_at _ l i h
theorem its_size : ∀ (m : Nat) (a : ByteArray) (l : List IVal),itS m a=some l→a.size≤1048576→l.length≤a.size ∧ ∀ x ∈ l,x.f2.size≤1048576:=by
 intro m
 induction m with
 | zero =>
  intro a l h h2;simp only [itS] at h
  by_cases hz : a.size=0
  ·
   rw [if_pos hz] at h
   obtain rfl : []=l:=by simpa using h
   simp
  rw [if_neg hz] at h;simp at h
 | succ m ih =>
  intro a l h h2;simp only [itS] at h
  by_cases hz : a.size=0
  ·
   rw [if_pos hz] at h
   obtain rfl : []=l:=by simpa using h
   simp
  rw [if_neg hz] at h
  cases hn : nxtV a with
  | none => rw [hn] at h;simp at h
  | some p =>
   obtain ⟨v,r⟩:=p;rw [hn] at h;simp only [Option.map_eq_some_iff] at h;obtain ⟨l',h',rfl⟩:=h;obtain ⟨hs,hlt⟩:=nxt_some a v r hn;have hv:=val_size a false h2;rw [hs] at hv;obtain ⟨i1,i2⟩:=ih r l' h' (by omega);refine ⟨by simp;omega,fun x hx => ?_⟩;rcases List.mem_cons.1 hx with rfl|hx
   ·
    exact hv
   exact i2 x hx
theorem fds_size : ∀ (m : Nat) (a : ByteArray) (l : List IFld),fdS m a=some l→a.size≤1048576→l.length≤a.size ∧ ∀ x ∈ l,x.f0.size≤1048576∧x.f1.f2.size≤1048576:=by
 intro m
 induction m with
 | zero =>
  intro a l h h2;simp only [fdS] at h
  by_cases hz : a.size=0
  ·
   rw [if_pos hz] at h
   obtain rfl : []=l:=by simpa using h
   simp
  rw [if_neg hz] at h;simp at h
 | succ m ih =>
  intro a l h h2;simp only [fdS] at h
  by_cases hz : a.size=0
  ·
   rw [if_pos hz] at h
   obtain rfl : []=l:=by simpa using h
   simp
  rw [if_neg hz] at h
  by_cases hy : (a.size : Int)<1 + bt a 0
  ·
   rw [if_pos hy] at h;simp at h
  rw [if_neg hy] at h;have ht:=tail_size a (1 + bt a 0).toNat;have hb:=bt_range a 0
  cases hn : nxtV (a.extract (1 + bt a 0).toNat a.size) with
  | none => rw [hn] at h;simp at h
  | some p =>
   obtain ⟨v,r⟩:=p;rw [hn] at h;simp only [Option.map_eq_some_iff] at h;obtain ⟨l',h',rfl⟩:=h;obtain ⟨hs,hlt⟩:=nxt_some _ v r hn;have hv:=val_size (a.extract (1 + bt a 0).toNat a.size) false (by omega);rw [hs] at hv;obtain ⟨i1,i2⟩:=ih r l' h' (by omega);refine ⟨by simp;omega,fun x hx => ?_⟩;rcases List.mem_cons.1 hx with rfl|hx
   ·
    exact ⟨by simp only [ByteArray.size_extract];omega,hv⟩
   exact i2 x hx
theorem dn (d : Nat) (h : d≤1000) : wrap64 (((d + 1 : Nat) : Int) - 1)=(d : Int):=by rw [w64 (by omega) (by omega)];omega
theorem spec_flat (v : IVal) (e : Int) (h4 : v.f0≠4) (h5 : v.f0≠5) : Eve (fun k => spec_l01OK.f k v.f0 v.f1 v.f2 e) (flat v):=by
 refine Eve.succ ?_;simp only [spec_l01OK.f,in_spec,Option.bind_some];unfold flat;refine Eve.ite (fun h => ?_) (fun h => ?_)
 ·
  rw [if_pos h]
  exact Eve.ite (fun h => Eve.one.eq (by simp [h])) (fun h => Eve.one.eq (by simp [h]))
 rw [if_neg h];refine Eve.ite (fun h => ?_) (fun h => ?_)
 ·
  rw [if_pos h]
  exact Eve.ite (fun h => Eve.one.eq (by simp [h])) (fun h => Eve.one.eq (by simp [h]))
 rw [if_neg h];refine Eve.ite (fun h => ?_) (fun h => ?_)
 ·
  rw [if_pos h]
  exact Eve.ite (fun h => Eve.one.eq (by simp [h])) (fun h => Eve.one.eq (by simp [h]))
 rw [if_neg h];refine Eve.ite (fun h => ?_) (fun h => ?_)
 ·
  rw [if_pos h]
  exact Eve.ite (fun h => Eve.one.eq (by simp [h])) (fun h => Eve.one.eq (by simp [h]))
 rw [if_neg h];refine Eve.ite (fun h => absurd h h4) (fun _ => ?_);exact Eve.ite (fun h => absurd h h5) (fun _ => Eve.one)
theorem impl_flat (v : IVal) (e : Int) (h4 : v.f0≠4) (h5 : v.f0≠5) : Eve (fun k => impl_isRight.f k v.f0 v.f1 v.f2 e) (flat v):=by
 refine Eve.succ ?_;simp only [impl_isRight.f,impl_isNumber.f,in_impl,Option.bind_some];unfold flat;refine Eve.ite (fun h => ?_) (fun h => ?_)
 ·
  rw [if_pos h]
  exact Eve.one.eq (by rw [h];by_cases h1 : v.f1=0 <;> simp [h1])
 rw [if_neg h];refine Eve.ite (fun h => ?_) (fun h => ?_)
 ·
  rw [if_pos h]
  exact Eve.ite (fun h => Eve.one.eq (by simp [h])) (fun h => Eve.one.eq (by simp [h]))
 rw [if_neg h];refine Eve.ite (fun h => ?_) (fun h => ?_)
 ·
  rw [if_pos h]
  exact Eve.ite (fun h => Eve.one.eq (by simp [h])) (fun h => Eve.one.eq (by simp [h]))
 rw [if_neg h];refine Eve.ite (fun h => ?_) (fun h => ?_)
 ·
  rw [if_pos h]
  exact Eve.ite (fun h => Eve.one.eq (by simp [h])) (fun h => Eve.one.eq (by simp [h]))
 rw [if_neg h];refine Eve.ite (fun h => absurd h h4) (fun _ => ?_);have : (v.f0 == 5)=false:=by simpa using h5
 simp only [this];refine Eve.succ ?_;simp only [impl_isRight.j0,Bool.false_eq_true,if_false];exact Eve.one
theorem spec_j0_true (e : Int) (l : List IVal) : Eve (fun k => spec_l01OK.j0 k e l true) false:=Eve.succ (by simp only [spec_l01OK.j0,if_true];exact Eve.one)
theorem spec_j2_true (e : Int) (l : List IFld) : Eve (fun k => spec_l01OK.j2 k e l true) false:=Eve.succ (by simp only [spec_l01OK.j2,if_true];exact Eve.one)
theorem right_spec : ∀ (d : Nat) (v : IVal),d≤1000→v.f2.size≤1048576→Eve (fun k => spec_l01OK.f k v.f0 v.f1 v.f2 (d : Int)) (rightV d v):=by
 intro d
 induction d with
 | zero =>
  intro v hd hs
  by_cases h4 : v.f0=4
  ·
   have hf : flat v=false:=by unfold flat;rw [if_neg (by omega),if_neg (by omega),if_neg (by omega),if_neg (by omega)]
   show Eve _ (flat v);rw [hf];refine Eve.succ ?_;simp only [spec_l01OK.f,h4];simp only [show ¬ (4 : Int)=0 by omega,show ¬ (4 : Int)=1 by omega,show ¬ (4 : Int)=2 by omega,show ¬ (4 : Int)=3 by omega,if_false,if_true];simp only [spec_l01Items.f];refine Eve.bind (items_spec _ v.f2 [] (Nat.le_refl _) hs (by simp;omega)) ?_;have hj:=spec_j0_true ((0 : Nat) : Int) (toldL [] (itS v.f2.size v.f2)).1;refine Eve.ite (fun _ => ?_) (fun _ => hj);refine Eve.ite (fun _ => ?_) (fun _ => hj);exact Eve.ite (fun _ => hj) (fun _ => hj)
  by_cases h5 : v.f0=5
  ·
   have hf : flat v=false:=by unfold flat;rw [if_neg (by omega),if_neg (by omega),if_neg (by omega),if_neg (by omega)]
   show Eve _ (flat v);rw [hf];refine Eve.succ ?_;simp only [spec_l01OK.f,h5];simp only [show ¬ (5 : Int)=0 by omega,show ¬ (5 : Int)=1 by omega,show ¬ (5 : Int)=2 by omega,show ¬ (5 : Int)=3 by omega,show ¬ (5 : Int)=4 by omega,if_false,if_true];simp only [spec_l01Fields.f];refine Eve.bind (fields_spec _ v.f2 [] (Nat.le_refl _) hs (by simp;omega)) ?_;have hj:=spec_j2_true ((0 : Nat) : Int) (toldF [] (fdS v.f2.size v.f2)).1;refine Eve.ite (fun _ => ?_) (fun _ => hj);refine Eve.ite (fun _ => ?_) (fun _ => hj);exact Eve.ite (fun _ => hj) (fun _ => hj)
  exact spec_flat v _ h4 h5
 | succ d ih =>
  intro v hd hs;have he : (((d + 1 : Nat) : Int) == 0)=false:=by simp;omega
  by_cases h4 : v.f0=4
  ·
   unfold rightV
   rw [if_pos h4];refine Eve.succ ?_;simp only [spec_l01OK.f,h4];simp only [show ¬ (4 : Int)=0 by omega,show ¬ (4 : Int)=1 by omega,show ¬ (4 : Int)=2 by omega,show ¬ (4 : Int)=3 by omega,if_false,if_true];simp only [spec_l01Items.f];refine Eve.bind (items_spec _ v.f2 [] (Nat.le_refl _) hs (by simp;omega)) ?_;have hj:=spec_j0_true ((d + 1 : Nat) : Int) (toldL [] (itS v.f2.size v.f2)).1;refine Eve.ite (fun h1 => ?_) (fun h1 => hj.eq (by simp [h1]))
   cases hi : itS v.f2.size v.f2 with
   | none =>
    rw [hi] at hj;simp only [toldL,Bool.false_eq_true,if_false];exact hj.eq (by simp)
   | some l =>
    rw [hi] at hj;simp only [toldL,if_true,List.nil_append] at hj ⊢;refine Eve.ite (fun h2 => hj.eq ?_) (fun h2 => ?_)
    ·
     have : decide ((v.f2.size : Int)≤300)=false:=by simp;omega
     simp [this]
    obtain ⟨hl1,hl2⟩:=its_size _ _ l hi hs;have hsz : decide ((v.f2.size : Int)≤300)=true:=by simp;omega
    simp only [he];refine Eve.succ ?_;simp only [spec_l01OK.j0,Bool.false_eq_true,if_false]
    have:=ev_loop0 l (fun k (_ : Unit) i => spec_l01OK.l0 k ((d + 1 : Nat) : Int) l i) (fun _ _ r => r.all (rightV d)) (fun _ _ => True) (fun _ _ => by
     simp only [spec_l01OK.l0]
     exact Eve.ite (fun h => absurd h (by omega)) (fun _ => Eve.one)) (fun i hi _ _ ih2 => by
     simp only [spec_l01OK.l0];refine Eve.ite (fun _ => ?_) (fun h => absurd (by omega) h);refine Eve.ite (fun _ => ?_) (fun h => absurd (by omega) h);simp only [rdV l i hi,dn d (by omega),wi (show i≤9223372036854775806 by omega)];refine Eve.bind (ih l[i] (by omega) (hl2 _ (List.getElem_mem hi))) ?_
     exact Eve.ite (fun h => (ih2 () trivial).eq (by rw [List.all_cons,h,Bool.true_and])) (fun h => Eve.one.eq (by rw [List.all_cons,Bool.eq_false_iff.mpr h,Bool.false_and]))) () trivial
    exact this.eq (by simp [h1,hsz])
  by_cases h5 : v.f0=5
  ·
   unfold rightV
   rw [if_neg h4,if_pos h5];refine Eve.succ ?_;simp only [spec_l01OK.f,h5];simp only [show ¬ (5 : Int)=0 by omega,show ¬ (5 : Int)=1 by omega,show ¬ (5 : Int)=2 by omega,show ¬ (5 : Int)=3 by omega,show ¬ (5 : Int)=4 by omega,if_false,if_true];simp only [spec_l01Fields.f];refine Eve.bind (fields_spec _ v.f2 [] (Nat.le_refl _) hs (by simp;omega)) ?_;have hj:=spec_j2_true ((d + 1 : Nat) : Int) (toldF [] (fdS v.f2.size v.f2)).1;refine Eve.ite (fun h1 => ?_) (fun h1 => hj.eq (by simp [h1]))
   cases hi : fdS v.f2.size v.f2 with
   | none =>
    rw [hi] at hj;simp only [toldF,Bool.false_eq_true,if_false];exact hj.eq (by simp)
   | some l =>
    rw [hi] at hj;simp only [toldF,if_true,List.nil_append] at hj ⊢;refine Eve.ite (fun h2 => hj.eq ?_) (fun h2 => ?_)
    ·
     have : decide ((v.f2.size : Int)≤300)=false:=by simp;omega
     simp [this]
    obtain ⟨hl1,hl2⟩:=fds_size _ _ l hi hs;have hsz : decide ((v.f2.size : Int)≤300)=true:=by simp;omega
    simp only [he];refine Eve.succ ?_;simp only [spec_l01OK.j2,Bool.false_eq_true,if_false]
    have:=ev_loop0 l (fun k (_ : Unit) i => spec_l01OK.l1 k ((d + 1 : Nat) : Int) l i) (fun i _ r => nms (if i=0 then none else some (l.getD (i - 1) z68).f0) r && r.all (fun f => rightV d f.f1)) (fun _ _ => True) (fun _ _ => by
     simp only [spec_l01OK.l1]
     exact Eve.ite (fun h => absurd h (by omega)) (fun _ => Eve.one.eq (by simp [nms]))) (fun i hi _ _ ih2 => by
     have hnx:=ih2 () trivial;simp only [Nat.add_one_ne_zero,if_false,Nat.add_sub_cancel,List.getD_eq_getElem?_getD,List.getElem?_eq_getElem hi,Option.getD_some] at hnx;simp only [spec_l01OK.l1];refine Eve.ite (fun _ => ?_) (fun h => absurd (by omega) h);refine Eve.ite (fun _ => ?_) (fun h => absurd (by omega) h);have hm:=hl2 _ (List.getElem_mem hi);simp only [rdF l i hi,dn d (by omega),wi (show i≤9223372036854775806 by omega)];refine Eve.bind (nam_spec _ hm.1) ?_;refine Eve.ite (fun hn => ?_) (fun hn => Eve.one.eq (by simp [nms,hn]));refine Eve.ite (fun h3 => ?_) (fun h3 => ?_)
     ·
      have hw : wrap64 ((i : Int) - 1)=((i - 1 : Nat) : Int):=by rw [w64 (by omega) (by omega)];omega
      simp only [hw];refine Eve.ite (fun _ => ?_) (fun h => absurd (by omega) h);refine Eve.ite (fun _ => ?_) (fun h => absurd (by omega) h);rw [if_neg (by omega),List.getD_eq_getElem?_getD,List.getElem?_eq_getElem (show i - 1<l.length by omega),Option.getD_some];simp only [rdF l (i - 1) (show i - 1<l.length by omega)];refine Eve.ite (fun h6 => ?_) (fun h6 => Eve.one.eq (by simp [nms,h6]));refine Eve.bind (ih l[i].f1 (by omega) hm.2) ?_;exact Eve.ite (fun h => hnx.eq (by simp only [nms,hn,h6,List.all_cons,h,Bool.true_and])) (fun h => Eve.one.eq (by rw [List.all_cons,Bool.eq_false_iff.mpr h,Bool.false_and,Bool.and_false]))
     obtain rfl : i=0:=by omega
     rw [if_pos rfl];refine Eve.bind (ih l[0].f1 (by omega) hm.2) ?_
     exact Eve.ite (fun h => hnx.eq (by simp [nms,hn,h])) (fun h => Eve.one.eq (by simp [h]))) () trivial
    rw [if_pos rfl] at this;exact this.eq (by simp [h1,hsz])
  unfold rightV;rw [if_neg h4,if_neg h5];exact spec_flat v _ h4 h5
theorem Eve.list {α β : Type} (g : Nat→α→Option β) (q : α→β) : ∀ l : List α,(∀ x ∈ l,Eve (fun k => g k x) (q x)) → ∃ K,∀ k,K≤k → ∀ x ∈ l,g k x=some (q x)
 | [],_ => ⟨0,fun _ _ x hx => by simp at hx⟩
 | y :: l,h => by
  obtain ⟨K,hK⟩:=Eve.list g q l (fun x hx => h x (by simp [hx]));obtain ⟨K2,hK2⟩:=h y (by simp);refine ⟨max K K2,fun k hk x hx => ?_⟩;rcases List.mem_cons.1 hx with rfl|hx
  ·
   exact hK2 k (by omega)
  exact hK k (by omega) x hx
theorem cf_tells (l : List IVal) (q : IVal→Bool) (e : Int) (hl : l.length≤4194304) (h : ∀ x ∈ l,Eve (fun k => impl_isRight.f k x.f0 x.f1 x.f2 (wrap64 (e - 1))) (q x)) :
  Eve (fun k => impl_Value_at_isRight_1.f k (impl_isRight.f k) l e) (l.any (fun x => !q x)):=by
 obtain ⟨K,hK⟩:=Eve.list (fun k (x : IVal) => impl_isRight.f k x.f0 x.f1 x.f2 (wrap64 (e - 1))) q l h;refine ⟨max K (l.length + 1),fun k hk => ?_⟩;have hG : ∀ x ∈ l,impl_isRight.f k x.f0 x.f1 x.f2 (wrap64 (e - 1))=some (q x):=hK k (by omega);show impl_Value_at_isRight_1.f k (impl_isRight.f k) l e=_;generalize impl_isRight.f k=G at hG;unfold impl_Value_at_isRight_1.f impl_Value_at_isRight_1_200001.f
 have:=first_loop (fun k i => impl_Value_at_isRight_1_200001.l0 G k l (l.length : Int) i e) l (fun x => !q x) (fun k i hi => by
  have hx:=hG l[i] (List.getElem_mem hi);simp only [impl_Value_at_isRight_1_200001.l0];rw [if_pos (by omega),if_pos (by omega),if_pos (by omega),rdV l i hi,wi (show i≤9223372036854775806 by omega)];unfold impl_isRight_1.f;rw [hx]
  rfl) (fun k => by simp only [impl_Value_at_isRight_1_200001.l0];rw [if_neg (by omega)]) l.length k 0 (by omega) (by omega)
 rw [show ((0 : Nat) : Int)=0 from rfl,List.drop_zero] at this;rw [this];simp only [Option.bind_some,first_any]
theorem any_not (l : List IVal) (q : IVal→Bool) : (!(l.any (fun x => !q x)))=l.all q:=by
 induction l with
 | nil => rfl
 | cons x l ih => simp only [List.any_cons,List.all_cons,← ih];cases q x <;> simp
theorem inner_loop (l : List IFld) (hl : l.length≤1048576) (hn : ∀ f ∈ l,f.f0.size≤1048576) (ok : Bool) : Eve (fun k => impl_inner.l0 k l ok [] l (l.length : Int) 0) (l.map (·.f1),ok && nms none l):=by
 have:=ev_loop0 l (fun k (s : Bool×List IVal) i => impl_inner.l0 k l s.1 s.2 l (l.length : Int) i) (fun i s r => (s.2 ++ r.map (·.f1),s.1 && nms (if i=0 then none else some (l.getD (i - 1) z68).f0) r)) (fun i s => s.2.length=i) (fun s _ => by
  simp only [impl_inner.l0]
  exact Eve.ite (fun h => absurd h (by omega)) (fun _ => Eve.one.eq (by simp [nms]))) (fun i hi s hI ih => by
  obtain ⟨b,out⟩:=s;simp only at hI;have hf:=hn l[i] (List.getElem_mem hi);have hnx:=fun b' => ih (b',out ++ [⟨l[i].f1.f0,l[i].f1.f1,l[i].f1.f2⟩]) (by simp;omega);simp only [Nat.add_one_ne_zero,if_false,Nat.add_sub_cancel,List.getD_eq_getElem?_getD,List.getElem?_eq_getElem hi,Option.getD_some] at hnx;have hout : ∀ r : List IFld,out ++ [(⟨l[i].f1.f0,l[i].f1.f1,l[i].f1.f2⟩ : IVal)] ++ r.map (·.f1)=out ++ (l[i] :: r).map (·.f1):=by intro r;simp
  simp only [impl_inner.l0];refine Eve.ite (fun _ => ?_) (fun h => absurd (by omega) h);refine Eve.ite (fun _ => ?_) (fun h => absurd (by omega) h);refine Eve.ite (fun _ => ?_) (fun h => absurd (by omega) h);simp only [rdF l i hi,wi (show i≤9223372036854775806 by omega)];refine Eve.ite (fun hb => ?_) (fun hb => ?_)
  ·
   refine Eve.bind (nam_impl _ hf) ?_
   refine Eve.ite (fun h1 => ?_) (fun h1 => ?_)
   ·
    refine Eve.ite (fun h2 => ?_) (fun h2 => ?_)
    ·
     obtain rfl : i=0:=by omega
     refine Eve.ite (fun _ => (hnx true).eq ?_) (fun h => absurd (by omega) h);rw [hout,if_pos rfl];simp only [nms,h1,hb,Bool.true_and]
    have hw : wrap64 ((i : Int) - 1)=((i - 1 : Nat) : Int):=by rw [w64 (by omega) (by omega)];omega
    simp only [hw];refine Eve.ite (fun _ => ?_) (fun h => absurd (by omega) h);refine Eve.ite (fun _ => ?_) (fun h => absurd (by omega) h);refine Eve.ite (fun _ => ?_) (fun h => absurd (by omega) h);have hi1 : i - 1<l.length:=by omega
    have hz : ¬ i=0:=by omega
    simp only [rdF l (i - 1) hi1];refine (hnx _).eq ?_;rw [hout,if_neg hz,List.getD_eq_getElem?_getD,List.getElem?_eq_getElem hi1,Option.getD_some];simp only [nms,h1,hb,Bool.true_and]
   refine Eve.ite (fun _ => (hnx false).eq ?_) (fun h => absurd (by omega) h);rw [hout];simp only [nms,Bool.eq_false_iff.mpr h1,Bool.false_and,Bool.and_false]
  refine Eve.ite (fun _ => (hnx false).eq ?_) (fun h => absurd (by omega) h);rw [hout]
  simp only [Bool.eq_false_iff.mpr hb,Bool.false_and]) (ok,[]) rfl
 exact this.eq (by simp)
theorem inner_four (v : IVal) (h4 : v.f0=4) (hs : v.f2.size≤1048576) : ∃ l ok,Eve (fun k => impl_inner.f k v.f0 v.f1 v.f2) (l,ok)∧l.length≤1048576∧(∀ x ∈ l,x.f2.size≤1048576) ∧
  ((itS v.f2.size v.f2=some l∧ok=true)∨(itS v.f2.size v.f2=none∧(ok=false ∨ ∃ x ∈ l,Bad x))):=by
 simp only [impl_inner.f,impl_items.f,if_pos h4]
 cases hi : itS v.f2.size v.f2 with
 | some l =>
  obtain ⟨h1,h2⟩:=its_size _ _ l hi hs;exact ⟨l,true,(Eve.bind (items_some _ v.f2 [] l hi (by simp;omega)) Eve.one),by omega,h2,.inl ⟨rfl,rfl⟩⟩
 | none =>
  obtain ⟨l,ok,hl,hb,h1,h2⟩:=items_none _ v.f2 [] (Nat.le_refl _) hi (by simp;omega);exact ⟨l,ok,(Eve.bind hl Eve.one),by omega,h2,.inr ⟨rfl,hb⟩⟩
theorem inner_five (v : IVal) (h5 : v.f0=5) (hs : v.f2.size≤1048576) : ∃ l ok,Eve (fun k => impl_inner.f k v.f0 v.f1 v.f2) (l,ok)∧l.length≤1048576∧(∀ x ∈ l,x.f2.size≤1048576) ∧
  ((∃ fs,fdS v.f2.size v.f2=some fs∧l=fs.map (·.f1)∧ok=nms none fs)∨(fdS v.f2.size v.f2=none∧(ok=false ∨ ∃ x ∈ l,Bad x))):=by
 have h4 : ¬ v.f0=4:=by omega
 simp only [impl_inner.f,impl_fields.f,if_neg h4]
 cases hi : fdS v.f2.size v.f2 with
 | some fs =>
  obtain ⟨h1,h2⟩:=fds_size _ _ fs hi hs;refine ⟨fs.map (·.f1),nms none fs,?_,by simp;omega,?_,.inl ⟨fs,rfl,rfl,rfl⟩⟩
  ·
   refine Eve.bind (fields_some _ v.f2 [] fs hi (by simp;omega)) ?_
   exact (inner_loop fs (by omega) (fun f hf => (h2 f hf).1) true).eq (by simp)
  intro x hx;obtain ⟨f,hf,rfl⟩:=List.mem_map.1 hx;exact (h2 f hf).2
 | none =>
  obtain ⟨fs,ok,hl,hb,h1,h2⟩:=fields_none _ v.f2 [] (Nat.le_refl _) hi (by simp;omega);refine ⟨fs.map (·.f1),ok && nms none fs,?_,by simp;omega,?_,.inr ⟨rfl,?_⟩⟩
  ·
   refine Eve.bind hl ?_
   exact inner_loop fs (by omega) (fun f hf => (h2 f hf).1) ok
  ·
   intro x hx
   obtain ⟨f,hf,rfl⟩:=List.mem_map.1 hx;exact (h2 f hf).2
  rcases hb with hb|⟨f,hf,hb⟩
  ·
   left;rw [hb];rfl
  right;exact ⟨f.f1,List.mem_map.2 ⟨f,hf,rfl⟩,hb⟩
theorem all_bad (l : List IVal) (q : IVal→Bool) (x : IVal) (hx : x ∈ l) (h : q x=false) : l.all q=false:=by
 rw [List.all_eq_false];exact ⟨x,hx,by simp [h]⟩
theorem nest_tells (v : IVal) (d : Nat) (l : List IVal) (ok : Bool) (hd : d≤1000) (h45 : v.f0=4∨v.f0=5) (hin : Eve (fun k => impl_inner.f k v.f0 v.f1 v.f2) (l,ok)) (hl : l.length≤1048576)
  (hq : ∀ x ∈ l,Eve (fun k => impl_isRight.f k x.f0 x.f1 x.f2 (d : Int)) (rightV d x)) :
  Eve (fun k => impl_isRight.f k v.f0 v.f1 v.f2 ((d + 1 : Nat) : Int)) (decide (v.f1=0) && (decide ((v.f2.size : Int)≤300) && (ok && l.all (rightV d)))):=by
 have hj : Eve (fun k => impl_isRight.j0 k true v.f0 v.f1 v.f2 ((d + 1 : Nat) : Int)) (decide (v.f1=0) && (decide ((v.f2.size : Int)≤300) && (ok && l.all (rightV d)))):=by
  refine Eve.succ ?_;simp only [impl_isRight.j0,if_true];refine Eve.bind hin ?_;refine Eve.ite (fun h1 => ?_) (fun h1 => Eve.one.eq (by simp [h1]));refine Eve.ite (fun h2 => ?_) (fun h2 => Eve.one.eq (by simp [h2]));refine Eve.ite (fun _ => ?_) (fun h => absurd (by omega) h);refine Eve.ite (fun h3 => ?_) (fun h3 => Eve.one.eq (by rw [show ok=false from Bool.eq_false_iff.mpr h3];simp));have hc:=cf_tells l (rightV d) ((d + 1 : Nat) : Int) (by omega) (fun x hx => by rw [dn d hd];exact hq x hx);refine Eve.bind hc (Eve.one.eq ?_);rw [any_not,show ok=true from h3];simp [h1,h2]
 refine Eve.succ ?_;simp only [impl_isRight.f];rcases h45 with h|h
 ·
  simp only [h] at hj ⊢
  simp only [show ¬ (4 : Int)=0 by omega,show ¬ (4 : Int)=1 by omega,show ¬ (4 : Int)=2 by omega,show ¬ (4 : Int)=3 by omega,if_false,if_true,beq_self_eq_true];exact hj
 simp only [h] at hj ⊢;simp only [show ¬ (5 : Int)=0 by omega,show ¬ (5 : Int)=1 by omega,show ¬ (5 : Int)=2 by omega,show ¬ (5 : Int)=3 by omega,show ¬ (5 : Int)=4 by omega,if_false,beq_self_eq_true];exact hj
theorem nest_zero (v : IVal) (l : List IVal) (ok : Bool) (h45 : v.f0=4∨v.f0=5) (hin : Eve (fun k => impl_inner.f k v.f0 v.f1 v.f2) (l,ok)) : Eve (fun k => impl_isRight.f k v.f0 v.f1 v.f2 ((0 : Nat) : Int)) false:=by
 have hj : Eve (fun k => impl_isRight.j0 k true v.f0 v.f1 v.f2 ((0 : Nat) : Int)) false:=by
  refine Eve.succ ?_;simp only [impl_isRight.j0,if_true];refine Eve.bind hin ?_;refine Eve.ite (fun _ => ?_) (fun _ => Eve.one);refine Eve.ite (fun _ => ?_) (fun _ => Eve.one);exact Eve.ite (fun h => absurd h (by omega)) (fun _ => Eve.one)
 refine Eve.succ ?_;simp only [impl_isRight.f];rcases h45 with h|h
 ·
  simp only [h] at hj ⊢
  simp only [show ¬ (4 : Int)=0 by omega,show ¬ (4 : Int)=1 by omega,show ¬ (4 : Int)=2 by omega,show ¬ (4 : Int)=3 by omega,if_false,if_true,beq_self_eq_true];exact hj
 simp only [h] at hj ⊢;simp only [show ¬ (5 : Int)=0 by omega,show ¬ (5 : Int)=1 by omega,show ¬ (5 : Int)=2 by omega,show ¬ (5 : Int)=3 by omega,show ¬ (5 : Int)=4 by omega,if_false,beq_self_eq_true];exact hj
theorem right_impl : ∀ (d : Nat) (v : IVal),d≤1000→v.f2.size≤1048576→Eve (fun k => impl_isRight.f k v.f0 v.f1 v.f2 (d : Int)) (rightV d v):=by
 intro d
 induction d with
 | zero =>
  intro v hd hs
  by_cases h4 : v.f0=4
  ·
   obtain ⟨l,ok,hin,_⟩:=inner_four v h4 hs
   refine (nest_zero v l ok (.inl h4) hin).eq ?_;show false=flat v;unfold flat;rw [if_neg (by omega),if_neg (by omega),if_neg (by omega),if_neg (by omega)]
  by_cases h5 : v.f0=5
  ·
   obtain ⟨l,ok,hin,_⟩:=inner_five v h5 hs
   refine (nest_zero v l ok (.inr h5) hin).eq ?_;show false=flat v;unfold flat;rw [if_neg (by omega),if_neg (by omega),if_neg (by omega),if_neg (by omega)]
  exact impl_flat v _ h4 h5
 | succ d ih =>
  intro v hd hs
  by_cases h4 : v.f0=4
  ·
   obtain ⟨l,ok,hin,hl,hsz,hc⟩:=inner_four v h4 hs
   refine (nest_tells v d l ok (by omega) (.inl h4) hin hl (fun x hx => ih x (by omega) (hsz x hx))).eq ?_;unfold rightV;rw [if_pos h4];rcases hc with ⟨hi,rfl⟩|⟨hi,hb⟩
   ·
    rw [hi];simp
   rw [hi];rcases hb with rfl|⟨x,hx,hb⟩
   ·
    simp
   rw [all_bad l (rightV d) x hx (bad_right x hb d)];simp
  by_cases h5 : v.f0=5
  ·
   obtain ⟨l,ok,hin,hl,hsz,hc⟩:=inner_five v h5 hs
   refine (nest_tells v d l ok (by omega) (.inr h5) hin hl (fun x hx => ih x (by omega) (hsz x hx))).eq ?_;unfold rightV;rw [if_neg h4,if_pos h5];rcases hc with ⟨fs,hi,rfl,rfl⟩|⟨hi,hb⟩
   ·
    rw [hi,List.all_map];rfl
   rw [hi];rcases hb with rfl|⟨x,hx,hb⟩
   ·
    simp
   rw [all_bad l (rightV d) x hx (bad_right x hb d)];simp
  unfold rightV;rw [if_neg h4,if_neg h5];exact impl_flat v _ h4 h5
theorem right_small (d : Nat) (v : IVal) (h : 300<v.f2.size) : rightV d v=false:=by
 have he : emB v.f2=false:=by
  have : ¬ v.f2.toList=([] : List UInt8):=fun e => by have:=(emp _).1 e;omega
  simpa [emB] using this
 have hz : decide ((v.f2.size : Int)≤300)=false:=by simp;omega
 have hf : flat v=false:=by
  unfold flat;rw [he,hz]
  repeat' split
  all_goals simp
 cases d with
 | zero => exact hf
 | succ d =>
  unfold rightV;rw [hz,hf]
  repeat' split
  all_goals simp
theorem ok_impl (v : IVal) (hs : v.f2.size≤1048576) : Eve (fun k => impl_ValueOK.f k v.f0 v.f1 v.f2) (rightV 5 v):=by
 simp only [impl_ValueOK.f];exact Eve.bind (right_impl 5 v (by omega) hs) Eve.one
theorem ok_spec (v : IVal) (hs : v.f2.size≤1048576) : Eve (fun k => spec_ValueOK.f k v.f0 v.f1 v.f2) (rightV 5 v):=by
 simp only [spec_ValueOK.f];refine Eve.ite (fun _ => Eve.bind (right_spec 5 v (by omega) hs) Eve.one) (fun h => Eve.one.eq ?_);rw [right_small 5 v (by omega)]

theorem str_app (a b : List Int) : strOfNums (a ++ b)=strOfNums a ++ strOfNums b:=by
 apply ba_ext;rw [ba_toList,ba_toList,ByteArray.data_append,Array.toList_append,strOfNums_data,strOfNums_data,strOfNums_data,List.map_append]
theorem str_bytes (s : ByteArray) : strOfNums (bytesOf s)=s:=by
 apply ba_ext;rw [ba_toList,ba_toList,strOfNums_data,bytesOf,List.map_map]
 conv => rhs;rw [← List.map_id s.data.toList]
 refine List.map_congr_left (fun b _ => ?_);show UInt8.ofNat ((b.toNat : Int)).toNat=b;rw [Int.toNat_natCast];exact UInt8.ofNat_toNat
theorem bytes_str (l : List Int) (h : ∀ b ∈ l,0≤b∧b≤255) : bytesOf (strOfNums l)=l:=by
 rw [bytesOf,strOfNums_data,List.map_map]
 conv => rhs;rw [← List.map_id l]
 refine List.map_congr_left (fun b hb => ?_);have:=h b hb;show (((UInt8.ofNat b.toNat).toNat : Nat) : Int)=b;rw [UInt8.toNat_ofNat']
 omega
abbrev Byts (l : List Int) : Prop:=∀ b ∈ l,0≤b∧b≤255
abbrev LVal:=S23

def iv (v : LVal) : IVal:=⟨v.f0,v.f1,v.f2⟩
theorem szValue_tells (v : LVal) (h : v.f2.size≤9223372036854775807) {left : Int} (h0 : 0≤left) (h1 : left≤1048576) :
  laws_szValue.f v.f0 v.f1 v.f2 left=some (if left - v.f2.size<0 then -1 else left - v.f2.size):=by
 unfold laws_szValue.f;rw [w64 (by omega) (by omega)]
 split <;> rfl
theorem toValue_tells (v : LVal) : laws_toValue.f v.f0 v.f1 v.f2=some (v.f0,v.f1,v.f2):=rfl
end Go.Proofs.Ytpmeglcmhiihoaa.Pure
end
section
namespace Go.Proofs.Ytpmeglcmhiihoaa.Q
open Go.RowKit Go.Proofs.YtpmeglcmhiihoaaW.PrintWords Go.Proofs.YtpmeglcmhiihoaaW.PrintLast Go.Proofs.YtpmeglcmhiihoaaW.PrintMore
attribute [local go_sem] max2_int min2_int max_two min_two max_three min_three max_four min_four max2_str min2_str str_geq str_gtr str_leq   -- for this text's walks alone
set_option linter.unusedVariables false
set_option linter.unusedSimpArgs false

def laws_markText.l0 : Nat→Int→ByteArray→Option (ByteArray)
 | 0,_,_ => none
 | k + 1,x0,x3 => if x0 > 0 then ((some (([(wrap64 (48 + (Int.tmod x0 10))) % 256] : List Int) : List Int)).bind fun y500 => (if (strOfNums y500).size + x3.size≤9223372036854775807 then (laws_markText.l0 k (wrap64 (Int.tdiv x0 10)) ((strOfNums y500) ++ x3)) else (none))) else (if 1 + x3.size≤9223372036854775807 then (some ((⟨#[109]⟩ : ByteArray) ++ x3)) else (none))
def laws_markText.f (k : Nat) (a0 : Int) : Option (ByteArray):=if a0≤0 then (some (⟨#[109,48]⟩ : ByteArray)) else (laws_markText.l0 k a0 (⟨#[]⟩ : ByteArray))
theorem laws_markText.mono_l : ∀ k,(∀ y0 y1,LeO (laws_markText.l0 k y0 y1) (laws_markText.l0 (k + 1) y0 y1))
 | 0 => fun _ _ r h => by simp [laws_markText.l0] at h
 | k + 1 => by
  have ih0:=laws_markText.mono_l k;intro y0 y1;unfold laws_markText.l0
  repeat' first|(with_reducible exact ih0 _ _)|(with_reducible exact zQ _)|(with_reducible exact zN _)|(with_reducible refine zP ?_ ?_)|(with_reducible refine zO ?_ (fun _ => ?_))|refine zP ?_ ?_|refine zO ?_ (fun _ => ?_)
theorem laws_markText.mono : ∀ a0 k,LeO (laws_markText.f k a0) (laws_markText.f (k + 1) a0):=by
 intro a0 k;have ih0:=laws_markText.mono_l k;unfold laws_markText.f
 repeat' first|(with_reducible exact ih0 _ _)|(with_reducible exact zQ _)|(with_reducible exact zN _)|(with_reducible refine zP ?_ ?_)|(with_reducible refine zO ?_ (fun _ => ?_))|refine zP ?_ ?_|refine zO ?_ (fun _ => ?_)
set_option maxHeartbeats 8000000 in
set_option maxRecDepth 100000 in
theorem laws_markText.calls (k : Nat) (a0 : Int) (r : ByteArray) (w : World) (h : laws_markText.f k a0=some r) :
  Calls Try.prog 63 #[.int .i64 a0] w fun e w' => e = .returned (.string r)∧Below w.heap.size w w':=by
 have HB:=zh (Below.refl w.heap.size w);have H : (if a0≤0 then (some (⟨#[109,48]⟩ : ByteArray)) else (laws_markText.l0 k a0 (⟨#[]⟩ : ByteArray)))=some r:=h;clear h
 by_cases c2 : a0≤0
 ·
  rw [if_pos c2] at H
  have c2b0 : decide (a0≤0)=true:=decide_eq_true c2;clear c2;obtain rfl:=zU H
  go_enter Try.func63,Try.ntmps63
  go_wp2
  go_ret
  exact ⟨by first|rfl|(simp [yt,yu] <;> rfl)|(simp [*,yt,yu] <;> rfl),by repeat (with_reducible first|exact HB.out|apply za|apply zb|apply zc)⟩
 rw [if_neg c2] at H;have c2b0 : decide (a0≤0)=false:=decide_eq_false c2;clear c2;have H':=zh H;clear H
 go_enter Try.func63,Try.ntmps63
 go_wp2
 go_loopg [0,3] k (fun kq v0 v3 w' => ∃ (x0_1 : Int) (x3_1 : ByteArray),v0 = .int .i64 x0_1∧v3 = .string x3_1∧Aside0 (laws_markText.l0 kq x0_1 x3_1=some r)∧Aside0 (kq≤k)∧Aside0 (Below w.heap.size w w'))
 case atStart => exact ⟨(a0),((⟨#[]⟩ : ByteArray)),(by first|rfl|(simp;done)|(simp [*];done)),(by first|rfl|(simp;done)|(simp [*];done)),H',⟨ye _⟩,⟨by repeat (with_reducible first|exact HB.out|apply za|apply zb|apply zc)⟩⟩
 case round =>
  clear H'
  try clear c2
  try clear c2b0
  try clear p2
  obtain ⟨x0_1,x3_1,rfl,rfl,HA,HK1,HB⟩:=hrel
  cases gk with
  | zero => exact absurd HA.out (by simp [laws_markText.l0])
  | succ k1 =>
   have H:=HA.out;clear HA;simp only [laws_markText.l0] at H
   by_cases c3 : x0_1 > 0
   ·
    rw [if_pos c3] at H
    have c3b0 : decide (0<x0_1)=true:=decide_eq_true c3;clear c3;obtain ⟨y500,hy500⟩ : ∃ y_ : List Int,y_=(([(wrap64 (48 + (Int.tmod x0_1 10))) % 256] : List Int)):=⟨_,rfl⟩;replace H : (if (strOfNums y500).size + x3_1.size≤9223372036854775807 then (laws_markText.l0 k1 (wrap64 (Int.tdiv x0_1 10)) ((strOfNums y500) ++ x3_1)) else (none))=some r:=by first|(rw [hy500];with_reducible exact H)|(have H2_:=(Option.bind_some _ _).symm.trans H;rw [hy500];with_reducible exact H2_)|(have H2_:=(Option.bind_some _ _).symm.trans H;with_reducible exact H2_)|with_reducible exact H|(rw [hy500];exact H)|exact H
    have Ny500:=zh hy500;clear hy500
    by_cases c4 : (strOfNums y500).size + x3_1.size≤9223372036854775807
    ·
     rw [if_pos c4] at H
     have c4b0:=eq_true c4;have c4b1 : decide ((strOfNums y500).size + x3_1.size≤9223372036854775807)=true:=decide_eq_true c4
     try have c4b2 : (9223372036854775807<(strOfNums y500).size + x3_1.size)=False:=eq_false (Nat.not_lt.2 c4)
     have H':=zh H;clear H
     go_wp2_with (first|((with_reducible refine zK (N:=12) rfl ?_);refine Kd.R_lit (Kd.int .u8) _ 5 ?hg (N:=12) ?hd (xs:=([(wrap64 (48 + (Int.tmod x0_1 10))) % 256] : List Int)) (inner:=[.int .u8 ((wrap64 (48 + (Int.tmod x0_1 10))) % 256)]) (ok:=fun _ => True) (okp:=fun _ => True) ?hr ?hp (fun _ hk => hk) trivial (Below.refl _ _) (ye _) (by simp) ?_;(case hd => rfl);(case hg => rfl);(case hr => first|(go_simp;done)|(go_simp;rfl));(case hp => exact (Reps.one (show Kd.M (Kd.int .u8) _ _ _ ((wrap64 (48 + (Int.tmod x0_1 10))) % 256) [.int .u8 ((wrap64 (48 + (Int.tmod x0_1 10))) % 256)] from rfl) (Reps.none _ _)));intro v501 w5 ho6 hb hg_ hnew_;clear hg_ hnew_;(first|rw [← Ny500.out] at ho6|(simp only [Int.reduceToNat] at ho6;rw [← Ny500.out] at ho6));have HO502:=zh (yy ho6 (zB (by repeat (with_reducible first|exact HB.out|apply za|apply zb|apply zc))));replace HB:=zh (zC (by repeat (with_reducible first|exact HB.out|apply za|apply zb|apply zc)) hb);clear hb ho6;have hcv7:=own_string (P:=Try.prog) Try.underlying29 Try.underlying5 Try.underlying9 (Kd.own_of_R HO502.out)))
     go_roundg k1
     case measure => have:=HK1.out;omega
     case rel => exact ⟨(wrap64 (Int.tdiv x0_1 10)),((strOfNums y500) ++ x3_1),(by first|rfl|(simp;done)|(simp [*];done)),(by first|rfl|(simp;done)|(simp [*];done)),H',⟨by have:=HK1.out;omega⟩,⟨by repeat (with_reducible first|exact HB.out|apply za|apply zb|apply zc)⟩⟩
    rw [if_neg c4] at H;exact absurd H (by simp)
   rw [if_neg c3] at H;have c3b0 : decide (0<x0_1)=false:=decide_eq_false c3;clear c3
   by_cases c8 : 1 + x3_1.size≤9223372036854775807
   ·
    rw [if_pos c8] at H
    have c8b0:=eq_true c8;have c8b1 : decide (1 + x3_1.size≤9223372036854775807)=true:=decide_eq_true c8
    try have c8b2 : (9223372036854775807<1 + x3_1.size)=False:=eq_false (Nat.not_lt.2 c8)
    obtain rfl:=zU H
    go_wp2
    go_ret
    exact ⟨by first|rfl|(simp [yt,yu] <;> rfl)|(simp [*,yt,yu] <;> rfl),by repeat (with_reducible first|exact HB.out|apply za|apply zb|apply zc)⟩
   rw [if_neg c8] at H;exact absurd H (by simp)

end Go.Proofs.Ytpmeglcmhiihoaa.Q
end
section
namespace Go.Proofs.Ytpmeglcmhiihoaa.Pure
open Go Go.RowKit Go.Proofs.Ytpmeglcmhiihoaa.Q Go.Proofs.YtpmeglcmhiihoaaW.PrintWords Go.Proofs.YtpmeglcmhiihoaaW.PrintLast Go.Proofs.YtpmeglcmhiihoaaW.PrintMore Go.Proofs.YtpmeglcmhiihoaaW.Pl
open Classical in
noncomputable def mt (x : Int) : ByteArray:=if h : ∃ t,Eve (fun k => laws_markText.f k x) t then h.choose else ⟨#[]⟩
theorem filled {α : Type} (ys : List α) (n : Nat) (c : Nat→α) (h1 : ys.length=n) (h2 : ∀ j,j<n→ys[j]? = some (c j)) : ys=(List.range n).map c:=by
 apply List.ext_getElem?
 intro j
 by_cases hj : j<n
 ·
  rw [h2 j hj];simp [hj]
 rw [List.getElem?_eq_none (by omega),List.getElem?_eq_none (by simp;omega)]
theorem fill_next {α : Type} (ys : List α) (i : Nat) (c : Nat→α) (h1 : i<ys.length) (h2 : ∀ j,j<i→ys[j]? = some (c j)) : ∀ j,j<i + 1→(ys.set i (c i))[j]? = some (c j):=by
 intro j hj
 by_cases h : j=i
 ·
  subst h;simp [h1]
 rw [List.getElem?_set_ne (by omega)];exact h2 j (by omega)
end Go.Proofs.Ytpmeglcmhiihoaa.Pure
end
section
namespace Go.Proofs.Ytpmeglcmhiihoaa.Pure
open Go Go.RowKit Go.Proofs.Ytpmeglcmhiihoaa.Q Go.Proofs.YtpmeglcmhiihoaaW.PrintWords Go.Proofs.YtpmeglcmhiihoaaW.PrintLast Go.Proofs.YtpmeglcmhiihoaaW.PrintMore Go.Proofs.YtpmeglcmhiihoaaW.Pl
def Shape (v : IVal) : Prop :=
 (v.f0=0∧v.f1=0∧v.f2=eB)∨(v.f0=1∧(0≤v.f1∧v.f1≤1)∧v.f2=eB)∨(v.f0=2∧(-1000000000000≤v.f1∧v.f1≤1000000000000)∧v.f2=eB)∨((3≤v.f0∧v.f0≤5)∧v.f1=0∧v.f2.size≤300)
theorem em_is {a : ByteArray} (h : emB a=true) : a=eB:=ba_ext (by rw [show a.toList=([] : List UInt8) from eq_of_beq h,ba_toList])
theorem flat_shape {v : IVal} (h : flat v=true) : Shape v:=by
 unfold flat at h;unfold Shape
 by_cases q0 : v.f0=0
 ·
  rw [if_pos q0,Bool.and_eq_true,decide_eq_true_eq] at h
  exact .inl ⟨q0,h.1,em_is h.2⟩
 rw [if_neg q0] at h
 by_cases q1 : v.f0=1
 ·
  rw [if_pos q1,Bool.and_eq_true] at h
  have h1:=h.1;unfold inr at h1;rw [Bool.and_eq_true,decide_eq_true_eq,decide_eq_true_eq] at h1;exact .inr (.inl ⟨q1,h1,em_is h.2⟩)
 rw [if_neg q1] at h
 by_cases q2 : v.f0=2
 ·
  rw [if_pos q2,Bool.and_eq_true] at h
  have h1:=h.1;unfold inr at h1;rw [Bool.and_eq_true,decide_eq_true_eq,decide_eq_true_eq] at h1;exact .inr (.inr (.inl ⟨q2,h1,em_is h.2⟩))
 rw [if_neg q2] at h
 by_cases q3 : v.f0=3
 ·
  rw [if_pos q3,Bool.and_eq_true,decide_eq_true_eq,decide_eq_true_eq] at h
  exact .inr (.inr (.inr ⟨by omega,h.1,by omega⟩))
 rw [if_neg q3] at h;cases h
theorem right_shape : ∀ (d : Nat) (v : IVal),rightV d v=true→Shape v:=by
 intro d v h
 cases d with
 | zero => exact flat_shape h
 | succ d =>
  unfold rightV at h
  by_cases h4 : v.f0=4
  ·
   rw [if_pos h4,Bool.and_eq_true,Bool.and_eq_true,decide_eq_true_eq,decide_eq_true_eq] at h
   exact .inr (.inr (.inr ⟨by omega,h.1,by omega⟩))
  rw [if_neg h4] at h
  by_cases h5 : v.f0=5
  ·
   rw [if_pos h5,Bool.and_eq_true,Bool.and_eq_true,decide_eq_true_eq,decide_eq_true_eq] at h
   exact .inr (.inr (.inr ⟨by omega,h.1,by omega⟩))
  rw [if_neg h5] at h;exact flat_shape h
def dig (x : Int) : Nat→List Int
 | 0 => []
 | m + 1 => (shr .i64 x (8 * (m : Int)) % 256) :: dig x m
theorem dig_in (x : Int) : ∀ m,∀ b ∈ dig x m,0≤b∧b≤255
 | 0 => fun b hb => by simp [dig] at hb
 | m + 1 => fun b hb => by
  rcases List.mem_cons.1 hb with rfl|hb
  ·
   omega
  exact dig_in x m b hb
theorem dig_length (x : Int) : ∀ m,(dig x m).length=m
 | 0 => rfl
 | m + 1 => by rw [dig,List.length_cons,dig_length x m]
theorem shr_at (x : Int) (m : Nat) (h : m≤8) : shr .i64 x (8 * (m : Int))=x / 2 ^ (8 * m):=by
 unfold shr;have e1 : (8 * (m : Int)).toNat=8 * m:=by omega
 have e2 : min (8 * m) (IntKind.bits .i64)=8 * m:=Nat.min_eq_left (by show 8 * m≤64;omega);rw [e1,e2]
theorem shr_zero (x : Int) : shr .i64 x (8 * ((0 : Nat) : Int))=x:=by rw [shr_at x 0 (by omega)];simp
theorem u64_at (m : Nat) (h : m≤8) : IntKind.u64.wrap (wrap64 (8 * (m : Int)))=8 * (m : Int):=by
 rw [w64 (by omega) (by omega)];rw [show IntKind.u64.wrap (8 * (m : Int))=(8 * (m : Int)) % 18446744073709551616 from rfl]
 omega
theorem number_loop (x : Int) : ∀ (m : Nat) (acc : List Int),m≤8→acc.length + m≤100→Eve (fun k => spec_l01Number.l0 k x acc ((m : Int) - 1)) (strOfNums (acc ++ dig x m)):=by
 intro m
 induction m with
 | zero =>
  intro acc _ _;refine Eve.succ ?_;simp only [spec_l01Number.l0];exact Eve.ite (fun h => absurd h (by omega)) (fun _ => Eve.one.eq (by simp [dig]))
 | succ m ih =>
  intro acc h1 h2;refine Eve.succ ?_;simp only [spec_l01Number.l0,show ((m + 1 : Nat) : Int) - 1=(m : Int) by omega,u64_at m (by omega),w64 (show -9223372036854775808≤(m : Int) - 1 by omega) (by omega)];refine Eve.ite (fun _ => ?_) (fun h => absurd (by omega) h);refine Eve.ite (fun _ => ?_) (fun h => absurd (by omega) h);refine Eve.ite (fun _ => ?_) (fun h => absurd (by omega) h);exact (ih _ (by omega) (by simp;omega)).eq (by simp [dig])
theorem number_tells (x : Int) (n : Nat) (h : n≤8) : Eve (fun k => spec_l01Number.f k x (n : Int)) (strOfNums (dig x n)):=by
 simp only [spec_l01Number.f,w64 (show -9223372036854775808≤(n : Int) - 1 by omega) (by omega)];exact (number_loop x n [] h (by simp;omega)).eq (by simp)
def dig8 (x : Int) (i : Nat) : Int:=shr .i64 x (56 - 8 * (i : Int)) % 256
theorem eight_tells (x : Int) : Eve (fun k => impl_eight.f k x) (dig x 8):=by
 simp only [impl_eight.f];refine Eve.ite (fun _ => ?_) (fun h => absurd (by decide) h);have hl : (List.replicate 8 (0 : Int)).length=8:=by simp
 have he : (List.range 8).map (dig8 x)=dig x 8:=rfl;refine ev_loop0 (List.replicate 8 (0 : Int)) (fun k (s : List Int) i => impl_eight.l0 k x s i) (fun _ _ _ => dig x 8) (fun i s => s.length=8 ∧ ∀ j,j<i→s[j]? = some (dig8 x j)) (fun s hs => ?_) (fun i hi s hs ih => ?_) (List.replicate 8 0) ⟨hl,by intro j hj;omega⟩
 ·
  simp only [impl_eight.l0]
  refine Eve.ite (fun h => absurd h (by omega)) (fun _ => Eve.one.eq ?_);rw [← he];exact filled s 8 _ hs.1 (fun j hj => hs.2 j (by omega))
 obtain ⟨h1,h2⟩:=hs;have hi8 : i<8:=by omega
 have e1 : wrap64 (8 * (i : Int))=8 * (i : Int):=w64 (by omega) (by omega);have e2 : wrap64 (56 - 8 * (i : Int))=56 - 8 * (i : Int):=w64 (by omega) (by omega);simp only [impl_eight.l0,e1,e2,Int.toNat_natCast,wi (show i≤9223372036854775806 by omega)];refine Eve.ite (fun _ => ?_) (fun h => absurd (by omega) h);refine Eve.ite (fun _ => ?_) (fun h => absurd (by omega) h);refine Eve.ite (fun _ => ?_) (fun h => absurd (by omega) h);refine Eve.ite (fun _ => ?_) (fun h => absurd (by omega) h);exact ih (s.set i (dig8 x i)) ⟨by simpa using h1,fill_next s i (dig8 x) (by omega) h2⟩
def encB (v : IVal) : List Int :=
 if v.f0=0 then [0] else if v.f0=1 then [1,v.f1] else if v.f0=2 then 2 :: dig (v.f1 + 4611686018427387904) 8
 else v.f0 :: ((v.f2.size : Int) / 256 % 256) :: ((v.f2.size : Int) % 256) :: bytesOf v.f2
theorem enc_in {v : IVal} (h : Shape v) : ∀ b ∈ encB v,0≤b∧b≤255:=by
 unfold encB;rcases h with ⟨h,_⟩|⟨h,h1,_⟩|⟨h,_⟩|⟨h,_,hz⟩
 ·
  rw [if_pos h];intro b hb;simp at hb;omega
 ·
  rw [if_neg (by omega),if_pos h];intro b hb;simp at hb;omega
 ·
  rw [if_neg (by omega),if_neg (by omega),if_pos h]
  intro b hb;rcases List.mem_cons.1 hb with rfl|hb
  ·
   omega
  exact dig_in _ _ b hb
 rw [if_neg (by omega),if_neg (by omega),if_neg (by omega)];intro b hb;rcases List.mem_cons.1 hb with rfl|hb
 ·
  omega
 rcases List.mem_cons.1 hb with rfl|hb
 ·
  omega
 rcases List.mem_cons.1 hb with rfl|hb
 ·
  omega
 exact bytes_in _ b hb
theorem enc_length {v : IVal} (h : Shape v) : 1≤(encB v).length∧(encB v).length≤303:=by
 unfold encB;rcases h with ⟨h,_⟩|⟨h,h1,_⟩|⟨h,_⟩|⟨h,_,hz⟩
 ·
  rw [if_pos h];simp
 ·
  rw [if_neg (by omega),if_pos h];simp
 ·
  rw [if_neg (by omega),if_neg (by omega),if_pos h];simp [dig_length]
 rw [if_neg (by omega),if_neg (by omega),if_neg (by omega)];simp only [List.length_cons,bytesOf_length];omega
theorem put_tells (acc : List Int) {v : IVal} (h : Shape v) (ha : acc.length≤1048576) : Eve (fun k => impl_putValue.f k acc v.f0 v.f1 v.f2) (acc ++ encB v):=by
 simp only [impl_putValue.f,Option.bind_some,List.length_append,List.length_cons,List.length_nil,List.append_assoc,List.cons_append,List.nil_append];refine Eve.ite (fun _ => ?_) (fun h => absurd (by omega) h);unfold encB;rcases h with ⟨h,_⟩|⟨h,h1,_⟩|⟨h,h1,_⟩|⟨h,_,hz⟩
 ·
  rw [if_pos h]
  simp only [h];exact Eve.one
 ·
  rw [if_neg (show ¬ v.f0=0 by omega),if_pos h]
  simp only [h,if_true];refine Eve.ite (fun _ => Eve.one.eq ?_) (fun h => absurd (by omega) h);rw [show v.f1 % 256=v.f1 by omega];rfl
 ·
  rw [if_neg (show ¬ v.f0=0 by omega),if_neg (show ¬ v.f0=1 by omega),if_pos h]
  refine Eve.ite (fun h => absurd h (by omega)) (fun _ => Eve.ite (fun _ => ?_) (fun h2 => absurd h h2));rw [show wrap64 (v.f1 + 4611686018427387904)=v.f1 + 4611686018427387904 from w64 (by omega) (by omega)];refine Eve.bind (eight_tells _) ?_;refine Eve.ite (fun _ => Eve.one.eq (by rw [h];rfl)) (fun h => absurd (by rw [dig_length];omega) h)
 rw [if_neg (show ¬ v.f0=0 by omega),if_neg (show ¬ v.f0=1 by omega),if_neg (show ¬ v.f0=2 by omega)];have hk : v.f0 % 256=v.f0:=by omega
 have fin : Eve (fun _ => if acc.length + (0 + 1) + (0 + 1 + 1)<140737488355328 then (if acc.length + (0 + 1 + 1 + 1) + v.f2.size<140737488355328 then some (acc ++ v.f0 % 256 :: (v.f2.size : Int) / 256 % 256 :: (v.f2.size : Int) % 256 :: bytesOf v.f2) else none) else none) (acc ++ v.f0 :: (v.f2.size : Int) / 256 % 256 :: (v.f2.size : Int) % 256 :: bytesOf v.f2) :=
  Eve.ite (fun _ => Eve.ite (fun _ => Eve.one.eq (by rw [hk])) (fun h => absurd (by omega) h)) (fun h => absurd (by omega) h)
 refine Eve.ite (fun h => absurd h (by omega)) (fun _ => Eve.ite (fun h => absurd h (by omega)) (fun _ => ?_));exact Eve.ite (fun _ => fin) (fun _ => Eve.ite (fun _ => fin) (fun _ => Eve.ite (fun _ => fin) (fun h => absurd (by omega) h)))
theorem enc_tells {v : IVal} (h : Shape v) : Eve (fun k => spec_l01Encode.f k v.f0 v.f1 v.f2) (strOfNums (encB v)):=by
 have n1 : ∀ x : Int,0≤x→x≤255→dig x 1=[x]:=by
  intro x h0 h1;show [shr .i64 x (8 * ((0 : Nat) : Int)) % 256]=[x];rw [shr_zero,show x % 256=x by omega]
 simp only [spec_l01Encode.f]
 have hk : 0≤v.f0∧v.f0≤5:=by
  rcases h with ⟨h,_⟩|⟨h,_⟩|⟨h,_⟩|⟨h,_⟩ <;> omega
 have t1:=number_tells v.f0 1 (by omega);rw [n1 _ hk.1 (by omega)] at t1;refine Eve.bind t1 ?_;unfold encB;rcases h with ⟨h,_⟩|⟨h,h1,_⟩|⟨h,h1,_⟩|⟨h,_,hz⟩
 ·
  rw [if_pos h]
  simp only [h,if_true];exact Eve.one
 ·
  rw [if_neg (show ¬ v.f0=0 by omega),if_pos h]
  refine Eve.ite (fun h => absurd h (by omega)) (fun _ => Eve.ite (fun _ => ?_) (fun h2 => absurd h h2));have t2:=number_tells v.f1 1 (by omega);rw [n1 _ h1.1 (by omega)] at t2;refine Eve.bind t2 ?_;simp only [strOfNums_size,List.length_cons,List.length_nil];refine Eve.ite (fun _ => Eve.one.eq ?_) (fun h => absurd (by omega) h);rw [← str_app,h];rfl
 ·
  rw [if_neg (show ¬ v.f0=0 by omega),if_neg (show ¬ v.f0=1 by omega),if_pos h]
  refine Eve.ite (fun h => absurd h (by omega)) (fun _ => Eve.ite (fun h => absurd h (by omega)) (fun _ => Eve.ite (fun _ => ?_) (fun h2 => absurd h h2)));rw [show wrap64 (v.f1 + 4611686018427387904)=v.f1 + 4611686018427387904 from w64 (by omega) (by omega)];refine Eve.bind (number_tells _ 8 (by omega)) ?_;simp only [strOfNums_size,List.length_cons,List.length_nil,dig_length];refine Eve.ite (fun _ => Eve.one.eq ?_) (fun h => absurd (by omega) h);rw [← str_app,h];rfl
 rw [if_neg (show ¬ v.f0=0 by omega),if_neg (show ¬ v.f0=1 by omega),if_neg (show ¬ v.f0=2 by omega)];refine Eve.ite (fun h => absurd h (by omega)) (fun _ => Eve.ite (fun h => absurd h (by omega)) (fun _ => Eve.ite (fun h => absurd h (by omega)) (fun _ => ?_)));have t2:=number_tells (v.f2.size : Int) 2 (by omega)
 have e2 : dig (v.f2.size : Int) 2=[(v.f2.size : Int) / 256 % 256,(v.f2.size : Int) % 256]:=by
  show [shr .i64 (v.f2.size : Int) (8 * ((1 : Nat) : Int)) % 256,shr .i64 (v.f2.size : Int) (8 * ((0 : Nat) : Int)) % 256]=_;rw [shr_zero,shr_at _ 1 (by omega)];rfl
 rw [e2] at t2;refine Eve.bind t2 ?_;simp only [ByteArray.size_append,strOfNums_size,List.length_cons,List.length_nil];refine Eve.ite (fun _ => Eve.ite (fun _ => Eve.one.eq ?_) (fun h => absurd (by omega) h)) (fun h => absurd (by omega) h);rw [← str_app]
 conv => lhs;rw [← str_bytes v.f2]
 rw [← str_app,str_bytes];rfl
end Go.Proofs.Ytpmeglcmhiihoaa.Pure
end
section
namespace Go.Proofs.Ytpmeglcmhiihoaa.Q
open Go.RowKit Go.Proofs.YtpmeglcmhiihoaaW.PrintWords Go.Proofs.YtpmeglcmhiihoaaW.PrintLast Go.Proofs.YtpmeglcmhiihoaaW.PrintMore
attribute [local go_sem] max2_int min2_int max_two min_two max_three min_three max_four min_four max2_str min2_str str_geq str_gtr str_leq   -- for this text's walks alone
set_option linter.unusedVariables false
set_option linter.unusedSimpArgs false

def laws_toByteS.l0 : Nat→List Int→List Int→Int→Option (List Int)
 | 0,_,_,_ => none
 | k + 1,x0,x3,x4 => if x4<(x0.length : Int) then (if 0≤x4 then (if x4<(x3.length : Int) then (laws_toByteS.l0 k x0 (x3.set (x4 : Int).toNat (rd x0 x4)) (wrap64 (x4 + 1))) else (none)) else (none)) else (some x3)
def laws_toByteS.f (k : Nat) (l0 : List Int) : Option (List Int):=if 0≤(l0.length : Int) then (if ((l0.length : Int) : Int).toNat≤281474976710656 then (laws_toByteS.l0 k l0 (List.replicate ((l0.length : Int) : Int).toNat 0) 0) else (none)) else (none)
theorem laws_toByteS.mono_l : ∀ k,(∀ y0 y1 y2,LeO (laws_toByteS.l0 k y0 y1 y2) (laws_toByteS.l0 (k + 1) y0 y1 y2))
 | 0 => fun _ _ _ r h => by simp [laws_toByteS.l0] at h
 | k + 1 => by
  have ih0:=laws_toByteS.mono_l k;intro y0 y1 y2;unfold laws_toByteS.l0
  repeat' first|(with_reducible exact ih0 _ _ _)|(with_reducible exact zQ _)|(with_reducible exact zN _)|(with_reducible refine zP ?_ ?_)|(with_reducible refine zO ?_ (fun _ => ?_))|refine zP ?_ ?_|refine zO ?_ (fun _ => ?_)
theorem laws_toByteS.mono : ∀ a0 k,LeO (laws_toByteS.f k a0) (laws_toByteS.f (k + 1) a0):=by
 intro a0 k;have ih0:=laws_toByteS.mono_l k;unfold laws_toByteS.f
 repeat' first|(with_reducible exact ih0 _ _ _)|(with_reducible exact zQ _)|(with_reducible exact zN _)|(with_reducible refine zP ?_ ?_)|(with_reducible refine zO ?_ (fun _ => ?_))|refine zP ?_ ?_|refine zO ?_ (fun _ => ?_)
set_option maxHeartbeats 8000000 in
set_option maxRecDepth 100000 in
theorem laws_toByteS.calls (k : Nat) (A0 : Option Addr) (c0 : Nat) (l0 : List Int) (r : List Int) (w : World) (hr0 : Kd.C (Kd.int .u8) w A0 l0.length l0) (hc0 : l0.length≤c0) (h : laws_toByteS.f k l0=some r) :
  Calls Try.prog 19 #[.slice A0 l0.length c0] w fun e w' => ∃ v0_ : Value,e = .returned (v0_)∧Kd.R (Kd.int .u8) 5 w' w.heap.size (fun _ => True) v0_ r∧Below w.heap.size w w':=by
 have HR0:=zh hr0;have HC0:=zh hc0;clear hr0 hc0;have HB:=zh (Below.refl w.heap.size w);have H : (if 0≤(l0.length : Int) then (if ((l0.length : Int) : Int).toNat≤281474976710656 then (laws_toByteS.l0 k l0 (List.replicate ((l0.length : Int) : Int).toNat 0) 0) else (none)) else (none))=some r:=h;clear h
 by_cases c2 : 0≤(l0.length : Int)
 ·
  rw [if_pos c2] at H
  have c2b0:=eq_true c2;have c2b1 : decide (0≤(l0.length : Int))=true:=decide_eq_true c2;clear c2
  by_cases c3 : ((l0.length : Int) : Int).toNat≤281474976710656
  ·
   rw [if_pos c3] at H
   have c3b0:=eq_true c3;have c3b1 : decide (((l0.length : Int) : Int).toNat≤281474976710656)=true:=decide_eq_true c3;clear c3;obtain ⟨y298,hy298⟩ : ∃ y_ : List Int,y_=(List.replicate ((l0.length : Int) : Int).toNat 0):=⟨_,rfl⟩;replace H : (laws_toByteS.l0 k l0 y298 0)=some r:=by first|(rw [hy298];with_reducible exact H)|(have H2_:=(Option.bind_some _ _).symm.trans H;rw [hy298];with_reducible exact H2_)|(have H2_:=(Option.bind_some _ _).symm.trans H;with_reducible exact H2_)|with_reducible exact H|(rw [hy298];exact H)|exact H
   have Ny298:=zh hy298;clear hy298;have H':=zh H;clear H
   go_enter Try.func19,Try.ntmps19
   go_wp2_with (first|((with_reducible refine zK (N:=7) rfl ?_);refine Kd.R_make (Kd.int .u8) _ 5 rfl (N:=7) rfl 29 _ _ rfl (l0.length : Int) rfl rfl Try.underlying29 (.int .u8 0) 1 info5 rfl (by decide) (by omega) 0 (ok:=fun _ => True) (okp:=fun _ => True) rfl (fun _ hk => hk) trivial (zy (by first|(with_reducible assumption)|assumption)) (Nat.le_trans (Nat.mul_le_mul_right _ (zy (by first|(with_reducible assumption)|assumption) : (l0.length : Int).toNat≤281474976710656)) (by omega)) (Below.refl _ _) (ye _) ?_;intro v299 w4 ho5 hb hg_ hnew_;clear hg_ hnew_;(first|rw [← Ny298.out] at ho5|(simp only [Int.reduceToNat] at ho5;rw [← Ny298.out] at ho5));have HO300:=zh (yy ho5 (zB (by repeat (with_reducible first|exact HB.out|apply za|apply zb|apply zc))));replace HB:=zh (zC (by repeat (with_reducible first|exact HB.out|apply za|apply zb|apply zc)) hb);clear hb ho5))
   go_loopg [4] k (fun kq v4 w' => ∃ (x3_1 : List Int) (x4_1 : Int),v4 = .int .i64 x4_1∧Aside0 (laws_toByteS.l0 kq l0 x3_1 x4_1=some r)∧Aside0 (kq≤k)∧Aside0 (Kd.R (Kd.int .u8) 5 w' w.heap.size (fun _ => True) v299 x3_1)∧Aside0 (Below w.heap.size w w'))
   case atStart => exact ⟨(y298),(0),(by first|rfl|(simp;done)|(simp [*];done)),H',⟨ye _⟩,⟨by (with_reducible repeat (first|apply zm|apply zn|apply zo));exact HO300.out⟩,⟨by repeat (with_reducible first|exact HB.out|apply za|apply zb|apply zc)⟩⟩
   case round =>
    clear H'
    try clear c1
    try clear c2
    try clear c2b0
    try clear c2b1
    try clear p2
    try clear c3
    try clear c3b0
    try clear c3b1
    obtain ⟨x3_1,x4_1,rfl,HA,HK1,HO_3,HB⟩:=hrel
    cases gk with
    | zero => exact absurd HA.out (by simp [laws_toByteS.l0])
    | succ k1 =>
     have H:=HA.out;clear HA;simp only [laws_toByteS.l0] at H
     by_cases c6 : x4_1<(l0.length : Int)
     ·
      rw [if_pos c6] at H
      have c6b0 : decide (x4_1<(l0.length : Int))=true:=decide_eq_true c6;clear c6
      by_cases c7 : 0≤x4_1
      ·
       rw [if_pos c7] at H
       have c7b0 : decide (0≤x4_1)=true:=decide_eq_true c7;clear c7
       by_cases c8 : x4_1<(x3_1.length : Int)
       ·
        rw [if_pos c8] at H
        have c8b0 : decide (x4_1<(x3_1.length : Int))=true:=decide_eq_true c8;clear c8;obtain ⟨y302,hy302⟩ : ∃ y_ : List Int,y_=(x3_1.set (x4_1 : Int).toNat (rd l0 x4_1)):=⟨_,rfl⟩;replace H : (laws_toByteS.l0 k1 l0 y302 (wrap64 (x4_1 + 1)))=some r:=by first|(rw [hy302];with_reducible exact H)|(have H2_:=(Option.bind_some _ _).symm.trans H;rw [hy302];with_reducible exact H2_)|(have H2_:=(Option.bind_some _ _).symm.trans H;with_reducible exact H2_)|with_reducible exact H|(rw [hy302];exact H)|exact H
        have Ny302:=zh hy302;clear hy302;have H':=zh H;clear H;have p301 : 0≤(x4_1 : Int):=zy (by first|(with_reducible assumption)|assumption);have q301 : x4_1<(l0.length : Int):=zy (by first|(with_reducible assumption)|assumption);obtain ⟨ad301,e301,hx301_0⟩:=Kd.at_int HR0.out x4_1 p301 q301
        cases e301
        replace hx301_0:=(HB.out.cell (zl w _ hx301_0)).trans hx301_0;replace p301:=eq_true p301;replace q301:=eq_true q301;have p9 : 0≤(x4_1 : Int):=zy (by first|(with_reducible assumption)|assumption);have q9 : (x4_1 : Int)<((x3_1.length : Int) : Int):=zy (by first|(with_reducible assumption)|assumption);obtain ⟨go9,co9,eo9,gb9,gl9,cl9,HG9⟩:=Kd.R_form HO_3.out (by omega);(first|cases eo9|(injection eo9 with ea_ en_ ec_;(first|subst ea_|(injection ea_ with ea_;subst ea_));subst ec_;clear en_));have GB9:=zh gb9;have GG9:=zh HG9;clear gb9 gl9 HG9;obtain ⟨hx9_0,hf9_0⟩:=Kd.R_celln 0 HO_3.out (x4_1 : Int) p9 q9;replace p9:=eq_true p9;replace q9:=eq_true q9;have HP10:=Kd.R_putg HO_3.out (x4_1 : Int) (rd l0 x4_1)
        go_wp2_with (first|((with_reducible refine gate_store (t:=5) (p:=20) rfl ?_);refine store_event (t:=5) (p:=20) (v:=?vo_w11) (w1:=(wr.setCell ⟨go9,(x4_1 : Int).toNat,none⟩ (.int .u8 (rd l0 x4_1)))) ?hg ?ho ?hn ?hr ?_;(case ho => rfl);(case hg => rfl);(case hn => rfl);(case hr => first|(go_simp;done)|(go_simp;rfl));intro w11 hw;have hg : wr.grownBy w11 (some go9):=(by rw [hw];exact HP10.2);have hp_ : Kd.R (Kd.int .u8) 5 w11 w.heap.size (fun _ => True) (.slice (some ⟨go9,0,none⟩) x3_1.length co9) y302:=(by rw [hw,Ny302.out];exact HP10.1);clear HP10;replace HO_3:=zh (hp_);replace HB:=zh ((by rw [hw];exact zd (HB.out) GB9.out : Below w.heap.size w w11));clear hg hw hp_))
        go_roundg k1
        case measure => have:=HK1.out;omega
        case rel => exact ⟨(y302),(wrap64 (x4_1 + 1)),(by first|rfl|(simp;done)|(simp [*];done)),H',⟨by have:=HK1.out;omega⟩,⟨by (with_reducible repeat (first|apply zm|apply zn|apply zo));exact HO_3.out⟩,⟨by repeat (with_reducible first|exact HB.out|apply za|apply zb|apply zc)⟩⟩
       rw [if_neg c8] at H;exact absurd H (by simp)
      rw [if_neg c7] at H;exact absurd H (by simp)
     rw [if_neg c6] at H;have c6b0 : decide (x4_1<(l0.length : Int))=false:=decide_eq_false c6;clear c6;obtain rfl:=zU H
     go_wp2
     go_ret
     exact ⟨_,by first|rfl|(simp [yt,yu] <;> rfl)|(simp [*,yt,yu] <;> rfl),by (with_reducible repeat (first|apply zm|apply zn|apply zo));exact HO_3.out,by repeat (with_reducible first|exact HB.out|apply za|apply zb|apply zc)⟩
  rw [if_neg c3] at H;exact absurd H (by simp)
 rw [if_neg c2] at H;exact absurd H (by simp)

end Go.Proofs.Ytpmeglcmhiihoaa.Q
end
section
namespace Go.Proofs.Ytpmeglcmhiihoaa.Pure
open Go Go.RowKit Go.Proofs.Ytpmeglcmhiihoaa.Q Go.Proofs.YtpmeglcmhiihoaaW.PrintWords Go.Proofs.YtpmeglcmhiihoaaW.PrintLast Go.Proofs.YtpmeglcmhiihoaaW.Pl
theorem wib {i : Nat} (h : i≤9223372036854775806) : wrap64 ((i : Int) + 1)=((i + 1 : Nat) : Int):=w64 (by omega) (by omega)
theorem eqByteS_self (l : List Int) (hl : l.length≤1048576) : Eve (fun k => laws_eqByteS.f k l l) true:=by
 simp only [laws_eqByteS.f,if_true];refine (ev_all l (fun k i => laws_eqByteS.l0 k l l i) (fun _ => true) ?_ (fun i hi v ih => ?_)).eq (by simp)
 ·
  simp only [laws_eqByteS.l0]
  exact Eve.ite (fun h => absurd h (by omega)) (fun _ => Eve.one)
 simp only [laws_eqByteS.l0,if_true,Bool.true_and,wib (show i≤9223372036854775806 by omega)];refine Eve.ite (fun _ => ?_) (fun h => absurd (by omega) h);refine Eve.ite (fun _ => ?_) (fun h => absurd (by omega) h);exact Eve.ite (fun _ => ih) (fun h => absurd (by omega) h)
end Go.Proofs.Ytpmeglcmhiihoaa.Pure
end
section
namespace Go.Proofs.Ytpmeglcmhiihoaa.Pure
open Go Go.RowKit Go.Proofs.Ytpmeglcmhiihoaa.Q Go.Proofs.YtpmeglcmhiihoaaW.PrintWords Go.Proofs.YtpmeglcmhiihoaaW.PrintLast Go.Proofs.YtpmeglcmhiihoaaW.PrintMore Go.Proofs.YtpmeglcmhiihoaaW.Pl
def encA (v : IVal) : List Int×Int:=if rightV 5 v=true then (encB v,0) else ([],1)
theorem encode_spec (v : IVal) (hs : v.f2.size≤1048576) : Eve (fun k => spec_EncodeValue.f k v.f0 v.f1 v.f2) (encA v):=by
 simp only [spec_EncodeValue.f];unfold encA;refine Eve.bind (ok_spec v hs) ?_;refine Eve.ite (fun h => ?_) (fun h => Eve.one.eq (by rw [if_neg h]));have hq:=right_shape 5 v h;rw [if_pos h];refine Eve.bind (enc_tells hq) ?_;have hl:=enc_length hq;refine Eve.ite (fun _ => Eve.one.eq ?_) (fun h => absurd (by rw [strOfNums_size];omega) h);rw [bytes_str _ (enc_in hq)]
theorem encode_impl (v : IVal) (hs : v.f2.size≤1048576) : Eve (fun k => impl_EncodeValue.f k v.f0 v.f1 v.f2) (encA v):=by
 simp only [impl_EncodeValue.f];unfold encA;refine Eve.bind (ok_impl v hs) ?_;refine Eve.ite (fun h => ?_) (fun h => Eve.one.eq (by rw [if_neg h]));rw [if_pos h];exact Eve.bind (put_tells [] (right_shape 5 v h) (by simp)) Eve.one
theorem encA_length (v : IVal) : (encA v).1.length≤1048576:=by
 unfold encA
 by_cases h : rightV 5 v=true
 ·
  rw [if_pos h]
  have:=enc_length (right_shape 5 v h);show (encB v).length≤_
  omega
 rw [if_neg h];simp
def cellB (i : Nat) : Int:=(1 + (i : Int)) % 256
theorem mark_bytes (l : List Int) (hl : l.length≤1048576) : Eve (fun k => laws_markByteS.f k l 1) (1 + (l.length : Int),(List.range l.length).map cellB):=by
 simp only [laws_markByteS.f];refine ev_loop0 l (fun k (s : List Int×Int) i => laws_markByteS.l0 k s.1 s.2 i) (fun _ _ _ => (1 + (l.length : Int),(List.range l.length).map cellB)) (fun i s => s.1.length=l.length∧s.2=1 + (i : Int) ∧ ∀ j,j<i→s.1[j]? = some (cellB j)) (fun s hs => ?_) (fun i hi s hs ih => ?_) (l,1) ⟨rfl,rfl,by intro j hj;omega⟩
 ·
  obtain ⟨h1,h2,h3⟩:=hs
  simp only [laws_markByteS.l0];exact Eve.ite (fun h => absurd h (by omega)) (fun _ => Eve.one.eq (by rw [h2,filled s.1 _ _ h1 h3]))
 obtain ⟨ys,x⟩:=s;obtain ⟨h1,h2,h3⟩:=hs;simp only at h1 h2 h3;subst h2;have e1 : wrap64 (1 + (i : Int) + 1)=1 + ((i + 1 : Nat) : Int):=by rw [w64 (by omega) (by omega)];omega
 simp only [laws_markByteS.l0,e1,Int.toNat_natCast,wi (show i≤9223372036854775806 by omega)];refine Eve.ite (fun _ => ?_) (fun h => absurd (by omega) h);refine Eve.ite (fun _ => ?_) (fun h => absurd (by omega) h);exact ih (ys.set i (cellB i),1 + ((i + 1 : Nat) : Int)) ⟨by simpa using h1,rfl,fill_next ys i cellB (by omega) h3⟩
theorem held_bytes (n : Nat) (hn : n≤1048576) : Eve (fun k => laws_heldByteS.f k ((List.range n).map cellB) 1) (1 + (n : Int)):=by
 have hlen : ((List.range n).map cellB).length=n:=by simp
 simp only [laws_heldByteS.f];refine ev_loop0 ((List.range n).map cellB) (fun k (s : Int) i => laws_heldByteS.l0 k ((List.range n).map cellB) s i) (fun _ _ _ => 1 + (n : Int)) (fun i s => s=1 + (i : Int)) (fun s hs => ?_) (fun i hi s hs ih => ?_) 1 rfl
 ·
  simp only [laws_heldByteS.l0]
  exact Eve.ite (fun h => absurd h (by omega)) (fun _ => Eve.one.eq (by rw [hs,hlen]))
 subst hs;have hc : ((List.range n).map cellB)[i]=cellB i:=by simp
 have e1 : wrap64 (1 + (i : Int) + 1)=1 + ((i + 1 : Nat) : Int):=by rw [w64 (by omega) (by omega)];omega
 simp only [laws_heldByteS.l0,e1,rd_at _ _ hi,hc,wi (show i≤9223372036854775806 by omega)];refine Eve.ite (fun _ => ?_) (fun h => absurd (by omega) h);refine Eve.ite (fun _ => ?_) (fun h => absurd (by omega) h);exact Eve.ite (fun _ => ih _ rfl) (fun h => absurd rfl h)
theorem FnExactEncodeValue : laws_FnExactEncodeValue.Pure:=by
 rintro x ⟨_,_,hx⟩;refine Eve.get (g:=fun k => laws_FnExactEncodeValue.f k x.f0 x.f1 x.f2) ?_;simp only [laws_FnExactEncodeValue.f,toValue_tells,szValue_tells x hx (left:=1048576) (by omega) (by omega),Option.bind_some]
 by_cases h : (1048576 : Int) - x.f2.size<0
 ·
  simp only [if_pos h];exact Eve.ite (fun _ => Eve.one) (fun h => absurd (by omega) h)
 simp only [if_neg h];have hs : (iv x).f2.size≤1048576:=by show x.f2.size≤_;omega
 have h1:=encode_spec (iv x) hs;have h2:=encode_impl (iv x) hs;have hl:=encA_length (iv x);generalize encA (iv x)=a at h1 h2 hl;obtain ⟨l,c⟩:=a;have heq:=eqByteS_self l hl;refine Eve.bind h1 ?_;refine Eve.bind h2 ?_;refine Eve.bind heq ?_;simp only [if_true,bne_self_eq_false];refine Eve.succ ?_;simp only [laws_FnExactEncodeValue.j0,Bool.false_eq_true,if_false,toValue_tells,Option.bind_some];refine Eve.bind (mark_bytes l hl) ?_;refine Eve.bind (held_bytes l.length hl) ?_;refine Eve.ite (fun h => absurd h (by omega)) (fun _ => ?_);simp only [if_true];refine Eve.bind h2 ?_;refine Eve.bind heq ?_;simp only [if_true,bne_self_eq_false];refine Eve.succ ?_;simp only [laws_FnExactEncodeValue.j1,Bool.false_eq_true,if_false];refine Eve.bind (held_bytes l.length hl) ?_;refine Eve.ite (fun h => absurd h (by omega)) (fun _ => ?_);simp only [if_true];exact Eve.one
end Go.Proofs.Ytpmeglcmhiihoaa.Pure
end
section
namespace Go.Proofs.Ytpmeglcmhiihoaa.fnExactEncodeValue
open Go.ChangeShapes Go.WideShapes Go.ChangeAt Go.RowKit Go.Proofs.YtpmeglcmhiihoaaW.PrintWords Go.Proofs.YtpmeglcmhiihoaaW.PrintOpen Go.Proofs.Ytpmeglcmhiihoaa.Q
open Go.ChangeMaps (open_string shut_string)
set_option linter.unusedVariables false
theorem own : ownKnob Try.prog.godebug=none:=by kernel_rfl
theorem laidOut : laidOutB Try.prog=true:=by kernel_rfl
set_option maxRecDepth 100000 in
theorem lifted (os : Os) (started : os.Started) (H : Type) (enc : TypeId×Value→H) :
  ReturnsInHanded {} Try.checked os 6 .any (Rows.fnExactEncodeValueSpec.pre6 enc Try.prog Try.f6 Rows.fnExactEncodeValueRow.domain false) (Rows.fnExactEncodeValueSpec.post enc Try.prog Try.f6 false true false false):=by
 refine returnsInHanded_of_change_sized (C:=Try.checked) own started (by kernel_rfl) Try.func6
  (ChangeSpec.witness6 (enc:=enc) (C:=Try.checked) false ⟨#[],#[.agg #[.int .i64 0,.int .i64 0,.string ByteArray.empty]],[]⟩ 8 (by kernel_rfl) (by kernel_rfl) (by kernel_rfl) (by kernel_rfl)) ?_
 intro W base args ds gs before hval0 hW hcnd hsz0 _
 have hval : ∀ (j : Nat) t v,Try.f6.params[j]? = some t→args[j]? = some v→Value.okWide Try.prog W .any base t v:=hval0
 have hW':=hW
 obtain ⟨p,q,hA0,hV,rfl,hfz,hnd⟩:=hW
 have hA : DataW.TrodAll enc Try.prog W 0 (fun _ => true) true Try.f6.params.toList args.toList ds p:=hA0
 rw [Try.params6] at hA hval
 obtain ⟨v0,vs0,d0,ds0,p0,q0,hargs,rfl,rfl,h0,r0⟩:=trodAll_cons hA
 obtain ⟨rfl,rfl,rfl⟩:=trodAll_nil r0
 obtain rfl : args = #[v0]:=by cases args;simp_all
 obtain ⟨rfl,rfl⟩:=trodVars_none hV
 have t0:=h0
 have lt0 : ∀ x ∈ p0,x.block<W.heap.size:=by obtain ⟨m,hm⟩:=t0;exact DataW.trod_lt m _ _ _ hm
 obtain ⟨x0,cs0,rfl,K0,g0⟩:=arg_struct Try.underlying23 opens23 (hval 0 23 v0 rfl rfl) h0
 obtain rfl:=k23_open K0
 clear hA0 hval0 hsz0
 obtain ⟨k,hp⟩:=Pure.FnExactEncodeValue x0 g0
 refine (laws_FnExactEncodeValue.calls k x0.f0 x0.f1 x0.f2 true W  hp).mono fun e W' ⟨he,bel0⟩ => ?_
 have bel : Below W.heap.size W W':=bel0
 subst he
 exact ⟨_,rfl,_,_,_,[],_,[],hW',trodAll_mk1 (shut_bool Try.underlying4 _),(trodAll_cons_mk (Below.trod laidOut (by kernel_rfl) (of_decide_eq_true (by kernel_rfl)) t0 bel lt0) trodAll_mk0),rfl,bel.frame _,fun h => by cases h⟩
theorem over : Rows.fnExactEncodeValueRow.holds Try.pinned (OpenSpec.ofChange Rows.fnExactEncodeValueSpec) :=
 OpenClaim.holds_of_wide 6 Try.f6 rfl rfl rfl rfl rfl rfl rfl ⟨rfl,rfl,rfl,rfl,rfl⟩ rfl rfl rfl rfl rfl (by kernel_rfl) Try.func6 (by kernel_rfl)
  (of_decide_eq_true (by kernel_rfl)) (by unfold Func.isWrapper;first|(rw [if_pos (by decide +kernel)];kernel_rfl)|(rw [if_neg (by decide +kernel)];exact ⟨rfl,rfl⟩))
  (fun os started H enc _ => lifted os started H enc)
theorem proved : Rows.FnExactEncodeValueSaid:=over
#print axioms proved
end Go.Proofs.Ytpmeglcmhiihoaa.fnExactEncodeValue
namespace Go.Proofs.Ytpmeglcmhiihoaa
theorem fnExactEncodeValue_holds : Rows.FnExactEncodeValueSaid:=fnExactEncodeValue.proved
end Go.Proofs.Ytpmeglcmhiihoaa
end

/- Texts of this claim, merged by a program of this session. -/
import Derived.Test.YtpmeglcmhiihoaaKLawFnExactListOfp22
import Derived.Test.YtpmeglcmhiihoaaKLawFnExactListOfp25
import Derived.Test.YtpmeglcmhiihoaaKLawFnExactListOfp12
import Derived.Lib.AppendStr
import Derived.Test.YtpmeglcmhiihoaaKLawFnExactListOfp23
import Derived.Test.YtpmeglcmhiihoaaKLawFnExactListOfp0
import Derived.WalkKit
import Derived.ProofKit
import Derived.OpenShut
import Derived.ShutString
import Derived.ChangeOld
import Derived.Below
import Derived.SizedLaws
import Derived.Deep.Slices
import Derived.Lib.SmallJoins
import Derived.Test.YtpmeglcmhiihoaaKLawFnExactListOfp11
import Derived.Laws.Entries
import Derived.Test.YtpmeglcmhiihoaaKLawFnExactListOfp24
section
namespace Go.Proofs.Ytpmeglcmhiihoaa.Q
open Go.RowKit Go.Proofs.YtpmeglcmhiihoaaW.PrintWords Go.Proofs.YtpmeglcmhiihoaaW.PrintLast Go.Proofs.YtpmeglcmhiihoaaW.PrintMore
attribute [local go_sem] max2_int min2_int max_two min_two max_three min_three max_four min_four max2_str min2_str str_geq str_gtr str_leq   -- for this text's walks alone
set_option linter.unusedVariables false
set_option linter.unusedSimpArgs false

def impl_bounded.f (k : Nat) (a0_0 : Int) (a0_1 : Int) (a0_2 : ByteArray) : Option (Int×Int×ByteArray×Int):=if (a0_2.size : Int) > 300 then (some (0,0,(⟨#[]⟩ : ByteArray),10)) else ((impl_depth.f k a0_0 a0_1 a0_2).bind fun t748 => (if t748 > 5 then (some (0,0,(⟨#[]⟩ : ByteArray),9)) else (some (a0_0,a0_1,a0_2,0))))
theorem impl_bounded.mono : ∀ a0 a1 a2 k,LeO (impl_bounded.f k a0 a1 a2) (impl_bounded.f (k + 1) a0 a1 a2):=by
 intro a0 a1 a2 k;unfold impl_bounded.f
 repeat' first|(with_reducible exact impl_depth.mono _ _ _ _)|(with_reducible exact zQ _)|(with_reducible exact zN _)|(with_reducible refine zP ?_ ?_)|(with_reducible refine zO ?_ (fun _ => ?_))|refine zP ?_ ?_|refine zO ?_ (fun _ => ?_)
set_option maxHeartbeats 8000000 in
set_option maxRecDepth 100000 in
theorem impl_bounded.calls (k : Nat) (a0_0 : Int) (a0_1 : Int) (a0_2 : ByteArray) (r1 : Int) (r2 : Int) (r3 : ByteArray) (r4 : Int) (w : World) (h : impl_bounded.f k a0_0 a0_1 a0_2=some (r1,r2,r3,r4)) :
  Calls Try.prog 72 #[.agg #[.int .i64 a0_0,.int .i64 a0_1,.string a0_2]] w fun e w' => e = .returned (.tuple #[.agg #[.int .i64 r1,.int .i64 r2,.string r3],.int .i64 r4])∧Below w.heap.size w w':=by
 have hu26:=Try.underlying26;have HB:=zh (Below.refl w.heap.size w);have H : (if (a0_2.size : Int) > 300 then (some (0,0,(⟨#[]⟩ : ByteArray),10)) else ((impl_depth.f k a0_0 a0_1 a0_2).bind fun t748 => (if t748 > 5 then (some (0,0,(⟨#[]⟩ : ByteArray),9)) else (some (a0_0,a0_1,a0_2,0)))))=some (r1,r2,r3,r4):=h;clear h
 by_cases c2 : (a0_2.size : Int) > 300
 ·
  rw [if_pos c2] at H
  have c2b0 : decide (300<(a0_2.size : Int))=true:=decide_eq_true c2;have c2b1 : decide (300<a0_2.size)=true:=decide_eq_true (by omega);clear c2;simp only [Option.some.injEq,Prod.mk.injEq] at H;obtain ⟨rfl,rfl,rfl,rfl⟩:=H
  go_enter Try.func72,Try.ntmps72
  go_wp2_with (first|((with_reducible refine zK (N:=1) rfl ?_);refine zI ?hg (N:=1) ?hd (cs:=#[.int .i64 a0_0,.int .i64 a0_1,.string a0_2]) (t:=26) ?hr ?_;(case hd => rfl);(case hg => rfl);(case hr => first|(go_simp;done)|(go_simp;rfl));intro gb746 hg w3 hbox hb;have BK746:=zh (hbox);have GW746:=zh ((by rw [hg];exact (zB (by repeat (with_reducible first|exact HB.out|apply za|apply zb|apply zc))) : w.heap.size≤gb746));have GE746:=zh ((by rw [hg];exact (zB (by repeat (with_reducible first|exact HB.out|apply za|apply zb|apply zc))) : w.heap.size≤gb746));replace HB:=zh (zC (by repeat (with_reducible first|exact HB.out|apply za|apply zb|apply zc)) hb);clear hb hbox hg)|((with_reducible refine zK (N:=2) rfl ?_);refine zI ?hg (N:=2) ?hd (cs:=#[.int .i64 0,.int .i64 0,.string (⟨#[]⟩ : ByteArray)]) (t:=26) ?hr ?_;(case hd => rfl);(case hg => rfl);(case hr => first|(go_simp;done)|(go_simp;rfl));intro gb747 hg w4 hbox hb;have BK747:=zh (hbox);have GW747:=zh ((by rw [hg];exact (zB (by repeat (with_reducible first|exact HB.out|apply za|apply zb|apply zc|refine zd ?_ GE746.out))) : w.heap.size≤gb747));have GE747:=zh ((by rw [hg];exact (zB (by repeat (with_reducible first|exact HB.out|apply za|apply zb|apply zc|refine zd ?_ GE746.out))) : w.heap.size≤gb747));replace HB:=zh (zC (by repeat (with_reducible first|exact HB.out|apply za|apply zb|apply zc|refine zd ?_ GE746.out)) hb);have NB746_747:=zh ((by rw [hg];exact yc (yi (g:=gb746) (o:=.cells #[.int .i64 a0_0,.int .i64 a0_1,.string a0_2] 26 (0,0)) (by (with_reducible repeat (first|refine ze ?_ _|refine zf ?_|refine zg ?_ _));exact BK746.out)) : gb746≠gb747));have NB747_746:=zh ((by rw [hg];exact yd (yi (g:=gb746) (o:=.cells #[.int .i64 a0_0,.int .i64 a0_1,.string a0_2] 26 (0,0)) (by (with_reducible repeat (first|refine ze ?_ _|refine zf ?_|refine zg ?_ _));exact BK746.out)) : gb747≠gb746));replace BK746:=zh (zD (g:=gb746) (o:=.cells #[.int .i64 a0_0,.int .i64 a0_1,.string a0_2] 26 (0,0)) (by (with_reducible repeat (first|refine ze ?_ _|refine zf ?_|refine zg ?_ _));exact BK746.out) hb);clear hb hbox hg;have hnb5:=NB746_747.out;have hnc5:=NB747_746.out;have hcz6_0 : w4.cell? ⟨gb746,0,none⟩=some (.int .i64 a0_0):=(zz BK746.out 0).trans rfl;have hcz6_1 : w4.cell? ⟨gb746,1,none⟩=some (.int .i64 a0_1):=(zz BK746.out 1).trans rfl;have hcz6_2 : w4.cell? ⟨gb746,2,none⟩=some (.string a0_2):=(zz BK746.out 2).trans rfl;have hfz6_0:=zA BK746.out 0;have hfz6_1:=zA BK746.out 1;have hfz6_2:=zA BK746.out 2;have hcz7_0 : w4.cell? ⟨gb747,0,none⟩=some (.int .i64 0):=(zz BK747.out 0).trans rfl;have hcz7_1 : w4.cell? ⟨gb747,1,none⟩=some (.int .i64 0):=(zz BK747.out 1).trans rfl;have hcz7_2 : w4.cell? ⟨gb747,2,none⟩=some (.string (⟨#[]⟩ : ByteArray)):=(zz BK747.out 2).trans rfl;have hfz7_0:=zA BK747.out 0;have hfz7_1:=zA BK747.out 1;have hfz7_2:=zA BK747.out 2))
  refine bodyPost_ret (results_ct rfl _ _ gb747 26 #[.int .i64 0,.int .i64 0,.string (⟨#[]⟩ : ByteArray)] (0,0) _ rfl (by (with_reducible repeat (first|refine ze ?_ _|refine zf ?_|refine zg ?_ _));refine zL (cs:=#[.int .i64 0,.int .i64 0,.string (⟨#[]⟩ : ByteArray)]) ?_ 2 _ rfl;(with_reducible repeat (first|refine ze ?_ _|refine zf ?_|refine zg ?_ _));refine zL (cs:=#[.int .i64 0,.int .i64 0,.string (⟨#[]⟩ : ByteArray)]) ?_ 1 _ rfl;(with_reducible repeat (first|refine ze ?_ _|refine zf ?_|refine zg ?_ _));refine zL (cs:=#[.int .i64 0,.int .i64 0,.string (⟨#[]⟩ : ByteArray)]) ?_ 0 _ rfl;(with_reducible repeat (first|refine ze ?_ _|refine zf ?_|refine zg ?_ _));exact BK747.out) Try.underlying26 rfl (by kernel_rfl)) rfl ?_;exact ⟨by first|rfl|(simp [yt,yu] <;> rfl)|(simp [*,yt,yu] <;> rfl),by repeat (with_reducible first|exact HB.out|apply za|apply zb|apply zc|refine zd ?_ GE746.out|refine zd ?_ GE747.out)⟩
 rw [if_neg c2] at H;have c2b0 : decide (300<(a0_2.size : Int))=false:=decide_eq_false c2;have c2b1 : decide (300<a0_2.size)=false:=decide_eq_false (by omega);clear c2;replace H:=zT.mp H;obtain ⟨t748,A80,H⟩:=H;replace H : (if t748 > 5 then (some (0,0,(⟨#[]⟩ : ByteArray),9)) else (some (a0_0,a0_1,a0_2,0)))=some (r1,r2,r3,r4):=H;have A8:=zh A80;clear A80
 by_cases c9 : t748 > 5
 ·
  rw [if_pos c9] at H
  have c9b0 : decide (5<t748)=true:=decide_eq_true c9;clear c9;simp only [Option.some.injEq,Prod.mk.injEq] at H;obtain ⟨rfl,rfl,rfl,rfl⟩:=H
  go_enter Try.func72,Try.ntmps72
  go_wp2_with (first|((with_reducible refine zK (N:=1) rfl ?_);refine zI ?hg (N:=1) ?hd (cs:=#[.int .i64 a0_0,.int .i64 a0_1,.string a0_2]) (t:=26) ?hr ?_;(case hd => rfl);(case hg => rfl);(case hr => first|(go_simp;done)|(go_simp;rfl));intro gb746 hg w10 hbox hb;have BK746:=zh (hbox);have GW746:=zh ((by rw [hg];exact (zB (by repeat (with_reducible first|exact HB.out|apply za|apply zb|apply zc))) : w.heap.size≤gb746));have GE746:=zh ((by rw [hg];exact (zB (by repeat (with_reducible first|exact HB.out|apply za|apply zb|apply zc))) : w.heap.size≤gb746));replace HB:=zh (zC (by repeat (with_reducible first|exact HB.out|apply za|apply zb|apply zc)) hb);clear hb hbox hg)|((with_reducible refine zK (N:=2) rfl ?_);refine zI ?hg (N:=2) ?hd (cs:=#[.int .i64 0,.int .i64 0,.string (⟨#[]⟩ : ByteArray)]) (t:=26) ?hr ?_;(case hd => rfl);(case hg => rfl);(case hr => first|(go_simp;done)|(go_simp;rfl));intro gb747 hg w11 hbox hb;have BK747:=zh (hbox);have GW747:=zh ((by rw [hg];exact (zB (by repeat (with_reducible first|exact HB.out|apply za|apply zb|apply zc|refine zd ?_ GE746.out))) : w.heap.size≤gb747));have GE747:=zh ((by rw [hg];exact (zB (by repeat (with_reducible first|exact HB.out|apply za|apply zb|apply zc|refine zd ?_ GE746.out))) : w.heap.size≤gb747));replace HB:=zh (zC (by repeat (with_reducible first|exact HB.out|apply za|apply zb|apply zc|refine zd ?_ GE746.out)) hb);have NB746_747:=zh ((by rw [hg];exact yc (yi (g:=gb746) (o:=.cells #[.int .i64 a0_0,.int .i64 a0_1,.string a0_2] 26 (0,0)) (by (with_reducible repeat (first|refine ze ?_ _|refine zf ?_|refine zg ?_ _));exact BK746.out)) : gb746≠gb747));have NB747_746:=zh ((by rw [hg];exact yd (yi (g:=gb746) (o:=.cells #[.int .i64 a0_0,.int .i64 a0_1,.string a0_2] 26 (0,0)) (by (with_reducible repeat (first|refine ze ?_ _|refine zf ?_|refine zg ?_ _));exact BK746.out)) : gb747≠gb746));replace BK746:=zh (zD (g:=gb746) (o:=.cells #[.int .i64 a0_0,.int .i64 a0_1,.string a0_2] 26 (0,0)) (by (with_reducible repeat (first|refine ze ?_ _|refine zf ?_|refine zg ?_ _));exact BK746.out) hb);clear hb hbox hg;have hnb12:=NB746_747.out;have hnc12:=NB747_746.out;have hcz13_0 : w11.cell? ⟨gb746,0,none⟩=some (.int .i64 a0_0):=(zz BK746.out 0).trans rfl;have hcz13_1 : w11.cell? ⟨gb746,1,none⟩=some (.int .i64 a0_1):=(zz BK746.out 1).trans rfl;have hcz13_2 : w11.cell? ⟨gb746,2,none⟩=some (.string a0_2):=(zz BK746.out 2).trans rfl;have hfz13_0:=zA BK746.out 0;have hfz13_1:=zA BK746.out 1;have hfz13_2:=zA BK746.out 2)|((with_reducible refine zJ (f:=58) rfl ?_);refine yj (some 12) rfl rfl Try.func58 (by kernel_rfl) rfl #[.agg #[.int .i64 a0_0,.int .i64 a0_1,.string a0_2]] rfl (by (try simp only [zt,zu,zv]);first|done|rfl|(simp only [zw,zx];rfl)|(simp only [yr,ys,zV,zW];rfl)) ?_;(with_reducible refine (impl_depth.calls k  a0_0 a0_1 a0_2 t748 _ A8.out).mono ?_);rintro e w14 ⟨rfl,hb⟩;refine ⟨_,rfl,?_⟩;replace BK746:=zh (zD (g:=gb746) (o:=.cells #[.int .i64 a0_0,.int .i64 a0_1,.string a0_2] 26 (0,0)) (by (with_reducible repeat (first|refine ze ?_ _|refine zf ?_|refine zg ?_ _));exact BK746.out) hb);replace BK747:=zh (zD (g:=gb747) (o:=.cells #[.int .i64 0,.int .i64 0,.string (⟨#[]⟩ : ByteArray)] 26 (0,0)) (by (with_reducible repeat (first|refine ze ?_ _|refine zf ?_|refine zg ?_ _));exact BK747.out) hb);replace HB:=zh (zC (by repeat (with_reducible first|exact HB.out|apply za|apply zb|apply zc|refine zd ?_ GE746.out|refine zd ?_ GE747.out)) hb);(try clear hb);(try clear hb2);(try clear hk);(try clear hi);have hcz15_0 : w14.cell? ⟨gb747,0,none⟩=some (.int .i64 0):=(zz BK747.out 0).trans rfl;have hcz15_1 : w14.cell? ⟨gb747,1,none⟩=some (.int .i64 0):=(zz BK747.out 1).trans rfl;have hcz15_2 : w14.cell? ⟨gb747,2,none⟩=some (.string (⟨#[]⟩ : ByteArray)):=(zz BK747.out 2).trans rfl;have hfz15_0:=zA BK747.out 0;have hfz15_1:=zA BK747.out 1;have hfz15_2:=zA BK747.out 2))
  refine bodyPost_ret (results_ct rfl _ _ gb747 26 #[.int .i64 0,.int .i64 0,.string (⟨#[]⟩ : ByteArray)] (0,0) _ rfl (by (with_reducible repeat (first|refine ze ?_ _|refine zf ?_|refine zg ?_ _));refine zL (cs:=#[.int .i64 0,.int .i64 0,.string (⟨#[]⟩ : ByteArray)]) ?_ 2 _ rfl;(with_reducible repeat (first|refine ze ?_ _|refine zf ?_|refine zg ?_ _));refine zL (cs:=#[.int .i64 0,.int .i64 0,.string (⟨#[]⟩ : ByteArray)]) ?_ 1 _ rfl;(with_reducible repeat (first|refine ze ?_ _|refine zf ?_|refine zg ?_ _));refine zL (cs:=#[.int .i64 0,.int .i64 0,.string (⟨#[]⟩ : ByteArray)]) ?_ 0 _ rfl;(with_reducible repeat (first|refine ze ?_ _|refine zf ?_|refine zg ?_ _));exact BK747.out) Try.underlying26 rfl (by kernel_rfl)) rfl ?_;exact ⟨by first|rfl|(simp [yt,yu] <;> rfl)|(simp [*,yt,yu] <;> rfl),by repeat (with_reducible first|exact HB.out|apply za|apply zb|apply zc|refine zd ?_ GE746.out|refine zd ?_ GE747.out)⟩
 rw [if_neg c9] at H;have c9b0 : decide (5<t748)=false:=decide_eq_false c9;clear c9;simp only [Option.some.injEq,Prod.mk.injEq] at H;obtain ⟨rfl,rfl,rfl,rfl⟩:=H
 go_enter Try.func72,Try.ntmps72
 go_wp2_with (first|((with_reducible refine zK (N:=1) rfl ?_);refine zI ?hg (N:=1) ?hd (cs:=#[.int .i64 a0_0,.int .i64 a0_1,.string a0_2]) (t:=26) ?hr ?_;(case hd => rfl);(case hg => rfl);(case hr => first|(go_simp;done)|(go_simp;rfl));intro gb746 hg w16 hbox hb;have BK746:=zh (hbox);have GW746:=zh ((by rw [hg];exact (zB (by repeat (with_reducible first|exact HB.out|apply za|apply zb|apply zc))) : w.heap.size≤gb746));have GE746:=zh ((by rw [hg];exact (zB (by repeat (with_reducible first|exact HB.out|apply za|apply zb|apply zc))) : w.heap.size≤gb746));replace HB:=zh (zC (by repeat (with_reducible first|exact HB.out|apply za|apply zb|apply zc)) hb);clear hb hbox hg)|((with_reducible refine zK (N:=2) rfl ?_);refine zI ?hg (N:=2) ?hd (cs:=#[.int .i64 0,.int .i64 0,.string (⟨#[]⟩ : ByteArray)]) (t:=26) ?hr ?_;(case hd => rfl);(case hg => rfl);(case hr => first|(go_simp;done)|(go_simp;rfl));intro gb747 hg w17 hbox hb;have BK747:=zh (hbox);have GW747:=zh ((by rw [hg];exact (zB (by repeat (with_reducible first|exact HB.out|apply za|apply zb|apply zc|refine zd ?_ GE746.out))) : w.heap.size≤gb747));have GE747:=zh ((by rw [hg];exact (zB (by repeat (with_reducible first|exact HB.out|apply za|apply zb|apply zc|refine zd ?_ GE746.out))) : w.heap.size≤gb747));replace HB:=zh (zC (by repeat (with_reducible first|exact HB.out|apply za|apply zb|apply zc|refine zd ?_ GE746.out)) hb);have NB746_747:=zh ((by rw [hg];exact yc (yi (g:=gb746) (o:=.cells #[.int .i64 a0_0,.int .i64 a0_1,.string a0_2] 26 (0,0)) (by (with_reducible repeat (first|refine ze ?_ _|refine zf ?_|refine zg ?_ _));exact BK746.out)) : gb746≠gb747));have NB747_746:=zh ((by rw [hg];exact yd (yi (g:=gb746) (o:=.cells #[.int .i64 a0_0,.int .i64 a0_1,.string a0_2] 26 (0,0)) (by (with_reducible repeat (first|refine ze ?_ _|refine zf ?_|refine zg ?_ _));exact BK746.out)) : gb747≠gb746));replace BK746:=zh (zD (g:=gb746) (o:=.cells #[.int .i64 a0_0,.int .i64 a0_1,.string a0_2] 26 (0,0)) (by (with_reducible repeat (first|refine ze ?_ _|refine zf ?_|refine zg ?_ _));exact BK746.out) hb);clear hb hbox hg;have hnb18:=NB746_747.out;have hnc18:=NB747_746.out;have hcz19_0 : w17.cell? ⟨gb746,0,none⟩=some (.int .i64 a0_0):=(zz BK746.out 0).trans rfl;have hcz19_1 : w17.cell? ⟨gb746,1,none⟩=some (.int .i64 a0_1):=(zz BK746.out 1).trans rfl;have hcz19_2 : w17.cell? ⟨gb746,2,none⟩=some (.string a0_2):=(zz BK746.out 2).trans rfl;have hfz19_0:=zA BK746.out 0;have hfz19_1:=zA BK746.out 1;have hfz19_2:=zA BK746.out 2)|((with_reducible refine zJ (f:=58) rfl ?_);refine yj (some 12) rfl rfl Try.func58 (by kernel_rfl) rfl #[.agg #[.int .i64 a0_0,.int .i64 a0_1,.string a0_2]] rfl (by (try simp only [zt,zu,zv]);first|done|rfl|(simp only [zw,zx];rfl)|(simp only [yr,ys,zV,zW];rfl)) ?_;(with_reducible refine (impl_depth.calls k  a0_0 a0_1 a0_2 t748 _ A8.out).mono ?_);rintro e w20 ⟨rfl,hb⟩;refine ⟨_,rfl,?_⟩;replace BK746:=zh (zD (g:=gb746) (o:=.cells #[.int .i64 a0_0,.int .i64 a0_1,.string a0_2] 26 (0,0)) (by (with_reducible repeat (first|refine ze ?_ _|refine zf ?_|refine zg ?_ _));exact BK746.out) hb);replace BK747:=zh (zD (g:=gb747) (o:=.cells #[.int .i64 0,.int .i64 0,.string (⟨#[]⟩ : ByteArray)] 26 (0,0)) (by (with_reducible repeat (first|refine ze ?_ _|refine zf ?_|refine zg ?_ _));exact BK747.out) hb);replace HB:=zh (zC (by repeat (with_reducible first|exact HB.out|apply za|apply zb|apply zc|refine zd ?_ GE746.out|refine zd ?_ GE747.out)) hb);(try clear hb);(try clear hb2);(try clear hk);(try clear hi);have hcz21_0 : w20.cell? ⟨gb746,0,none⟩=some (.int .i64 a0_0):=(zz BK746.out 0).trans rfl;have hcz21_1 : w20.cell? ⟨gb746,1,none⟩=some (.int .i64 a0_1):=(zz BK746.out 1).trans rfl;have hcz21_2 : w20.cell? ⟨gb746,2,none⟩=some (.string a0_2):=(zz BK746.out 2).trans rfl;have hfz21_0:=zA BK746.out 0;have hfz21_1:=zA BK746.out 1;have hfz21_2:=zA BK746.out 2;have hcz22_0 : w20.cell? ⟨gb747,0,none⟩=some (.int .i64 0):=(zz BK747.out 0).trans rfl;have hcz22_1 : w20.cell? ⟨gb747,1,none⟩=some (.int .i64 0):=(zz BK747.out 1).trans rfl;have hcz22_2 : w20.cell? ⟨gb747,2,none⟩=some (.string (⟨#[]⟩ : ByteArray)):=(zz BK747.out 2).trans rfl;have hfz22_0:=zA BK747.out 0;have hfz22_1:=zA BK747.out 1;have hfz22_2:=zA BK747.out 2))
 refine bodyPost_ret (results_ct rfl _ _ gb747 26 #[.int .i64 a0_0,.int .i64 a0_1,.string a0_2] (0,0) _ rfl (by (with_reducible repeat (first|refine ze ?_ _|refine zf ?_|refine zg ?_ _));refine zL (cs:=#[.int .i64 a0_0,.int .i64 a0_1,.string (⟨#[]⟩ : ByteArray)]) ?_ 2 _ rfl;(with_reducible repeat (first|refine ze ?_ _|refine zf ?_|refine zg ?_ _));refine zL (cs:=#[.int .i64 a0_0,.int .i64 0,.string (⟨#[]⟩ : ByteArray)]) ?_ 1 _ rfl;(with_reducible repeat (first|refine ze ?_ _|refine zf ?_|refine zg ?_ _));refine zL (cs:=#[.int .i64 0,.int .i64 0,.string (⟨#[]⟩ : ByteArray)]) ?_ 0 _ rfl;(with_reducible repeat (first|refine ze ?_ _|refine zf ?_|refine zg ?_ _));exact BK747.out) Try.underlying26 rfl (by kernel_rfl)) rfl ?_;exact ⟨by first|rfl|(simp [yt,yu] <;> rfl)|(simp [*,yt,yu] <;> rfl),by repeat (with_reducible first|exact HB.out|apply za|apply zb|apply zc|refine zd ?_ GE746.out|refine zd ?_ GE747.out)⟩

end Go.Proofs.Ytpmeglcmhiihoaa.Q
end
section
namespace Go.Proofs.YtpmeglcmhiihoaaW.PrintMore
open Go Go.RowKit Go.Proofs.YtpmeglcmhiihoaaW.PrintWords Go.Proofs.YtpmeglcmhiihoaaW.PrintLast
section
variable {P : Program} {ops : Array Oper} {o : Oper} {rest : List Oper} {a : Act} {Q : Exit→Act→World→Prop}
theorem str_at {W W1 : World} {base : Nat} {t u ty e : TypeId} {i : TypeInfo} (ht : P.underlying t=some (.slice e)) (hu : P.underlying u=some .string) (hi : P.info? e=some i) (hz : i.zero=some (.int .u8 0))
  (hsize : i.size=1) (hby : i.bytes=1) {v v1 : Value} {n : Nat} {xs : List Value} (hown : W.ownsRow base e 1 v n xs) {s : ByteArray} (hl : n + s.size≤140737488355328)
  (hr : (Builtin.append_ #[t,u] ty #[v,.string s]).run P W = .ok v1 W1) : v1.ownBlock=v.ownBlock ∨ ∃ b,v1.ownBlock=some b∧W.heap.size≤b:=by
 have hxl : xs.length=n:=by simpa using hown.1
 rcases hown.2 with ⟨rfl,rfl⟩|⟨g,cap,cur,rfl,_,hg,hnc,_,hcs,_⟩
 ·
  obtain ⟨v2,w2,h2,hown2,_⟩:=Lib.run_append_own_string (P:=P) W W.heap.size t u ty e i ht hu hi hz hsize hby (.slice none 0 0) 0 [] (World.ownsRow_nil W _ e 1) s (by simp only [maxLen];omega) hl (Nat.le_refl _)
  rw [hr] at h2;injection h2 with h2 _;subst h2;rcases hown2.2 with ⟨rfl,_⟩|⟨g,cap,cur,rfl,hbg,_⟩
  ·
   exact .inl rfl
  exact .inr ⟨g,rfl,hbg⟩
 by_cases hroom : n + s.size≤cap
 ·
  have hcs' : cur.size=cap:=by simpa using hcs
  rw [Lib.run_append_room_string (P:=P) W t u ty e i ht hu hi hsize g n cap cur hg s hroom (by omega)] at hr;injection hr with hr _;subst hr;exact .inl rfl
 have holds : ∀ j u,xs[j]? = some u→W.cell? ((⟨g,0,none⟩ : Addr).add j)=some u:=hown.cells (g:=g) rfl;rw [Lib.run_append_grow_string (P:=P) W t u ty e i (.int .u8 0) ht hu hi hz ⟨g,0,none⟩ n cap xs (by rw [hsize];simpa using hxl) holds s (by omega) (by omega) (by rw [hby];exact growslice_fits (by omega) (by omega))] at hr;injection hr with hr _;subst hr;exact .inr ⟨_,rfl,Nat.le_refl _⟩
theorem str_run {w0 W : World} (base : Nat) (s x : Operand) (t u e : TypeId)
  (ho : o.op = .call { callee:=.builtin .append,args:=#[s,x],argTypes:=#[t,u] })
  (ht : P.underlying t=some (.slice e)) (hu : P.underlying u=some .string) (hinfo : (P.info? e).map (fun i => (i.zero,i.size,i.bytes))=some (some (.int .u8 0),1,1))
  (v : Value) (xs : List Int) (y : ByteArray) (hs : a.eval s=v) (hx : a.eval x = .string y)
  (HO : W.ownsRow base e 1 v xs.length (nums .u8 xs)) (HB : Below base w0 W) (hbase : base≤W.heap.size) (hl : xs.length + y.size≤140737488355328) :
  ∃ v1 w1,(∀ (K : Act→World→Prop) (Q2 : Exit→Act→World→Prop),K (a.put o.dst v1) w1→Oper.wp P o a W K Q2)∧w1.ownsRow base e 1 v1 (xs ++ bytesOf y).length (nums .u8 (xs ++ bytesOf y))∧Below base w0 w1∧W.grownBy w1 v.ownBlock∧(v1.ownBlock=v.ownBlock ∨ ∃ b,v1.ownBlock=some b∧W.heap.size≤b):=by
 obtain ⟨i0,hi,hzz⟩:=Option.map_eq_some_iff.1 hinfo;simp only [Prod.mk.injEq] at hzz;obtain ⟨hz0,hz1,hz2⟩:=hzz;obtain ⟨v1,w1,hr,hown,hg,_⟩:=Lib.run_append_own_string (P:=P) W base t u o.type e i0 ht hu hi hz0 hz1 hz2 v xs.length (nums .u8 xs) HO y (by simp only [maxLen];omega) hl hbase;have hl2 : (xs ++ bytesOf y).length=xs.length + y.size:=by rw [List.length_append,bytesOf_length]
 have hc : nums .u8 (xs ++ bytesOf y)=nums .u8 xs ++ Lib.strCells y:=by
  rw [nums_append]
  congr 1
  simp [nums,bytesOf,Lib.strCells]
 refine ⟨v1,w1,fun K Q2 hK => ?_,by rw [hl2,hc];exact hown,HB.grown hg hbase (own_base HO),hg,str_at ht hu hi hz0 hz1 hz2 HO hl hr⟩;unfold Oper.wp execOp;simp only [ho,resolve,invoke,builtin,Sem.run_bind,Sem.run_pure,Result.andThen_ok,List.map_toArray,List.map_cons,List.map_nil,hs,hx,hr];exact hK
theorem print_append_str_go {K : Act→World→Prop} {w0 W : World} (base : Nat) (hw : Region.wanted o (yielded ops a.tmps)=true) (s x : Operand) (t u e : TypeId)
  (ho : o.op = .call { callee:=.builtin .append,args:=#[s,x],argTypes:=#[t,u] })
  (ht : P.underlying t=some (.slice e)) (hu : P.underlying u=some .string) (hinfo : (P.info? e).map (fun i => (i.zero,i.size,i.bytes))=some (some (.int .u8 0),1,1))
  (v : Value) (xs : List Int) (y : ByteArray) (hs : a.eval s=v) (hx : a.eval x = .string y)
  (HO : W.ownsRow base e 1 v xs.length (nums .u8 xs)) (HB : Below base w0 W) (hbase : base≤W.heap.size) (hl : xs.length + y.size≤140737488355328)
  (h : ∀ v1 w1,w1.ownsRow base e 1 v1 (xs ++ bytesOf y).length (nums .u8 (xs ++ bytesOf y))→Below base w0 w1→W.grownBy w1 v.ownBlock→(v1.ownBlock=v.ownBlock ∨ ∃ b,v1.ownBlock=some b∧W.heap.size≤b)→K (a.put o.dst v1) w1) :
  if Region.wanted o (yielded ops a.tmps)=true then Oper.wp P o a W K Q else K (a.put o.dst undef) W:=by
 obtain ⟨v1,w1,hr,h1,h2,h3,h4⟩:=str_run (P:=P) base s x t u e ho ht hu hinfo v xs y hs hx HO HB hbase hl;rw [if_pos hw];exact hr K Q (h v1 w1 h1 h2 h3 h4)
end
end Go.Proofs.YtpmeglcmhiihoaaW.PrintMore
end
section
namespace Go.Proofs.Ytpmeglcmhiihoaa.Q
open Go.RowKit Go.Proofs.YtpmeglcmhiihoaaW.PrintWords Go.Proofs.YtpmeglcmhiihoaaW.PrintLast Go.Proofs.YtpmeglcmhiihoaaW.PrintMore
attribute [local go_sem] max2_int min2_int max_two min_two max_three min_three max_four min_four max2_str min2_str str_geq str_gtr str_leq   -- for this text's walks alone
set_option linter.unusedVariables false
set_option linter.unusedSimpArgs false

def impl_eight.l0 : Nat→Int→List Int→Int→Option (List Int)
 | 0,_,_,_ => none
 | k + 1,x0,x3,x6 => if x6<8 then (if 0≤(wrap64 (56 - (wrap64 (8 * x6)))) then (if 0≤x6 then (if x6<(x3.length : Int) then (impl_eight.l0 k x0 (x3.set (x6 : Int).toNat ((shr .i64 x0 (wrap64 (56 - (wrap64 (8 * x6))))) % 256)) (wrap64 (x6 + 1))) else (none)) else (none)) else (none)) else (some x3)
def impl_eight.f (k : Nat) (a0 : Int) : Option (List Int):=if 8≤281474976710656 then (impl_eight.l0 k a0 (List.replicate 8 0) 0) else (none)
theorem impl_eight.mono_l : ∀ k,(∀ y0 y1 y2,LeO (impl_eight.l0 k y0 y1 y2) (impl_eight.l0 (k + 1) y0 y1 y2))
 | 0 => fun _ _ _ r h => by simp [impl_eight.l0] at h
 | k + 1 => by
  have ih0:=impl_eight.mono_l k;intro y0 y1 y2;unfold impl_eight.l0
  repeat' first|(with_reducible exact ih0 _ _ _)|(with_reducible exact zQ _)|(with_reducible exact zN _)|(with_reducible refine zP ?_ ?_)|(with_reducible refine zO ?_ (fun _ => ?_))|refine zP ?_ ?_|refine zO ?_ (fun _ => ?_)
theorem impl_eight.mono : ∀ a0 k,LeO (impl_eight.f k a0) (impl_eight.f (k + 1) a0):=by
 intro a0 k;have ih0:=impl_eight.mono_l k;unfold impl_eight.f
 repeat' first|(with_reducible exact ih0 _ _ _)|(with_reducible exact zQ _)|(with_reducible exact zN _)|(with_reducible refine zP ?_ ?_)|(with_reducible refine zO ?_ (fun _ => ?_))|refine zP ?_ ?_|refine zO ?_ (fun _ => ?_)
set_option maxHeartbeats 8000000 in
set_option maxRecDepth 100000 in
theorem impl_eight.calls (k : Nat) (a0 : Int) (r : List Int) (w : World) (h : impl_eight.f k a0=some r) :
  Calls Try.prog 94 #[.int .i64 a0] w fun e w' => ∃ v0_ : Value,e = .returned (v0_)∧Kd.R (Kd.int .u8) 5 w' w.heap.size (fun _ => True) v0_ r∧Below w.heap.size w w':=by
 have HB:=zh (Below.refl w.heap.size w);have H : (if 8≤281474976710656 then (impl_eight.l0 k a0 (List.replicate 8 0) 0) else (none))=some r:=h;clear h
 by_cases c2 : 8≤281474976710656
 ·
  rw [if_pos c2] at H
  have c2b0:=eq_true c2;have c2b1 : decide (8≤281474976710656)=true:=decide_eq_true c2;clear c2;obtain ⟨y399,hy399⟩ : ∃ y_ : List Int,y_=(List.replicate 8 0):=⟨_,rfl⟩;replace H : (impl_eight.l0 k a0 y399 0)=some r:=by first|(rw [hy399];with_reducible exact H)|(have H2_:=(Option.bind_some _ _).symm.trans H;rw [hy399];with_reducible exact H2_)|(have H2_:=(Option.bind_some _ _).symm.trans H;with_reducible exact H2_)|with_reducible exact H|(rw [hy399];exact H)|exact H
  have Ny399:=zh hy399;clear hy399;have H':=zh H;clear H
  go_enter Try.func94,Try.ntmps94
  go_wp2_with (first|((with_reducible refine zK (N:=5) rfl ?_);refine Kd.R_make (Kd.int .u8) _ 5 rfl (N:=5) rfl 29 _ _ rfl 8 rfl rfl Try.underlying29 (.int .u8 0) 1 info5 rfl (by decide) (by omega) 0 (ok:=fun _ => True) (okp:=fun _ => True) rfl (fun _ hk => hk) trivial (by omega) (by omega) (Below.refl _ _) (ye _) ?_;intro v400 w3 ho4 hb hg_ hnew_;clear hg_ hnew_;(first|rw [← Ny399.out] at ho4|(simp only [Int.reduceToNat] at ho4;rw [← Ny399.out] at ho4));have HO401:=zh (yy ho4 (zB (by repeat (with_reducible first|exact HB.out|apply za|apply zb|apply zc))));replace HB:=zh (zC (by repeat (with_reducible first|exact HB.out|apply za|apply zb|apply zc)) hb);clear hb ho4))
  go_loopg [6] k (fun kq v6 w' => ∃ (x3_1 : List Int) (x6_1 : Int),v6 = .int .i64 x6_1∧Aside0 (impl_eight.l0 kq a0 x3_1 x6_1=some r)∧Aside0 (kq≤k)∧Aside0 (Kd.R (Kd.int .u8) 5 w' w.heap.size (fun _ => True) v400 x3_1)∧Aside0 (Below w.heap.size w w'))
  case atStart => exact ⟨(y399),(0),(by first|rfl|(simp;done)|(simp [*];done)),H',⟨ye _⟩,⟨by (with_reducible repeat (first|apply zm|apply zn|apply zo));exact HO401.out⟩,⟨by repeat (with_reducible first|exact HB.out|apply za|apply zb|apply zc)⟩⟩
  case round =>
   clear H'
   try clear c2
   try clear c2b0
   try clear c2b1
   try clear p2
   obtain ⟨x3_1,x6_1,rfl,HA,HK1,HO_3,HB⟩:=hrel
   cases gk with
   | zero => exact absurd HA.out (by simp [impl_eight.l0])
   | succ k1 =>
    have H:=HA.out;clear HA;simp only [impl_eight.l0] at H
    by_cases c5 : x6_1<8
    ·
     rw [if_pos c5] at H
     have c5b0 : decide (x6_1<8)=true:=decide_eq_true c5;clear c5;obtain ⟨ji6,hji6⟩ : ∃ j_ : Int,(wrap64 (56 - (wrap64 (8 * x6_1))))=j_:=⟨_,rfl⟩;replace H : (if 0≤(ji6) then (if 0≤x6_1 then (if x6_1<(x3_1.length : Int) then (impl_eight.l0 k1 a0 (x3_1.set (x6_1 : Int).toNat ((shr .i64 a0 (ji6)) % 256)) (wrap64 (x6_1 + 1))) else (none)) else (none)) else (none))=some r:=by first|(rw [hji6] at H;exact H)|(simp only [hji6] at H ⊢;exact H)
     have hji6w : (IntKind.i64.wrap (56 - (wrap64 (8 * x6_1))))=ji6:=(zG _).trans hji6
     by_cases c7 : 0≤(ji6)
     ·
      rw [if_pos c7] at H
      have c7b0:=eq_true c7;have c7b1 : decide (0≤(ji6))=true:=decide_eq_true c7;clear c7;obtain ⟨ji8,hji8⟩ : ∃ j_ : Int,(shr .i64 a0 (ji6))=j_:=⟨_,rfl⟩;replace H : (if 0≤x6_1 then (if x6_1<(x3_1.length : Int) then (impl_eight.l0 k1 a0 (x3_1.set (x6_1 : Int).toNat ((ji8) % 256)) (wrap64 (x6_1 + 1))) else (none)) else (none))=some r:=by first|(rw [hji8] at H;exact H)|(simp only [hji8] at H ⊢;exact H)
      have hji8_ : (a0 / 2 ^ min (ji6).toNat 64)=ji8:=hji8;have hji8z : (ji6)≤64→(a0 / 2 ^ (ji6).toNat)=ji8:=shr_small hji8
      by_cases c9 : 0≤x6_1
      ·
       rw [if_pos c9] at H
       have c9b0 : decide (0≤x6_1)=true:=decide_eq_true c9;clear c9
       by_cases c10 : x6_1<(x3_1.length : Int)
       ·
        rw [if_pos c10] at H
        have c10b0 : decide (x6_1<(x3_1.length : Int))=true:=decide_eq_true c10;clear c10;obtain ⟨y402,hy402⟩ : ∃ y_ : List Int,y_=(x3_1.set (x6_1 : Int).toNat ((ji8) % 256)):=⟨_,rfl⟩;replace H : (impl_eight.l0 k1 a0 y402 (wrap64 (x6_1 + 1)))=some r:=by first|(rw [hy402];with_reducible exact H)|(have H2_:=(Option.bind_some _ _).symm.trans H;rw [hy402];with_reducible exact H2_)|(have H2_:=(Option.bind_some _ _).symm.trans H;with_reducible exact H2_)|with_reducible exact H|(rw [hy402];exact H)|exact H
        have Ny402:=zh hy402;clear hy402;have H':=zh H;clear H;have p11 : 0≤(x6_1 : Int):=zy (by first|(with_reducible assumption)|assumption);have q11 : (x6_1 : Int)<((x3_1.length : Int) : Int):=zy (by first|(with_reducible assumption)|assumption);obtain ⟨go11,co11,eo11,gb11,gl11,cl11,HG11⟩:=Kd.R_form HO_3.out (by omega);(first|cases eo11|(injection eo11 with ea_ en_ ec_;(first|subst ea_|(injection ea_ with ea_;subst ea_));subst ec_;clear en_));have GB11:=zh gb11;have GG11:=zh HG11;clear gb11 gl11 HG11;obtain ⟨hx11_0,hf11_0⟩:=Kd.R_celln 0 HO_3.out (x6_1 : Int) p11 q11;replace p11:=eq_true p11;replace q11:=eq_true q11;have HP12:=Kd.R_putg HO_3.out (x6_1 : Int) ((ji8) % 256)
        go_wp2_with (first|((with_reducible refine gate_store (t:=5) (p:=17) rfl ?_);refine store_event (t:=5) (p:=17) (v:=?vo_w13) (w1:=(wr.setCell ⟨go11,(x6_1 : Int).toNat,none⟩ (.int .u8 ((ji8) % 256)))) ?hg ?ho ?hn ?hr ?_;(case ho => rfl);(case hg => rfl);(case hn => rfl);(case hr => first|(go_simp;done)|(go_simp;rfl));intro w13 hw;have hg : wr.grownBy w13 (some go11):=(by rw [hw];exact HP12.2);have hp_ : Kd.R (Kd.int .u8) 5 w13 w.heap.size (fun _ => True) (.slice (some ⟨go11,0,none⟩) x3_1.length co11) y402:=(by rw [hw,Ny402.out];exact HP12.1);clear HP12;replace HO_3:=zh (hp_);replace HB:=zh ((by rw [hw];exact zd (HB.out) GB11.out : Below w.heap.size w w13));clear hg hw hp_))
        go_roundg k1
        case measure => have:=HK1.out;omega
        case rel => exact ⟨(y402),(wrap64 (x6_1 + 1)),(by first|rfl|(simp;done)|(simp [*];done)),H',⟨by have:=HK1.out;omega⟩,⟨by (with_reducible repeat (first|apply zm|apply zn|apply zo));exact HO_3.out⟩,⟨by repeat (with_reducible first|exact HB.out|apply za|apply zb|apply zc)⟩⟩
       rw [if_neg c10] at H;exact absurd H (by simp)
      rw [if_neg c9] at H;exact absurd H (by simp)
     rw [if_neg c7] at H;exact absurd H (by simp)
    rw [if_neg c5] at H;have c5b0 : decide (x6_1<8)=false:=decide_eq_false c5;clear c5;obtain rfl:=zU H
    go_wp2
    go_ret
    exact ⟨_,by first|rfl|(simp [yt,yu] <;> rfl)|(simp [*,yt,yu] <;> rfl),by (with_reducible repeat (first|apply zm|apply zn|apply zo));exact HO_3.out,by repeat (with_reducible first|exact HB.out|apply za|apply zb|apply zc)⟩
 rw [if_neg c2] at H;exact absurd H (by simp)

end Go.Proofs.Ytpmeglcmhiihoaa.Q
end
section
namespace Go.Proofs.Ytpmeglcmhiihoaa.Q
open Go.RowKit Go.Proofs.YtpmeglcmhiihoaaW.PrintWords Go.Proofs.YtpmeglcmhiihoaaW.PrintLast Go.Proofs.YtpmeglcmhiihoaaW.PrintMore
attribute [local go_sem] max2_int min2_int max_two min_two max_three min_three max_four min_four max2_str min2_str str_geq str_gtr str_leq   -- for this text's walks alone
set_option linter.unusedVariables false
set_option linter.unusedSimpArgs false

def impl_putValue.f (k : Nat) (l0 : List Int) (a1_0 : Int) (a1_1 : Int) (a1_2 : ByteArray) : Option (List Int):=if l0.length<140737488355328 then ((some (l0 ++ [(a1_0) % 256] : List Int)).bind fun y404 => (if a1_0=1 then (if y404.length<140737488355328 then (some (y404 ++ [(a1_1) % 256])) else (none)) else (if a1_0=2 then ((impl_eight.f k (wrap64 (a1_1 + 4611686018427387904))).bind fun t410 => (if y404.length + t410.length<140737488355328 then (some (y404 ++ t410)) else (none))) else (if a1_0=3 then ((some (([((a1_2.size : Int) / 256) % 256,((a1_2.size : Int)) % 256] : List Int) : List Int)).bind fun y416 => (if y404.length + y416.length<140737488355328 then ((some (y404 ++ y416 : List Int)).bind fun y419 => (if y419.length + a1_2.size<140737488355328 then (some (y419 ++ bytesOf a1_2)) else (none))) else (none))) else (if a1_0=4 then ((some (([((a1_2.size : Int) / 256) % 256,((a1_2.size : Int)) % 256] : List Int) : List Int)).bind fun y425 => (if y404.length + y425.length<140737488355328 then ((some (y404 ++ y425 : List Int)).bind fun y428 => (if y428.length + a1_2.size<140737488355328 then (some (y428 ++ bytesOf a1_2)) else (none))) else (none))) else (if a1_0=5 then ((some (([((a1_2.size : Int) / 256) % 256,((a1_2.size : Int)) % 256] : List Int) : List Int)).bind fun y434 => (if y404.length + y434.length<140737488355328 then ((some (y404 ++ y434 : List Int)).bind fun y437 => (if y437.length + a1_2.size<140737488355328 then (some (y437 ++ bytesOf a1_2)) else (none))) else (none))) else (some y404))))))) else (none)
theorem impl_putValue.mono : ∀ a0 a1 a2 a3 k,LeO (impl_putValue.f k a0 a1 a2 a3) (impl_putValue.f (k + 1) a0 a1 a2 a3):=by
 intro a0 a1 a2 a3 k;unfold impl_putValue.f
 repeat' first|(with_reducible exact impl_eight.mono _ _)|(with_reducible exact zQ _)|(with_reducible exact zN _)|(with_reducible refine zP ?_ ?_)|(with_reducible refine zO ?_ (fun _ => ?_))|refine zP ?_ ?_|refine zO ?_ (fun _ => ?_)
def impl_putValue.T10 : Bool×List (List Nat×List Nat):=(true,[([],[]),([],[]),([1],[1]),([2],[2]),([3],[3]),([4],[4]),([],[]),([6],[6]),([7],[7]),([8],[8]),([5,9],[5,9]),([0,10],[0,10]),([],[]),([12],[12]),([11,13,11],[11,13]),([14,14,0,1,2,3,4,5,6,7,8,9,10,11,12,13,14],[14])])
def impl_putValue.B10 : List Nat:=[0,0,2,6,14,30,0,64,192,448,1022,2047,0,4096,16383,32767]
theorem impl_putValue.tab10 : rtab .any (opsOf Try.f60 10)=impl_putValue.T10:=by kernel_rfl
theorem impl_putValue.bits10 : waitsOk impl_putValue.T10.2 impl_putValue.B10=true:=by kernel_rfl
set_option maxHeartbeats 8000000 in
set_option maxRecDepth 100000 in
theorem impl_putValue.calls (k : Nat) (P0_ : Nat→Prop) (u9000_ : Value) (l0 : List Int) (a1_0 : Int) (a1_1 : Int) (a1_2 : ByteArray) (r : List Int) (w0 w : World) (hB : Below w0.heap.size w0 w) (ho0 : Kd.R (Kd.int .u8) 5 w w0.heap.size P0_ u9000_ l0) (h : impl_putValue.f k l0 a1_0 a1_1 a1_2=some r) :
  Calls Try.prog 60 #[u9000_,.agg #[.int .i64 a1_0,.int .i64 a1_1,.string a1_2]] w fun e w' => ∃ v0_ : Value,e = .returned (v0_)∧Kd.R (Kd.int .u8) 5 w' w0.heap.size (fun k_ => (P0_ k_∨w.heap.size≤k_)) v0_ r∧Below w0.heap.size w0 w' ∧ Kept w w' (fun k_ => P0_ k_):=by
 have hu26:=Try.underlying26;have HO0:=zh (show Kd.R (Kd.int .u8) 5 w w0.heap.size (fun k_ => (P0_ k_∨w.heap.size≤k_)) u9000_ l0 from zM ho0 (fun k_ hk => (.inl hk)));have HK:=zh (Kept.refl w (fun k_ => P0_ k_));have HW0:=zh hB.size;have HB:=zh hB;clear hB;have H : (if l0.length<140737488355328 then ((some (l0 ++ [(a1_0) % 256] : List Int)).bind fun y404 => (if a1_0=1 then (if y404.length<140737488355328 then (some (y404 ++ [(a1_1) % 256])) else (none)) else (if a1_0=2 then ((impl_eight.f k (wrap64 (a1_1 + 4611686018427387904))).bind fun t410 => (if y404.length + t410.length<140737488355328 then (some (y404 ++ t410)) else (none))) else (if a1_0=3 then ((some (([((a1_2.size : Int) / 256) % 256,((a1_2.size : Int)) % 256] : List Int) : List Int)).bind fun y416 => (if y404.length + y416.length<140737488355328 then ((some (y404 ++ y416 : List Int)).bind fun y419 => (if y419.length + a1_2.size<140737488355328 then (some (y419 ++ bytesOf a1_2)) else (none))) else (none))) else (if a1_0=4 then ((some (([((a1_2.size : Int) / 256) % 256,((a1_2.size : Int)) % 256] : List Int) : List Int)).bind fun y425 => (if y404.length + y425.length<140737488355328 then ((some (y404 ++ y425 : List Int)).bind fun y428 => (if y428.length + a1_2.size<140737488355328 then (some (y428 ++ bytesOf a1_2)) else (none))) else (none))) else (if a1_0=5 then ((some (([((a1_2.size : Int) / 256) % 256,((a1_2.size : Int)) % 256] : List Int) : List Int)).bind fun y434 => (if y404.length + y434.length<140737488355328 then ((some (y404 ++ y434 : List Int)).bind fun y437 => (if y437.length + a1_2.size<140737488355328 then (some (y437 ++ bytesOf a1_2)) else (none))) else (none))) else (some y404))))))) else (none))=some r:=h;clear h
 by_cases c3 : l0.length<140737488355328
 ·
  rw [if_pos c3] at H
  have LMc3:=zh c3;clear c3;obtain ⟨y404,hy404⟩ : ∃ y_ : List Int,y_=(l0 ++ [(a1_0) % 256]):=⟨_,rfl⟩;replace H : (if a1_0=1 then (if y404.length<140737488355328 then (some (y404 ++ [(a1_1) % 256])) else (none)) else (if a1_0=2 then ((impl_eight.f k (wrap64 (a1_1 + 4611686018427387904))).bind fun t410 => (if y404.length + t410.length<140737488355328 then (some (y404 ++ t410)) else (none))) else (if a1_0=3 then ((some (([((a1_2.size : Int) / 256) % 256,((a1_2.size : Int)) % 256] : List Int) : List Int)).bind fun y416 => (if y404.length + y416.length<140737488355328 then ((some (y404 ++ y416 : List Int)).bind fun y419 => (if y419.length + a1_2.size<140737488355328 then (some (y419 ++ bytesOf a1_2)) else (none))) else (none))) else (if a1_0=4 then ((some (([((a1_2.size : Int) / 256) % 256,((a1_2.size : Int)) % 256] : List Int) : List Int)).bind fun y425 => (if y404.length + y425.length<140737488355328 then ((some (y404 ++ y425 : List Int)).bind fun y428 => (if y428.length + a1_2.size<140737488355328 then (some (y428 ++ bytesOf a1_2)) else (none))) else (none))) else (if a1_0=5 then ((some (([((a1_2.size : Int) / 256) % 256,((a1_2.size : Int)) % 256] : List Int) : List Int)).bind fun y434 => (if y404.length + y434.length<140737488355328 then ((some (y404 ++ y434 : List Int)).bind fun y437 => (if y437.length + a1_2.size<140737488355328 then (some (y437 ++ bytesOf a1_2)) else (none))) else (none))) else (some y404))))))=some r:=by first|(rw [hy404];with_reducible exact H)|(have H2_:=(Option.bind_some _ _).symm.trans H;rw [hy404];with_reducible exact H2_)|(have H2_:=(Option.bind_some _ _).symm.trans H;with_reducible exact H2_)|with_reducible exact H|(rw [hy404];exact H)|exact H
  have Ny404:=zh hy404;clear hy404
  by_cases c4 : a1_0=1
  ·
   rw [if_pos c4] at H
   have c4b0 : (a1_0 == 1)=true:=ya.mpr c4;have c4b1 : (a1_0 != 1)=false:=zX.mpr c4;clear c4
   by_cases c5 : y404.length<140737488355328
   ·
    rw [if_pos c5] at H
    have LMc5:=zh c5;clear c5;obtain ⟨y407,hy407⟩ : ∃ y_ : List Int,y_=(y404 ++ [(a1_1) % 256]):=⟨_,rfl⟩;replace H : (some y407)=some r:=by first|(rw [hy407];with_reducible exact H)|(have H2_:=(Option.bind_some _ _).symm.trans H;rw [hy407];with_reducible exact H2_)|(have H2_:=(Option.bind_some _ _).symm.trans H;with_reducible exact H2_)|with_reducible exact H|(rw [hy407];exact H)|exact H
    have Ny407:=zh hy407;clear hy407;obtain rfl:=zU H
    go_enter Try.func60,Try.ntmps60
    go_wp2_with (first|((with_reducible refine zK (N:=3) rfl ?_);refine zI ?hg (N:=3) ?hd (cs:=#[.int .i64 a1_0,.int .i64 a1_1,.string a1_2]) (t:=26) ?hr ?_;(case hd => rfl);(case hg => rfl);(case hr => first|(go_simp;done)|(go_simp;rfl));intro gb403 hg w6 hbox hb;replace HO0:=zh (yg (by (with_reducible repeat (first|apply zm|apply zn|apply zo));exact HO0.out) hb);have BK403:=zh (hbox);have GW403:=zh ((by rw [hg];exact (by first|exact HK.out.1|exact (show Kept w _ (fun k_ => P0_ k_) from by repeat (with_reducible first|exact HK.out|apply zr|apply zp|apply zq)).1) : w.heap.size≤gb403));replace HK:=zh (Kept.below (S:=(fun k_ => P0_ k_)) (by repeat (with_reducible first|exact HK.out|apply zr|apply zp|apply zq)) hb);have GE403:=zh ((by rw [hg];exact (zB (by repeat (with_reducible first|exact HB.out|apply za|apply zb|apply zc))) : w0.heap.size≤gb403));replace HB:=zh (zC (by repeat (with_reducible first|exact HB.out|apply za|apply zb|apply zc)) hb);clear hb hbox hg;have hcz7_0 : w6.cell? ⟨gb403,0,none⟩=some (.int .i64 a1_0):=(zz BK403.out 0).trans rfl;have hcz7_1 : w6.cell? ⟨gb403,1,none⟩=some (.int .i64 a1_1):=(zz BK403.out 1).trans rfl;have hcz7_2 : w6.cell? ⟨gb403,2,none⟩=some (.string a1_2):=(zz BK403.out 2).trans rfl;have hfz7_0:=zA BK403.out 0;have hfz7_1:=zA BK403.out 1;have hfz7_2:=zA BK403.out 2)|((with_reducible refine yB (b:=.append) (xs:=#[.tmp 5,.tmp 9]) rfl ?_);at_builtin;refine Kd.R_append (Kd.int .u8) (w0:=w0) w0.heap.size rfl (.tmp 5) (.tmp 9) 29 5 (.int .u8 0) 1 rfl Try.underlying29 info5 rfl (by decide) (by omega) u9000_ l0 ((a1_0) % 256) [.int .u8 ((a1_0) % 256)] (fun k_ => (P0_ k_∨w.heap.size≤k_)) (fun _ => False) rfl rfl ?aP (fun _ hk => hk.elim) ?aF ?aO ?aB ?aS ?aL ?_;(case aP => exact rfl);(case aB => exact (by repeat (with_reducible first|exact HB.out|apply za|apply zb|apply zc|refine zd ?_ GE403.out)));(case aF => exact (fun k_ hk => (.inr (Nat.le_trans (by first|exact HK.out.1|exact (show Kept w _ (fun k_ => P0_ k_) from by repeat (with_reducible first|exact HK.out|apply zr|apply zp|apply zq|refine zs ?_ (.inr GW403.out) _)).1) hk))));(case aO => exact (by (with_reducible repeat (first|apply zm|apply zn|apply zo));exact HO0.out));(case aS => exact (zB (by repeat (with_reducible first|exact HB.out|apply za|apply zb|apply zc|refine zd ?_ GE403.out))));(case aL => have:=LMc3.out;omega);intro v405 w8 ho hb hg hat;rw [← Ny404.out] at ho;replace BK403:=zh (yw (g:=gb403) (o:=.cells #[.int .i64 a1_0,.int .i64 a1_1,.string a1_2] 26 (0,0)) (by (with_reducible repeat (first|refine ze ?_ _|refine zf ?_|refine zg ?_ _));exact BK403.out) hg (Kd.R_ne HO0.out BK403.out (by decide)));replace HB:=zh (hb);replace HK:=zh (yA (S:=(fun k_ => P0_ k_)) hg (by repeat (with_reducible first|exact HK.out|apply zr|apply zp|apply zq|refine zs ?_ (.inr GW403.out) _)) (fun k_ e_ => (HO0.out.1 k_ e_)));have HO406:=zh (ho);clear HO0 ho hb hg hat;have hcz9_0 : w8.cell? ⟨gb403,0,none⟩=some (.int .i64 a1_0):=(zz BK403.out 0).trans rfl;have hcz9_1 : w8.cell? ⟨gb403,1,none⟩=some (.int .i64 a1_1):=(zz BK403.out 1).trans rfl;have hcz9_2 : w8.cell? ⟨gb403,2,none⟩=some (.string a1_2):=(zz BK403.out 2).trans rfl;have hfz9_0:=zA BK403.out 0;have hfz9_1:=zA BK403.out 1;have hfz9_2:=zA BK403.out 2)|((with_reducible refine yB (b:=.append) (xs:=#[.tmp 15,.tmp 19]) rfl ?_);at_builtin;refine Kd.R_append (Kd.int .u8) (w0:=w0) w0.heap.size rfl (.tmp 15) (.tmp 19) 29 5 (.int .u8 0) 1 rfl Try.underlying29 info5 rfl (by decide) (by omega) v405 y404 ((a1_1) % 256) [.int .u8 ((a1_1) % 256)] (fun k_ => (P0_ k_∨w.heap.size≤k_)) (fun _ => False) rfl rfl ?aP (fun _ hk => hk.elim) ?aF ?aO ?aB ?aS ?aL ?_;(case aP => exact rfl);(case aB => exact (by repeat (with_reducible first|exact HB.out|apply za|apply zb|apply zc|refine zd ?_ GE403.out)));(case aF => exact (fun k_ hk => (.inr (Nat.le_trans (by first|exact HK.out.1|exact (show Kept w _ (fun k_ => P0_ k_) from by repeat (with_reducible first|exact HK.out|apply zr|apply zp|apply zq|refine zs ?_ (.inr GW403.out) _)).1) hk))));(case aO => exact (by (with_reducible repeat (first|apply zm|apply zn|apply zo));exact HO406.out));(case aS => exact (zB (by repeat (with_reducible first|exact HB.out|apply za|apply zb|apply zc|refine zd ?_ GE403.out))));(case aL => have:=LMc5.out;omega);intro v408 w10 ho hb hg hat;rw [← Ny407.out] at ho;replace BK403:=zh (yw (g:=gb403) (o:=.cells #[.int .i64 a1_0,.int .i64 a1_1,.string a1_2] 26 (0,0)) (by (with_reducible repeat (first|refine ze ?_ _|refine zf ?_|refine zg ?_ _));exact BK403.out) hg (Kd.R_ne HO406.out BK403.out (by decide)));replace HB:=zh (hb);replace HK:=zh (yA (S:=(fun k_ => P0_ k_)) hg (by repeat (with_reducible first|exact HK.out|apply zr|apply zp|apply zq|refine zs ?_ (.inr GW403.out) _)) (fun k_ e_ => (HO406.out.1 k_ e_)));have HO409:=zh (ho);clear HO406 ho hb hg hat))
    go_ret
    exact ⟨_,by first|rfl|(simp [yt,yu] <;> rfl)|(simp [*,yt,yu] <;> rfl),by (with_reducible repeat (first|apply zm|apply zn|apply zo));exact HO409.out,by repeat (with_reducible first|exact HB.out|apply za|apply zb|apply zc|refine zd ?_ GE403.out),by repeat (with_reducible first|exact HK.out|apply zr|apply zp|apply zq|refine zs ?_ (.inr GW403.out) _)⟩
   rw [if_neg c5] at H;exact absurd H (by simp)
  rw [if_neg c4] at H;have c4b0 : (a1_0 == 1)=false:=zY.mpr c4;have c4b1 : (a1_0 != 1)=true:=zZ.mpr c4
  by_cases c11 : a1_0=2
  ·
   rw [if_pos c11] at H
   have c11b0 : (a1_0 == 2)=true:=ya.mpr c11;have c11b1 : (a1_0 != 2)=false:=zX.mpr c11;clear c11;replace H:=zT.mp H;obtain ⟨t410,A120,H⟩:=H;replace H : (if y404.length + t410.length<140737488355328 then (some (y404 ++ t410)) else (none))=some r:=H;have A12:=zh A120;clear A120
   by_cases c13 : y404.length + t410.length<140737488355328
   ·
    rw [if_pos c13] at H
    have LMc13:=zh c13;clear c13;obtain ⟨y413,hy413⟩ : ∃ y_ : List Int,y_=(y404 ++ t410):=⟨_,rfl⟩;replace H : (some y413)=some r:=by first|(rw [hy413];with_reducible exact H)|(have H2_:=(Option.bind_some _ _).symm.trans H;rw [hy413];with_reducible exact H2_)|(have H2_:=(Option.bind_some _ _).symm.trans H;with_reducible exact H2_)|with_reducible exact H|(rw [hy413];exact H)|exact H
    have Ny413:=zh hy413;clear hy413;obtain rfl:=zU H
    go_enter Try.func60,Try.ntmps60
    go_wp2_with (first|((with_reducible refine zK (N:=3) rfl ?_);refine zI ?hg (N:=3) ?hd (cs:=#[.int .i64 a1_0,.int .i64 a1_1,.string a1_2]) (t:=26) ?hr ?_;(case hd => rfl);(case hg => rfl);(case hr => first|(go_simp;done)|(go_simp;rfl));intro gb403 hg w14 hbox hb;replace HO0:=zh (yg (by (with_reducible repeat (first|apply zm|apply zn|apply zo));exact HO0.out) hb);have BK403:=zh (hbox);have GW403:=zh ((by rw [hg];exact (by first|exact HK.out.1|exact (show Kept w _ (fun k_ => P0_ k_) from by repeat (with_reducible first|exact HK.out|apply zr|apply zp|apply zq)).1) : w.heap.size≤gb403));replace HK:=zh (Kept.below (S:=(fun k_ => P0_ k_)) (by repeat (with_reducible first|exact HK.out|apply zr|apply zp|apply zq)) hb);have GE403:=zh ((by rw [hg];exact (zB (by repeat (with_reducible first|exact HB.out|apply za|apply zb|apply zc))) : w0.heap.size≤gb403));replace HB:=zh (zC (by repeat (with_reducible first|exact HB.out|apply za|apply zb|apply zc)) hb);clear hb hbox hg;have hcz15_0 : w14.cell? ⟨gb403,0,none⟩=some (.int .i64 a1_0):=(zz BK403.out 0).trans rfl;have hcz15_1 : w14.cell? ⟨gb403,1,none⟩=some (.int .i64 a1_1):=(zz BK403.out 1).trans rfl;have hcz15_2 : w14.cell? ⟨gb403,2,none⟩=some (.string a1_2):=(zz BK403.out 2).trans rfl;have hfz15_0:=zA BK403.out 0;have hfz15_1:=zA BK403.out 1;have hfz15_2:=zA BK403.out 2)|((with_reducible refine yB (b:=.append) (xs:=#[.tmp 5,.tmp 9]) rfl ?_);at_builtin;refine Kd.R_append (Kd.int .u8) (w0:=w0) w0.heap.size rfl (.tmp 5) (.tmp 9) 29 5 (.int .u8 0) 1 rfl Try.underlying29 info5 rfl (by decide) (by omega) u9000_ l0 ((a1_0) % 256) [.int .u8 ((a1_0) % 256)] (fun k_ => (P0_ k_∨w.heap.size≤k_)) (fun _ => False) rfl rfl ?aP (fun _ hk => hk.elim) ?aF ?aO ?aB ?aS ?aL ?_;(case aP => exact rfl);(case aB => exact (by repeat (with_reducible first|exact HB.out|apply za|apply zb|apply zc|refine zd ?_ GE403.out)));(case aF => exact (fun k_ hk => (.inr (Nat.le_trans (by first|exact HK.out.1|exact (show Kept w _ (fun k_ => P0_ k_) from by repeat (with_reducible first|exact HK.out|apply zr|apply zp|apply zq|refine zs ?_ (.inr GW403.out) _)).1) hk))));(case aO => exact (by (with_reducible repeat (first|apply zm|apply zn|apply zo));exact HO0.out));(case aS => exact (zB (by repeat (with_reducible first|exact HB.out|apply za|apply zb|apply zc|refine zd ?_ GE403.out))));(case aL => have:=LMc3.out;omega);intro v405 w16 ho hb hg hat;rw [← Ny404.out] at ho;replace BK403:=zh (yw (g:=gb403) (o:=.cells #[.int .i64 a1_0,.int .i64 a1_1,.string a1_2] 26 (0,0)) (by (with_reducible repeat (first|refine ze ?_ _|refine zf ?_|refine zg ?_ _));exact BK403.out) hg (Kd.R_ne HO0.out BK403.out (by decide)));replace HB:=zh (hb);replace HK:=zh (yA (S:=(fun k_ => P0_ k_)) hg (by repeat (with_reducible first|exact HK.out|apply zr|apply zp|apply zq|refine zs ?_ (.inr GW403.out) _)) (fun k_ e_ => (HO0.out.1 k_ e_)));have HO406:=zh (ho);clear HO0 ho hb hg hat;have hcz17_0 : w16.cell? ⟨gb403,0,none⟩=some (.int .i64 a1_0):=(zz BK403.out 0).trans rfl;have hcz17_1 : w16.cell? ⟨gb403,1,none⟩=some (.int .i64 a1_1):=(zz BK403.out 1).trans rfl;have hcz17_2 : w16.cell? ⟨gb403,2,none⟩=some (.string a1_2):=(zz BK403.out 2).trans rfl;have hfz17_0:=zA BK403.out 0;have hfz17_1:=zA BK403.out 1;have hfz17_2:=zA BK403.out 2)|((with_reducible refine zJ (f:=94) rfl ?_);refine yj (some 27) rfl rfl Try.func94 (by kernel_rfl) rfl #[.int .i64 (wrap64 (a1_1 + 4611686018427387904))] rfl (by (try simp only [zt,zu,zv]);first|done|rfl|(simp only [zw,zx];rfl)|(simp only [yr,ys,zV,zW];rfl)) ?_;(with_reducible refine (impl_eight.calls k  (wrap64 (a1_1 + 4611686018427387904)) t410 _ A12.out).mono ?_);rintro e w18 ⟨v411,rfl,ho0,hb⟩;refine ⟨_,rfl,?_⟩;have HO412:=zh (yy (Kd.R_new' (Kd.R_newM (M:=fun k_ => (P0_ k_∨w.heap.size≤k_)) ho0 (by first|exact HK.out.1|exact (show Kept w _ (fun k_ => P0_ k_) from by repeat (with_reducible first|exact HK.out|apply zr|apply zp|apply zq|refine zs ?_ (.inr GW403.out) _)).1) (fun k_ h_ => .inr h_)) (Kd.R_lt (by (with_reducible repeat (first|apply zm|apply zn|apply zo));exact HO406.out))) (zB (by repeat (with_reducible first|exact HB.out|apply za|apply zb|apply zc|refine zd ?_ GE403.out))));replace HO406:=zh (Kd.R_elder' (by (with_reducible repeat (first|apply zm|apply zn|apply zo));exact HO406.out) (Kd.R_base ho0) hb);replace BK403:=zh (zD (g:=gb403) (o:=.cells #[.int .i64 a1_0,.int .i64 a1_1,.string a1_2] 26 (0,0)) (by (with_reducible repeat (first|refine ze ?_ _|refine zf ?_|refine zg ?_ _));exact BK403.out) hb);replace HK:=zh (Kept.below (S:=(fun k_ => P0_ k_)) (by repeat (with_reducible first|exact HK.out|apply zr|apply zp|apply zq|refine zs ?_ (.inr GW403.out) _)) hb);replace HB:=zh (zC (by repeat (with_reducible first|exact HB.out|apply za|apply zb|apply zc|refine zd ?_ GE403.out)) hb);(try clear hb);(try clear hb2);(try clear hk);(try clear hi);(try clear ho0);obtain ⟨Ao20,co20,eo20⟩:=yk HO412.out;subst eo20)|((with_reducible refine yB (b:=.append) (xs:=#[.tmp 23,.tmp 27]) rfl ?_);at_builtin;refine Kd.R_append_rows (Kd.int .u8) (w0:=w0) w0.heap.size rfl (.tmp 23) (.tmp 27) 29 5 (.int .u8 0) 1 rfl Try.underlying29 info5 rfl (by decide) (by omega) v405 y404 t410 _ _ _ (fun k_ => (P0_ k_∨w.heap.size≤k_)∧some k_≠(.slice Ao20 t410.length co20 : Value).ownBlock) (fun _ => False) rfl rfl ?aO ?aR (fun _ _ h => h) (fun _ h => h.elim) ?aF ?aB ?aS ?aL ?_;(case aR => repeat (first|exact (yh HO412.out).2.2|(with_reducible refine Kd.C_alloc ?_ _)|(with_reducible refine Kd.C_drewN ?_ _)|(with_reducible refine Kd.C_drew ?_)));(case aB => exact (by repeat (with_reducible first|exact HB.out|apply za|apply zb|apply zc|refine zd ?_ GE403.out)));(case aF => exact (fun k_ hk => ⟨(.inr (Nat.le_trans (by first|exact HK.out.1|exact (show Kept w _ (fun k_ => P0_ k_) from by repeat (with_reducible first|exact HK.out|apply zr|apply zp|apply zq|refine zs ?_ (.inr GW403.out) _)).1) hk)),Kd.fresh' (Kd.R_lt (by (with_reducible repeat (first|apply zm|apply zn|apply zo));exact HO412.out)) k_ hk⟩));(case aO => exact (by (with_reducible repeat (first|apply zm|apply zn|apply zo));exact HO406.out));(case aS => exact (zB (by repeat (with_reducible first|exact HB.out|apply za|apply zb|apply zc|refine zd ?_ GE403.out))));(case aL => have:=LMc13.out;omega);intro v414 w19 ho hb hg hat;rw [← Ny413.out] at ho;replace BK403:=zh (yw (g:=gb403) (o:=.cells #[.int .i64 a1_0,.int .i64 a1_1,.string a1_2] 26 (0,0)) (by (with_reducible repeat (first|refine ze ?_ _|refine zf ?_|refine zg ?_ _));exact BK403.out) hg (Kd.R_ne HO406.out BK403.out (by decide)));replace HO412:=zh (Kd.R_after (ok:=(fun k_ => (P0_ k_∨w.heap.size≤k_))) (by (with_reducible repeat (first|apply zm|apply zn|apply zo));exact zM HO412.out (fun _ hk => ⟨hk.1.1,hk.2⟩)) hg hat);replace HB:=zh (hb);replace HK:=zh (yA (S:=(fun k_ => P0_ k_)) hg (by repeat (with_reducible first|exact HK.out|apply zr|apply zp|apply zq|refine zs ?_ (.inr GW403.out) _)) (fun k_ e_ => (HO406.out.1 k_ e_).1));have HO415:=zh (ho);clear HO406 ho hb hg hat))
    go_ret
    exact ⟨_,by first|rfl|(simp [yt,yu] <;> rfl)|(simp [*,yt,yu] <;> rfl),by (with_reducible repeat (first|apply zm|apply zn|apply zo));exact zM HO415.out (fun _ hk => hk.1),by repeat (with_reducible first|exact HB.out|apply za|apply zb|apply zc|refine zd ?_ GE403.out),by repeat (with_reducible first|exact HK.out|apply zr|apply zp|apply zq|refine zs ?_ (.inr GW403.out) _)⟩
   rw [if_neg c13] at H;exact absurd H (by simp)
  rw [if_neg c11] at H;have c11b0 : (a1_0 == 2)=false:=zY.mpr c11;have c11b1 : (a1_0 != 2)=true:=zZ.mpr c11
  by_cases c21 : a1_0=3
  ·
   rw [if_pos c21] at H
   have c21b0 : (a1_0 == 3)=true:=ya.mpr c21;have c21b1 : (a1_0 != 3)=false:=zX.mpr c21;clear c21;obtain ⟨y416,hy416⟩ : ∃ y_ : List Int,y_=(([((a1_2.size : Int) / 256) % 256,((a1_2.size : Int)) % 256] : List Int)):=⟨_,rfl⟩;replace H : (if y404.length + y416.length<140737488355328 then ((some (y404 ++ y416 : List Int)).bind fun y419 => (if y419.length + a1_2.size<140737488355328 then (some (y419 ++ bytesOf a1_2)) else (none))) else (none))=some r:=by first|(rw [hy416];with_reducible exact H)|(have H2_:=(Option.bind_some _ _).symm.trans H;rw [hy416];with_reducible exact H2_)|(have H2_:=(Option.bind_some _ _).symm.trans H;with_reducible exact H2_)|with_reducible exact H|(rw [hy416];exact H)|exact H
   have Ny416:=zh hy416;clear hy416
   by_cases c22 : y404.length + y416.length<140737488355328
   ·
    rw [if_pos c22] at H
    have LMc22:=zh c22;clear c22;obtain ⟨y419,hy419⟩ : ∃ y_ : List Int,y_=(y404 ++ y416):=⟨_,rfl⟩;replace H : (if y419.length + a1_2.size<140737488355328 then (some (y419 ++ bytesOf a1_2)) else (none))=some r:=by first|(rw [hy419];with_reducible exact H)|(have H2_:=(Option.bind_some _ _).symm.trans H;rw [hy419];with_reducible exact H2_)|(have H2_:=(Option.bind_some _ _).symm.trans H;with_reducible exact H2_)|with_reducible exact H|(rw [hy419];exact H)|exact H
    have Ny419:=zh hy419;clear hy419
    by_cases c23 : y419.length + a1_2.size<140737488355328
    ·
     rw [if_pos c23] at H
     have LMc23:=zh c23;clear c23;obtain ⟨y422,hy422⟩ : ∃ y_ : List Int,y_=(y419 ++ bytesOf a1_2):=⟨_,rfl⟩;replace H : (some y422)=some r:=by first|(rw [hy422];with_reducible exact H)|(have H2_:=(Option.bind_some _ _).symm.trans H;rw [hy422];with_reducible exact H2_)|(have H2_:=(Option.bind_some _ _).symm.trans H;with_reducible exact H2_)|with_reducible exact H|(rw [hy422];exact H)|exact H
     have Ny422:=zh hy422;clear hy422;obtain rfl:=zU H
     go_enter Try.func60,Try.ntmps60
     try go_wp2_with (first|((with_reducible refine zK (N:=3) rfl ?_);refine zI ?hg (N:=3) ?hd (cs:=#[.int .i64 a1_0,.int .i64 a1_1,.string a1_2]) (t:=26) ?hr ?_;(case hd => rfl);(case hg => rfl);(case hr => first|(go_simp;done)|(go_simp;rfl));intro gb403 hg w24 hbox hb;replace HO0:=zh (yg (by (with_reducible repeat (first|apply zm|apply zn|apply zo));exact HO0.out) hb);have BK403:=zh (hbox);have GW403:=zh ((by rw [hg];exact (by first|exact HK.out.1|exact (show Kept w _ (fun k_ => P0_ k_) from by repeat (with_reducible first|exact HK.out|apply zr|apply zp|apply zq)).1) : w.heap.size≤gb403));replace HK:=zh (Kept.below (S:=(fun k_ => P0_ k_)) (by repeat (with_reducible first|exact HK.out|apply zr|apply zp|apply zq)) hb);have GE403:=zh ((by rw [hg];exact (zB (by repeat (with_reducible first|exact HB.out|apply za|apply zb|apply zc))) : w0.heap.size≤gb403));replace HB:=zh (zC (by repeat (with_reducible first|exact HB.out|apply za|apply zb|apply zc)) hb);clear hb hbox hg;have hcz25_0 : w24.cell? ⟨gb403,0,none⟩=some (.int .i64 a1_0):=(zz BK403.out 0).trans rfl;have hcz25_1 : w24.cell? ⟨gb403,1,none⟩=some (.int .i64 a1_1):=(zz BK403.out 1).trans rfl;have hcz25_2 : w24.cell? ⟨gb403,2,none⟩=some (.string a1_2):=(zz BK403.out 2).trans rfl;have hfz25_0:=zA BK403.out 0;have hfz25_1:=zA BK403.out 1;have hfz25_2:=zA BK403.out 2)|((with_reducible refine yB (b:=.append) (xs:=#[.tmp 5,.tmp 9]) rfl ?_);at_builtin;refine Kd.R_append (Kd.int .u8) (w0:=w0) w0.heap.size rfl (.tmp 5) (.tmp 9) 29 5 (.int .u8 0) 1 rfl Try.underlying29 info5 rfl (by decide) (by omega) u9000_ l0 ((a1_0) % 256) [.int .u8 ((a1_0) % 256)] (fun k_ => (P0_ k_∨w.heap.size≤k_)) (fun _ => False) rfl rfl ?aP (fun _ hk => hk.elim) ?aF ?aO ?aB ?aS ?aL ?_;(case aP => exact rfl);(case aB => exact (by repeat (with_reducible first|exact HB.out|apply za|apply zb|apply zc|refine zd ?_ GE403.out)));(case aF => exact (fun k_ hk => (.inr (Nat.le_trans (by first|exact HK.out.1|exact (show Kept w _ (fun k_ => P0_ k_) from by repeat (with_reducible first|exact HK.out|apply zr|apply zp|apply zq|refine zs ?_ (.inr GW403.out) _)).1) hk))));(case aO => exact (by (with_reducible repeat (first|apply zm|apply zn|apply zo));exact HO0.out));(case aS => exact (zB (by repeat (with_reducible first|exact HB.out|apply za|apply zb|apply zc|refine zd ?_ GE403.out))));(case aL => have:=LMc3.out;omega);intro v405 w26 ho hb hg hat;rw [← Ny404.out] at ho;replace BK403:=zh (yw (g:=gb403) (o:=.cells #[.int .i64 a1_0,.int .i64 a1_1,.string a1_2] 26 (0,0)) (by (with_reducible repeat (first|refine ze ?_ _|refine zf ?_|refine zg ?_ _));exact BK403.out) hg (Kd.R_ne HO0.out BK403.out (by decide)));replace HB:=zh (hb);replace HK:=zh (yA (S:=(fun k_ => P0_ k_)) hg (by repeat (with_reducible first|exact HK.out|apply zr|apply zp|apply zq|refine zs ?_ (.inr GW403.out) _)) (fun k_ e_ => (HO0.out.1 k_ e_)));have HO406:=zh (ho);clear HO0 ho hb hg hat;have hcz27_0 : w26.cell? ⟨gb403,0,none⟩=some (.int .i64 a1_0):=(zz BK403.out 0).trans rfl;have hcz27_1 : w26.cell? ⟨gb403,1,none⟩=some (.int .i64 a1_1):=(zz BK403.out 1).trans rfl;have hcz27_2 : w26.cell? ⟨gb403,2,none⟩=some (.string a1_2):=(zz BK403.out 2).trans rfl;have hfz27_0:=zA BK403.out 0;have hfz27_1:=zA BK403.out 1;have hfz27_2:=zA BK403.out 2))
     replace HO406:=zh (zo HO406.out);replace BK403:=zh (zf BK403.out);replace HK:=zh (zq HK.out);replace HB:=zh (zc HB.out);refine start_ (n:=16) (S:=fun w' => w'.cell? ⟨gb403,0,none⟩=some (.int .i64 a1_0)∧w'.cell? ⟨gb403,1,none⟩=some (.int .i64 a1_1)∧w'.cell? ⟨gb403,2,none⟩=some (.string a1_2)) (ds:=[]) (bm_ 0 16) (by kernel_rfl) rfl rfl ⟨(zz BK403.out 0).trans rfl,(zz BK403.out 1).trans rfl,(zz BK403.out 2).trans rfl⟩ (fun hHeld => ?_);refine with_tabW impl_putValue.tab10 impl_putValue.bits10 (fun HT_ HW_ => ?_);generalize w26.drew=w28 at HO406 BK403 HK HB hHeld ⊢;refine pure_ (i:=0) (N:=some 33) (v:=?_) (a':=?_) (bm_ 1 16) rfl rfl (any_of HT_.out (by kernel_rfl)) (fun _ _ _ h => h) (Or.inl ⟨by rfl,?_⟩) ?_ ?_;rotate_left
     ·
      intro w'
      go_simp
      with_reducible rfl
     rotate_left
     ·
      simp only [Act.put,zi,zj,zk,zG,zH]
      rfl
     refine pure_ (i:=1) (N:=some 34) (v:=?_) (a':=?_) (bm_ 2 16) rfl rfl (any_of HT_.out (by kernel_rfl)) (fun _ _ _ h => h) (Or.inl ⟨by rfl,?_⟩) ?_ ?_;rotate_left
     ·
      intro w'
      go_simp
      with_reducible rfl
     rotate_left
     ·
      simp only [Act.put,zi,zj,zk,zG,zH]
      rfl
     refine pure_ (i:=6) (N:=some 39) (v:=?_) (a':=?_) #[true,true,false,false,false,false,true,false,false,false,false,false,false,false,false,false] rfl rfl (any_of HT_.out (by kernel_rfl)) (fun _ _ _ h => h) (Or.inl ⟨by rfl,?_⟩) ?_ ?_;rotate_left
     ·
      intro w'
      go_simp
      with_reducible rfl
     rotate_left
     ·
      simp only [Act.put,zi,zj,zk,zG,zH]
      rfl
     refine pure_ (i:=12) (N:=some 45) (v:=?_) (a':=?_) #[true,true,false,false,false,false,true,false,false,false,false,false,true,false,false,false] rfl rfl (any_of HT_.out (by kernel_rfl)) (fun _ _ _ h => h) (Or.inl ⟨by rfl,?_⟩) ?_ ?_;rotate_left
     ·
      intro w'
      go_simp
      with_reducible rfl
     rotate_left
     ·
      simp only [Act.put,zi,zj,zk,zG,zH]
      rfl
     refine take_ (i:=2) (N:=some 35) (v:=?_) (a':=?_) #[true,true,true,false,false,false,true,false,false,false,false,false,true,false,false,false] rfl rfl (yo HT_.out HW_.out (by kernel_rfl)) (fun _ _ _ h => h) (Or.inl ⟨by rfl,?_⟩) hHeld ?_ ?_;rotate_left
     ·
      rintro w' ⟨s0,s1,s2⟩
      go_simp
      with_reducible rfl
     rotate_left
     ·
      simp only [Act.put,zi,zj,zk,zG,zH]
      rfl
     refine pure_ (i:=3) (N:=some 36) (v:=?_) (a':=?_) #[true,true,true,true,false,false,true,false,false,false,false,false,true,false,false,false] rfl rfl (any_of HT_.out (by kernel_rfl)) (fun _ _ _ h => h) (Or.inl ⟨by rfl,?_⟩) ?_ ?_;rotate_left
     ·
      intro w'
      go_simp
      with_reducible rfl
     rotate_left
     ·
      simp only [Act.put,zi,zj,zk,zG,zH]
      rfl
     refine pure_ (i:=4) (N:=some 37) (v:=?_) (a':=?_) #[true,true,true,true,true,false,true,false,false,false,false,false,true,false,false,false] rfl rfl (any_of HT_.out (by kernel_rfl)) (fun _ _ _ h => h) (Or.inl ⟨by rfl,?_⟩) ?_ ?_;rotate_left
     ·
      intro w'
      go_simp
      with_reducible rfl
     rotate_left
     ·
      simp only [Act.put,zi,zj,zk,zG,zH]
      rfl
     refine pure_ (i:=5) (N:=some 38) (v:=?_) (a':=?_) #[true,true,true,true,true,true,true,false,false,false,false,false,true,false,false,false] rfl rfl (any_of HT_.out (by kernel_rfl)) (fun _ _ _ h => h) (Or.inl ⟨by rfl,?_⟩) ?_ ?_;rotate_left
     ·
      intro w'
      go_simp
      with_reducible rfl
     rotate_left
     ·
      simp only [Act.put,zi,zj,zk,zG,zH]
      rfl
     refine take_ (i:=7) (N:=some 40) (v:=?_) (a':=?_) #[true,true,true,true,true,true,true,true,false,false,false,false,true,false,false,false] rfl rfl (yo HT_.out HW_.out (by kernel_rfl)) (fun _ _ _ h => h) (Or.inl ⟨by rfl,?_⟩) hHeld ?_ ?_;rotate_left
     ·
      rintro w' ⟨s0,s1,s2⟩
      go_simp
      with_reducible rfl
     rotate_left
     ·
      simp only [Act.put,zi,zj,zk,zG,zH]
      rfl
     refine pure_ (i:=8) (N:=some 41) (v:=?_) (a':=?_) #[true,true,true,true,true,true,true,true,true,false,false,false,true,false,false,false] rfl rfl (any_of HT_.out (by kernel_rfl)) (fun _ _ _ h => h) (Or.inl ⟨by rfl,?_⟩) ?_ ?_;rotate_left
     ·
      intro w'
      go_simp
      with_reducible rfl
     rotate_left
     ·
      simp only [Act.put,zi,zj,zk,zG,zH]
      rfl
     refine pure_ (i:=9) (N:=some 42) (v:=?_) (a':=?_) #[true,true,true,true,true,true,true,true,true,true,false,false,true,false,false,false] rfl rfl (any_of HT_.out (by kernel_rfl)) (fun _ _ _ h => h) (Or.inl ⟨by rfl,?_⟩) ?_ ?_;rotate_left
     ·
      intro w'
      go_simp
      with_reducible rfl
     rotate_left
     ·
      simp only [Act.put,zi,zj,zk,zG,zH]
      rfl
     refine take_ (i:=13) (N:=some 46) (v:=?_) (a':=?_) #[true,true,true,true,true,true,true,true,true,true,false,false,true,true,false,false] rfl rfl (yo HT_.out HW_.out (by kernel_rfl)) (fun _ _ _ h => h) (Or.inl ⟨by rfl,?_⟩) hHeld ?_ ?_;rotate_left
     ·
      rintro w' ⟨s0,s1,s2⟩
      go_simp
      with_reducible rfl
     rotate_left
     ·
      simp only [Act.put,zi,zj,zk,zG,zH]
      rfl
     refine one_ (i:=10) (N:=some 43) #[true,true,true,true,true,true,true,true,true,true,true,false,true,true,false,false] rfl rfl (one_of HT_.out (by kernel_rfl)) (by decide) (fun K hK => ?_);refine Kd.R_lit_step (Kd.int .u8) _ 5 ?hg (N:=43) ?hd (xs:=([((a1_2.size : Int) / 256) % 256,((a1_2.size : Int)) % 256] : List Int)) (inner:=[.int .u8 (((a1_2.size : Int) / 256) % 256),.int .u8 (((a1_2.size : Int)) % 256)]) (ok:=fun _ => True) (okp:=fun _ => True) ?hr ?hp (fun _ hk => hk) trivial (Below.refl _ _) (ye _) (by simp) ?_;(case hd => rfl);(case hg => rfl);(case hr => first|(go_simp;done)|(go_simp;rfl));(case hp => exact (Reps.one (show Kd.M (Kd.int .u8) _ _ _ (((a1_2.size : Int) / 256) % 256) [.int .u8 (((a1_2.size : Int) / 256) % 256)] from rfl) (Reps.one (show Kd.M (Kd.int .u8) _ _ _ (((a1_2.size : Int)) % 256) [.int .u8 (((a1_2.size : Int)) % 256)] from rfl) (Reps.none _ _))));intro v417 w29 ho30 hb hg_ hnew_;clear hg_ hnew_;(first|rw [← Ny416.out] at ho30|(simp only [Int.reduceToNat] at ho30;rw [← Ny416.out] at ho30));have HO418:=zh (yy (Kd.R_new' (Kd.R_newM (M:=fun k_ => (P0_ k_∨w.heap.size≤k_)) ho30 (by first|exact HK.out.1|exact (show Kept w _ (fun k_ => P0_ k_) from by repeat (with_reducible first|exact HK.out|apply zr|apply zp|apply zq|refine zs ?_ (.inr GW403.out) _)).1) (fun k_ h_ => .inr h_)) (Kd.R_lt (by (with_reducible repeat (first|apply zm|apply zn|apply zo));exact HO406.out))) (zB (by repeat (with_reducible first|exact HB.out|apply za|apply zb|apply zc|refine zd ?_ GE403.out))));replace HO406:=zh (Kd.R_elder' (by (with_reducible repeat (first|apply zm|apply zn|apply zo));exact HO406.out) (Kd.R_base ho30) hb);replace BK403:=zh (zD (g:=gb403) (o:=.cells #[.int .i64 a1_0,.int .i64 a1_1,.string a1_2] 26 (0,0)) (by (with_reducible repeat (first|refine ze ?_ _|refine zf ?_|refine zg ?_ _));exact BK403.out) hb);replace HK:=zh (Kept.below (S:=(fun k_ => P0_ k_)) (by repeat (with_reducible first|exact HK.out|apply zr|apply zp|apply zq|refine zs ?_ (.inr GW403.out) _)) hb);replace HB:=zh (zC (by repeat (with_reducible first|exact HB.out|apply za|apply zb|apply zc|refine zd ?_ GE403.out)) hb);clear hb ho30;obtain ⟨Ao32,co32,eo32⟩:=yk HO418.out;(first|subst eo32|(injection eo32 with f1_ f2_ f3_;have f4_:=f1_.symm;have f5_:=f3_.symm;clear f1_ f2_ f3_;subst f4_;subst f5_));refine hK.out _ _ ⟨(zz BK403.out 0).trans rfl,(zz BK403.out 1).trans rfl,(zz BK403.out 2).trans rfl⟩ (fun hHeld => ?_);clear hK K;refine norm_ (a':=?_) ?_ ?_;rotate_left
     ·
      show Act.put _ (some 43) _=_
      simp only [Act.put,zi,zj,zk,zG,zH]
      rfl
     refine one_ (i:=11) (N:=some 44) (bm_ 14 16) rfl rfl (one_of HT_.out (by kernel_rfl)) (by decide) (fun K hK => ?_);refine Kd.R_append_rows_step (Kd.int .u8) (w0:=w0) w0.heap.size (by rfl) (.tmp 33) (.tmp 43) 29 5 (.int .u8 0) 1 rfl Try.underlying29 info5 rfl (by decide) (by omega) v405 y404 y416 _ _ _ (fun k_ => (P0_ k_∨w.heap.size≤k_)∧some k_≠(.slice Ao32 y416.length co32 : Value).ownBlock) (fun _ => False) rfl rfl ?aO ?aR (fun _ _ h => h) (fun _ h => h.elim) ?aF ?aB ?aS ?aL ?_;(case aR => repeat (first|exact (yh HO418.out).2.2|(with_reducible refine Kd.C_alloc ?_ _)|(with_reducible refine Kd.C_drewN ?_ _)|(with_reducible refine Kd.C_drew ?_)))
     (case aB => exact (by repeat (with_reducible first|exact HB.out|apply za|apply zb|apply zc|refine zd ?_ GE403.out)))
     (case aF => exact (fun k_ hk => ⟨(.inr (Nat.le_trans (by first|exact HK.out.1|exact (show Kept w _ (fun k_ => P0_ k_) from by repeat (with_reducible first|exact HK.out|apply zr|apply zp|apply zq|refine zs ?_ (.inr GW403.out) _)).1) hk)),Kd.fresh' (Kd.R_lt (by (with_reducible repeat (first|apply zm|apply zn|apply zo));exact HO418.out)) k_ hk⟩))
     (case aO => exact (by (with_reducible repeat (first|apply zm|apply zn|apply zo));exact HO406.out))
     (case aS => exact (zB (by repeat (with_reducible first|exact HB.out|apply za|apply zb|apply zc|refine zd ?_ GE403.out))))
     (case aL => have:=LMc22.out;omega)
     intro v420 w31 ho hb hg hat;rw [← Ny419.out] at ho;replace BK403:=zh (yw (g:=gb403) (o:=.cells #[.int .i64 a1_0,.int .i64 a1_1,.string a1_2] 26 (0,0)) (by (with_reducible repeat (first|refine ze ?_ _|refine zf ?_|refine zg ?_ _));exact BK403.out) hg (Kd.R_ne HO406.out BK403.out (by decide)));replace HO418:=zh (Kd.R_after (ok:=(fun k_ => (P0_ k_∨w.heap.size≤k_))) (by (with_reducible repeat (first|apply zm|apply zn|apply zo));exact zM HO418.out (fun _ hk => ⟨hk.1.1,hk.2⟩)) hg hat);replace HB:=zh (hb);replace HK:=zh (yA (S:=(fun k_ => P0_ k_)) hg (by repeat (with_reducible first|exact HK.out|apply zr|apply zp|apply zq|refine zs ?_ (.inr GW403.out) _)) (fun k_ e_ => (HO406.out.1 k_ e_).1));have HO421:=zh (ho);clear HO406 ho hb hg hat;refine hK.out _ _ ⟨(zz BK403.out 0).trans rfl,(zz BK403.out 1).trans rfl,(zz BK403.out 2).trans rfl⟩ (fun hHeld => ?_);clear hK K;refine norm_ (a':=?_) ?_ ?_;rotate_left
     ·
      show Act.put _ (some 44) _=_
      simp only [Act.put,zi,zj,zk,zG,zH]
      rfl
     refine one_ (i:=14) (N:=some 47) (bm_ 15 16) rfl rfl (one_of HT_.out (by kernel_rfl)) (by decide) (fun K hK => ?_);refine print_append_str_go (w0:=w0) w0.heap.size (by rfl) (.tmp 44) _ 29 9 5 rfl Try.underlying29 Try.underlying9 info5 v420 y419 a1_2 rfl rfl ?aO ?aB ?aS ?aL ?_;(case aB => exact (by repeat (with_reducible first|exact HB.out|apply za|apply zb|apply zc|refine zd ?_ GE403.out)))
     (case aO => exact (Kd.own_of_R (by (with_reducible repeat (first|apply zm|apply zn|apply zo));exact zM HO421.out (fun _ hk => hk.1))))
     (case aS => exact (zB (by repeat (with_reducible first|exact HB.out|apply za|apply zb|apply zc|refine zd ?_ GE403.out))))
     (case aL => have:=LMc23.out;omega)
     intro v423 w33 ho0 hb hg hat;have ho:=Kd.R_of_own (h1:=fun _ => rfl) (ok:=(fun k_ => (P0_ k_∨w.heap.size≤k_))) ho0 (fun k_ e_ => hat.elim (fun h_ => (zM HO421.out (fun _ hk => hk.1)).1 k_ (h_.symm.trans e_)) (fun ⟨b_,h_,hb_⟩ => (fun k_ hk => (.inr (Nat.le_trans (by first|exact HK.out.1|exact (show Kept w _ (fun k_ => P0_ k_) from by repeat (with_reducible first|exact HK.out|apply zr|apply zp|apply zq|refine zs ?_ (.inr GW403.out) _)).1) hk))) k_ (zU (h_.symm.trans e_) ▸ hb_)));clear ho0;rw [← Ny422.out] at ho;change Kd.R (Kd.int .u8) 5 w33 w0.heap.size (fun k_ => (P0_ k_∨w.heap.size≤k_)) v423 y422 at ho;replace BK403:=zh (yw (g:=gb403) (o:=.cells #[.int .i64 a1_0,.int .i64 a1_1,.string a1_2] 26 (0,0)) (by (with_reducible repeat (first|refine ze ?_ _|refine zf ?_|refine zg ?_ _));exact BK403.out) hg (Kd.R_ne HO421.out BK403.out (by decide)));replace HB:=zh (hb);replace HK:=zh (yA (S:=(fun k_ => P0_ k_)) hg (by repeat (with_reducible first|exact HK.out|apply zr|apply zp|apply zq|refine zs ?_ (.inr GW403.out) _)) (fun k_ e_ => (HO421.out.1 k_ e_).1));have HO424:=zh (ho);clear HO421 ho hb hg hat;refine hK.out _ _ ⟨(zz BK403.out 0).trans rfl,(zz BK403.out 1).trans rfl,(zz BK403.out 2).trans rfl⟩ (fun hHeld => ?_);clear hK K;refine norm_ (a':=?_) ?_ ?_;rotate_left
     ·
      show Act.put _ (some 47) _=_
      simp only [Act.put,zi,zj,zk,zG,zH]
      rfl
     refine pure_ (i:=15) (N:=some 4) (v:=?_) (a':=?_) (bm_ 16 16) rfl rfl (any_of HT_.out (by kernel_rfl)) (fun _ _ _ h => h) (Or.inl ⟨by rfl,?_⟩) ?_ ?_;rotate_left
     ·
      intro w'
      go_simp
      with_reducible rfl
     rotate_left
     ·
      simp only [Act.put,zi,zj,zk,zG,zH]
      rfl
     refine done_ (done_of HT_.out (by kernel_rfl)) ?_
     try go_wp2
     go_ret
     exact ⟨_,by first|rfl|(simp [yt,yu] <;> rfl)|(simp [*,yt,yu] <;> rfl),by (with_reducible repeat (first|apply zm|apply zn|apply zo));exact HO424.out,by repeat (with_reducible first|exact HB.out|apply za|apply zb|apply zc|refine zd ?_ GE403.out),by repeat (with_reducible first|exact HK.out|apply zr|apply zp|apply zq|refine zs ?_ (.inr GW403.out) _)⟩
    rw [if_neg c23] at H;exact absurd H (by simp)
   rw [if_neg c22] at H;exact absurd H (by simp)
  rw [if_neg c21] at H;have c21b0 : (a1_0 == 3)=false:=zY.mpr c21;have c21b1 : (a1_0 != 3)=true:=zZ.mpr c21
  by_cases c34 : a1_0=4
  ·
   rw [if_pos c34] at H
   have c34b0 : (a1_0 == 4)=true:=ya.mpr c34;have c34b1 : (a1_0 != 4)=false:=zX.mpr c34;clear c34;obtain ⟨y425,hy425⟩ : ∃ y_ : List Int,y_=(([((a1_2.size : Int) / 256) % 256,((a1_2.size : Int)) % 256] : List Int)):=⟨_,rfl⟩;replace H : (if y404.length + y425.length<140737488355328 then ((some (y404 ++ y425 : List Int)).bind fun y428 => (if y428.length + a1_2.size<140737488355328 then (some (y428 ++ bytesOf a1_2)) else (none))) else (none))=some r:=by first|(rw [hy425];with_reducible exact H)|(have H2_:=(Option.bind_some _ _).symm.trans H;rw [hy425];with_reducible exact H2_)|(have H2_:=(Option.bind_some _ _).symm.trans H;with_reducible exact H2_)|with_reducible exact H|(rw [hy425];exact H)|exact H
   have Ny425:=zh hy425;clear hy425
   by_cases c35 : y404.length + y425.length<140737488355328
   ·
    rw [if_pos c35] at H
    have LMc35:=zh c35;clear c35;obtain ⟨y428,hy428⟩ : ∃ y_ : List Int,y_=(y404 ++ y425):=⟨_,rfl⟩;replace H : (if y428.length + a1_2.size<140737488355328 then (some (y428 ++ bytesOf a1_2)) else (none))=some r:=by first|(rw [hy428];with_reducible exact H)|(have H2_:=(Option.bind_some _ _).symm.trans H;rw [hy428];with_reducible exact H2_)|(have H2_:=(Option.bind_some _ _).symm.trans H;with_reducible exact H2_)|with_reducible exact H|(rw [hy428];exact H)|exact H
    have Ny428:=zh hy428;clear hy428
    by_cases c36 : y428.length + a1_2.size<140737488355328
    ·
     rw [if_pos c36] at H
     have LMc36:=zh c36;clear c36;obtain ⟨y431,hy431⟩ : ∃ y_ : List Int,y_=(y428 ++ bytesOf a1_2):=⟨_,rfl⟩;replace H : (some y431)=some r:=by first|(rw [hy431];with_reducible exact H)|(have H2_:=(Option.bind_some _ _).symm.trans H;rw [hy431];with_reducible exact H2_)|(have H2_:=(Option.bind_some _ _).symm.trans H;with_reducible exact H2_)|with_reducible exact H|(rw [hy431];exact H)|exact H
     have Ny431:=zh hy431;clear hy431;obtain rfl:=zU H
     go_enter Try.func60,Try.ntmps60
     try go_wp2_with (first|((with_reducible refine zK (N:=3) rfl ?_);refine zI ?hg (N:=3) ?hd (cs:=#[.int .i64 a1_0,.int .i64 a1_1,.string a1_2]) (t:=26) ?hr ?_;(case hd => rfl);(case hg => rfl);(case hr => first|(go_simp;done)|(go_simp;rfl));intro gb403 hg w37 hbox hb;replace HO0:=zh (yg (by (with_reducible repeat (first|apply zm|apply zn|apply zo));exact HO0.out) hb);have BK403:=zh (hbox);have GW403:=zh ((by rw [hg];exact (by first|exact HK.out.1|exact (show Kept w _ (fun k_ => P0_ k_) from by repeat (with_reducible first|exact HK.out|apply zr|apply zp|apply zq)).1) : w.heap.size≤gb403));replace HK:=zh (Kept.below (S:=(fun k_ => P0_ k_)) (by repeat (with_reducible first|exact HK.out|apply zr|apply zp|apply zq)) hb);have GE403:=zh ((by rw [hg];exact (zB (by repeat (with_reducible first|exact HB.out|apply za|apply zb|apply zc))) : w0.heap.size≤gb403));replace HB:=zh (zC (by repeat (with_reducible first|exact HB.out|apply za|apply zb|apply zc)) hb);clear hb hbox hg;have hcz38_0 : w37.cell? ⟨gb403,0,none⟩=some (.int .i64 a1_0):=(zz BK403.out 0).trans rfl;have hcz38_1 : w37.cell? ⟨gb403,1,none⟩=some (.int .i64 a1_1):=(zz BK403.out 1).trans rfl;have hcz38_2 : w37.cell? ⟨gb403,2,none⟩=some (.string a1_2):=(zz BK403.out 2).trans rfl;have hfz38_0:=zA BK403.out 0;have hfz38_1:=zA BK403.out 1;have hfz38_2:=zA BK403.out 2)|((with_reducible refine yB (b:=.append) (xs:=#[.tmp 5,.tmp 9]) rfl ?_);at_builtin;refine Kd.R_append (Kd.int .u8) (w0:=w0) w0.heap.size rfl (.tmp 5) (.tmp 9) 29 5 (.int .u8 0) 1 rfl Try.underlying29 info5 rfl (by decide) (by omega) u9000_ l0 ((a1_0) % 256) [.int .u8 ((a1_0) % 256)] (fun k_ => (P0_ k_∨w.heap.size≤k_)) (fun _ => False) rfl rfl ?aP (fun _ hk => hk.elim) ?aF ?aO ?aB ?aS ?aL ?_;(case aP => exact rfl);(case aB => exact (by repeat (with_reducible first|exact HB.out|apply za|apply zb|apply zc|refine zd ?_ GE403.out)));(case aF => exact (fun k_ hk => (.inr (Nat.le_trans (by first|exact HK.out.1|exact (show Kept w _ (fun k_ => P0_ k_) from by repeat (with_reducible first|exact HK.out|apply zr|apply zp|apply zq|refine zs ?_ (.inr GW403.out) _)).1) hk))));(case aO => exact (by (with_reducible repeat (first|apply zm|apply zn|apply zo));exact HO0.out));(case aS => exact (zB (by repeat (with_reducible first|exact HB.out|apply za|apply zb|apply zc|refine zd ?_ GE403.out))));(case aL => have:=LMc3.out;omega);intro v405 w39 ho hb hg hat;rw [← Ny404.out] at ho;replace BK403:=zh (yw (g:=gb403) (o:=.cells #[.int .i64 a1_0,.int .i64 a1_1,.string a1_2] 26 (0,0)) (by (with_reducible repeat (first|refine ze ?_ _|refine zf ?_|refine zg ?_ _));exact BK403.out) hg (Kd.R_ne HO0.out BK403.out (by decide)));replace HB:=zh (hb);replace HK:=zh (yA (S:=(fun k_ => P0_ k_)) hg (by repeat (with_reducible first|exact HK.out|apply zr|apply zp|apply zq|refine zs ?_ (.inr GW403.out) _)) (fun k_ e_ => (HO0.out.1 k_ e_)));have HO406:=zh (ho);clear HO0 ho hb hg hat;have hcz40_0 : w39.cell? ⟨gb403,0,none⟩=some (.int .i64 a1_0):=(zz BK403.out 0).trans rfl;have hcz40_1 : w39.cell? ⟨gb403,1,none⟩=some (.int .i64 a1_1):=(zz BK403.out 1).trans rfl;have hcz40_2 : w39.cell? ⟨gb403,2,none⟩=some (.string a1_2):=(zz BK403.out 2).trans rfl;have hfz40_0:=zA BK403.out 0;have hfz40_1:=zA BK403.out 1;have hfz40_2:=zA BK403.out 2))
     replace HO406:=zh (zo HO406.out);replace BK403:=zh (zf BK403.out);replace HK:=zh (zq HK.out);replace HB:=zh (zc HB.out);refine start_ (n:=16) (S:=fun w' => w'.cell? ⟨gb403,0,none⟩=some (.int .i64 a1_0)∧w'.cell? ⟨gb403,1,none⟩=some (.int .i64 a1_1)∧w'.cell? ⟨gb403,2,none⟩=some (.string a1_2)) (ds:=[]) (bm_ 0 16) (by kernel_rfl) rfl rfl ⟨(zz BK403.out 0).trans rfl,(zz BK403.out 1).trans rfl,(zz BK403.out 2).trans rfl⟩ (fun hHeld => ?_);refine with_tabW impl_putValue.tab10 impl_putValue.bits10 (fun HT_ HW_ => ?_);generalize w39.drew=w41 at HO406 BK403 HK HB hHeld ⊢;refine pure_ (i:=0) (N:=some 33) (v:=?_) (a':=?_) (bm_ 1 16) rfl rfl (any_of HT_.out (by kernel_rfl)) (fun _ _ _ h => h) (Or.inl ⟨by rfl,?_⟩) ?_ ?_;rotate_left
     ·
      intro w'
      go_simp
      with_reducible rfl
     rotate_left
     ·
      simp only [Act.put,zi,zj,zk,zG,zH]
      rfl
     refine pure_ (i:=1) (N:=some 34) (v:=?_) (a':=?_) (bm_ 2 16) rfl rfl (any_of HT_.out (by kernel_rfl)) (fun _ _ _ h => h) (Or.inl ⟨by rfl,?_⟩) ?_ ?_;rotate_left
     ·
      intro w'
      go_simp
      with_reducible rfl
     rotate_left
     ·
      simp only [Act.put,zi,zj,zk,zG,zH]
      rfl
     refine pure_ (i:=6) (N:=some 39) (v:=?_) (a':=?_) #[true,true,false,false,false,false,true,false,false,false,false,false,false,false,false,false] rfl rfl (any_of HT_.out (by kernel_rfl)) (fun _ _ _ h => h) (Or.inl ⟨by rfl,?_⟩) ?_ ?_;rotate_left
     ·
      intro w'
      go_simp
      with_reducible rfl
     rotate_left
     ·
      simp only [Act.put,zi,zj,zk,zG,zH]
      rfl
     refine pure_ (i:=12) (N:=some 45) (v:=?_) (a':=?_) #[true,true,false,false,false,false,true,false,false,false,false,false,true,false,false,false] rfl rfl (any_of HT_.out (by kernel_rfl)) (fun _ _ _ h => h) (Or.inl ⟨by rfl,?_⟩) ?_ ?_;rotate_left
     ·
      intro w'
      go_simp
      with_reducible rfl
     rotate_left
     ·
      simp only [Act.put,zi,zj,zk,zG,zH]
      rfl
     refine take_ (i:=2) (N:=some 35) (v:=?_) (a':=?_) #[true,true,true,false,false,false,true,false,false,false,false,false,true,false,false,false] rfl rfl (yo HT_.out HW_.out (by kernel_rfl)) (fun _ _ _ h => h) (Or.inl ⟨by rfl,?_⟩) hHeld ?_ ?_;rotate_left
     ·
      rintro w' ⟨s0,s1,s2⟩
      go_simp
      with_reducible rfl
     rotate_left
     ·
      simp only [Act.put,zi,zj,zk,zG,zH]
      rfl
     refine pure_ (i:=3) (N:=some 36) (v:=?_) (a':=?_) #[true,true,true,true,false,false,true,false,false,false,false,false,true,false,false,false] rfl rfl (any_of HT_.out (by kernel_rfl)) (fun _ _ _ h => h) (Or.inl ⟨by rfl,?_⟩) ?_ ?_;rotate_left
     ·
      intro w'
      go_simp
      with_reducible rfl
     rotate_left
     ·
      simp only [Act.put,zi,zj,zk,zG,zH]
      rfl
     refine pure_ (i:=4) (N:=some 37) (v:=?_) (a':=?_) #[true,true,true,true,true,false,true,false,false,false,false,false,true,false,false,false] rfl rfl (any_of HT_.out (by kernel_rfl)) (fun _ _ _ h => h) (Or.inl ⟨by rfl,?_⟩) ?_ ?_;rotate_left
     ·
      intro w'
      go_simp
      with_reducible rfl
     rotate_left
     ·
      simp only [Act.put,zi,zj,zk,zG,zH]
      rfl
     refine pure_ (i:=5) (N:=some 38) (v:=?_) (a':=?_) #[true,true,true,true,true,true,true,false,false,false,false,false,true,false,false,false] rfl rfl (any_of HT_.out (by kernel_rfl)) (fun _ _ _ h => h) (Or.inl ⟨by rfl,?_⟩) ?_ ?_;rotate_left
     ·
      intro w'
      go_simp
      with_reducible rfl
     rotate_left
     ·
      simp only [Act.put,zi,zj,zk,zG,zH]
      rfl
     refine take_ (i:=7) (N:=some 40) (v:=?_) (a':=?_) #[true,true,true,true,true,true,true,true,false,false,false,false,true,false,false,false] rfl rfl (yo HT_.out HW_.out (by kernel_rfl)) (fun _ _ _ h => h) (Or.inl ⟨by rfl,?_⟩) hHeld ?_ ?_;rotate_left
     ·
      rintro w' ⟨s0,s1,s2⟩
      go_simp
      with_reducible rfl
     rotate_left
     ·
      simp only [Act.put,zi,zj,zk,zG,zH]
      rfl
     refine pure_ (i:=8) (N:=some 41) (v:=?_) (a':=?_) #[true,true,true,true,true,true,true,true,true,false,false,false,true,false,false,false] rfl rfl (any_of HT_.out (by kernel_rfl)) (fun _ _ _ h => h) (Or.inl ⟨by rfl,?_⟩) ?_ ?_;rotate_left
     ·
      intro w'
      go_simp
      with_reducible rfl
     rotate_left
     ·
      simp only [Act.put,zi,zj,zk,zG,zH]
      rfl
     refine pure_ (i:=9) (N:=some 42) (v:=?_) (a':=?_) #[true,true,true,true,true,true,true,true,true,true,false,false,true,false,false,false] rfl rfl (any_of HT_.out (by kernel_rfl)) (fun _ _ _ h => h) (Or.inl ⟨by rfl,?_⟩) ?_ ?_;rotate_left
     ·
      intro w'
      go_simp
      with_reducible rfl
     rotate_left
     ·
      simp only [Act.put,zi,zj,zk,zG,zH]
      rfl
     refine take_ (i:=13) (N:=some 46) (v:=?_) (a':=?_) #[true,true,true,true,true,true,true,true,true,true,false,false,true,true,false,false] rfl rfl (yo HT_.out HW_.out (by kernel_rfl)) (fun _ _ _ h => h) (Or.inl ⟨by rfl,?_⟩) hHeld ?_ ?_;rotate_left
     ·
      rintro w' ⟨s0,s1,s2⟩
      go_simp
      with_reducible rfl
     rotate_left
     ·
      simp only [Act.put,zi,zj,zk,zG,zH]
      rfl
     refine one_ (i:=10) (N:=some 43) #[true,true,true,true,true,true,true,true,true,true,true,false,true,true,false,false] rfl rfl (one_of HT_.out (by kernel_rfl)) (by decide) (fun K hK => ?_);refine Kd.R_lit_step (Kd.int .u8) _ 5 ?hg (N:=43) ?hd (xs:=([((a1_2.size : Int) / 256) % 256,((a1_2.size : Int)) % 256] : List Int)) (inner:=[.int .u8 (((a1_2.size : Int) / 256) % 256),.int .u8 (((a1_2.size : Int)) % 256)]) (ok:=fun _ => True) (okp:=fun _ => True) ?hr ?hp (fun _ hk => hk) trivial (Below.refl _ _) (ye _) (by simp) ?_;(case hd => rfl);(case hg => rfl);(case hr => first|(go_simp;done)|(go_simp;rfl));(case hp => exact (Reps.one (show Kd.M (Kd.int .u8) _ _ _ (((a1_2.size : Int) / 256) % 256) [.int .u8 (((a1_2.size : Int) / 256) % 256)] from rfl) (Reps.one (show Kd.M (Kd.int .u8) _ _ _ (((a1_2.size : Int)) % 256) [.int .u8 (((a1_2.size : Int)) % 256)] from rfl) (Reps.none _ _))));intro v426 w42 ho43 hb hg_ hnew_;clear hg_ hnew_;(first|rw [← Ny425.out] at ho43|(simp only [Int.reduceToNat] at ho43;rw [← Ny425.out] at ho43));have HO427:=zh (yy (Kd.R_new' (Kd.R_newM (M:=fun k_ => (P0_ k_∨w.heap.size≤k_)) ho43 (by first|exact HK.out.1|exact (show Kept w _ (fun k_ => P0_ k_) from by repeat (with_reducible first|exact HK.out|apply zr|apply zp|apply zq|refine zs ?_ (.inr GW403.out) _)).1) (fun k_ h_ => .inr h_)) (Kd.R_lt (by (with_reducible repeat (first|apply zm|apply zn|apply zo));exact HO406.out))) (zB (by repeat (with_reducible first|exact HB.out|apply za|apply zb|apply zc|refine zd ?_ GE403.out))));replace HO406:=zh (Kd.R_elder' (by (with_reducible repeat (first|apply zm|apply zn|apply zo));exact HO406.out) (Kd.R_base ho43) hb);replace BK403:=zh (zD (g:=gb403) (o:=.cells #[.int .i64 a1_0,.int .i64 a1_1,.string a1_2] 26 (0,0)) (by (with_reducible repeat (first|refine ze ?_ _|refine zf ?_|refine zg ?_ _));exact BK403.out) hb);replace HK:=zh (Kept.below (S:=(fun k_ => P0_ k_)) (by repeat (with_reducible first|exact HK.out|apply zr|apply zp|apply zq|refine zs ?_ (.inr GW403.out) _)) hb);replace HB:=zh (zC (by repeat (with_reducible first|exact HB.out|apply za|apply zb|apply zc|refine zd ?_ GE403.out)) hb);clear hb ho43;obtain ⟨Ao45,co45,eo45⟩:=yk HO427.out;(first|subst eo45|(injection eo45 with f1_ f2_ f3_;have f4_:=f1_.symm;have f5_:=f3_.symm;clear f1_ f2_ f3_;subst f4_;subst f5_));refine hK.out _ _ ⟨(zz BK403.out 0).trans rfl,(zz BK403.out 1).trans rfl,(zz BK403.out 2).trans rfl⟩ (fun hHeld => ?_);clear hK K;refine norm_ (a':=?_) ?_ ?_;rotate_left
     ·
      show Act.put _ (some 43) _=_
      simp only [Act.put,zi,zj,zk,zG,zH]
      rfl
     refine one_ (i:=11) (N:=some 44) (bm_ 14 16) rfl rfl (one_of HT_.out (by kernel_rfl)) (by decide) (fun K hK => ?_);refine Kd.R_append_rows_step (Kd.int .u8) (w0:=w0) w0.heap.size (by rfl) (.tmp 33) (.tmp 43) 29 5 (.int .u8 0) 1 rfl Try.underlying29 info5 rfl (by decide) (by omega) v405 y404 y425 _ _ _ (fun k_ => (P0_ k_∨w.heap.size≤k_)∧some k_≠(.slice Ao45 y425.length co45 : Value).ownBlock) (fun _ => False) rfl rfl ?aO ?aR (fun _ _ h => h) (fun _ h => h.elim) ?aF ?aB ?aS ?aL ?_;(case aR => repeat (first|exact (yh HO427.out).2.2|(with_reducible refine Kd.C_alloc ?_ _)|(with_reducible refine Kd.C_drewN ?_ _)|(with_reducible refine Kd.C_drew ?_)))
     (case aB => exact (by repeat (with_reducible first|exact HB.out|apply za|apply zb|apply zc|refine zd ?_ GE403.out)))
     (case aF => exact (fun k_ hk => ⟨(.inr (Nat.le_trans (by first|exact HK.out.1|exact (show Kept w _ (fun k_ => P0_ k_) from by repeat (with_reducible first|exact HK.out|apply zr|apply zp|apply zq|refine zs ?_ (.inr GW403.out) _)).1) hk)),Kd.fresh' (Kd.R_lt (by (with_reducible repeat (first|apply zm|apply zn|apply zo));exact HO427.out)) k_ hk⟩))
     (case aO => exact (by (with_reducible repeat (first|apply zm|apply zn|apply zo));exact HO406.out))
     (case aS => exact (zB (by repeat (with_reducible first|exact HB.out|apply za|apply zb|apply zc|refine zd ?_ GE403.out))))
     (case aL => have:=LMc35.out;omega)
     intro v429 w44 ho hb hg hat;rw [← Ny428.out] at ho;replace BK403:=zh (yw (g:=gb403) (o:=.cells #[.int .i64 a1_0,.int .i64 a1_1,.string a1_2] 26 (0,0)) (by (with_reducible repeat (first|refine ze ?_ _|refine zf ?_|refine zg ?_ _));exact BK403.out) hg (Kd.R_ne HO406.out BK403.out (by decide)));replace HO427:=zh (Kd.R_after (ok:=(fun k_ => (P0_ k_∨w.heap.size≤k_))) (by (with_reducible repeat (first|apply zm|apply zn|apply zo));exact zM HO427.out (fun _ hk => ⟨hk.1.1,hk.2⟩)) hg hat);replace HB:=zh (hb);replace HK:=zh (yA (S:=(fun k_ => P0_ k_)) hg (by repeat (with_reducible first|exact HK.out|apply zr|apply zp|apply zq|refine zs ?_ (.inr GW403.out) _)) (fun k_ e_ => (HO406.out.1 k_ e_).1));have HO430:=zh (ho);clear HO406 ho hb hg hat;refine hK.out _ _ ⟨(zz BK403.out 0).trans rfl,(zz BK403.out 1).trans rfl,(zz BK403.out 2).trans rfl⟩ (fun hHeld => ?_);clear hK K;refine norm_ (a':=?_) ?_ ?_;rotate_left
     ·
      show Act.put _ (some 44) _=_
      simp only [Act.put,zi,zj,zk,zG,zH]
      rfl
     refine one_ (i:=14) (N:=some 47) (bm_ 15 16) rfl rfl (one_of HT_.out (by kernel_rfl)) (by decide) (fun K hK => ?_);refine print_append_str_go (w0:=w0) w0.heap.size (by rfl) (.tmp 44) _ 29 9 5 rfl Try.underlying29 Try.underlying9 info5 v429 y428 a1_2 rfl rfl ?aO ?aB ?aS ?aL ?_;(case aB => exact (by repeat (with_reducible first|exact HB.out|apply za|apply zb|apply zc|refine zd ?_ GE403.out)))
     (case aO => exact (Kd.own_of_R (by (with_reducible repeat (first|apply zm|apply zn|apply zo));exact zM HO430.out (fun _ hk => hk.1))))
     (case aS => exact (zB (by repeat (with_reducible first|exact HB.out|apply za|apply zb|apply zc|refine zd ?_ GE403.out))))
     (case aL => have:=LMc36.out;omega)
     intro v432 w46 ho0 hb hg hat;have ho:=Kd.R_of_own (h1:=fun _ => rfl) (ok:=(fun k_ => (P0_ k_∨w.heap.size≤k_))) ho0 (fun k_ e_ => hat.elim (fun h_ => (zM HO430.out (fun _ hk => hk.1)).1 k_ (h_.symm.trans e_)) (fun ⟨b_,h_,hb_⟩ => (fun k_ hk => (.inr (Nat.le_trans (by first|exact HK.out.1|exact (show Kept w _ (fun k_ => P0_ k_) from by repeat (with_reducible first|exact HK.out|apply zr|apply zp|apply zq|refine zs ?_ (.inr GW403.out) _)).1) hk))) k_ (zU (h_.symm.trans e_) ▸ hb_)));clear ho0;rw [← Ny431.out] at ho;change Kd.R (Kd.int .u8) 5 w46 w0.heap.size (fun k_ => (P0_ k_∨w.heap.size≤k_)) v432 y431 at ho;replace BK403:=zh (yw (g:=gb403) (o:=.cells #[.int .i64 a1_0,.int .i64 a1_1,.string a1_2] 26 (0,0)) (by (with_reducible repeat (first|refine ze ?_ _|refine zf ?_|refine zg ?_ _));exact BK403.out) hg (Kd.R_ne HO430.out BK403.out (by decide)));replace HB:=zh (hb);replace HK:=zh (yA (S:=(fun k_ => P0_ k_)) hg (by repeat (with_reducible first|exact HK.out|apply zr|apply zp|apply zq|refine zs ?_ (.inr GW403.out) _)) (fun k_ e_ => (HO430.out.1 k_ e_).1));have HO433:=zh (ho);clear HO430 ho hb hg hat;refine hK.out _ _ ⟨(zz BK403.out 0).trans rfl,(zz BK403.out 1).trans rfl,(zz BK403.out 2).trans rfl⟩ (fun hHeld => ?_);clear hK K;refine norm_ (a':=?_) ?_ ?_;rotate_left
     ·
      show Act.put _ (some 47) _=_
      simp only [Act.put,zi,zj,zk,zG,zH]
      rfl
     refine pure_ (i:=15) (N:=some 4) (v:=?_) (a':=?_) (bm_ 16 16) rfl rfl (any_of HT_.out (by kernel_rfl)) (fun _ _ _ h => h) (Or.inl ⟨by rfl,?_⟩) ?_ ?_;rotate_left
     ·
      intro w'
      go_simp
      with_reducible rfl
     rotate_left
     ·
      simp only [Act.put,zi,zj,zk,zG,zH]
      rfl
     refine done_ (done_of HT_.out (by kernel_rfl)) ?_
     try go_wp2
     go_ret
     exact ⟨_,by first|rfl|(simp [yt,yu] <;> rfl)|(simp [*,yt,yu] <;> rfl),by (with_reducible repeat (first|apply zm|apply zn|apply zo));exact HO433.out,by repeat (with_reducible first|exact HB.out|apply za|apply zb|apply zc|refine zd ?_ GE403.out),by repeat (with_reducible first|exact HK.out|apply zr|apply zp|apply zq|refine zs ?_ (.inr GW403.out) _)⟩
    rw [if_neg c36] at H;exact absurd H (by simp)
   rw [if_neg c35] at H;exact absurd H (by simp)
  rw [if_neg c34] at H;have c34b0 : (a1_0 == 4)=false:=zY.mpr c34;have c34b1 : (a1_0 != 4)=true:=zZ.mpr c34
  by_cases c47 : a1_0=5
  ·
   rw [if_pos c47] at H
   have c47b0 : (a1_0 == 5)=true:=ya.mpr c47;have c47b1 : (a1_0 != 5)=false:=zX.mpr c47;clear c47;obtain ⟨y434,hy434⟩ : ∃ y_ : List Int,y_=(([((a1_2.size : Int) / 256) % 256,((a1_2.size : Int)) % 256] : List Int)):=⟨_,rfl⟩;replace H : (if y404.length + y434.length<140737488355328 then ((some (y404 ++ y434 : List Int)).bind fun y437 => (if y437.length + a1_2.size<140737488355328 then (some (y437 ++ bytesOf a1_2)) else (none))) else (none))=some r:=by first|(rw [hy434];with_reducible exact H)|(have H2_:=(Option.bind_some _ _).symm.trans H;rw [hy434];with_reducible exact H2_)|(have H2_:=(Option.bind_some _ _).symm.trans H;with_reducible exact H2_)|with_reducible exact H|(rw [hy434];exact H)|exact H
   have Ny434:=zh hy434;clear hy434
   by_cases c48 : y404.length + y434.length<140737488355328
   ·
    rw [if_pos c48] at H
    have LMc48:=zh c48;clear c48;obtain ⟨y437,hy437⟩ : ∃ y_ : List Int,y_=(y404 ++ y434):=⟨_,rfl⟩;replace H : (if y437.length + a1_2.size<140737488355328 then (some (y437 ++ bytesOf a1_2)) else (none))=some r:=by first|(rw [hy437];with_reducible exact H)|(have H2_:=(Option.bind_some _ _).symm.trans H;rw [hy437];with_reducible exact H2_)|(have H2_:=(Option.bind_some _ _).symm.trans H;with_reducible exact H2_)|with_reducible exact H|(rw [hy437];exact H)|exact H
    have Ny437:=zh hy437;clear hy437
    by_cases c49 : y437.length + a1_2.size<140737488355328
    ·
     rw [if_pos c49] at H
     have LMc49:=zh c49;clear c49;obtain ⟨y440,hy440⟩ : ∃ y_ : List Int,y_=(y437 ++ bytesOf a1_2):=⟨_,rfl⟩;replace H : (some y440)=some r:=by first|(rw [hy440];with_reducible exact H)|(have H2_:=(Option.bind_some _ _).symm.trans H;rw [hy440];with_reducible exact H2_)|(have H2_:=(Option.bind_some _ _).symm.trans H;with_reducible exact H2_)|with_reducible exact H|(rw [hy440];exact H)|exact H
     have Ny440:=zh hy440;clear hy440;obtain rfl:=zU H
     go_enter Try.func60,Try.ntmps60
     try go_wp2_with (first|((with_reducible refine zK (N:=3) rfl ?_);refine zI ?hg (N:=3) ?hd (cs:=#[.int .i64 a1_0,.int .i64 a1_1,.string a1_2]) (t:=26) ?hr ?_;(case hd => rfl);(case hg => rfl);(case hr => first|(go_simp;done)|(go_simp;rfl));intro gb403 hg w50 hbox hb;replace HO0:=zh (yg (by (with_reducible repeat (first|apply zm|apply zn|apply zo));exact HO0.out) hb);have BK403:=zh (hbox);have GW403:=zh ((by rw [hg];exact (by first|exact HK.out.1|exact (show Kept w _ (fun k_ => P0_ k_) from by repeat (with_reducible first|exact HK.out|apply zr|apply zp|apply zq)).1) : w.heap.size≤gb403));replace HK:=zh (Kept.below (S:=(fun k_ => P0_ k_)) (by repeat (with_reducible first|exact HK.out|apply zr|apply zp|apply zq)) hb);have GE403:=zh ((by rw [hg];exact (zB (by repeat (with_reducible first|exact HB.out|apply za|apply zb|apply zc))) : w0.heap.size≤gb403));replace HB:=zh (zC (by repeat (with_reducible first|exact HB.out|apply za|apply zb|apply zc)) hb);clear hb hbox hg;have hcz51_0 : w50.cell? ⟨gb403,0,none⟩=some (.int .i64 a1_0):=(zz BK403.out 0).trans rfl;have hcz51_1 : w50.cell? ⟨gb403,1,none⟩=some (.int .i64 a1_1):=(zz BK403.out 1).trans rfl;have hcz51_2 : w50.cell? ⟨gb403,2,none⟩=some (.string a1_2):=(zz BK403.out 2).trans rfl;have hfz51_0:=zA BK403.out 0;have hfz51_1:=zA BK403.out 1;have hfz51_2:=zA BK403.out 2)|((with_reducible refine yB (b:=.append) (xs:=#[.tmp 5,.tmp 9]) rfl ?_);at_builtin;refine Kd.R_append (Kd.int .u8) (w0:=w0) w0.heap.size rfl (.tmp 5) (.tmp 9) 29 5 (.int .u8 0) 1 rfl Try.underlying29 info5 rfl (by decide) (by omega) u9000_ l0 ((a1_0) % 256) [.int .u8 ((a1_0) % 256)] (fun k_ => (P0_ k_∨w.heap.size≤k_)) (fun _ => False) rfl rfl ?aP (fun _ hk => hk.elim) ?aF ?aO ?aB ?aS ?aL ?_;(case aP => exact rfl);(case aB => exact (by repeat (with_reducible first|exact HB.out|apply za|apply zb|apply zc|refine zd ?_ GE403.out)));(case aF => exact (fun k_ hk => (.inr (Nat.le_trans (by first|exact HK.out.1|exact (show Kept w _ (fun k_ => P0_ k_) from by repeat (with_reducible first|exact HK.out|apply zr|apply zp|apply zq|refine zs ?_ (.inr GW403.out) _)).1) hk))));(case aO => exact (by (with_reducible repeat (first|apply zm|apply zn|apply zo));exact HO0.out));(case aS => exact (zB (by repeat (with_reducible first|exact HB.out|apply za|apply zb|apply zc|refine zd ?_ GE403.out))));(case aL => have:=LMc3.out;omega);intro v405 w52 ho hb hg hat;rw [← Ny404.out] at ho;replace BK403:=zh (yw (g:=gb403) (o:=.cells #[.int .i64 a1_0,.int .i64 a1_1,.string a1_2] 26 (0,0)) (by (with_reducible repeat (first|refine ze ?_ _|refine zf ?_|refine zg ?_ _));exact BK403.out) hg (Kd.R_ne HO0.out BK403.out (by decide)));replace HB:=zh (hb);replace HK:=zh (yA (S:=(fun k_ => P0_ k_)) hg (by repeat (with_reducible first|exact HK.out|apply zr|apply zp|apply zq|refine zs ?_ (.inr GW403.out) _)) (fun k_ e_ => (HO0.out.1 k_ e_)));have HO406:=zh (ho);clear HO0 ho hb hg hat;have hcz53_0 : w52.cell? ⟨gb403,0,none⟩=some (.int .i64 a1_0):=(zz BK403.out 0).trans rfl;have hcz53_1 : w52.cell? ⟨gb403,1,none⟩=some (.int .i64 a1_1):=(zz BK403.out 1).trans rfl;have hcz53_2 : w52.cell? ⟨gb403,2,none⟩=some (.string a1_2):=(zz BK403.out 2).trans rfl;have hfz53_0:=zA BK403.out 0;have hfz53_1:=zA BK403.out 1;have hfz53_2:=zA BK403.out 2))
     replace HO406:=zh (zo HO406.out);replace BK403:=zh (zf BK403.out);replace HK:=zh (zq HK.out);replace HB:=zh (zc HB.out);refine start_ (n:=16) (S:=fun w' => w'.cell? ⟨gb403,0,none⟩=some (.int .i64 a1_0)∧w'.cell? ⟨gb403,1,none⟩=some (.int .i64 a1_1)∧w'.cell? ⟨gb403,2,none⟩=some (.string a1_2)) (ds:=[]) (bm_ 0 16) (by kernel_rfl) rfl rfl ⟨(zz BK403.out 0).trans rfl,(zz BK403.out 1).trans rfl,(zz BK403.out 2).trans rfl⟩ (fun hHeld => ?_);refine with_tabW impl_putValue.tab10 impl_putValue.bits10 (fun HT_ HW_ => ?_);generalize w52.drew=w54 at HO406 BK403 HK HB hHeld ⊢;refine pure_ (i:=0) (N:=some 33) (v:=?_) (a':=?_) (bm_ 1 16) rfl rfl (any_of HT_.out (by kernel_rfl)) (fun _ _ _ h => h) (Or.inl ⟨by rfl,?_⟩) ?_ ?_;rotate_left
     ·
      intro w'
      go_simp
      with_reducible rfl
     rotate_left
     ·
      simp only [Act.put,zi,zj,zk,zG,zH]
      rfl
     refine pure_ (i:=1) (N:=some 34) (v:=?_) (a':=?_) (bm_ 2 16) rfl rfl (any_of HT_.out (by kernel_rfl)) (fun _ _ _ h => h) (Or.inl ⟨by rfl,?_⟩) ?_ ?_;rotate_left
     ·
      intro w'
      go_simp
      with_reducible rfl
     rotate_left
     ·
      simp only [Act.put,zi,zj,zk,zG,zH]
      rfl
     refine pure_ (i:=6) (N:=some 39) (v:=?_) (a':=?_) #[true,true,false,false,false,false,true,false,false,false,false,false,false,false,false,false] rfl rfl (any_of HT_.out (by kernel_rfl)) (fun _ _ _ h => h) (Or.inl ⟨by rfl,?_⟩) ?_ ?_;rotate_left
     ·
      intro w'
      go_simp
      with_reducible rfl
     rotate_left
     ·
      simp only [Act.put,zi,zj,zk,zG,zH]
      rfl
     refine pure_ (i:=12) (N:=some 45) (v:=?_) (a':=?_) #[true,true,false,false,false,false,true,false,false,false,false,false,true,false,false,false] rfl rfl (any_of HT_.out (by kernel_rfl)) (fun _ _ _ h => h) (Or.inl ⟨by rfl,?_⟩) ?_ ?_;rotate_left
     ·
      intro w'
      go_simp
      with_reducible rfl
     rotate_left
     ·
      simp only [Act.put,zi,zj,zk,zG,zH]
      rfl
     refine take_ (i:=2) (N:=some 35) (v:=?_) (a':=?_) #[true,true,true,false,false,false,true,false,false,false,false,false,true,false,false,false] rfl rfl (yo HT_.out HW_.out (by kernel_rfl)) (fun _ _ _ h => h) (Or.inl ⟨by rfl,?_⟩) hHeld ?_ ?_;rotate_left
     ·
      rintro w' ⟨s0,s1,s2⟩
      go_simp
      with_reducible rfl
     rotate_left
     ·
      simp only [Act.put,zi,zj,zk,zG,zH]
      rfl
     refine pure_ (i:=3) (N:=some 36) (v:=?_) (a':=?_) #[true,true,true,true,false,false,true,false,false,false,false,false,true,false,false,false] rfl rfl (any_of HT_.out (by kernel_rfl)) (fun _ _ _ h => h) (Or.inl ⟨by rfl,?_⟩) ?_ ?_;rotate_left
     ·
      intro w'
      go_simp
      with_reducible rfl
     rotate_left
     ·
      simp only [Act.put,zi,zj,zk,zG,zH]
      rfl
     refine pure_ (i:=4) (N:=some 37) (v:=?_) (a':=?_) #[true,true,true,true,true,false,true,false,false,false,false,false,true,false,false,false] rfl rfl (any_of HT_.out (by kernel_rfl)) (fun _ _ _ h => h) (Or.inl ⟨by rfl,?_⟩) ?_ ?_;rotate_left
     ·
      intro w'
      go_simp
      with_reducible rfl
     rotate_left
     ·
      simp only [Act.put,zi,zj,zk,zG,zH]
      rfl
     refine pure_ (i:=5) (N:=some 38) (v:=?_) (a':=?_) #[true,true,true,true,true,true,true,false,false,false,false,false,true,false,false,false] rfl rfl (any_of HT_.out (by kernel_rfl)) (fun _ _ _ h => h) (Or.inl ⟨by rfl,?_⟩) ?_ ?_;rotate_left
     ·
      intro w'
      go_simp
      with_reducible rfl
     rotate_left
     ·
      simp only [Act.put,zi,zj,zk,zG,zH]
      rfl
     refine take_ (i:=7) (N:=some 40) (v:=?_) (a':=?_) #[true,true,true,true,true,true,true,true,false,false,false,false,true,false,false,false] rfl rfl (yo HT_.out HW_.out (by kernel_rfl)) (fun _ _ _ h => h) (Or.inl ⟨by rfl,?_⟩) hHeld ?_ ?_;rotate_left
     ·
      rintro w' ⟨s0,s1,s2⟩
      go_simp
      with_reducible rfl
     rotate_left
     ·
      simp only [Act.put,zi,zj,zk,zG,zH]
      rfl
     refine pure_ (i:=8) (N:=some 41) (v:=?_) (a':=?_) #[true,true,true,true,true,true,true,true,true,false,false,false,true,false,false,false] rfl rfl (any_of HT_.out (by kernel_rfl)) (fun _ _ _ h => h) (Or.inl ⟨by rfl,?_⟩) ?_ ?_;rotate_left
     ·
      intro w'
      go_simp
      with_reducible rfl
     rotate_left
     ·
      simp only [Act.put,zi,zj,zk,zG,zH]
      rfl
     refine pure_ (i:=9) (N:=some 42) (v:=?_) (a':=?_) #[true,true,true,true,true,true,true,true,true,true,false,false,true,false,false,false] rfl rfl (any_of HT_.out (by kernel_rfl)) (fun _ _ _ h => h) (Or.inl ⟨by rfl,?_⟩) ?_ ?_;rotate_left
     ·
      intro w'
      go_simp
      with_reducible rfl
     rotate_left
     ·
      simp only [Act.put,zi,zj,zk,zG,zH]
      rfl
     refine take_ (i:=13) (N:=some 46) (v:=?_) (a':=?_) #[true,true,true,true,true,true,true,true,true,true,false,false,true,true,false,false] rfl rfl (yo HT_.out HW_.out (by kernel_rfl)) (fun _ _ _ h => h) (Or.inl ⟨by rfl,?_⟩) hHeld ?_ ?_;rotate_left
     ·
      rintro w' ⟨s0,s1,s2⟩
      go_simp
      with_reducible rfl
     rotate_left
     ·
      simp only [Act.put,zi,zj,zk,zG,zH]
      rfl
     refine one_ (i:=10) (N:=some 43) #[true,true,true,true,true,true,true,true,true,true,true,false,true,true,false,false] rfl rfl (one_of HT_.out (by kernel_rfl)) (by decide) (fun K hK => ?_);refine Kd.R_lit_step (Kd.int .u8) _ 5 ?hg (N:=43) ?hd (xs:=([((a1_2.size : Int) / 256) % 256,((a1_2.size : Int)) % 256] : List Int)) (inner:=[.int .u8 (((a1_2.size : Int) / 256) % 256),.int .u8 (((a1_2.size : Int)) % 256)]) (ok:=fun _ => True) (okp:=fun _ => True) ?hr ?hp (fun _ hk => hk) trivial (Below.refl _ _) (ye _) (by simp) ?_;(case hd => rfl);(case hg => rfl);(case hr => first|(go_simp;done)|(go_simp;rfl));(case hp => exact (Reps.one (show Kd.M (Kd.int .u8) _ _ _ (((a1_2.size : Int) / 256) % 256) [.int .u8 (((a1_2.size : Int) / 256) % 256)] from rfl) (Reps.one (show Kd.M (Kd.int .u8) _ _ _ (((a1_2.size : Int)) % 256) [.int .u8 (((a1_2.size : Int)) % 256)] from rfl) (Reps.none _ _))));intro v435 w55 ho56 hb hg_ hnew_;clear hg_ hnew_;(first|rw [← Ny434.out] at ho56|(simp only [Int.reduceToNat] at ho56;rw [← Ny434.out] at ho56));have HO436:=zh (yy (Kd.R_new' (Kd.R_newM (M:=fun k_ => (P0_ k_∨w.heap.size≤k_)) ho56 (by first|exact HK.out.1|exact (show Kept w _ (fun k_ => P0_ k_) from by repeat (with_reducible first|exact HK.out|apply zr|apply zp|apply zq|refine zs ?_ (.inr GW403.out) _)).1) (fun k_ h_ => .inr h_)) (Kd.R_lt (by (with_reducible repeat (first|apply zm|apply zn|apply zo));exact HO406.out))) (zB (by repeat (with_reducible first|exact HB.out|apply za|apply zb|apply zc|refine zd ?_ GE403.out))));replace HO406:=zh (Kd.R_elder' (by (with_reducible repeat (first|apply zm|apply zn|apply zo));exact HO406.out) (Kd.R_base ho56) hb);replace BK403:=zh (zD (g:=gb403) (o:=.cells #[.int .i64 a1_0,.int .i64 a1_1,.string a1_2] 26 (0,0)) (by (with_reducible repeat (first|refine ze ?_ _|refine zf ?_|refine zg ?_ _));exact BK403.out) hb);replace HK:=zh (Kept.below (S:=(fun k_ => P0_ k_)) (by repeat (with_reducible first|exact HK.out|apply zr|apply zp|apply zq|refine zs ?_ (.inr GW403.out) _)) hb);replace HB:=zh (zC (by repeat (with_reducible first|exact HB.out|apply za|apply zb|apply zc|refine zd ?_ GE403.out)) hb);clear hb ho56;obtain ⟨Ao58,co58,eo58⟩:=yk HO436.out;(first|subst eo58|(injection eo58 with f1_ f2_ f3_;have f4_:=f1_.symm;have f5_:=f3_.symm;clear f1_ f2_ f3_;subst f4_;subst f5_));refine hK.out _ _ ⟨(zz BK403.out 0).trans rfl,(zz BK403.out 1).trans rfl,(zz BK403.out 2).trans rfl⟩ (fun hHeld => ?_);clear hK K;refine norm_ (a':=?_) ?_ ?_;rotate_left
     ·
      show Act.put _ (some 43) _=_
      simp only [Act.put,zi,zj,zk,zG,zH]
      rfl
     refine one_ (i:=11) (N:=some 44) (bm_ 14 16) rfl rfl (one_of HT_.out (by kernel_rfl)) (by decide) (fun K hK => ?_);refine Kd.R_append_rows_step (Kd.int .u8) (w0:=w0) w0.heap.size (by rfl) (.tmp 33) (.tmp 43) 29 5 (.int .u8 0) 1 rfl Try.underlying29 info5 rfl (by decide) (by omega) v405 y404 y434 _ _ _ (fun k_ => (P0_ k_∨w.heap.size≤k_)∧some k_≠(.slice Ao58 y434.length co58 : Value).ownBlock) (fun _ => False) rfl rfl ?aO ?aR (fun _ _ h => h) (fun _ h => h.elim) ?aF ?aB ?aS ?aL ?_;(case aR => repeat (first|exact (yh HO436.out).2.2|(with_reducible refine Kd.C_alloc ?_ _)|(with_reducible refine Kd.C_drewN ?_ _)|(with_reducible refine Kd.C_drew ?_)))
     (case aB => exact (by repeat (with_reducible first|exact HB.out|apply za|apply zb|apply zc|refine zd ?_ GE403.out)))
     (case aF => exact (fun k_ hk => ⟨(.inr (Nat.le_trans (by first|exact HK.out.1|exact (show Kept w _ (fun k_ => P0_ k_) from by repeat (with_reducible first|exact HK.out|apply zr|apply zp|apply zq|refine zs ?_ (.inr GW403.out) _)).1) hk)),Kd.fresh' (Kd.R_lt (by (with_reducible repeat (first|apply zm|apply zn|apply zo));exact HO436.out)) k_ hk⟩))
     (case aO => exact (by (with_reducible repeat (first|apply zm|apply zn|apply zo));exact HO406.out))
     (case aS => exact (zB (by repeat (with_reducible first|exact HB.out|apply za|apply zb|apply zc|refine zd ?_ GE403.out))))
     (case aL => have:=LMc48.out;omega)
     intro v438 w57 ho hb hg hat;rw [← Ny437.out] at ho;replace BK403:=zh (yw (g:=gb403) (o:=.cells #[.int .i64 a1_0,.int .i64 a1_1,.string a1_2] 26 (0,0)) (by (with_reducible repeat (first|refine ze ?_ _|refine zf ?_|refine zg ?_ _));exact BK403.out) hg (Kd.R_ne HO406.out BK403.out (by decide)));replace HO436:=zh (Kd.R_after (ok:=(fun k_ => (P0_ k_∨w.heap.size≤k_))) (by (with_reducible repeat (first|apply zm|apply zn|apply zo));exact zM HO436.out (fun _ hk => ⟨hk.1.1,hk.2⟩)) hg hat);replace HB:=zh (hb);replace HK:=zh (yA (S:=(fun k_ => P0_ k_)) hg (by repeat (with_reducible first|exact HK.out|apply zr|apply zp|apply zq|refine zs ?_ (.inr GW403.out) _)) (fun k_ e_ => (HO406.out.1 k_ e_).1));have HO439:=zh (ho);clear HO406 ho hb hg hat;refine hK.out _ _ ⟨(zz BK403.out 0).trans rfl,(zz BK403.out 1).trans rfl,(zz BK403.out 2).trans rfl⟩ (fun hHeld => ?_);clear hK K;refine norm_ (a':=?_) ?_ ?_;rotate_left
     ·
      show Act.put _ (some 44) _=_
      simp only [Act.put,zi,zj,zk,zG,zH]
      rfl
     refine one_ (i:=14) (N:=some 47) (bm_ 15 16) rfl rfl (one_of HT_.out (by kernel_rfl)) (by decide) (fun K hK => ?_);refine print_append_str_go (w0:=w0) w0.heap.size (by rfl) (.tmp 44) _ 29 9 5 rfl Try.underlying29 Try.underlying9 info5 v438 y437 a1_2 rfl rfl ?aO ?aB ?aS ?aL ?_;(case aB => exact (by repeat (with_reducible first|exact HB.out|apply za|apply zb|apply zc|refine zd ?_ GE403.out)))
     (case aO => exact (Kd.own_of_R (by (with_reducible repeat (first|apply zm|apply zn|apply zo));exact zM HO439.out (fun _ hk => hk.1))))
     (case aS => exact (zB (by repeat (with_reducible first|exact HB.out|apply za|apply zb|apply zc|refine zd ?_ GE403.out))))
     (case aL => have:=LMc49.out;omega)
     intro v441 w59 ho0 hb hg hat;have ho:=Kd.R_of_own (h1:=fun _ => rfl) (ok:=(fun k_ => (P0_ k_∨w.heap.size≤k_))) ho0 (fun k_ e_ => hat.elim (fun h_ => (zM HO439.out (fun _ hk => hk.1)).1 k_ (h_.symm.trans e_)) (fun ⟨b_,h_,hb_⟩ => (fun k_ hk => (.inr (Nat.le_trans (by first|exact HK.out.1|exact (show Kept w _ (fun k_ => P0_ k_) from by repeat (with_reducible first|exact HK.out|apply zr|apply zp|apply zq|refine zs ?_ (.inr GW403.out) _)).1) hk))) k_ (zU (h_.symm.trans e_) ▸ hb_)));clear ho0;rw [← Ny440.out] at ho;change Kd.R (Kd.int .u8) 5 w59 w0.heap.size (fun k_ => (P0_ k_∨w.heap.size≤k_)) v441 y440 at ho;replace BK403:=zh (yw (g:=gb403) (o:=.cells #[.int .i64 a1_0,.int .i64 a1_1,.string a1_2] 26 (0,0)) (by (with_reducible repeat (first|refine ze ?_ _|refine zf ?_|refine zg ?_ _));exact BK403.out) hg (Kd.R_ne HO439.out BK403.out (by decide)));replace HB:=zh (hb);replace HK:=zh (yA (S:=(fun k_ => P0_ k_)) hg (by repeat (with_reducible first|exact HK.out|apply zr|apply zp|apply zq|refine zs ?_ (.inr GW403.out) _)) (fun k_ e_ => (HO439.out.1 k_ e_).1));have HO442:=zh (ho);clear HO439 ho hb hg hat;refine hK.out _ _ ⟨(zz BK403.out 0).trans rfl,(zz BK403.out 1).trans rfl,(zz BK403.out 2).trans rfl⟩ (fun hHeld => ?_);clear hK K;refine norm_ (a':=?_) ?_ ?_;rotate_left
     ·
      show Act.put _ (some 47) _=_
      simp only [Act.put,zi,zj,zk,zG,zH]
      rfl
     refine pure_ (i:=15) (N:=some 4) (v:=?_) (a':=?_) (bm_ 16 16) rfl rfl (any_of HT_.out (by kernel_rfl)) (fun _ _ _ h => h) (Or.inl ⟨by rfl,?_⟩) ?_ ?_;rotate_left
     ·
      intro w'
      go_simp
      with_reducible rfl
     rotate_left
     ·
      simp only [Act.put,zi,zj,zk,zG,zH]
      rfl
     refine done_ (done_of HT_.out (by kernel_rfl)) ?_
     try go_wp2
     go_ret
     exact ⟨_,by first|rfl|(simp [yt,yu] <;> rfl)|(simp [*,yt,yu] <;> rfl),by (with_reducible repeat (first|apply zm|apply zn|apply zo));exact HO442.out,by repeat (with_reducible first|exact HB.out|apply za|apply zb|apply zc|refine zd ?_ GE403.out),by repeat (with_reducible first|exact HK.out|apply zr|apply zp|apply zq|refine zs ?_ (.inr GW403.out) _)⟩
    rw [if_neg c49] at H;exact absurd H (by simp)
   rw [if_neg c48] at H;exact absurd H (by simp)
  rw [if_neg c47] at H;have c47b0 : (a1_0 == 5)=false:=zY.mpr c47;have c47b1 : (a1_0 != 5)=true:=zZ.mpr c47;obtain rfl:=zU H
  go_enter Try.func60,Try.ntmps60
  go_wp2_with (first|((with_reducible refine zK (N:=3) rfl ?_);refine zI ?hg (N:=3) ?hd (cs:=#[.int .i64 a1_0,.int .i64 a1_1,.string a1_2]) (t:=26) ?hr ?_;(case hd => rfl);(case hg => rfl);(case hr => first|(go_simp;done)|(go_simp;rfl));intro gb403 hg w60 hbox hb;replace HO0:=zh (yg (by (with_reducible repeat (first|apply zm|apply zn|apply zo));exact HO0.out) hb);have BK403:=zh (hbox);have GW403:=zh ((by rw [hg];exact (by first|exact HK.out.1|exact (show Kept w _ (fun k_ => P0_ k_) from by repeat (with_reducible first|exact HK.out|apply zr|apply zp|apply zq)).1) : w.heap.size≤gb403));replace HK:=zh (Kept.below (S:=(fun k_ => P0_ k_)) (by repeat (with_reducible first|exact HK.out|apply zr|apply zp|apply zq)) hb);have GE403:=zh ((by rw [hg];exact (zB (by repeat (with_reducible first|exact HB.out|apply za|apply zb|apply zc))) : w0.heap.size≤gb403));replace HB:=zh (zC (by repeat (with_reducible first|exact HB.out|apply za|apply zb|apply zc)) hb);clear hb hbox hg;have hcz61_0 : w60.cell? ⟨gb403,0,none⟩=some (.int .i64 a1_0):=(zz BK403.out 0).trans rfl;have hcz61_1 : w60.cell? ⟨gb403,1,none⟩=some (.int .i64 a1_1):=(zz BK403.out 1).trans rfl;have hcz61_2 : w60.cell? ⟨gb403,2,none⟩=some (.string a1_2):=(zz BK403.out 2).trans rfl;have hfz61_0:=zA BK403.out 0;have hfz61_1:=zA BK403.out 1;have hfz61_2:=zA BK403.out 2)|((with_reducible refine yB (b:=.append) (xs:=#[.tmp 5,.tmp 9]) rfl ?_);at_builtin;refine Kd.R_append (Kd.int .u8) (w0:=w0) w0.heap.size rfl (.tmp 5) (.tmp 9) 29 5 (.int .u8 0) 1 rfl Try.underlying29 info5 rfl (by decide) (by omega) u9000_ l0 ((a1_0) % 256) [.int .u8 ((a1_0) % 256)] (fun k_ => (P0_ k_∨w.heap.size≤k_)) (fun _ => False) rfl rfl ?aP (fun _ hk => hk.elim) ?aF ?aO ?aB ?aS ?aL ?_;(case aP => exact rfl);(case aB => exact (by repeat (with_reducible first|exact HB.out|apply za|apply zb|apply zc|refine zd ?_ GE403.out)));(case aF => exact (fun k_ hk => (.inr (Nat.le_trans (by first|exact HK.out.1|exact (show Kept w _ (fun k_ => P0_ k_) from by repeat (with_reducible first|exact HK.out|apply zr|apply zp|apply zq|refine zs ?_ (.inr GW403.out) _)).1) hk))));(case aO => exact (by (with_reducible repeat (first|apply zm|apply zn|apply zo));exact HO0.out));(case aS => exact (zB (by repeat (with_reducible first|exact HB.out|apply za|apply zb|apply zc|refine zd ?_ GE403.out))));(case aL => have:=LMc3.out;omega);intro v405 w62 ho hb hg hat;rw [← Ny404.out] at ho;replace BK403:=zh (yw (g:=gb403) (o:=.cells #[.int .i64 a1_0,.int .i64 a1_1,.string a1_2] 26 (0,0)) (by (with_reducible repeat (first|refine ze ?_ _|refine zf ?_|refine zg ?_ _));exact BK403.out) hg (Kd.R_ne HO0.out BK403.out (by decide)));replace HB:=zh (hb);replace HK:=zh (yA (S:=(fun k_ => P0_ k_)) hg (by repeat (with_reducible first|exact HK.out|apply zr|apply zp|apply zq|refine zs ?_ (.inr GW403.out) _)) (fun k_ e_ => (HO0.out.1 k_ e_)));have HO406:=zh (ho);clear HO0 ho hb hg hat;have hcz63_0 : w62.cell? ⟨gb403,0,none⟩=some (.int .i64 a1_0):=(zz BK403.out 0).trans rfl;have hcz63_1 : w62.cell? ⟨gb403,1,none⟩=some (.int .i64 a1_1):=(zz BK403.out 1).trans rfl;have hcz63_2 : w62.cell? ⟨gb403,2,none⟩=some (.string a1_2):=(zz BK403.out 2).trans rfl;have hfz63_0:=zA BK403.out 0;have hfz63_1:=zA BK403.out 1;have hfz63_2:=zA BK403.out 2))
  go_ret
  exact ⟨_,by first|rfl|(simp [yt,yu] <;> rfl)|(simp [*,yt,yu] <;> rfl),by (with_reducible repeat (first|apply zm|apply zn|apply zo));exact HO406.out,by repeat (with_reducible first|exact HB.out|apply za|apply zb|apply zc|refine zd ?_ GE403.out),by repeat (with_reducible first|exact HK.out|apply zr|apply zp|apply zq|refine zs ?_ (.inr GW403.out) _)⟩
 rw [if_neg c3] at H;exact absurd H (by simp)

end Go.Proofs.Ytpmeglcmhiihoaa.Q
end
section
namespace Go.Proofs.Ytpmeglcmhiihoaa.Q
open Go.RowKit Go.Proofs.YtpmeglcmhiihoaaW.PrintWords Go.Proofs.YtpmeglcmhiihoaaW.PrintLast Go.Proofs.YtpmeglcmhiihoaaW.PrintMore
attribute [local go_sem] max2_int min2_int max_two min_two max_three min_three max_four min_four max2_str min2_str str_geq str_gtr str_leq   -- for this text's walks alone
set_option linter.unusedVariables false
set_option linter.unusedSimpArgs false

def impl_listOf.l0 : Nat→List Int→List (S26)→Int→Int→Option (Int×Int×ByteArray)
 | 0,_,_,_,_ => none
 | k + 1,x3,x7,x8,x9 => if x9<x8 then (if 0≤x9 then (if x9<(x7.length : Int) then ((impl_putValue.f k x3 ((rd_T26 x7 x9).f0) ((rd_T26 x7 x9).f1) ((rd_T26 x7 x9).f2)).bind fun t755 => (impl_listOf.l0 k t755 x7 x8 (wrap64 (x9 + 1)))) else (none)) else (none)) else (some (4,0,strOfNums x3))
def impl_listOf.f (k : Nat) (l0 : List (S26)) : Option (Int×Int×ByteArray):=impl_listOf.l0 k (([] : List Int)) l0 (l0.length : Int) 0
theorem impl_listOf.mono_l : ∀ k,(∀ y0 y1 y2 y3,LeO (impl_listOf.l0 k y0 y1 y2 y3) (impl_listOf.l0 (k + 1) y0 y1 y2 y3))
 | 0 => fun _ _ _ _ r h => by simp [impl_listOf.l0] at h
 | k + 1 => by
  have ih0:=impl_listOf.mono_l k;intro y0 y1 y2 y3;unfold impl_listOf.l0
  repeat' first|(with_reducible exact ih0 _ _ _ _)|(with_reducible exact impl_putValue.mono _ _ _ _ _)|(with_reducible exact zQ _)|(with_reducible exact zN _)|(with_reducible refine zP ?_ ?_)|(with_reducible refine zO ?_ (fun _ => ?_))|refine zP ?_ ?_|refine zO ?_ (fun _ => ?_)
theorem impl_listOf.mono : ∀ a0 k,LeO (impl_listOf.f k a0) (impl_listOf.f (k + 1) a0):=by
 intro a0 k;have ih0:=impl_listOf.mono_l k;unfold impl_listOf.f
 repeat' first|(with_reducible exact ih0 _ _ _ _)|(with_reducible exact impl_putValue.mono _ _ _ _ _)|(with_reducible exact zQ _)|(with_reducible exact zN _)|(with_reducible refine zP ?_ ?_)|(with_reducible refine zO ?_ (fun _ => ?_))|refine zP ?_ ?_|refine zO ?_ (fun _ => ?_)
set_option maxHeartbeats 8000000 in
set_option maxRecDepth 100000 in
theorem impl_listOf.calls (k : Nat) (A0 : Option Addr) (c0 : Nat) (l0 : List (S26)) (r1 : Int) (r2 : Int) (r3 : ByteArray) (w : World) (hr0 : Kd.C k26 w A0 l0.length l0) (hc0 : l0.length≤c0) (h : impl_listOf.f k l0=some (r1,r2,r3)) :
  Calls Try.prog 73 #[.slice A0 l0.length c0] w fun e w' => e = .returned (.agg #[.int .i64 r1,.int .i64 r2,.string r3])∧Below w.heap.size w w':=by
 have hu26:=Try.underlying26;have HR0:=zh hr0;have HC0:=zh hc0;clear hr0 hc0;have HB:=zh (Below.refl w.heap.size w);have H : (impl_listOf.l0 k (([] : List Int)) l0 (l0.length : Int) 0)=some (r1,r2,r3):=h;clear h;obtain ⟨y750,hy750⟩ : ∃ y_ : List Int,y_=(([] : List Int)):=⟨_,rfl⟩;replace H : (impl_listOf.l0 k y750 l0 (l0.length : Int) 0)=some (r1,r2,r3):=by first|(rw [hy750];with_reducible exact H)|(have H2_:=(Option.bind_some _ _).symm.trans H;rw [hy750];with_reducible exact H2_)|(have H2_:=(Option.bind_some _ _).symm.trans H;with_reducible exact H2_)|with_reducible exact H|(rw [hy750];exact H)|exact H
 have Ny750:=zh hy750;clear hy750;have H':=zh H;clear H
 go_enter Try.func73,Try.ntmps73
 go_wp2_with (first|((with_reducible refine zK (N:=2) rfl ?_);refine zI ?hg (N:=2) ?hd (cs:=#[.int .i64 0,.int .i64 0,.string (⟨#[]⟩ : ByteArray)]) (t:=26) ?hr ?_;(case hd => rfl);(case hg => rfl);(case hr => first|(go_simp;done)|(go_simp;rfl));intro gb749 hg w2 hbox hb;have BK749:=zh (hbox);have GW749:=zh ((by rw [hg];exact (zB (by repeat (with_reducible first|exact HB.out|apply za|apply zb|apply zc))) : w.heap.size≤gb749));have GE749:=zh ((by rw [hg];exact (zB (by repeat (with_reducible first|exact HB.out|apply za|apply zb|apply zc))) : w.heap.size≤gb749));replace HB:=zh (zC (by repeat (with_reducible first|exact HB.out|apply za|apply zb|apply zc)) hb);clear hb hbox hg)|((with_reducible refine zK (N:=6) rfl ?_);refine Kd.R_lit (Kd.int .u8) _ 5 ?hg (N:=6) ?hd (xs:=([] : List Int)) (inner:=[]) (ok:=fun _ => True) (okp:=fun _ => True) ?hr ?hp (fun _ hk => hk) trivial (Below.refl _ _) (ye _) (by simp) ?_;(case hd => rfl);(case hg => rfl);(case hr => first|(go_simp;done)|(go_simp;rfl));(case hp => exact (Reps.none _ _));intro v751 w3 ho4 hb hg_ hnew_;clear hg_ hnew_;(first|rw [← Ny750.out] at ho4|(simp only [Int.reduceToNat] at ho4;rw [← Ny750.out] at ho4));have HO752:=zh (yy ho4 (zB (by repeat (with_reducible first|exact HB.out|apply za|apply zb|apply zc|refine zd ?_ GE749.out))));replace BK749:=zh (zD (g:=gb749) (o:=.cells #[.int .i64 0,.int .i64 0,.string (⟨#[]⟩ : ByteArray)] 26 (0,0)) (by (with_reducible repeat (first|refine ze ?_ _|refine zf ?_|refine zg ?_ _));exact BK749.out) hb);replace HB:=zh (zC (by repeat (with_reducible first|exact HB.out|apply za|apply zb|apply zc|refine zd ?_ GE749.out)) hb);clear hb ho4))
 go_loopg [3,9] k (fun kq v3 v9 w' => ∃ (x3_1 : List Int) (x9_1 : Int),v9 = .int .i64 x9_1∧Aside0 (impl_listOf.l0 kq x3_1 l0 (l0.length : Int) x9_1=some (r1,r2,r3))∧Aside0 (kq≤k)∧Aside0 (Kd.R (Kd.int .u8) 5 w' w.heap.size (fun _ => True) v3 x3_1)∧Aside0 (w'.heap[gb749]? = some (.cells #[.int .i64 0,.int .i64 0,.string (⟨#[]⟩ : ByteArray)] 26 (0,0)))∧Aside0 (Below w.heap.size w w'))
 case atStart => exact ⟨(y750),(0),(by first|rfl|(simp;done)|(simp [*];done)),H',⟨ye _⟩,⟨by (with_reducible repeat (first|apply zm|apply zn|apply zo));exact HO752.out⟩,⟨by (with_reducible repeat (first|refine ze ?_ _|refine zf ?_|refine zg ?_ _));exact BK749.out⟩,⟨by repeat (with_reducible first|exact HB.out|apply za|apply zb|apply zc|refine zd ?_ GE749.out)⟩⟩
 case round =>
  clear H'
  try clear p2
  obtain ⟨x3_1,x9_1,rfl,HA,HK1,HO_3,BK749,HB⟩:=hrel
  cases gk with
  | zero => exact absurd HA.out (by simp [impl_listOf.l0])
  | succ k1 =>
   have H:=HA.out;clear HA;simp only [impl_listOf.l0] at H
   by_cases c5 : x9_1<(l0.length : Int)
   ·
    rw [if_pos c5] at H
    have c5b0 : decide (x9_1<(l0.length : Int))=true:=decide_eq_true c5;clear c5
    by_cases c6 : 0≤x9_1
    ·
     rw [if_pos c6] at H
     have c6b0 : decide (0≤x9_1)=true:=decide_eq_true c6;clear c6
     by_cases c7 : x9_1<(l0.length : Int)
     ·
      rw [if_pos c7] at H
      have c7b0 : decide (x9_1<(l0.length : Int))=true:=decide_eq_true c7;clear c7;replace H:=zT.mp H;obtain ⟨t755,A80,H⟩:=H;replace H : (impl_listOf.l0 k1 t755 l0 (l0.length : Int) (wrap64 (x9_1 + 1)))=some (r1,r2,r3):=H;have A8:=zh A80;clear A80;have H':=zh H;clear H;have p753 : 0≤(x9_1 : Int):=zy (by first|(with_reducible assumption)|assumption);have q753 : x9_1<(l0.length : Int):=zy (by first|(with_reducible assumption)|assumption);obtain ⟨ad753,e753,hx753_0,hx753_1,hx753_2⟩:=at_T26 HR0.out x9_1 p753 q753
      cases e753
      replace hx753_0:=(HB.out.cell (zl w _ hx753_0)).trans hx753_0;replace hx753_1:=(HB.out.cell (zl w _ hx753_1)).trans hx753_1;replace hx753_2:=(HB.out.cell (zl w _ hx753_2)).trans hx753_2;replace p753:=eq_true p753;replace q753:=eq_true q753
      go_wp2_with (first|((with_reducible refine zK (N:=5) rfl ?_);refine zI ?hg (N:=5) ?hd (cs:=#[.int .i64 0,.int .i64 0,.string (⟨#[]⟩ : ByteArray)]) (t:=26) ?hr ?_;(case hd => rfl);(case hg => rfl);(case hr => first|(go_simp;done)|(go_simp;rfl));intro gb754 hg w9 hbox hb;replace HO_3:=zh (yg (by (with_reducible repeat (first|apply zm|apply zn|apply zo));exact HO_3.out) hb);have BK754:=zh (hbox);have GW754:=zh ((by rw [hg];exact (zB (by repeat (with_reducible first|exact HB.out|apply za|apply zb|apply zc|refine zd ?_ GE749.out))) : w.heap.size≤gb754));have GE754:=zh ((by rw [hg];exact (zB (by repeat (with_reducible first|exact HB.out|apply za|apply zb|apply zc|refine zd ?_ GE749.out))) : w.heap.size≤gb754));replace HB:=zh (zC (by repeat (with_reducible first|exact HB.out|apply za|apply zb|apply zc|refine zd ?_ GE749.out)) hb);have NB749_754:=zh ((by rw [hg];exact yc (yi (g:=gb749) (o:=.cells #[.int .i64 0,.int .i64 0,.string (⟨#[]⟩ : ByteArray)] 26 (0,0)) (by (with_reducible repeat (first|refine ze ?_ _|refine zf ?_|refine zg ?_ _));exact BK749.out)) : gb749≠gb754));have NB754_749:=zh ((by rw [hg];exact yd (yi (g:=gb749) (o:=.cells #[.int .i64 0,.int .i64 0,.string (⟨#[]⟩ : ByteArray)] 26 (0,0)) (by (with_reducible repeat (first|refine ze ?_ _|refine zf ?_|refine zg ?_ _));exact BK749.out)) : gb754≠gb749));replace BK749:=zh (zD (g:=gb749) (o:=.cells #[.int .i64 0,.int .i64 0,.string (⟨#[]⟩ : ByteArray)] 26 (0,0)) (by (with_reducible repeat (first|refine ze ?_ _|refine zf ?_|refine zg ?_ _));exact BK749.out) hb);clear hb hbox hg;have hnb10:=NB754_749.out;have hnc10:=NB749_754.out;have hcz11_0 : w9.cell? ⟨gb754,0,none⟩=some (.int .i64 0):=(zz BK754.out 0).trans rfl;have hcz11_1 : w9.cell? ⟨gb754,1,none⟩=some (.int .i64 0):=(zz BK754.out 1).trans rfl;have hcz11_2 : w9.cell? ⟨gb754,2,none⟩=some (.string (⟨#[]⟩ : ByteArray)):=(zz BK754.out 2).trans rfl;have hfz11_0:=zA BK754.out 0;have hfz11_1:=zA BK754.out 1;have hfz11_2:=zA BK754.out 2)|((with_reducible refine gate_store (t:=26) (p:=5) rfl ?_);refine store_event (t:=26) (p:=5) (v:=?vo_w12) (w1:=(((w9.setCell ⟨gb754,0,none⟩ (.int .i64 ((rd_T26 l0 x9_1).f0))).setCell ⟨gb754,1,none⟩ (.int .i64 ((rd_T26 l0 x9_1).f1))).setCell ⟨gb754,2,none⟩ (.string ((rd_T26 l0 x9_1).f2)))) ?hg ?ho ?hn ?hr ?_;(case ho => rfl);(case hg => rfl);(case hn => rfl);(case hr => first|(go_simp;done)|(go_simp;rfl));intro w12 hw;replace HO_3 : Aside0 (Kd.R (Kd.int .u8) 5 w12 w.heap.size (fun _ => True) u3 x3_1):=⟨(by rw [hw];exact (by (with_reducible repeat (first|apply zm|apply zn|apply zo));exact zM (zE (p:=⟨gb754,2,none⟩) (zE (p:=⟨gb754,1,none⟩) (zE (p:=⟨gb754,0,none⟩) (yf HO_3.out BK754.out (by decide)) (fun _ hk => hk.2) (.int .i64 ((rd_T26 l0 x9_1).f0))) (fun _ hk => hk.2) (.int .i64 ((rd_T26 l0 x9_1).f1))) (fun _ hk => hk.2) (.string ((rd_T26 l0 x9_1).f2))) (fun _ hk => trivial)))⟩;replace BK749 : Aside0 (w12.heap[gb749]? = some (.cells #[.int .i64 0,.int .i64 0,.string (⟨#[]⟩ : ByteArray)] 26 (0,0))):=⟨(by rw [hw];exact (by (with_reducible repeat (first|refine ze ?_ _|refine zf ?_|refine zg ?_ _));refine zS ?_ NB749_754.out _;(with_reducible repeat (first|refine ze ?_ _|refine zf ?_|refine zg ?_ _));refine zS ?_ NB749_754.out _;(with_reducible repeat (first|refine ze ?_ _|refine zf ?_|refine zg ?_ _));refine zS ?_ NB749_754.out _;(with_reducible repeat (first|refine ze ?_ _|refine zf ?_|refine zg ?_ _));exact BK749.out))⟩;replace BK754 : Aside0 (w12.heap[gb754]? = some (.cells #[.int .i64 ((rd_T26 l0 x9_1).f0),.int .i64 ((rd_T26 l0 x9_1).f1),.string ((rd_T26 l0 x9_1).f2)] 26 (0,0))):=⟨(by rw [hw];exact (by (with_reducible repeat (first|refine ze ?_ _|refine zf ?_|refine zg ?_ _));refine zL (cs:=#[.int .i64 ((rd_T26 l0 x9_1).f0),.int .i64 ((rd_T26 l0 x9_1).f1),.string (⟨#[]⟩ : ByteArray)]) ?_ 2 _ rfl;(with_reducible repeat (first|refine ze ?_ _|refine zf ?_|refine zg ?_ _));refine zL (cs:=#[.int .i64 ((rd_T26 l0 x9_1).f0),.int .i64 0,.string (⟨#[]⟩ : ByteArray)]) ?_ 1 _ rfl;(with_reducible repeat (first|refine ze ?_ _|refine zf ?_|refine zg ?_ _));refine zL (cs:=#[.int .i64 0,.int .i64 0,.string (⟨#[]⟩ : ByteArray)]) ?_ 0 _ rfl;(with_reducible repeat (first|refine ze ?_ _|refine zf ?_|refine zg ?_ _));exact BK754.out))⟩;replace HB : Aside0 (Below w.heap.size w w12):=⟨(by rw [hw];exact (by repeat (with_reducible first|exact HB.out|apply za|apply zb|apply zc|refine zd ?_ GE749.out|refine zd ?_ GE754.out)))⟩;clear hw;have hcz13_0 : w12.cell? ⟨gb754,0,none⟩=some (.int .i64 ((rd_T26 l0 x9_1).f0)):=(zz BK754.out 0).trans rfl;have hcz13_1 : w12.cell? ⟨gb754,1,none⟩=some (.int .i64 ((rd_T26 l0 x9_1).f1)):=(zz BK754.out 1).trans rfl;have hcz13_2 : w12.cell? ⟨gb754,2,none⟩=some (.string ((rd_T26 l0 x9_1).f2)):=(zz BK754.out 2).trans rfl;have hfz13_0:=zA BK754.out 0;have hfz13_1:=zA BK754.out 1;have hfz13_2:=zA BK754.out 2;obtain ⟨Ao14,co14,eo14⟩:=yk HO_3.out;subst eo14)|((with_reducible refine zJ (f:=60) rfl ?_);refine yj (some 15) rfl rfl Try.func60 (by kernel_rfl) rfl #[.slice Ao14 x3_1.length co14,.agg #[.int .i64 ((rd_T26 l0 x9_1).f0),.int .i64 ((rd_T26 l0 x9_1).f1),.string ((rd_T26 l0 x9_1).f2)]] rfl (by (try simp only [zt,zu,zv]);first|done|rfl|(simp only [zw,zx];rfl)|(simp only [yr,ys,zV,zW];rfl)) ?_;(with_reducible refine (impl_putValue.calls k1  (fun k_ => some k_=(.slice Ao14 x3_1.length co14 : Value).ownBlock) (.slice Ao14 x3_1.length co14) x3_1 ((rd_T26 l0 x9_1).f0) ((rd_T26 l0 x9_1).f1) ((rd_T26 l0 x9_1).f2) t755 w _ ?side1 ?side2 A8.out).mono ?_);(case side1 => repeat (with_reducible first|exact HB.out|apply za|apply zb|apply zc|refine zd ?_ GE749.out|refine zd ?_ GE754.out));(case side2 => exact Kd.R_tight rfl HO_3.out);rintro e w15 ⟨v756,rfl,ho0,hb,hkp⟩;refine ⟨_,rfl,?_⟩;replace BK749:=zh (blk_kept (by (with_reducible repeat (first|refine ze ?_ _|refine zf ?_|refine zg ?_ _));exact BK749.out) hkp (fun hs_ => (fun e_ => (Kd.R_ne HO_3.out BK749.out (by decide)) e_) hs_));replace BK754:=zh (blk_kept (by (with_reducible repeat (first|refine ze ?_ _|refine zf ?_|refine zg ?_ _));exact BK754.out) hkp (fun hs_ => (fun e_ => (Kd.R_ne HO_3.out BK754.out (by decide)) e_) hs_));have HO757:=zh (zM (ok':=fun k_ => True) ho0 (fun k_ hk_ => trivial));replace HB:=zh (hb);clear HO_3;(try clear hb);(try clear hkp);(try clear ho0)))
      go_roundg k1
      case measure => have:=HK1.out;omega
      case rel => exact ⟨(t755),(wrap64 (x9_1 + 1)),(by first|rfl|(simp;done)|(simp [*];done)),H',⟨by have:=HK1.out;omega⟩,⟨by (with_reducible repeat (first|apply zm|apply zn|apply zo));exact HO757.out⟩,⟨by (with_reducible repeat (first|refine ze ?_ _|refine zf ?_|refine zg ?_ _));exact BK749.out⟩,⟨by repeat (with_reducible first|exact HB.out|apply za|apply zb|apply zc|refine zd ?_ GE749.out|refine zd ?_ GE754.out)⟩⟩
     rw [if_neg c7] at H;exact absurd H (by simp)
    rw [if_neg c6] at H;exact absurd H (by simp)
   rw [if_neg c5] at H;have c5b0 : decide (x9_1<(l0.length : Int))=false:=decide_eq_false c5;clear c5;simp only [Option.some.injEq,Prod.mk.injEq] at H;obtain ⟨rfl,rfl,rfl⟩:=H;have hcv16:=own_string (P:=Try.prog) Try.underlying29 Try.underlying5 Try.underlying9 (Kd.own_of_R HO_3.out);have hcz17_0 : wr.cell? ⟨gb749,0,none⟩=some (.int .i64 0):=(zz BK749.out 0).trans rfl;have hcz17_1 : wr.cell? ⟨gb749,1,none⟩=some (.int .i64 0):=(zz BK749.out 1).trans rfl;have hcz17_2 : wr.cell? ⟨gb749,2,none⟩=some (.string (⟨#[]⟩ : ByteArray)):=(zz BK749.out 2).trans rfl;have hfz17_0:=zA BK749.out 0;have hfz17_1:=zA BK749.out 1;have hfz17_2:=zA BK749.out 2
   go_wp2
   refine bodyPost_ret (results_cell_row rfl _ _ gb749 26 #[.int .i64 4,.int .i64 0,.string (strOfNums x3_1)] (0,0) _ rfl (by (with_reducible repeat (first|refine ze ?_ _|refine zf ?_|refine zg ?_ _));refine zL (cs:=#[.int .i64 4,.int .i64 0,.string (⟨#[]⟩ : ByteArray)]) ?_ 2 _ rfl;(with_reducible repeat (first|refine ze ?_ _|refine zf ?_|refine zg ?_ _));refine zL (cs:=#[.int .i64 4,.int .i64 0,.string (⟨#[]⟩ : ByteArray)]) ?_ 1 _ rfl;(with_reducible repeat (first|refine ze ?_ _|refine zf ?_|refine zg ?_ _));refine zL (cs:=#[.int .i64 0,.int .i64 0,.string (⟨#[]⟩ : ByteArray)]) ?_ 0 _ rfl;(with_reducible repeat (first|refine ze ?_ _|refine zf ?_|refine zg ?_ _));exact BK749.out) Try.underlying26 rfl (by kernel_rfl)) rfl ?_;exact ⟨by first|rfl|(simp [yt,yu] <;> rfl)|(simp [*,yt,yu] <;> rfl),by repeat (with_reducible first|exact HB.out|apply za|apply zb|apply zc|refine zd ?_ GE749.out)⟩

end Go.Proofs.Ytpmeglcmhiihoaa.Q
end
section
namespace Go.Proofs.Ytpmeglcmhiihoaa.Q
open Go.RowKit Go.Proofs.YtpmeglcmhiihoaaW.PrintWords Go.Proofs.YtpmeglcmhiihoaaW.PrintLast Go.Proofs.YtpmeglcmhiihoaaW.PrintMore
attribute [local go_sem] max2_int min2_int max_two min_two max_three min_three max_four min_four max2_str min2_str str_geq str_gtr str_leq   -- for this text's walks alone
set_option linter.unusedVariables false
set_option linter.unusedSimpArgs false

def impl_ListOf.f (k : Nat) (l0 : List (S26)) : Option (Int×Int×ByteArray×Int):=if (l0.length : Int) > 4096 then (some (0,0,(⟨#[]⟩ : ByteArray),2)) else (if (l0.length : Int) > 300 then (some (0,0,(⟨#[]⟩ : ByteArray),10)) else ((impl_areRight.f k l0).bind fun t759 => (if t759=true then ((impl_listOf.f k l0).bind fun bt760 => ((impl_bounded.f k bt760.1 bt760.2.1 bt760.2.2).bind fun bt763 => (some (bt763.1,bt763.2.1,bt763.2.2.1,bt763.2.2.2)))) else (some (0,0,(⟨#[]⟩ : ByteArray),1)))))
theorem impl_ListOf.mono : ∀ a0 k,LeO (impl_ListOf.f k a0) (impl_ListOf.f (k + 1) a0):=by
 intro a0 k;unfold impl_ListOf.f
 repeat' first|(with_reducible exact impl_areRight.mono _ _)|(with_reducible exact impl_bounded.mono _ _ _ _)|(with_reducible exact impl_listOf.mono _ _)|(with_reducible exact zQ _)|(with_reducible exact zN _)|(with_reducible refine zP ?_ ?_)|(with_reducible refine zO ?_ (fun _ => ?_))|refine zP ?_ ?_|refine zO ?_ (fun _ => ?_)
set_option maxHeartbeats 8000000 in
set_option maxRecDepth 100000 in
theorem impl_ListOf.calls (k : Nat) (A0 : Option Addr) (c0 : Nat) (l0 : List (S26)) (r1 : Int) (r2 : Int) (r3 : ByteArray) (r4 : Int) (w : World) (hr0 : Kd.C k26 w A0 l0.length l0) (hc0 : l0.length≤c0) (h : impl_ListOf.f k l0=some (r1,r2,r3,r4)) :
  Calls Try.prog 44 #[.slice A0 l0.length c0] w fun e w' => e = .returned (.tuple #[.agg #[.int .i64 r1,.int .i64 r2,.string r3],.int .i64 r4])∧Below w.heap.size w w':=by
 have hu26:=Try.underlying26;have HR0:=zh hr0;have HC0:=zh hc0;clear hr0 hc0;have HB:=zh (Below.refl w.heap.size w);have H : (if (l0.length : Int) > 4096 then (some (0,0,(⟨#[]⟩ : ByteArray),2)) else (if (l0.length : Int) > 300 then (some (0,0,(⟨#[]⟩ : ByteArray),10)) else ((impl_areRight.f k l0).bind fun t759 => (if t759=true then ((impl_listOf.f k l0).bind fun bt760 => ((impl_bounded.f k bt760.1 bt760.2.1 bt760.2.2).bind fun bt763 => (some (bt763.1,bt763.2.1,bt763.2.2.1,bt763.2.2.2)))) else (some (0,0,(⟨#[]⟩ : ByteArray),1))))))=some (r1,r2,r3,r4):=h;clear h
 by_cases c2 : (l0.length : Int) > 4096
 ·
  rw [if_pos c2] at H
  have c2b0 : decide (4096<(l0.length : Int))=true:=decide_eq_true c2;have c2b1 : decide (4096<l0.length)=true:=decide_eq_true (by omega);clear c2;simp only [Option.some.injEq,Prod.mk.injEq] at H;obtain ⟨rfl,rfl,rfl,rfl⟩:=H
  go_enter Try.func44,Try.ntmps44
  go_wp2_with (first|((with_reducible refine zK (N:=2) rfl ?_);refine zI ?hg (N:=2) ?hd (cs:=#[.int .i64 0,.int .i64 0,.string (⟨#[]⟩ : ByteArray)]) (t:=26) ?hr ?_;(case hd => rfl);(case hg => rfl);(case hr => first|(go_simp;done)|(go_simp;rfl));intro gb758 hg w3 hbox hb;have BK758:=zh (hbox);have GW758:=zh ((by rw [hg];exact (zB (by repeat (with_reducible first|exact HB.out|apply za|apply zb|apply zc))) : w.heap.size≤gb758));have GE758:=zh ((by rw [hg];exact (zB (by repeat (with_reducible first|exact HB.out|apply za|apply zb|apply zc))) : w.heap.size≤gb758));replace HB:=zh (zC (by repeat (with_reducible first|exact HB.out|apply za|apply zb|apply zc)) hb);clear hb hbox hg;have hcz4_0 : w3.cell? ⟨gb758,0,none⟩=some (.int .i64 0):=(zz BK758.out 0).trans rfl;have hcz4_1 : w3.cell? ⟨gb758,1,none⟩=some (.int .i64 0):=(zz BK758.out 1).trans rfl;have hcz4_2 : w3.cell? ⟨gb758,2,none⟩=some (.string (⟨#[]⟩ : ByteArray)):=(zz BK758.out 2).trans rfl;have hfz4_0:=zA BK758.out 0;have hfz4_1:=zA BK758.out 1;have hfz4_2:=zA BK758.out 2))
  refine bodyPost_ret (results_ct rfl _ _ gb758 26 #[.int .i64 0,.int .i64 0,.string (⟨#[]⟩ : ByteArray)] (0,0) _ rfl (by (with_reducible repeat (first|refine ze ?_ _|refine zf ?_|refine zg ?_ _));refine zL (cs:=#[.int .i64 0,.int .i64 0,.string (⟨#[]⟩ : ByteArray)]) ?_ 2 _ rfl;(with_reducible repeat (first|refine ze ?_ _|refine zf ?_|refine zg ?_ _));refine zL (cs:=#[.int .i64 0,.int .i64 0,.string (⟨#[]⟩ : ByteArray)]) ?_ 1 _ rfl;(with_reducible repeat (first|refine ze ?_ _|refine zf ?_|refine zg ?_ _));refine zL (cs:=#[.int .i64 0,.int .i64 0,.string (⟨#[]⟩ : ByteArray)]) ?_ 0 _ rfl;(with_reducible repeat (first|refine ze ?_ _|refine zf ?_|refine zg ?_ _));exact BK758.out) Try.underlying26 rfl (by kernel_rfl)) rfl ?_;exact ⟨by first|rfl|(simp [yt,yu] <;> rfl)|(simp [*,yt,yu] <;> rfl),by repeat (with_reducible first|exact HB.out|apply za|apply zb|apply zc|refine zd ?_ GE758.out)⟩
 rw [if_neg c2] at H;have c2b0 : decide (4096<(l0.length : Int))=false:=decide_eq_false c2;have c2b1 : decide (4096<l0.length)=false:=decide_eq_false (by omega);clear c2
 by_cases c5 : (l0.length : Int) > 300
 ·
  rw [if_pos c5] at H
  have c5b0 : decide (300<(l0.length : Int))=true:=decide_eq_true c5;have c5b1 : decide (300<l0.length)=true:=decide_eq_true (by omega);clear c5;simp only [Option.some.injEq,Prod.mk.injEq] at H;obtain ⟨rfl,rfl,rfl,rfl⟩:=H
  go_enter Try.func44,Try.ntmps44
  go_wp2_with (first|((with_reducible refine zK (N:=2) rfl ?_);refine zI ?hg (N:=2) ?hd (cs:=#[.int .i64 0,.int .i64 0,.string (⟨#[]⟩ : ByteArray)]) (t:=26) ?hr ?_;(case hd => rfl);(case hg => rfl);(case hr => first|(go_simp;done)|(go_simp;rfl));intro gb758 hg w6 hbox hb;have BK758:=zh (hbox);have GW758:=zh ((by rw [hg];exact (zB (by repeat (with_reducible first|exact HB.out|apply za|apply zb|apply zc))) : w.heap.size≤gb758));have GE758:=zh ((by rw [hg];exact (zB (by repeat (with_reducible first|exact HB.out|apply za|apply zb|apply zc))) : w.heap.size≤gb758));replace HB:=zh (zC (by repeat (with_reducible first|exact HB.out|apply za|apply zb|apply zc)) hb);clear hb hbox hg;have hcz7_0 : w6.cell? ⟨gb758,0,none⟩=some (.int .i64 0):=(zz BK758.out 0).trans rfl;have hcz7_1 : w6.cell? ⟨gb758,1,none⟩=some (.int .i64 0):=(zz BK758.out 1).trans rfl;have hcz7_2 : w6.cell? ⟨gb758,2,none⟩=some (.string (⟨#[]⟩ : ByteArray)):=(zz BK758.out 2).trans rfl;have hfz7_0:=zA BK758.out 0;have hfz7_1:=zA BK758.out 1;have hfz7_2:=zA BK758.out 2))
  refine bodyPost_ret (results_ct rfl _ _ gb758 26 #[.int .i64 0,.int .i64 0,.string (⟨#[]⟩ : ByteArray)] (0,0) _ rfl (by (with_reducible repeat (first|refine ze ?_ _|refine zf ?_|refine zg ?_ _));refine zL (cs:=#[.int .i64 0,.int .i64 0,.string (⟨#[]⟩ : ByteArray)]) ?_ 2 _ rfl;(with_reducible repeat (first|refine ze ?_ _|refine zf ?_|refine zg ?_ _));refine zL (cs:=#[.int .i64 0,.int .i64 0,.string (⟨#[]⟩ : ByteArray)]) ?_ 1 _ rfl;(with_reducible repeat (first|refine ze ?_ _|refine zf ?_|refine zg ?_ _));refine zL (cs:=#[.int .i64 0,.int .i64 0,.string (⟨#[]⟩ : ByteArray)]) ?_ 0 _ rfl;(with_reducible repeat (first|refine ze ?_ _|refine zf ?_|refine zg ?_ _));exact BK758.out) Try.underlying26 rfl (by kernel_rfl)) rfl ?_;exact ⟨by first|rfl|(simp [yt,yu] <;> rfl)|(simp [*,yt,yu] <;> rfl),by repeat (with_reducible first|exact HB.out|apply za|apply zb|apply zc|refine zd ?_ GE758.out)⟩
 rw [if_neg c5] at H;have c5b0 : decide (300<(l0.length : Int))=false:=decide_eq_false c5;have c5b1 : decide (300<l0.length)=false:=decide_eq_false (by omega);clear c5;replace H:=zT.mp H;obtain ⟨t759,A80,H⟩:=H;replace H : (if t759=true then ((impl_listOf.f k l0).bind fun bt760 => ((impl_bounded.f k bt760.1 bt760.2.1 bt760.2.2).bind fun bt763 => (some (bt763.1,bt763.2.1,bt763.2.2.1,bt763.2.2.2)))) else (some (0,0,(⟨#[]⟩ : ByteArray),1)))=some (r1,r2,r3,r4):=H;have A8:=zh A80;clear A80
 by_cases c9 : t759=true
 ·
  subst c9
  have H1 : ((impl_listOf.f k l0).bind fun bt760 => ((impl_bounded.f k bt760.1 bt760.2.1 bt760.2.2).bind fun bt763 => (some (bt763.1,bt763.2.1,bt763.2.2.1,bt763.2.2.2))))=some (r1,r2,r3,r4):=by rw [if_pos rfl] at H;exact H
  clear H;have H:=H1;clear H1;replace H:=zT.mp H;obtain ⟨⟨t760,t761,t762⟩,A100,H⟩:=H;replace H : ((impl_bounded.f k t760 t761 t762).bind fun bt763 => (some (bt763.1,bt763.2.1,bt763.2.2.1,bt763.2.2.2)))=some (r1,r2,r3,r4):=H;have A10:=zh A100;clear A100;replace H:=zT.mp H;obtain ⟨⟨t763,t764,t765,t766⟩,A110,H⟩:=H;replace H : (some (t763,t764,t765,t766))=some (r1,r2,r3,r4):=H;have A11:=zh A110;clear A110;simp only [Option.some.injEq,Prod.mk.injEq] at H;obtain ⟨rfl,rfl,rfl,rfl⟩:=H
  go_enter Try.func44,Try.ntmps44
  go_wp2_with (first|((with_reducible refine zK (N:=2) rfl ?_);refine zI ?hg (N:=2) ?hd (cs:=#[.int .i64 0,.int .i64 0,.string (⟨#[]⟩ : ByteArray)]) (t:=26) ?hr ?_;(case hd => rfl);(case hg => rfl);(case hr => first|(go_simp;done)|(go_simp;rfl));intro gb758 hg w12 hbox hb;have BK758:=zh (hbox);have GW758:=zh ((by rw [hg];exact (zB (by repeat (with_reducible first|exact HB.out|apply za|apply zb|apply zc))) : w.heap.size≤gb758));have GE758:=zh ((by rw [hg];exact (zB (by repeat (with_reducible first|exact HB.out|apply za|apply zb|apply zc))) : w.heap.size≤gb758));replace HB:=zh (zC (by repeat (with_reducible first|exact HB.out|apply za|apply zb|apply zc)) hb);clear hb hbox hg)|((with_reducible refine zJ (f:=68) rfl ?_);refine yj (some 16) rfl rfl Try.func68 (by kernel_rfl) rfl #[.slice A0 l0.length c0] rfl (by (try simp only [zt,zu,zv]);first|done|rfl|(simp only [zw,zx];rfl)|(simp only [yr,ys,zV,zW];rfl)) ?_;(with_reducible refine (impl_areRight.calls k  _ _ l0 true _ ?side1 ?side2 A8.out).mono ?_);(case side1 => repeat (first|exact (Kd.C_below HR0.out HB.out)|(with_reducible refine Kd.C_alloc ?_ _)|(with_reducible refine Kd.C_drewN ?_ _)|(with_reducible refine Kd.C_drew ?_)));(case side2 => exact HC0.out);rintro e w13 ⟨rfl,hb⟩;refine ⟨_,rfl,?_⟩;replace BK758:=zh (zD (g:=gb758) (o:=.cells #[.int .i64 0,.int .i64 0,.string (⟨#[]⟩ : ByteArray)] 26 (0,0)) (by (with_reducible repeat (first|refine ze ?_ _|refine zf ?_|refine zg ?_ _));exact BK758.out) hb);replace HB:=zh (zC (by repeat (with_reducible first|exact HB.out|apply za|apply zb|apply zc|refine zd ?_ GE758.out)) hb);(try clear hb);(try clear hb2);(try clear hk);(try clear hi))|((with_reducible refine zJ (f:=73) rfl ?_);refine yj (some 20) rfl rfl Try.func73 (by kernel_rfl) rfl #[.slice A0 l0.length c0] rfl (by (try simp only [zt,zu,zv]);first|done|rfl|(simp only [zw,zx];rfl)|(simp only [yr,ys,zV,zW];rfl)) ?_;(with_reducible refine (impl_listOf.calls k  _ _ l0 t760 t761 t762 _ ?side1 ?side2 A10.out).mono ?_);(case side1 => repeat (first|exact (Kd.C_below HR0.out HB.out)|(with_reducible refine Kd.C_alloc ?_ _)|(with_reducible refine Kd.C_drewN ?_ _)|(with_reducible refine Kd.C_drew ?_)));(case side2 => exact HC0.out);rintro e w14 ⟨rfl,hb⟩;refine ⟨_,rfl,?_⟩;replace BK758:=zh (zD (g:=gb758) (o:=.cells #[.int .i64 0,.int .i64 0,.string (⟨#[]⟩ : ByteArray)] 26 (0,0)) (by (with_reducible repeat (first|refine ze ?_ _|refine zf ?_|refine zg ?_ _));exact BK758.out) hb);replace HB:=zh (zC (by repeat (with_reducible first|exact HB.out|apply za|apply zb|apply zc|refine zd ?_ GE758.out)) hb);(try clear hb);(try clear hb2);(try clear hk);(try clear hi))|((with_reducible refine zJ (f:=72) rfl ?_);refine yj (some 21) rfl rfl Try.func72 (by kernel_rfl) rfl #[.agg #[.int .i64 t760,.int .i64 t761,.string t762]] rfl (by (try simp only [zt,zu,zv]);first|done|rfl|(simp only [zw,zx];rfl)|(simp only [yr,ys,zV,zW];rfl)) ?_;(with_reducible refine (impl_bounded.calls k  t760 t761 t762 t763 t764 t765 t766 _ A11.out).mono ?_);rintro e w15 ⟨rfl,hb⟩;refine ⟨_,rfl,?_⟩;replace BK758:=zh (zD (g:=gb758) (o:=.cells #[.int .i64 0,.int .i64 0,.string (⟨#[]⟩ : ByteArray)] 26 (0,0)) (by (with_reducible repeat (first|refine ze ?_ _|refine zf ?_|refine zg ?_ _));exact BK758.out) hb);replace HB:=zh (zC (by repeat (with_reducible first|exact HB.out|apply za|apply zb|apply zc|refine zd ?_ GE758.out)) hb);(try clear hb);(try clear hb2);(try clear hk);(try clear hi);have hcz16_0 : w15.cell? ⟨gb758,0,none⟩=some (.int .i64 0):=(zz BK758.out 0).trans rfl;have hcz16_1 : w15.cell? ⟨gb758,1,none⟩=some (.int .i64 0):=(zz BK758.out 1).trans rfl;have hcz16_2 : w15.cell? ⟨gb758,2,none⟩=some (.string (⟨#[]⟩ : ByteArray)):=(zz BK758.out 2).trans rfl;have hfz16_0:=zA BK758.out 0;have hfz16_1:=zA BK758.out 1;have hfz16_2:=zA BK758.out 2))
  refine bodyPost_ret (results_ct rfl _ _ gb758 26 #[.int .i64 t763,.int .i64 t764,.string t765] (0,0) _ rfl (by (with_reducible repeat (first|refine ze ?_ _|refine zf ?_|refine zg ?_ _));refine zL (cs:=#[.int .i64 t763,.int .i64 t764,.string (⟨#[]⟩ : ByteArray)]) ?_ 2 _ rfl;(with_reducible repeat (first|refine ze ?_ _|refine zf ?_|refine zg ?_ _));refine zL (cs:=#[.int .i64 t763,.int .i64 0,.string (⟨#[]⟩ : ByteArray)]) ?_ 1 _ rfl;(with_reducible repeat (first|refine ze ?_ _|refine zf ?_|refine zg ?_ _));refine zL (cs:=#[.int .i64 0,.int .i64 0,.string (⟨#[]⟩ : ByteArray)]) ?_ 0 _ rfl;(with_reducible repeat (first|refine ze ?_ _|refine zf ?_|refine zg ?_ _));exact BK758.out) Try.underlying26 rfl (by kernel_rfl)) rfl ?_;exact ⟨by first|rfl|(simp [yt,yu] <;> rfl)|(simp [*,yt,yu] <;> rfl),by repeat (with_reducible first|exact HB.out|apply za|apply zb|apply zc|refine zd ?_ GE758.out)⟩
 replace c9:=yb.mpr c9;subst c9;have H1 : (some (0,0,(⟨#[]⟩ : ByteArray),1))=some (r1,r2,r3,r4):=by rw [if_neg (show ¬ (false=true) by decide)] at H;exact H
 clear H;have H:=H1;clear H1;simp only [Option.some.injEq,Prod.mk.injEq] at H;obtain ⟨rfl,rfl,rfl,rfl⟩:=H
 go_enter Try.func44,Try.ntmps44
 go_wp2_with (first|((with_reducible refine zK (N:=2) rfl ?_);refine zI ?hg (N:=2) ?hd (cs:=#[.int .i64 0,.int .i64 0,.string (⟨#[]⟩ : ByteArray)]) (t:=26) ?hr ?_;(case hd => rfl);(case hg => rfl);(case hr => first|(go_simp;done)|(go_simp;rfl));intro gb758 hg w17 hbox hb;have BK758:=zh (hbox);have GW758:=zh ((by rw [hg];exact (zB (by repeat (with_reducible first|exact HB.out|apply za|apply zb|apply zc))) : w.heap.size≤gb758));have GE758:=zh ((by rw [hg];exact (zB (by repeat (with_reducible first|exact HB.out|apply za|apply zb|apply zc))) : w.heap.size≤gb758));replace HB:=zh (zC (by repeat (with_reducible first|exact HB.out|apply za|apply zb|apply zc)) hb);clear hb hbox hg)|((with_reducible refine zJ (f:=68) rfl ?_);refine yj (some 16) rfl rfl Try.func68 (by kernel_rfl) rfl #[.slice A0 l0.length c0] rfl (by (try simp only [zt,zu,zv]);first|done|rfl|(simp only [zw,zx];rfl)|(simp only [yr,ys,zV,zW];rfl)) ?_;(with_reducible refine (impl_areRight.calls k  _ _ l0 false _ ?side1 ?side2 A8.out).mono ?_);(case side1 => repeat (first|exact (Kd.C_below HR0.out HB.out)|(with_reducible refine Kd.C_alloc ?_ _)|(with_reducible refine Kd.C_drewN ?_ _)|(with_reducible refine Kd.C_drew ?_)));(case side2 => exact HC0.out);rintro e w18 ⟨rfl,hb⟩;refine ⟨_,rfl,?_⟩;replace BK758:=zh (zD (g:=gb758) (o:=.cells #[.int .i64 0,.int .i64 0,.string (⟨#[]⟩ : ByteArray)] 26 (0,0)) (by (with_reducible repeat (first|refine ze ?_ _|refine zf ?_|refine zg ?_ _));exact BK758.out) hb);replace HB:=zh (zC (by repeat (with_reducible first|exact HB.out|apply za|apply zb|apply zc|refine zd ?_ GE758.out)) hb);(try clear hb);(try clear hb2);(try clear hk);(try clear hi);have hcz19_0 : w18.cell? ⟨gb758,0,none⟩=some (.int .i64 0):=(zz BK758.out 0).trans rfl;have hcz19_1 : w18.cell? ⟨gb758,1,none⟩=some (.int .i64 0):=(zz BK758.out 1).trans rfl;have hcz19_2 : w18.cell? ⟨gb758,2,none⟩=some (.string (⟨#[]⟩ : ByteArray)):=(zz BK758.out 2).trans rfl;have hfz19_0:=zA BK758.out 0;have hfz19_1:=zA BK758.out 1;have hfz19_2:=zA BK758.out 2))
 refine bodyPost_ret (results_ct rfl _ _ gb758 26 #[.int .i64 0,.int .i64 0,.string (⟨#[]⟩ : ByteArray)] (0,0) _ rfl (by (with_reducible repeat (first|refine ze ?_ _|refine zf ?_|refine zg ?_ _));refine zL (cs:=#[.int .i64 0,.int .i64 0,.string (⟨#[]⟩ : ByteArray)]) ?_ 2 _ rfl;(with_reducible repeat (first|refine ze ?_ _|refine zf ?_|refine zg ?_ _));refine zL (cs:=#[.int .i64 0,.int .i64 0,.string (⟨#[]⟩ : ByteArray)]) ?_ 1 _ rfl;(with_reducible repeat (first|refine ze ?_ _|refine zf ?_|refine zg ?_ _));refine zL (cs:=#[.int .i64 0,.int .i64 0,.string (⟨#[]⟩ : ByteArray)]) ?_ 0 _ rfl;(with_reducible repeat (first|refine ze ?_ _|refine zf ?_|refine zg ?_ _));exact BK758.out) Try.underlying26 rfl (by kernel_rfl)) rfl ?_;exact ⟨by first|rfl|(simp [yt,yu] <;> rfl)|(simp [*,yt,yu] <;> rfl),by repeat (with_reducible first|exact HB.out|apply za|apply zb|apply zc|refine zd ?_ GE758.out)⟩

end Go.Proofs.Ytpmeglcmhiihoaa.Q
end
section
namespace Go.Proofs.Ytpmeglcmhiihoaa.Q
open Go.RowKit Go.Proofs.YtpmeglcmhiihoaaW.PrintWords Go.Proofs.YtpmeglcmhiihoaaW.PrintLast Go.Proofs.YtpmeglcmhiihoaaW.PrintMore
attribute [local go_sem] max2_int min2_int max_two min_two max_three min_three max_four min_four max2_str min2_str str_geq str_gtr str_leq   -- for this text's walks alone
set_option linter.unusedVariables false
set_option linter.unusedSimpArgs false

def laws_FnExactListOf.j0 : Nat→List (S23)→List (S26)→Bool→Option (Bool)
 | 0,_,_,_ => none
 | k + 1,x0,x6,x35 => if x35=true then (some false) else ((laws_toValueS.f k x0).bind fun t785 => ((laws_eqValueS.f k x6 t785).bind fun t788 => (if t788=true then (some true) else (some false))))
def laws_FnExactListOf.f (k : Nat) (l0 : List (S23)) : Option (Bool):=(laws_szValueS.f k l0 1048576).bind fun t767 => (if t767<0 then (some true) else ((laws_toValueS.f k l0).bind fun t768 => ((spec_ListOf.f k t768).bind fun bt771 => ((laws_toValueS.f k l0).bind fun t776 => ((impl_ListOf.f k t776).bind fun bt779 => ((laws_eqValue.f bt779.1 bt779.2.1 bt779.2.2.1 bt771.1 bt771.2.1 bt771.2.2.1).bind fun t784 => (if t784=true then (laws_FnExactListOf.j0 k l0 t776 (bt779.2.2.2 != bt771.2.2.2)) else (laws_FnExactListOf.j0 k l0 t776 true))))))))
theorem laws_FnExactListOf.mono_l : ∀ k,(∀ y0 y1 y2,LeO (laws_FnExactListOf.j0 k y0 y1 y2) (laws_FnExactListOf.j0 (k + 1) y0 y1 y2))
 | 0 => fun _ _ _ r h => by simp [laws_FnExactListOf.j0] at h
 | k + 1 => by
  have ih0:=laws_FnExactListOf.mono_l k;intro y0 y1 y2;unfold laws_FnExactListOf.j0
  repeat' first|(with_reducible exact ih0 _ _ _)|(with_reducible exact laws_eqValueS.mono _ _ _)|(with_reducible exact laws_szValueS.mono _ _ _)|(with_reducible exact spec_ListOf.mono _ _)|(with_reducible exact laws_toValueS.mono _ _)|(with_reducible exact impl_ListOf.mono _ _)|(with_reducible exact zQ _)|(with_reducible exact zN _)|(with_reducible refine zP ?_ ?_)|(with_reducible refine zO ?_ (fun _ => ?_))|refine zP ?_ ?_|refine zO ?_ (fun _ => ?_)
theorem laws_FnExactListOf.mono : ∀ a0 k,LeO (laws_FnExactListOf.f k a0) (laws_FnExactListOf.f (k + 1) a0):=by
 intro a0 k;have ih0:=laws_FnExactListOf.mono_l k;unfold laws_FnExactListOf.f
 repeat' first|(with_reducible exact ih0 _ _ _)|(with_reducible exact laws_eqValueS.mono _ _ _)|(with_reducible exact laws_szValueS.mono _ _ _)|(with_reducible exact spec_ListOf.mono _ _)|(with_reducible exact laws_toValueS.mono _ _)|(with_reducible exact impl_ListOf.mono _ _)|(with_reducible exact zQ _)|(with_reducible exact zN _)|(with_reducible refine zP ?_ ?_)|(with_reducible refine zO ?_ (fun _ => ?_))|refine zP ?_ ?_|refine zO ?_ (fun _ => ?_)
set_option maxHeartbeats 8000000 in
set_option maxRecDepth 100000 in
theorem laws_FnExactListOf.calls (k : Nat) (A0 : Option Addr) (c0 : Nat) (l0 : List (S23)) (r : Bool) (w : World) (hr0 : Kd.C k23 w A0 l0.length l0) (hc0 : l0.length≤c0) (h : laws_FnExactListOf.f k l0=some r) :
  Calls Try.prog 10 #[.slice A0 l0.length c0] w fun e w' => e = .returned (.bool r)∧Below w.heap.size w w':=by
 have hu26:=Try.underlying26;have HR0:=zh hr0;have HC0:=zh hc0;clear hr0 hc0;have HB:=zh (Below.refl w.heap.size w);have H : ((laws_szValueS.f k l0 1048576).bind fun t767 => (if t767<0 then (some true) else ((laws_toValueS.f k l0).bind fun t768 => ((spec_ListOf.f k t768).bind fun bt771 => ((laws_toValueS.f k l0).bind fun t776 => ((impl_ListOf.f k t776).bind fun bt779 => ((laws_eqValue.f bt779.1 bt779.2.1 bt779.2.2.1 bt771.1 bt771.2.1 bt771.2.2.1).bind fun t784 => (if t784=true then (laws_FnExactListOf.j0 k l0 t776 (bt779.2.2.2 != bt771.2.2.2)) else (laws_FnExactListOf.j0 k l0 t776 true)))))))))=some r:=h;clear h;replace H:=zT.mp H;obtain ⟨t767,A20,H⟩:=H;replace H : (if t767<0 then (some true) else ((laws_toValueS.f k l0).bind fun t768 => ((spec_ListOf.f k t768).bind fun bt771 => ((laws_toValueS.f k l0).bind fun t776 => ((impl_ListOf.f k t776).bind fun bt779 => ((laws_eqValue.f bt779.1 bt779.2.1 bt779.2.2.1 bt771.1 bt771.2.1 bt771.2.2.1).bind fun t784 => (if t784=true then (laws_FnExactListOf.j0 k l0 t776 (bt779.2.2.2 != bt771.2.2.2)) else (laws_FnExactListOf.j0 k l0 t776 true))))))))=some r:=H;have A2:=zh A20;clear A20
 by_cases c3 : t767<0
 ·
  rw [if_pos c3] at H
  have c3b0 : decide (t767<0)=true:=decide_eq_true c3;clear c3;obtain rfl:=zU H
  go_enter Try.func10,Try.ntmps10
  go_wp2_with (first|((with_reducible refine zJ (f:=41) rfl ?_);refine yj (some 11) rfl rfl Try.func41 (by kernel_rfl) rfl #[.slice A0 l0.length c0,.int .i64 1048576] rfl (by (try simp only [zt,zu,zv]);first|done|rfl|(simp only [zw,zx];rfl)|(simp only [yr,ys,zV,zW];rfl)) ?_;(with_reducible refine (laws_szValueS.calls k  _ _ l0 1048576 t767 _ ?side1 ?side2 A2.out).mono ?_);(case side1 => repeat (first|exact HR0.out|(with_reducible refine Kd.C_alloc ?_ _)|(with_reducible refine Kd.C_drewN ?_ _)|(with_reducible refine Kd.C_drew ?_)));(case side2 => exact HC0.out);rintro e w4 ⟨rfl,hb⟩;refine ⟨_,rfl,?_⟩;replace HB:=zh (zC (by repeat (with_reducible first|exact HB.out|apply za|apply zb|apply zc)) hb);(try clear hb);(try clear hb2);(try clear hk);(try clear hi)))
  go_ret
  exact ⟨by first|rfl|(simp [yt,yu] <;> rfl)|(simp [*,yt,yu] <;> rfl),by repeat (with_reducible first|exact HB.out|apply za|apply zb|apply zc)⟩
 rw [if_neg c3] at H;have c3b0 : decide (t767<0)=false:=decide_eq_false c3;clear c3;replace H:=zT.mp H;obtain ⟨t768,A50,H⟩:=H;replace H : ((spec_ListOf.f k t768).bind fun bt771 => ((laws_toValueS.f k l0).bind fun t776 => ((impl_ListOf.f k t776).bind fun bt779 => ((laws_eqValue.f bt779.1 bt779.2.1 bt779.2.2.1 bt771.1 bt771.2.1 bt771.2.2.1).bind fun t784 => (if t784=true then (laws_FnExactListOf.j0 k l0 t776 (bt779.2.2.2 != bt771.2.2.2)) else (laws_FnExactListOf.j0 k l0 t776 true))))))=some r:=H;have A5:=zh A50;clear A50;replace H:=zT.mp H;obtain ⟨⟨t771,t772,t773,t774⟩,A60,H⟩:=H;replace H : ((laws_toValueS.f k l0).bind fun t776 => ((impl_ListOf.f k t776).bind fun bt779 => ((laws_eqValue.f bt779.1 bt779.2.1 bt779.2.2.1 t771 t772 t773).bind fun t784 => (if t784=true then (laws_FnExactListOf.j0 k l0 t776 (bt779.2.2.2 != t774)) else (laws_FnExactListOf.j0 k l0 t776 true)))))=some r:=H;have A6:=zh A60;clear A60;replace H:=zT.mp H;obtain ⟨t776,A70,H⟩:=H;replace H : ((impl_ListOf.f k t776).bind fun bt779 => ((laws_eqValue.f bt779.1 bt779.2.1 bt779.2.2.1 t771 t772 t773).bind fun t784 => (if t784=true then (laws_FnExactListOf.j0 k l0 t776 (bt779.2.2.2 != t774)) else (laws_FnExactListOf.j0 k l0 t776 true))))=some r:=H;have A7:=zh A70;clear A70;replace H:=zT.mp H;obtain ⟨⟨t779,t780,t781,t782⟩,A80,H⟩:=H;replace H : ((laws_eqValue.f t779 t780 t781 t771 t772 t773).bind fun t784 => (if t784=true then (laws_FnExactListOf.j0 k l0 t776 (t782 != t774)) else (laws_FnExactListOf.j0 k l0 t776 true)))=some r:=H;have A8:=zh A80;clear A80;have HC9:=zh H;clear H
 go_enter Try.func10,Try.ntmps10
 go_upto_region 8 with (first|((with_reducible refine zJ (f:=41) rfl ?_);refine yj (some 11) rfl rfl Try.func41 (by kernel_rfl) rfl #[.slice A0 l0.length c0,.int .i64 1048576] rfl (by (try simp only [zt,zu,zv]);first|done|rfl|(simp only [zw,zx];rfl)|(simp only [yr,ys,zV,zW];rfl)) ?_;(with_reducible refine (laws_szValueS.calls k  _ _ l0 1048576 t767 _ ?side1 ?side2 A2.out).mono ?_);(case side1 => repeat (first|exact HR0.out|(with_reducible refine Kd.C_alloc ?_ _)|(with_reducible refine Kd.C_drewN ?_ _)|(with_reducible refine Kd.C_drew ?_)));(case side2 => exact HC0.out);rintro e w10 ⟨rfl,hb⟩;refine ⟨_,rfl,?_⟩;replace HB:=zh (zC (by repeat (with_reducible first|exact HB.out|apply za|apply zb|apply zc)) hb);(try clear hb);(try clear hb2);(try clear hk);(try clear hi))|((with_reducible refine zJ (f:=43) rfl ?_);refine yj (some 16) rfl rfl Try.func43 (by kernel_rfl) rfl #[.slice A0 l0.length c0] rfl (by (try simp only [zt,zu,zv]);first|done|rfl|(simp only [zw,zx];rfl)|(simp only [yr,ys,zV,zW];rfl)) ?_;(with_reducible refine (laws_toValueS.calls k  _ _ l0 t768 _ ?side1 ?side2 A5.out).mono ?_);(case side1 => repeat (first|exact (Kd.C_below HR0.out HB.out)|(with_reducible refine Kd.C_alloc ?_ _)|(with_reducible refine Kd.C_drewN ?_ _)|(with_reducible refine Kd.C_drew ?_)));(case side2 => exact HC0.out);rintro e w11 ⟨v769,rfl,ho0,hb⟩;refine ⟨_,rfl,?_⟩;have HO770:=zh (yy ho0 (zB (by repeat (with_reducible first|exact HB.out|apply za|apply zb|apply zc))));replace HB:=zh (zC (by repeat (with_reducible first|exact HB.out|apply za|apply zb|apply zc)) hb);(try clear hb);(try clear hb2);(try clear hk);(try clear hi);(try clear ho0);obtain ⟨Ao12,co12,eo12⟩:=yk HO770.out;subst eo12)|((with_reducible refine zJ (f:=42) rfl ?_);refine yj (some 17) rfl rfl Try.func42 (by kernel_rfl) rfl #[.slice Ao12 t768.length co12] rfl (by (try simp only [zt,zu,zv]);first|done|rfl|(simp only [zw,zx];rfl)|(simp only [yr,ys,zV,zW];rfl)) ?_;(with_reducible refine (spec_ListOf.calls k  _ _ t768 t771 t772 t773 t774 _ ?side1 ?side2 A6.out).mono ?_);(case side1 => repeat (first|exact (yh HO770.out).2.2|(with_reducible refine Kd.C_alloc ?_ _)|(with_reducible refine Kd.C_drewN ?_ _)|(with_reducible refine Kd.C_drew ?_)));(case side2 => exact (yh HO770.out).2.1);rintro e w13 ⟨rfl,hb⟩;refine ⟨_,rfl,?_⟩;replace HO770:=zh (yg (by (with_reducible repeat (first|apply zm|apply zn|apply zo));exact HO770.out) hb);replace HB:=zh (zC (by repeat (with_reducible first|exact HB.out|apply za|apply zb|apply zc)) hb);(try clear hb);(try clear hb2);(try clear hk);(try clear hi))|((with_reducible refine zK (N:=4) rfl ?_);refine zI ?hg (N:=4) ?hd (cs:=#[.int .i64 0,.int .i64 0,.string (⟨#[]⟩ : ByteArray)]) (t:=26) ?hr ?_;(case hd => rfl);(case hg => rfl);(case hr => first|(go_simp;done)|(go_simp;rfl));intro gb775 hg w14 hbox hb;replace HO770:=zh (yg (Kd.R_elderB (by (with_reducible repeat (first|apply zm|apply zn|apply zo));exact HO770.out) gb775 (Nat.le_of_eq hg.symm)) hb);have BK775:=zh (hbox);have GW775:=zh ((by rw [hg];exact (zB (by repeat (with_reducible first|exact HB.out|apply za|apply zb|apply zc))) : w.heap.size≤gb775));have GE775:=zh ((by rw [hg];exact (zB (by repeat (with_reducible first|exact HB.out|apply za|apply zb|apply zc))) : w.heap.size≤gb775));replace HB:=zh (zC (by repeat (with_reducible first|exact HB.out|apply za|apply zb|apply zc)) hb);clear hb hbox hg;have hcz15_0 : w14.cell? ⟨gb775,0,none⟩=some (.int .i64 0):=(zz BK775.out 0).trans rfl;have hcz15_1 : w14.cell? ⟨gb775,1,none⟩=some (.int .i64 0):=(zz BK775.out 1).trans rfl;have hcz15_2 : w14.cell? ⟨gb775,2,none⟩=some (.string (⟨#[]⟩ : ByteArray)):=(zz BK775.out 2).trans rfl;have hfz15_0:=zA BK775.out 0;have hfz15_1:=zA BK775.out 1;have hfz15_2:=zA BK775.out 2)|((with_reducible refine zJ (f:=43) rfl ?_);refine yj (some 21) rfl rfl Try.func43 (by kernel_rfl) rfl #[.slice A0 l0.length c0] rfl (by (try simp only [zt,zu,zv]);first|done|rfl|(simp only [zw,zx];rfl)|(simp only [yr,ys,zV,zW];rfl)) ?_;(with_reducible refine (laws_toValueS.calls k  _ _ l0 t776 _ ?side1 ?side2 A7.out).mono ?_);(case side1 => exact Kd.C_below HR0.out (by repeat (with_reducible first|exact HB.out|apply za|apply zb|apply zc|refine zd ?_ GE775.out)));(case side2 => exact HC0.out);rintro e w16 ⟨v777,rfl,ho0,hb⟩;refine ⟨_,rfl,?_⟩;have HO778:=zh (yy (Kd.R_newB (Kd.R_new' ho0 (Kd.R_lt (by (with_reducible repeat (first|apply zm|apply zn|apply zo));exact (zM (zE (p:=⟨gb775,2,none⟩) (zE (p:=⟨gb775,1,none⟩) (zE (p:=⟨gb775,0,none⟩) (zM HO770.out (fun k_ hk => (⟨hk,hk.2⟩ : _∧k_≠gb775))) (fun _ hk => hk.2) (.int .i64 t771)) (fun _ hk => hk.2) (.int .i64 t772)) (fun _ hk => hk.2) (.string t773)) (fun _ h_ => h_.1))))) (g:=gb775) (o:=.cells #[.int .i64 t771,.int .i64 t772,.string t773] 26 (0,0)) (by (with_reducible repeat (first|refine ze ?_ _|refine zf ?_|refine zg ?_ _));refine zL (cs:=#[.int .i64 t771,.int .i64 t772,.string (⟨#[]⟩ : ByteArray)]) ?_ 2 _ rfl;(with_reducible repeat (first|refine ze ?_ _|refine zf ?_|refine zg ?_ _));refine zL (cs:=#[.int .i64 t771,.int .i64 0,.string (⟨#[]⟩ : ByteArray)]) ?_ 1 _ rfl;(with_reducible repeat (first|refine ze ?_ _|refine zf ?_|refine zg ?_ _));refine zL (cs:=#[.int .i64 0,.int .i64 0,.string (⟨#[]⟩ : ByteArray)]) ?_ 0 _ rfl;(with_reducible repeat (first|refine ze ?_ _|refine zf ?_|refine zg ?_ _));exact BK775.out)) (zB (by repeat (with_reducible first|exact HB.out|apply za|apply zb|apply zc|refine zd ?_ GE775.out))));replace HO770:=zh (Kd.R_elder' (by (with_reducible repeat (first|apply zm|apply zn|apply zo));exact (zM (zE (p:=⟨gb775,2,none⟩) (zE (p:=⟨gb775,1,none⟩) (zE (p:=⟨gb775,0,none⟩) (zM HO770.out (fun k_ hk => (⟨hk,hk.2⟩ : _∧k_≠gb775))) (fun _ hk => hk.2) (.int .i64 t771)) (fun _ hk => hk.2) (.int .i64 t772)) (fun _ hk => hk.2) (.string t773)) (fun _ h_ => h_.1))) (Kd.R_base ho0) hb);replace BK775:=zh (zD (g:=gb775) (o:=.cells #[.int .i64 t771,.int .i64 t772,.string t773] 26 (0,0)) (by (with_reducible repeat (first|refine ze ?_ _|refine zf ?_|refine zg ?_ _));refine zL (cs:=#[.int .i64 t771,.int .i64 t772,.string (⟨#[]⟩ : ByteArray)]) ?_ 2 _ rfl;(with_reducible repeat (first|refine ze ?_ _|refine zf ?_|refine zg ?_ _));refine zL (cs:=#[.int .i64 t771,.int .i64 0,.string (⟨#[]⟩ : ByteArray)]) ?_ 1 _ rfl;(with_reducible repeat (first|refine ze ?_ _|refine zf ?_|refine zg ?_ _));refine zL (cs:=#[.int .i64 0,.int .i64 0,.string (⟨#[]⟩ : ByteArray)]) ?_ 0 _ rfl;(with_reducible repeat (first|refine ze ?_ _|refine zf ?_|refine zg ?_ _));exact BK775.out) hb);replace HB:=zh (zC (by repeat (with_reducible first|exact HB.out|apply za|apply zb|apply zc|refine zd ?_ GE775.out)) hb);(try clear hb);(try clear hb2);(try clear hk);(try clear hi);(try clear ho0);obtain ⟨Ao17,co17,eo17⟩:=yk HO778.out;subst eo17)|((with_reducible refine zJ (f:=44) rfl ?_);refine yj (some 24) rfl rfl Try.func44 (by kernel_rfl) rfl #[.slice Ao17 t776.length co17] rfl (by (try simp only [zt,zu,zv]);first|done|rfl|(simp only [zw,zx];rfl)|(simp only [yr,ys,zV,zW];rfl)) ?_;(with_reducible refine (impl_ListOf.calls k  _ _ t776 t779 t780 t781 t782 _ ?side1 ?side2 A8.out).mono ?_);(case side1 => repeat (first|exact (yh HO778.out).2.2|(with_reducible refine Kd.C_alloc ?_ _)|(with_reducible refine Kd.C_drewN ?_ _)|(with_reducible refine Kd.C_drew ?_)));(case side2 => exact (yh HO778.out).2.1);rintro e w18 ⟨rfl,hb⟩;refine ⟨_,rfl,?_⟩;replace HO770:=zh (yg (by (with_reducible repeat (first|apply zm|apply zn|apply zo));exact HO770.out) hb);replace HO778:=zh (yg (by (with_reducible repeat (first|apply zm|apply zn|apply zo));exact HO778.out) hb);replace BK775:=zh (zD (g:=gb775) (o:=.cells #[.int .i64 t771,.int .i64 t772,.string t773] 26 (0,0)) (by (with_reducible repeat (first|refine ze ?_ _|refine zf ?_|refine zg ?_ _));exact BK775.out) hb);replace HB:=zh (zC (by repeat (with_reducible first|exact HB.out|apply za|apply zb|apply zc|refine zd ?_ GE775.out)) hb);(try clear hb);(try clear hb2);(try clear hk);(try clear hi))|((with_reducible refine zK (N:=7) rfl ?_);refine zI ?hg (N:=7) ?hd (cs:=#[.int .i64 0,.int .i64 0,.string (⟨#[]⟩ : ByteArray)]) (t:=26) ?hr ?_;(case hd => rfl);(case hg => rfl);(case hr => first|(go_simp;done)|(go_simp;rfl));intro gb783 hg w19 hbox hb;replace HO770:=zh (yg (Kd.R_elderB (by (with_reducible repeat (first|apply zm|apply zn|apply zo));exact HO770.out) gb783 (Nat.le_of_eq hg.symm)) hb);replace HO778:=zh (yg (Kd.R_elderB (by (with_reducible repeat (first|apply zm|apply zn|apply zo));exact HO778.out) gb783 (Nat.le_of_eq hg.symm)) hb);have BK783:=zh (hbox);have GW783:=zh ((by rw [hg];exact (zB (by repeat (with_reducible first|exact HB.out|apply za|apply zb|apply zc|refine zd ?_ GE775.out))) : w.heap.size≤gb783));have GE783:=zh ((by rw [hg];exact (zB (by repeat (with_reducible first|exact HB.out|apply za|apply zb|apply zc|refine zd ?_ GE775.out))) : w.heap.size≤gb783));replace HB:=zh (zC (by repeat (with_reducible first|exact HB.out|apply za|apply zb|apply zc|refine zd ?_ GE775.out)) hb);have NB775_783:=zh ((by rw [hg];exact yc (yi (g:=gb775) (o:=.cells #[.int .i64 t771,.int .i64 t772,.string t773] 26 (0,0)) (by (with_reducible repeat (first|refine ze ?_ _|refine zf ?_|refine zg ?_ _));exact BK775.out)) : gb775≠gb783));have NB783_775:=zh ((by rw [hg];exact yd (yi (g:=gb775) (o:=.cells #[.int .i64 t771,.int .i64 t772,.string t773] 26 (0,0)) (by (with_reducible repeat (first|refine ze ?_ _|refine zf ?_|refine zg ?_ _));exact BK775.out)) : gb783≠gb775));replace BK775:=zh (zD (g:=gb775) (o:=.cells #[.int .i64 t771,.int .i64 t772,.string t773] 26 (0,0)) (by (with_reducible repeat (first|refine ze ?_ _|refine zf ?_|refine zg ?_ _));exact BK775.out) hb);clear hb hbox hg;have hnb20:=NB783_775.out;have hnc20:=NB775_783.out;have hcz21_0 : w19.cell? ⟨gb783,0,none⟩=some (.int .i64 0):=(zz BK783.out 0).trans rfl;have hcz21_1 : w19.cell? ⟨gb783,1,none⟩=some (.int .i64 0):=(zz BK783.out 1).trans rfl;have hcz21_2 : w19.cell? ⟨gb783,2,none⟩=some (.string (⟨#[]⟩ : ByteArray)):=(zz BK783.out 2).trans rfl;have hfz21_0:=zA BK783.out 0;have hfz21_1:=zA BK783.out 1;have hfz21_2:=zA BK783.out 2))
 (try simp only [Act.put,zi,zj,zk])
 go_cut [35] (fun v35 wc => ∃ (kq : Nat) (x35_8 : Bool),v35 = .bool x35_8∧Aside0 (laws_FnExactListOf.j0 kq l0 t776 x35_8=some r)∧Aside0 (kq≤k)∧Aside0 (Kd.R k26 26 wc w.heap.size (fun k_ => k_≠gb775∧k_≠gb783) (.slice Ao17 t776.length co17) t776)∧Aside0 (wc.heap[gb775]? = some (.cells #[.int .i64 t771,.int .i64 t772,.string t773] 26 (0,0)))∧Aside0 (wc.heap[gb783]? = some (.cells #[.int .i64 t779,.int .i64 t780,.string t781] 26 (0,0)))∧Aside0 (Below w.heap.size w wc))
 case first =>
  have H:=HC9.out;clear HC9;replace H:=zT.mp H;obtain ⟨t784,A220,H⟩:=H;replace H : (if t784=true then (laws_FnExactListOf.j0 k l0 t776 (t782 != t774)) else (laws_FnExactListOf.j0 k l0 t776 true))=some r:=H;have A22:=zh A220;clear A220
  by_cases c23 : t784=true
  ·
   subst c23
   have H1 : (laws_FnExactListOf.j0 k l0 t776 (t782 != t774))=some r:=by rw [if_pos rfl] at H;exact H
   clear H;have H:=H1;clear H1;have H':=zh H;clear H;have hnb24:=NB783_775.out;have hnc24:=NB775_783.out;have hcz25_0 : w19.cell? ⟨gb783,0,none⟩=some (.int .i64 0):=(zz BK783.out 0).trans rfl;have hcz25_1 : w19.cell? ⟨gb783,1,none⟩=some (.int .i64 0):=(zz BK783.out 1).trans rfl;have hcz25_2 : w19.cell? ⟨gb783,2,none⟩=some (.string (⟨#[]⟩ : ByteArray)):=(zz BK783.out 2).trans rfl;have hfz25_0:=zA BK783.out 0;have hfz25_1:=zA BK783.out 1;have hfz25_2:=zA BK783.out 2;have hcz26_0 : w19.cell? ⟨gb775,0,none⟩=some (.int .i64 t771):=(zz BK775.out 0).trans rfl;have hcz26_1 : w19.cell? ⟨gb775,1,none⟩=some (.int .i64 t772):=(zz BK775.out 1).trans rfl;have hcz26_2 : w19.cell? ⟨gb775,2,none⟩=some (.string t773):=(zz BK775.out 2).trans rfl;have hfz26_0:=zA BK775.out 0;have hfz26_1:=zA BK775.out 1;have hfz26_2:=zA BK775.out 2
   go_wp2_with (first|((with_reducible refine zJ (f:=21) rfl ?_);refine yj (some 29) rfl rfl Try.func21 (by kernel_rfl) rfl #[.agg #[.int .i64 t779,.int .i64 t780,.string t781],.agg #[.int .i64 t771,.int .i64 t772,.string t773]] rfl (by (try simp only [zt,zu,zv]);first|done|rfl|(simp only [zw,zx];rfl)|(simp only [yr,ys,zV,zW];rfl)) ?_;(with_reducible refine (laws_eqValue.calls  t779 t780 t781 t771 t772 t773 true _ A22.out).mono ?_);rintro e w27 ⟨rfl,hb⟩;refine ⟨_,rfl,?_⟩;replace HO770:=zh (yg (by (with_reducible repeat (first|apply zm|apply zn|apply zo));exact (zM (zE (p:=⟨gb783,2,none⟩) (zE (p:=⟨gb783,1,none⟩) (zE (p:=⟨gb783,0,none⟩) (zM HO770.out (fun k_ hk => (⟨hk,hk.2⟩ : _∧k_≠gb783))) (fun _ hk => hk.2) (.int .i64 t779)) (fun _ hk => hk.2) (.int .i64 t780)) (fun _ hk => hk.2) (.string t781)) (fun _ h_ => h_.1))) hb);replace HO778:=zh (yg (by (with_reducible repeat (first|apply zm|apply zn|apply zo));exact (zM (zE (p:=⟨gb783,2,none⟩) (zE (p:=⟨gb783,1,none⟩) (zE (p:=⟨gb783,0,none⟩) (zM HO778.out (fun k_ hk => (⟨hk,hk.2⟩ : _∧k_≠gb783))) (fun _ hk => hk.2) (.int .i64 t779)) (fun _ hk => hk.2) (.int .i64 t780)) (fun _ hk => hk.2) (.string t781)) (fun _ h_ => h_.1))) hb);replace BK775:=zh (zD (g:=gb775) (o:=.cells #[.int .i64 t771,.int .i64 t772,.string t773] 26 (0,0)) (by (with_reducible repeat (first|refine ze ?_ _|refine zf ?_|refine zg ?_ _));refine zS ?_ NB775_783.out _;(with_reducible repeat (first|refine ze ?_ _|refine zf ?_|refine zg ?_ _));refine zS ?_ NB775_783.out _;(with_reducible repeat (first|refine ze ?_ _|refine zf ?_|refine zg ?_ _));refine zS ?_ NB775_783.out _;(with_reducible repeat (first|refine ze ?_ _|refine zf ?_|refine zg ?_ _));exact BK775.out) hb);replace BK783:=zh (zD (g:=gb783) (o:=.cells #[.int .i64 t779,.int .i64 t780,.string t781] 26 (0,0)) (by (with_reducible repeat (first|refine ze ?_ _|refine zf ?_|refine zg ?_ _));refine zL (cs:=#[.int .i64 t779,.int .i64 t780,.string (⟨#[]⟩ : ByteArray)]) ?_ 2 _ rfl;(with_reducible repeat (first|refine ze ?_ _|refine zf ?_|refine zg ?_ _));refine zL (cs:=#[.int .i64 t779,.int .i64 0,.string (⟨#[]⟩ : ByteArray)]) ?_ 1 _ rfl;(with_reducible repeat (first|refine ze ?_ _|refine zf ?_|refine zg ?_ _));refine zL (cs:=#[.int .i64 0,.int .i64 0,.string (⟨#[]⟩ : ByteArray)]) ?_ 0 _ rfl;(with_reducible repeat (first|refine ze ?_ _|refine zf ?_|refine zg ?_ _));exact BK783.out) hb);replace HB:=zh (zC (by repeat (with_reducible first|exact HB.out|apply za|apply zb|apply zc|refine zd ?_ GE775.out|refine zd ?_ GE783.out)) hb);(try clear hb);(try clear hb2);(try clear hk);(try clear hi)))
   go_meet
   case rel => exact ⟨_,((t782 != t774)),(by first|rfl|(simp;done)|(simp [*];done)),H',⟨by first|omega|exact ye _⟩,⟨by (with_reducible repeat (first|apply zm|apply zn|apply zo));exact zM HO778.out (fun _ hk => ⟨hk.1.2,hk.2⟩)⟩,⟨by (with_reducible repeat (first|refine ze ?_ _|refine zf ?_|refine zg ?_ _));exact BK775.out⟩,⟨by (with_reducible repeat (first|refine ze ?_ _|refine zf ?_|refine zg ?_ _));exact BK783.out⟩,⟨by repeat (with_reducible first|exact HB.out|apply za|apply zb|apply zc|refine zd ?_ GE775.out|refine zd ?_ GE783.out)⟩⟩
  replace c23:=yb.mpr c23;subst c23;have H1 : (laws_FnExactListOf.j0 k l0 t776 true)=some r:=by rw [if_neg (show ¬ (false=true) by decide)] at H;exact H
  clear H;have H:=H1;clear H1;have H':=zh H;clear H;have hnb28:=NB783_775.out;have hnc28:=NB775_783.out;have hcz29_0 : w19.cell? ⟨gb783,0,none⟩=some (.int .i64 0):=(zz BK783.out 0).trans rfl;have hcz29_1 : w19.cell? ⟨gb783,1,none⟩=some (.int .i64 0):=(zz BK783.out 1).trans rfl;have hcz29_2 : w19.cell? ⟨gb783,2,none⟩=some (.string (⟨#[]⟩ : ByteArray)):=(zz BK783.out 2).trans rfl;have hfz29_0:=zA BK783.out 0;have hfz29_1:=zA BK783.out 1;have hfz29_2:=zA BK783.out 2;have hcz30_0 : w19.cell? ⟨gb775,0,none⟩=some (.int .i64 t771):=(zz BK775.out 0).trans rfl;have hcz30_1 : w19.cell? ⟨gb775,1,none⟩=some (.int .i64 t772):=(zz BK775.out 1).trans rfl;have hcz30_2 : w19.cell? ⟨gb775,2,none⟩=some (.string t773):=(zz BK775.out 2).trans rfl;have hfz30_0:=zA BK775.out 0;have hfz30_1:=zA BK775.out 1;have hfz30_2:=zA BK775.out 2
  go_wp2_with (first|((with_reducible refine zJ (f:=21) rfl ?_);refine yj (some 29) rfl rfl Try.func21 (by kernel_rfl) rfl #[.agg #[.int .i64 t779,.int .i64 t780,.string t781],.agg #[.int .i64 t771,.int .i64 t772,.string t773]] rfl (by (try simp only [zt,zu,zv]);first|done|rfl|(simp only [zw,zx];rfl)|(simp only [yr,ys,zV,zW];rfl)) ?_;(with_reducible refine (laws_eqValue.calls  t779 t780 t781 t771 t772 t773 false _ A22.out).mono ?_);rintro e w31 ⟨rfl,hb⟩;refine ⟨_,rfl,?_⟩;replace HO770:=zh (yg (by (with_reducible repeat (first|apply zm|apply zn|apply zo));exact (zM (zE (p:=⟨gb783,2,none⟩) (zE (p:=⟨gb783,1,none⟩) (zE (p:=⟨gb783,0,none⟩) (zM HO770.out (fun k_ hk => (⟨hk,hk.2⟩ : _∧k_≠gb783))) (fun _ hk => hk.2) (.int .i64 t779)) (fun _ hk => hk.2) (.int .i64 t780)) (fun _ hk => hk.2) (.string t781)) (fun _ h_ => h_.1))) hb);replace HO778:=zh (yg (by (with_reducible repeat (first|apply zm|apply zn|apply zo));exact (zM (zE (p:=⟨gb783,2,none⟩) (zE (p:=⟨gb783,1,none⟩) (zE (p:=⟨gb783,0,none⟩) (zM HO778.out (fun k_ hk => (⟨hk,hk.2⟩ : _∧k_≠gb783))) (fun _ hk => hk.2) (.int .i64 t779)) (fun _ hk => hk.2) (.int .i64 t780)) (fun _ hk => hk.2) (.string t781)) (fun _ h_ => h_.1))) hb);replace BK775:=zh (zD (g:=gb775) (o:=.cells #[.int .i64 t771,.int .i64 t772,.string t773] 26 (0,0)) (by (with_reducible repeat (first|refine ze ?_ _|refine zf ?_|refine zg ?_ _));refine zS ?_ NB775_783.out _;(with_reducible repeat (first|refine ze ?_ _|refine zf ?_|refine zg ?_ _));refine zS ?_ NB775_783.out _;(with_reducible repeat (first|refine ze ?_ _|refine zf ?_|refine zg ?_ _));refine zS ?_ NB775_783.out _;(with_reducible repeat (first|refine ze ?_ _|refine zf ?_|refine zg ?_ _));exact BK775.out) hb);replace BK783:=zh (zD (g:=gb783) (o:=.cells #[.int .i64 t779,.int .i64 t780,.string t781] 26 (0,0)) (by (with_reducible repeat (first|refine ze ?_ _|refine zf ?_|refine zg ?_ _));refine zL (cs:=#[.int .i64 t779,.int .i64 t780,.string (⟨#[]⟩ : ByteArray)]) ?_ 2 _ rfl;(with_reducible repeat (first|refine ze ?_ _|refine zf ?_|refine zg ?_ _));refine zL (cs:=#[.int .i64 t779,.int .i64 0,.string (⟨#[]⟩ : ByteArray)]) ?_ 1 _ rfl;(with_reducible repeat (first|refine ze ?_ _|refine zf ?_|refine zg ?_ _));refine zL (cs:=#[.int .i64 0,.int .i64 0,.string (⟨#[]⟩ : ByteArray)]) ?_ 0 _ rfl;(with_reducible repeat (first|refine ze ?_ _|refine zf ?_|refine zg ?_ _));exact BK783.out) hb);replace HB:=zh (zC (by repeat (with_reducible first|exact HB.out|apply za|apply zb|apply zc|refine zd ?_ GE775.out|refine zd ?_ GE783.out)) hb);(try clear hb);(try clear hb2);(try clear hk);(try clear hi)))
  go_meet
  case rel => exact ⟨_,(true),(by first|rfl|(simp;done)|(simp [*];done)),H',⟨by first|omega|exact ye _⟩,⟨by (with_reducible repeat (first|apply zm|apply zn|apply zo));exact zM HO778.out (fun _ hk => ⟨hk.1.2,hk.2⟩)⟩,⟨by (with_reducible repeat (first|refine ze ?_ _|refine zf ?_|refine zg ?_ _));exact BK775.out⟩,⟨by (with_reducible repeat (first|refine ze ?_ _|refine zf ?_|refine zg ?_ _));exact BK783.out⟩,⟨by repeat (with_reducible first|exact HB.out|apply za|apply zb|apply zc|refine zd ?_ GE775.out|refine zd ?_ GE783.out)⟩⟩
 case rest =>
  clear HC9
  try clear c1
  try clear c2
  try clear p2
  try clear c3
  try clear c3b0
  try clear c4
  try clear c10
  try clear c20
  try clear c21
  try clear c23
  try clear c24
  try clear c28
  try clear hcz15_0
  try clear hcz15_1
  try clear hcz15_2
  try clear hcz21_0
  try clear hcz21_1
  try clear hcz21_2
  try clear hcz25_0
  try clear hcz25_1
  try clear hcz25_2
  try clear hcz26_0
  try clear hcz26_1
  try clear hcz26_2
  try clear hcz29_0
  try clear hcz29_1
  try clear hcz29_2
  try clear hcz30_0
  try clear hcz30_1
  try clear hcz30_2
  try clear hfz15_0
  try clear hfz15_1
  try clear hfz15_2
  try clear hfz21_0
  try clear hfz21_1
  try clear hfz21_2
  try clear hfz25_0
  try clear hfz25_1
  try clear hfz25_2
  try clear hfz26_0
  try clear hfz26_1
  try clear hfz26_2
  try clear hfz29_0
  try clear hfz29_1
  try clear hfz29_2
  try clear hfz30_0
  try clear hfz30_1
  try clear hfz30_2
  obtain ⟨kq,x35_8,rfl,HA,HJ8,HO_6,BK775,BK783,HB⟩:=hcut
  cases kq with
  | zero => exact absurd HA.out (by simp [laws_FnExactListOf.j0])
  | succ kj8 =>
   have H:=HA.out;clear HA;simp only [laws_FnExactListOf.j0] at H
   by_cases c32 : x35_8=true
   ·
    subst c32
    have H1 : (some false)=some r:=by rw [if_pos rfl] at H;exact H
    clear H;have H:=H1;clear H1;obtain rfl:=zU H
    go_wp2
    go_ret
    exact ⟨by first|rfl|(simp [yt,yu] <;> rfl)|(simp [*,yt,yu] <;> rfl),by repeat (with_reducible first|exact HB.out|apply za|apply zb|apply zc|refine zd ?_ GE775.out|refine zd ?_ GE783.out)⟩
   replace c32:=yb.mpr c32;subst c32;have H1 : ((laws_toValueS.f kj8 l0).bind fun t785 => ((laws_eqValueS.f kj8 t776 t785).bind fun t788 => (if t788=true then (some true) else (some false))))=some r:=by rw [if_neg (show ¬ (false=true) by decide)] at H;exact H
   clear H;have H:=H1;clear H1;replace H:=zT.mp H;obtain ⟨t785,A330,H⟩:=H;replace H : ((laws_eqValueS.f kj8 t776 t785).bind fun t788 => (if t788=true then (some true) else (some false)))=some r:=H;have A33:=zh A330;clear A330;replace H:=zT.mp H;obtain ⟨t788,A340,H⟩:=H;replace H : (if t788=true then (some true) else (some false))=some r:=H;have A34:=zh A340;clear A340
   by_cases c35 : t788=true
   ·
    subst c35
    have H1 : (some true)=some r:=by rw [if_pos rfl] at H;exact H
    clear H;have H:=H1;clear H1;obtain rfl:=zU H
    go_wp2_with (first|((with_reducible refine zJ (f:=43) rfl ?_);refine yj (some 38) rfl rfl Try.func43 (by kernel_rfl) rfl #[.slice A0 l0.length c0] rfl (by (try simp only [zt,zu,zv]);first|done|rfl|(simp only [zw,zx];rfl)|(simp only [yr,ys,zV,zW];rfl)) ?_;(with_reducible refine (laws_toValueS.calls kj8  _ _ l0 t785 _ ?side1 ?side2 A33.out).mono ?_);(case side1 => repeat (first|exact (Kd.C_below HR0.out HB.out)|(with_reducible refine Kd.C_alloc ?_ _)|(with_reducible refine Kd.C_drewN ?_ _)|(with_reducible refine Kd.C_drew ?_)));(case side2 => exact HC0.out);rintro e w36 ⟨v786,rfl,ho0,hb⟩;refine ⟨_,rfl,?_⟩;have HO787:=zh (yy (Kd.R_newB (Kd.R_newB (Kd.R_new' ho0 (Kd.R_lt (by (with_reducible repeat (first|apply zm|apply zn|apply zo));exact HO_6.out))) (g:=gb775) (o:=.cells #[.int .i64 t771,.int .i64 t772,.string t773] 26 (0,0)) (by (with_reducible repeat (first|refine ze ?_ _|refine zf ?_|refine zg ?_ _));exact BK775.out)) (g:=gb783) (o:=.cells #[.int .i64 t779,.int .i64 t780,.string t781] 26 (0,0)) (by (with_reducible repeat (first|refine ze ?_ _|refine zf ?_|refine zg ?_ _));exact BK783.out)) (zB (by repeat (with_reducible first|exact HB.out|apply za|apply zb|apply zc|refine zd ?_ GE775.out|refine zd ?_ GE783.out))));replace HO_6:=zh (Kd.R_elder' (by (with_reducible repeat (first|apply zm|apply zn|apply zo));exact HO_6.out) (Kd.R_base ho0) hb);replace BK775:=zh (zD (g:=gb775) (o:=.cells #[.int .i64 t771,.int .i64 t772,.string t773] 26 (0,0)) (by (with_reducible repeat (first|refine ze ?_ _|refine zf ?_|refine zg ?_ _));exact BK775.out) hb);replace BK783:=zh (zD (g:=gb783) (o:=.cells #[.int .i64 t779,.int .i64 t780,.string t781] 26 (0,0)) (by (with_reducible repeat (first|refine ze ?_ _|refine zf ?_|refine zg ?_ _));exact BK783.out) hb);replace HB:=zh (zC (by repeat (with_reducible first|exact HB.out|apply za|apply zb|apply zc|refine zd ?_ GE775.out|refine zd ?_ GE783.out)) hb);(try clear hb);(try clear hb2);(try clear hk);(try clear hi);(try clear ho0);obtain ⟨Ao37,co37,eo37⟩:=yk HO787.out;subst eo37)|((with_reducible refine zJ (f:=31) rfl ?_);refine yj (some 39) rfl rfl Try.func31 (by kernel_rfl) rfl #[.slice Ao17 t776.length co17,.slice Ao37 t785.length co37] rfl (by (try simp only [zt,zu,zv]);first|done|rfl|(simp only [zw,zx];rfl)|(simp only [yr,ys,zV,zW];rfl)) ?_;(with_reducible refine (laws_eqValueS.calls kj8  _ _ t776 _ _ t785 true _ ?side1 ?side2 ?side3 ?side4 A34.out).mono ?_);(case side1 => repeat (first|exact (yh HO_6.out).2.2|(with_reducible refine Kd.C_alloc ?_ _)|(with_reducible refine Kd.C_drewN ?_ _)|(with_reducible refine Kd.C_drew ?_)));(case side2 => exact (yh HO_6.out).2.1);(case side3 => repeat (first|exact (yh HO787.out).2.2|(with_reducible refine Kd.C_alloc ?_ _)|(with_reducible refine Kd.C_drewN ?_ _)|(with_reducible refine Kd.C_drew ?_)));(case side4 => exact (yh HO787.out).2.1);rintro e w38 ⟨rfl,hb⟩;refine ⟨_,rfl,?_⟩;replace HO_6:=zh (yg (by (with_reducible repeat (first|apply zm|apply zn|apply zo));exact HO_6.out) hb);replace HO787:=zh (yg (by (with_reducible repeat (first|apply zm|apply zn|apply zo));exact HO787.out) hb);replace BK775:=zh (zD (g:=gb775) (o:=.cells #[.int .i64 t771,.int .i64 t772,.string t773] 26 (0,0)) (by (with_reducible repeat (first|refine ze ?_ _|refine zf ?_|refine zg ?_ _));exact BK775.out) hb);replace BK783:=zh (zD (g:=gb783) (o:=.cells #[.int .i64 t779,.int .i64 t780,.string t781] 26 (0,0)) (by (with_reducible repeat (first|refine ze ?_ _|refine zf ?_|refine zg ?_ _));exact BK783.out) hb);replace HB:=zh (zC (by repeat (with_reducible first|exact HB.out|apply za|apply zb|apply zc|refine zd ?_ GE775.out|refine zd ?_ GE783.out)) hb);(try clear hb);(try clear hb2);(try clear hk);(try clear hi)))
    go_ret
    exact ⟨by first|rfl|(simp [yt,yu] <;> rfl)|(simp [*,yt,yu] <;> rfl),by repeat (with_reducible first|exact HB.out|apply za|apply zb|apply zc|refine zd ?_ GE775.out|refine zd ?_ GE783.out)⟩
   replace c35:=yb.mpr c35;subst c35;have H1 : (some false)=some r:=by rw [if_neg (show ¬ (false=true) by decide)] at H;exact H
   clear H;have H:=H1;clear H1;obtain rfl:=zU H
   go_wp2_with (first|((with_reducible refine zJ (f:=43) rfl ?_);refine yj (some 38) rfl rfl Try.func43 (by kernel_rfl) rfl #[.slice A0 l0.length c0] rfl (by (try simp only [zt,zu,zv]);first|done|rfl|(simp only [zw,zx];rfl)|(simp only [yr,ys,zV,zW];rfl)) ?_;(with_reducible refine (laws_toValueS.calls kj8  _ _ l0 t785 _ ?side1 ?side2 A33.out).mono ?_);(case side1 => repeat (first|exact (Kd.C_below HR0.out HB.out)|(with_reducible refine Kd.C_alloc ?_ _)|(with_reducible refine Kd.C_drewN ?_ _)|(with_reducible refine Kd.C_drew ?_)));(case side2 => exact HC0.out);rintro e w39 ⟨v786,rfl,ho0,hb⟩;refine ⟨_,rfl,?_⟩;have HO787:=zh (yy (Kd.R_newB (Kd.R_newB (Kd.R_new' ho0 (Kd.R_lt (by (with_reducible repeat (first|apply zm|apply zn|apply zo));exact HO_6.out))) (g:=gb775) (o:=.cells #[.int .i64 t771,.int .i64 t772,.string t773] 26 (0,0)) (by (with_reducible repeat (first|refine ze ?_ _|refine zf ?_|refine zg ?_ _));exact BK775.out)) (g:=gb783) (o:=.cells #[.int .i64 t779,.int .i64 t780,.string t781] 26 (0,0)) (by (with_reducible repeat (first|refine ze ?_ _|refine zf ?_|refine zg ?_ _));exact BK783.out)) (zB (by repeat (with_reducible first|exact HB.out|apply za|apply zb|apply zc|refine zd ?_ GE775.out|refine zd ?_ GE783.out))));replace HO_6:=zh (Kd.R_elder' (by (with_reducible repeat (first|apply zm|apply zn|apply zo));exact HO_6.out) (Kd.R_base ho0) hb);replace BK775:=zh (zD (g:=gb775) (o:=.cells #[.int .i64 t771,.int .i64 t772,.string t773] 26 (0,0)) (by (with_reducible repeat (first|refine ze ?_ _|refine zf ?_|refine zg ?_ _));exact BK775.out) hb);replace BK783:=zh (zD (g:=gb783) (o:=.cells #[.int .i64 t779,.int .i64 t780,.string t781] 26 (0,0)) (by (with_reducible repeat (first|refine ze ?_ _|refine zf ?_|refine zg ?_ _));exact BK783.out) hb);replace HB:=zh (zC (by repeat (with_reducible first|exact HB.out|apply za|apply zb|apply zc|refine zd ?_ GE775.out|refine zd ?_ GE783.out)) hb);(try clear hb);(try clear hb2);(try clear hk);(try clear hi);(try clear ho0);obtain ⟨Ao40,co40,eo40⟩:=yk HO787.out;subst eo40)|((with_reducible refine zJ (f:=31) rfl ?_);refine yj (some 39) rfl rfl Try.func31 (by kernel_rfl) rfl #[.slice Ao17 t776.length co17,.slice Ao40 t785.length co40] rfl (by (try simp only [zt,zu,zv]);first|done|rfl|(simp only [zw,zx];rfl)|(simp only [yr,ys,zV,zW];rfl)) ?_;(with_reducible refine (laws_eqValueS.calls kj8  _ _ t776 _ _ t785 false _ ?side1 ?side2 ?side3 ?side4 A34.out).mono ?_);(case side1 => repeat (first|exact (yh HO_6.out).2.2|(with_reducible refine Kd.C_alloc ?_ _)|(with_reducible refine Kd.C_drewN ?_ _)|(with_reducible refine Kd.C_drew ?_)));(case side2 => exact (yh HO_6.out).2.1);(case side3 => repeat (first|exact (yh HO787.out).2.2|(with_reducible refine Kd.C_alloc ?_ _)|(with_reducible refine Kd.C_drewN ?_ _)|(with_reducible refine Kd.C_drew ?_)));(case side4 => exact (yh HO787.out).2.1);rintro e w41 ⟨rfl,hb⟩;refine ⟨_,rfl,?_⟩;replace HO_6:=zh (yg (by (with_reducible repeat (first|apply zm|apply zn|apply zo));exact HO_6.out) hb);replace HO787:=zh (yg (by (with_reducible repeat (first|apply zm|apply zn|apply zo));exact HO787.out) hb);replace BK775:=zh (zD (g:=gb775) (o:=.cells #[.int .i64 t771,.int .i64 t772,.string t773] 26 (0,0)) (by (with_reducible repeat (first|refine ze ?_ _|refine zf ?_|refine zg ?_ _));exact BK775.out) hb);replace BK783:=zh (zD (g:=gb783) (o:=.cells #[.int .i64 t779,.int .i64 t780,.string t781] 26 (0,0)) (by (with_reducible repeat (first|refine ze ?_ _|refine zf ?_|refine zg ?_ _));exact BK783.out) hb);replace HB:=zh (zC (by repeat (with_reducible first|exact HB.out|apply za|apply zb|apply zc|refine zd ?_ GE775.out|refine zd ?_ GE783.out)) hb);(try clear hb);(try clear hb2);(try clear hk);(try clear hi)))
   go_ret
   exact ⟨by first|rfl|(simp [yt,yu] <;> rfl)|(simp [*,yt,yu] <;> rfl),by repeat (with_reducible first|exact HB.out|apply za|apply zb|apply zc|refine zd ?_ GE775.out|refine zd ?_ GE783.out)⟩

end Go.Proofs.Ytpmeglcmhiihoaa.Q
end
section
namespace Go.Proofs.YtpmeglcmhiihoaaW.PrintOpen
open Go.RowKit Go.ChangeShapes Go.WideShapes Go.ChangeAt Go.Proofs.YtpmeglcmhiihoaaW.PrintWords
def Opens {α : Type} (P : Program) (d : Kd α) (t : TypeId) (good : α→Prop) : Prop :=
 ∀ (H : Type) (enc : TypeId×Value→H) (w : World) (base : Nat) (spare : Nat→Bool) (held : Bool) (fuel : Nat) (cs : List Value) (x : DataW H×List MemPlace),
  DataW.trod enc P w base spare held fuel t cs=some x → ∃ a,d.K w a cs∧good a
variable {P : Program}
theorem opens_int {t : TypeId} {k : IntKind} (ht : P.underlying t=some (.int k)) : Opens P (Kd.int k) t (fun n => (Lit.int k n).wf=true):=by
 intro H enc w base spare held fuel cs x h;obtain ⟨n,hcs,_,hw⟩:=DataW.trod_int ht h;exact ⟨n,hcs,hw⟩
theorem opens_string {t : TypeId} (ht : P.underlying t=some .string) : Opens P Kd.string t (fun s => s.size≤9223372036854775807):=by
 intro H enc w base spare held fuel cs x h;obtain ⟨s,hcs,_,hs⟩:=DataW.trod_string ht h;exact ⟨s,hcs,by unfold maxLen at hs;exact hs⟩
theorem opens_slice {α : Type} {t e : TypeId} {d : Kd α} {g : α→Prop} (ht : P.underlying t=some (.slice e)) (hc : P.cellsOf e=d.sz) (he : Opens P d e g) :
  Opens P (Kd.slice e d) t (fun l => l.length≤9223372036854775807 ∧ ∀ x ∈ l,g x):=by
 intro H enc w base spare held fuel cs x h;rcases Deep.open_slice ht h with ⟨rfl,_⟩|⟨a,len,cap,m,n,D,Pl,rfl,_,hl,hm,hmm,_,hx⟩
 ·
  exact ⟨[],⟨none,0,rfl,Nat.le_refl _,rfl,by simp,fun h0 => absurd h0 (by simp)⟩,by simp,by simp⟩
 have hlm : len≤m:=by rw [hmm];split <;> omega
 have hall : ∀ i : Fin len,∃ v : α×List Value,w.cells? base (a.add (i.1 * P.cellsOf e)) (P.cellsOf e)=some v.2∧d.K w v.1 v.2∧g v.1:=fun i => by
  obtain ⟨cs',h1,h2⟩:=hx i.1 (by have:=i.2;omega);obtain ⟨a',hk,hg⟩:=he H enc w base spare held n cs' _ h2;exact ⟨(a',cs'),h1,hk,hg⟩
 obtain ⟨V,hV⟩:=Classical.axiomOfChoice hall;have hmax : len≤9223372036854775807:=by unfold maxLen at hm;omega
 have hlen : (List.ofFn fun i => (V i).1).length=len:=List.length_ofFn;refine ⟨List.ofFn fun i => (V i).1,⟨some a,cap,by rw [hlen],by rw [hlen];exact hl,rfl,by rw [hlen];exact hmax,fun _ => ⟨a,rfl,?_⟩⟩,by rw [hlen];exact hmax,?_⟩
 ·
  intro j p hj
  have hjl : j<len:=by
   have:=(List.getElem?_eq_some_iff.1 hj).1
   omega
  rw [List.getElem?_ofFn,dif_pos hjl] at hj;obtain rfl:=Option.some.inj hj;obtain ⟨h1,h2,_⟩:=hV ⟨j,hjl⟩;obtain ⟨_,hlen2,hcell⟩:=World.cells?_some h1;refine ⟨(V ⟨j,hjl⟩).2,by rw [← hc];exact hlen2,h2,fun q u hu => ?_⟩
  have hq : q<P.cellsOf e:=by
   have:=(List.getElem?_eq_some_iff.1 hu).1
   omega
  have h3:=hcell q hq;rw [Deep.add_add,hu,hc] at h3;exact h3
 intro x hx;obtain ⟨i,rfl⟩:=List.mem_ofFn.1 hx;exact (hV i).2.2
def OpensF {α : Type} (P : Program) (d : Kd α) (fs : List Field) (off : Nat) (good : α→Prop) : Prop :=
 ∀ (H : Type) (enc : TypeId×Value→H) (w : World) (base : Nat) (spare : Nat→Bool) (held : Bool) (fuel : Nat) (cs : List Value),off + d.sz≤cs.length →
  (∀ f ∈ fs,∃ x,DataW.trod enc P w base spare held fuel f.type ((cs.drop f.offset).take (P.cellsOf f.type))=some x) → ∃ a,d.K w a ((cs.drop off).take d.sz)∧good a
theorem opensF_one {α : Type} {d : Kd α} {f : Field} {off : Nat} {g : α→Prop} (ho : f.offset=off) (hc : P.cellsOf f.type=d.sz) (h : Opens P d f.type g) : OpensF P d [f] off g:=by
 intro H enc w base spare held fuel cs _ hf;obtain ⟨x,hx⟩:=hf f (by simp);obtain ⟨a,hk,hg⟩:=h H enc w base spare held fuel _ x hx;rw [ho,hc] at hk;exact ⟨a,hk,hg⟩
theorem opensF_cons {α β : Type} {d : Kd α} {d' : Kd β} {f : Field} {fs : List Field} {off : Nat} {g : α→Prop} {g' : β→Prop} (ho : f.offset=off) (hc : P.cellsOf f.type=d.sz) (h : Opens P d f.type g) (h' : OpensF P d' fs (off + d.sz) g') :
  OpensF P (Kd.pair d d') (f :: fs) off (fun x => g x.1∧g' x.2):=by
 intro H enc w base spare held fuel cs hl hf;obtain ⟨x,hx⟩:=hf f (by simp);obtain ⟨a,hk,hg⟩:=h H enc w base spare held fuel _ x hx;have hl2 : off + (d.sz + d'.sz)≤cs.length:=hl;obtain ⟨b,hk',hg'⟩:=h' H enc w base spare held fuel cs (by omega) (fun f' hf' => hf f' (by simp [hf']));rw [ho,hc] at hk;refine ⟨(a,b),⟨_,_,?_,hk,hk'⟩,hg,hg'⟩;show (cs.drop off).take (d.sz + d'.sz)=_;rw [List.take_add,List.drop_drop]
theorem opens_struct {α β : Type} {t : TypeId} {fs : Array Field} {d : Kd α} {g : α→Prop} {f : β→α} (f' : α→β) (hf : ∀ a,f (f' a)=a) (ht : P.underlying t=some (.struct fs)) (hc : P.cellsOf t=d.sz) (h : OpensF P d fs.toList 0 g) :
  Opens P (Kd.iso d f) t (fun b => g (f b)):=by
 intro H enc w base spare held fuel cs x hx;obtain ⟨xs,n,_,_,hl,hlen,hxs⟩:=DataW.trod_struct ht hx
 obtain ⟨a,hk,hg⟩:=h H enc w base spare held n cs (by omega) (fun y hy => by
  obtain ⟨i,hi⟩:=List.mem_iff_getElem?.1 hy;have:=hxs i y (by simpa using hi)
  have hlt : i<xs.length:=by
   have:=(List.getElem?_eq_some_iff.1 hi).1;rw [hlen]
   simpa using this
  rw [List.getElem?_eq_getElem hlt] at this
  exact ⟨_,this⟩)
 rw [List.drop_zero,show d.sz=cs.length by omega,List.take_length] at hk;exact ⟨f' a,by show d.K w (f (f' a)) cs;rw [hf];exact hk,by show g (f (f' a));rw [hf];exact hg⟩
theorem arg_slice {α : Type} {d : Kd α} {t e : TypeId} {g : List α→Prop} {H : Type} {enc : TypeId×Value→H} {w : World} {base b0 : Nat} {spare : Nat→Bool} {held : Bool} {r : Reach} {v : Value} {dd : DataW H} {p : List MemPlace}
  (ht : P.underlying t=some (.slice e)) (h : Opens P (Kd.slice e d) t g) (hv : Value.okWide P w r b0 t v) (hd : DataW.Trod enc P w base spare held t v dd p) :
  ∃ (l : List α) (A : Option Addr) (c : Nat),v = .slice A l.length c∧l.length≤c∧Kd.C d w A l.length l∧g l:=by
 obtain ⟨a,len,cap,rfl⟩:=okWide_slice ht hv;obtain ⟨fuel,hf⟩:=hd;obtain ⟨l,⟨A,c,he,hl,hc⟩,hg⟩:=h H enc w base spare held fuel _ _ hf;simp [Value.cells] at he;obtain ⟨rfl,rfl,rfl⟩:=he;exact ⟨l,a,cap,rfl,hl,hc,hg⟩
end Go.Proofs.YtpmeglcmhiihoaaW.PrintOpen
end
section
namespace Go.Proofs.Ytpmeglcmhiihoaa.Q
open Go.RowKit Go.Proofs.YtpmeglcmhiihoaaW.PrintWords Go.Proofs.YtpmeglcmhiihoaaW.PrintLast Go.Proofs.YtpmeglcmhiihoaaW.PrintMore Go.Proofs.YtpmeglcmhiihoaaW.PrintOpen
def good23 (x_ : S23) : Prop:=((Lit.int .i64 x_.f0).wf=true)∧(((Lit.int .i64 x_.f1).wf=true)∧((x_.f2.size≤9223372036854775807)))
theorem opens23 : Opens Try.prog k23 23 good23 :=
 opens_struct (f:=(fun x : S23 => (x.f0,x.f1,x.f2))) (fun ⟨x0,x1,x2⟩ => ⟨x0,x1,x2⟩) (fun _ => rfl) Try.underlying23 (by kernel_rfl) (opensF_cons rfl (by kernel_rfl) (opens_int Try.underlying3) (opensF_cons rfl (by kernel_rfl) (opens_int Try.underlying3) (opensF_one rfl (by kernel_rfl) (opens_string Try.underlying9))))
end Go.Proofs.Ytpmeglcmhiihoaa.Q
end
section
namespace Go.Proofs.Ytpmeglcmhiihoaa.Q
def laws_FnExactListOf.Pure : Prop:=∀ (x0 : List (S23)),((x0.length≤9223372036854775807 ∧ ∀ y0_ ∈ x0,good23 y0_)) → ∃ k,laws_FnExactListOf.f k x0=some true
end Go.Proofs.Ytpmeglcmhiihoaa.Q
end
section
namespace Go.Proofs.YtpmeglcmhiihoaaW.Pl
open Go Go.RowKit Go.Proofs.YtpmeglcmhiihoaaW.PrintWords Go.Proofs.YtpmeglcmhiihoaaW.PrintMore
theorem w64 {i : Int} (h0 : -9223372036854775808≤i) (h1 : i≤9223372036854775807) : wrap64 i=i:=by unfold wrap64;omega
theorem fuel {k d : Nat} (h : d<k) : ∃ m,k=m + 1∧d≤m:=⟨k - 1,by omega,by omega⟩
theorem rd_at (xs : List Int) (i : Nat) (h : i<xs.length) : rd xs (i : Int)=xs[i]:=by
 unfold rd;simp [List.getD,h]
theorem getD_at {α : Type} (d : α) (xs : List α) (i : Nat) (h : i<xs.length) : xs.getD (i : Int).toNat d=xs[i]:=by
 simp [List.getD,h]
theorem drop_at {α : Type} (xs : List α) (i : Nat) (h : i<xs.length) : xs.drop i=xs[i] :: xs.drop (i + 1):=List.drop_eq_getElem_cons h
theorem ba_toList (a : ByteArray) : a.toList=a.data.toList:=ByteArray.toList_eq a
theorem ba_ext {a b : ByteArray} (h : a.toList=b.toList) : a=b:=by
 rw [ba_toList,ba_toList] at h
 cases a;cases b
 simp at h;rw [h]
theorem map_loop {α β : Type} (g : Nat→List β→Int→Option (List β)) (xs : List α) (c : α→β)
  (hstep : ∀ (k : Nat) (ys : List β) (i : Nat) (h : i<xs.length),ys.length=xs.length→g (k + 1) ys (i : Int)=g k (ys.set i (c xs[i])) ((i + 1 : Nat) : Int))
  (hend : ∀ (k : Nat) (ys : List β),ys.length=xs.length→g (k + 1) ys (xs.length : Int)=some ys) :
  ∀ (d k i : Nat) (ys : List β),i + d=xs.length→d<k→ys.length=xs.length→g k ys (i : Int)=some (ys.take i ++ (xs.drop i).map c):=by
 intro d
 induction d with
 | zero =>
  intro k i ys hi hk hy;obtain ⟨k,rfl,_⟩:=fuel hk;obtain rfl : i=xs.length:=by omega
  rw [hend k ys hy,List.drop_length,List.take_of_length_le (by omega)];simp
 | succ d ih =>
  intro k i ys hi hk hy;obtain ⟨k,rfl,_⟩:=fuel hk;have hlt : i<xs.length:=by omega
  have ht : (ys.set i (c xs[i])).take (i + 1)=ys.take i ++ [c xs[i]]:=by
   rw [List.take_succ_eq_append_getElem (by simp;omega),List.getElem_set_self,List.take_set_of_le (Nat.le_refl _)]
  rw [hstep k ys i hlt hy,ih k (i + 1) _ (by omega) (by omega) (by simp [hy]),ht,drop_at xs i hlt,List.map_cons,List.append_assoc]
  rfl
theorem map_loop0 {α β : Type} (g : Nat→List β→Int→Option (List β)) (xs : List α) (c : α→β)
  (hstep : ∀ (k : Nat) (ys : List β) (i : Nat) (h : i<xs.length),ys.length=xs.length→g (k + 1) ys (i : Int)=g k (ys.set i (c xs[i])) ((i + 1 : Nat) : Int))
  (hend : ∀ (k : Nat) (ys : List β),ys.length=xs.length→g (k + 1) ys (xs.length : Int)=some ys) {k : Nat} (hk : xs.length<k) (z : β) : g k (List.replicate xs.length z) 0=some (xs.map c):=by
 have:=map_loop g xs c hstep hend xs.length k 0 (List.replicate xs.length z) (by omega) hk (by simp)
 simpa using this
def all2 {α β : Type} (e : α→β→Bool) : List α→List β→Bool
 | [],_ => true
 | _ :: _,[] => true
 | x :: xs,y :: ys => e x y && all2 e xs ys
theorem all2_loop {α β : Type} (g : Nat→Int→Option Bool) (xs : List α) (ys : List β) (hl : xs.length=ys.length) (e : α→β→Bool)
  (hstep : ∀ (k i : Nat) (h : i<xs.length),g (k + 1) (i : Int)=if e xs[i] (ys[i]'(hl ▸ h))=true then g k ((i + 1 : Nat) : Int) else some false)
  (hend : ∀ k,g (k + 1) (xs.length : Int)=some true) : ∀ (d k i : Nat),i + d=xs.length→d<k→g k (i : Int)=some (all2 e (xs.drop i) (ys.drop i)):=by
 intro d
 induction d with
 | zero =>
  intro k i hi hk;obtain ⟨k,rfl,_⟩:=fuel hk;obtain rfl : i=xs.length:=by omega
  rw [hend,List.drop_length];rfl
 | succ d ih =>
  intro k i hi hk;obtain ⟨k,rfl,_⟩:=fuel hk;have hlt : i<xs.length:=by omega
  rw [hstep k i hlt,drop_at xs i hlt,drop_at ys i (by omega)]
  by_cases h : e xs[i] (ys[i]'(hl ▸ hlt))=true
  ·
   rw [if_pos h,ih k (i + 1) (by omega) (by omega)]
   simp [all2,h]
  rw [if_neg h];simp [all2,h]
theorem all2_refl {α : Type} (e : α→α→Bool) (h : ∀ x,e x x=true) : ∀ xs : List α,all2 e xs xs=true
 | [] => rfl
 | x :: xs => by simp [all2,h x,all2_refl e h xs]
def first {α : Type} (p : α→Bool) : List α→Nat→Int
 | [],_ => -1
 | x :: xs,i => if p x=true then i else first p xs (i + 1)
theorem first_any {α : Type} (p : α→Bool) : ∀ (xs : List α) (i : Nat),decide (first p xs i ≥ 0)=xs.any p
 | [],i => rfl
 | x :: xs,i => by
  by_cases h : p x=true
  ·
   simp [first,h]
  simp only [first,if_neg h,List.any_cons,first_any p xs (i + 1)];simp [h]
theorem first_loop {α : Type} (g : Nat→Int→Option Int) (xs : List α) (p : α→Bool)
  (hstep : ∀ (k i : Nat) (h : i<xs.length),g (k + 1) (i : Int)=if p xs[i]=true then some (i : Int) else g k ((i + 1 : Nat) : Int))
  (hend : ∀ k,g (k + 1) (xs.length : Int)=some (-1)) : ∀ (d k i : Nat),i + d=xs.length→d<k→g k (i : Int)=some (first p (xs.drop i) i):=by
 intro d
 induction d with
 | zero =>
  intro k i hi hk;obtain ⟨k,rfl,_⟩:=fuel hk;obtain rfl : i=xs.length:=by omega
  rw [hend,List.drop_length];rfl
 | succ d ih =>
  intro k i hi hk;obtain ⟨k,rfl,_⟩:=fuel hk;have hlt : i<xs.length:=by omega
  rw [hstep k i hlt,drop_at xs i hlt]
  by_cases h : p xs[i]=true
  ·
   rw [if_pos h]
   simp [first,h]
  rw [if_neg h,ih k (i + 1) (by omega) (by omega)];simp [first,h]
def total {α : Type} (s : α→Nat) : List α→Nat
 | [] => 0
 | x :: xs => s x + total s xs
theorem total_le {α : Type} (s : α→Nat) : ∀ (xs : List α) (x : α),x ∈ xs→s x≤total s xs
 | _ :: xs,x,h => by
  rcases List.mem_cons.1 h with rfl|h
  ·
   simp [total]
  have:=total_le s xs x h;simp [total];omega
def less {α : Type} (s : α→Nat) : List α→Int→Int
 | [],l => l
 | x :: xs,l => if l - s x<0 then -1 else less s xs (l - s x)
theorem less_is {α : Type} (s : α→Nat) : ∀ (xs : List α) (l : Int),0≤l→less s xs l=if l<total s xs then -1 else l - total s xs
 | [],l,h => by simp [less,total];omega
 | x :: xs,l,h => by
  have ht : ((total s (x :: xs) : Nat) : Int)=s x + total s xs:=by simp [total]
  rw [ht];simp only [less]
  by_cases h1 : l - s x<0
  ·
   rw [if_pos h1,if_pos (by omega)]
  rw [if_neg h1,less_is s xs _ (by omega)]
  by_cases h2 : l<s x + total s xs
  ·
   rw [if_pos (by omega),if_pos (by omega)]
  rw [if_neg (by omega),if_neg (by omega)];omega
theorem less_loop {α : Type} (g : Nat→Int→Int→Option Int) (xs : List α) (s : α→Nat)
  (hstep : ∀ (k i : Nat) (l : Int) (h : i<xs.length),0≤l→l≤1048576→g (k + 1) l (i : Int)=if l - s xs[i]<0 then some (-1) else g k (l - s xs[i]) ((i + 1 : Nat) : Int))
  (hend : ∀ k l,g (k + 1) l (xs.length : Int)=some l) : ∀ (d k i : Nat) (l : Int),i + d=xs.length→d<k→0≤l→l≤1048576→g k l (i : Int)=some (less s (xs.drop i) l):=by
 intro d
 induction d with
 | zero =>
  intro k i l hi hk h0 h1;obtain ⟨k,rfl,_⟩:=fuel hk;obtain rfl : i=xs.length:=by omega
  rw [hend,List.drop_length];rfl
 | succ d ih =>
  intro k i l hi hk h0 h1;obtain ⟨k,rfl,_⟩:=fuel hk;have hlt : i<xs.length:=by omega
  rw [hstep k i l hlt h0 h1,drop_at xs i hlt]
  by_cases h : l - s xs[i]<0
  ·
   rw [if_pos h];simp [less,h]
  rw [if_neg h,ih k (i + 1) _ (by omega) (by omega) (by omega) (by omega)];simp [less,h]
def Eve {α : Type} (g : Nat→Option α) (v : α) : Prop:=∃ K,∀ k,K≤k→g k=some v
theorem Eve.one {α : Type} {v : α} : Eve (fun _ => some v) v:=⟨0,fun _ _ => rfl⟩
theorem Eve.all {α : Type} {g : Nat→Option α} {v : α} (h : ∀ k,g k=some v) : Eve g v:=⟨0,fun k _ => h k⟩
theorem Eve.of {α : Type} {g : Nat→Option α} {v : α} {n : Nat} (h : ∀ k,n<k→g k=some v) : Eve g v:=⟨n + 1,fun k hk => h k (by omega)⟩
theorem Eve.succ {α : Type} {g : Nat→Option α} {v : α} (h : Eve (fun k => g (k + 1)) v) : Eve g v:=by
 obtain ⟨K,h⟩:=h;refine ⟨K + 1,fun k hk => ?_⟩;obtain ⟨k,rfl⟩ : ∃ m,k=m + 1:=⟨k - 1,by omega⟩;exact h k (by omega)
theorem Eve.bind {α β : Type} {g : Nat→Option α} {f : Nat→α→Option β} {v : α} {u : β} (h : Eve g v) (h2 : Eve (fun k => f k v) u) : Eve (fun k => (g k).bind (f k)) u:=by
 obtain ⟨K,h⟩:=h;obtain ⟨K2,h2⟩:=h2;refine ⟨max K K2,fun k hk => ?_⟩;show (g k).bind (f k)=some u;rw [h k (by omega),Option.bind_some];exact h2 k (by omega)
theorem Eve.ite {α : Type} {c : Prop} [Decidable c] {a b : Nat→Option α} {v : α} (h1 : c→Eve a v) (h2 : ¬ c→Eve b v) : Eve (fun k => if c then a k else b k) v:=by
 by_cases h : c
 ·
  simp only [if_pos h];exact h1 h
 simp only [if_neg h];exact h2 h
theorem Eve.get {α : Type} {g : Nat→Option α} {v : α} (h : Eve g v) : ∃ k,g k=some v:=by
 obtain ⟨K,h⟩:=h;exact ⟨K,h K (by omega)⟩
theorem Eve.eq {α : Type} {g : Nat→Option α} {v u : α} (h : Eve g v) (e : v=u) : Eve g u:=e ▸ h
theorem Eve.congr {α : Type} {g f : Nat→Option α} {v : α} (h : Eve g v) (e : ∀ k,f k=g k) : Eve f v:=by
 obtain ⟨K,h⟩:=h;exact ⟨K,fun k hk => by rw [e,h k hk]⟩
theorem ev_loop {σ α β : Type} (xs : List α) (g : Nat→σ→Int→Option β) (R : Nat→σ→List α→β) (I : Nat→σ→Prop)
  (hend : ∀ s,I xs.length s→Eve (fun k => g (k + 1) s (xs.length : Int)) (R xs.length s []))
  (hstep : ∀ (i : Nat) (h : i<xs.length) (s : σ),I i s→(∀ s',I (i + 1) s' → Eve (fun k => g k s' ((i + 1 : Nat) : Int)) (R (i + 1) s' (xs.drop (i + 1)))) →
   Eve (fun k => g (k + 1) s (i : Int)) (R i s (xs[i] :: xs.drop (i + 1)))) :
  ∀ (d i : Nat) (s : σ),i + d=xs.length→I i s→Eve (fun k => g k s (i : Int)) (R i s (xs.drop i)):=by
 intro d
 induction d with
 | zero =>
  intro i s hi hI;obtain rfl : i=xs.length:=by omega
  rw [List.drop_length];exact Eve.succ (hend s hI)
 | succ d ih =>
  intro i s hi hI;have hlt : i<xs.length:=by omega
  rw [drop_at xs i hlt];exact Eve.succ (hstep i hlt s hI (fun s' h' => ih (i + 1) s' (by omega) h'))
theorem ev_loop0 {σ α β : Type} (xs : List α) (g : Nat→σ→Int→Option β) (R : Nat→σ→List α→β) (I : Nat→σ→Prop)
  (hend : ∀ s,I xs.length s→Eve (fun k => g (k + 1) s (xs.length : Int)) (R xs.length s []))
  (hstep : ∀ (i : Nat) (h : i<xs.length) (s : σ),I i s→(∀ s',I (i + 1) s' → Eve (fun k => g k s' ((i + 1 : Nat) : Int)) (R (i + 1) s' (xs.drop (i + 1)))) →
   Eve (fun k => g (k + 1) s (i : Int)) (R i s (xs[i] :: xs.drop (i + 1)))) (s : σ) (h0 : I 0 s) : Eve (fun k => g k s 0) (R 0 s xs):=by
 have:=ev_loop xs g R I hend hstep xs.length 0 s (by omega) h0
 simpa using this
end Go.Proofs.YtpmeglcmhiihoaaW.Pl
end
section
namespace Go.Proofs.Ytpmeglcmhiihoaa.Pure
open Go Go.RowKit Go.Proofs.Ytpmeglcmhiihoaa.Q Go.Proofs.YtpmeglcmhiihoaaW.PrintWords Go.Proofs.YtpmeglcmhiihoaaW.PrintLast Go.Proofs.YtpmeglcmhiihoaaW.PrintMore Go.Proofs.YtpmeglcmhiihoaaW.Pl
theorem wi {i : Nat} (h : i≤9223372036854775806) : wrap64 ((i : Int) + 1)=((i + 1 : Nat) : Int):=w64 (by omega) (by omega)
theorem w64m (y : Int) : wrap64 y=(y + 9223372036854775808) % 18446744073709551616 - 9223372036854775808:=by unfold wrap64;omega
def stp (x b : Int) : Int:=wrap64 (wrap64 (x * 256) + wrap64 b)
theorem or_byte (x b : Int) (h0 : 0≤b) (h1 : b≤255) : Go.bits .or .i64 (wrap64 (x * 256)) (wrap64 b)=stp x b:=by
 have e1 : (BitVec.ofInt 64 (wrap64 (x * 256))).toNat=2 ^ 8 * (x % 72057594037927936).toNat:=by
  rw [BitVec.toNat_ofInt,w64m];omega
 have e2 : (BitVec.ofInt 64 (wrap64 b)).toNat=b.toNat:=by
  rw [BitVec.toNat_ofInt,w64m];omega
 have e3 : (BitVec.ofInt 64 (wrap64 (x * 256)) ||| BitVec.ofInt 64 (wrap64 b)).toNat=2 ^ 8 * (x % 72057594037927936).toNat + b.toNat:=by
  rw [BitVec.toNat_or,e1,e2,Nat.two_pow_add_eq_or_of_lt (by omega)]
 show IntKind.wrap .i64 ((BitVec.ofInt 64 (wrap64 (x * 256)) ||| BitVec.ofInt 64 (wrap64 b)).toNat : Int)=_;rw [e3,i64_w];unfold stp;rw [w64m,w64m,w64m,w64m]
 omega
def bigV (l : List Int) : Int:=l.foldl stp 0
theorem bytes_in (a : ByteArray) : ∀ b ∈ bytesOf a,0≤b∧b≤255:=by
 intro b hb;obtain ⟨c,_,rfl⟩:=List.mem_map.1 hb;have:=c.toNat_lt
 omega
theorem bt_get (a : ByteArray) (i : Nat) (h : i<(bytesOf a).length) : bt a (i : Int)=(bytesOf a)[i]:=by
 rw [← rd_bytesOf,rd_at _ _ h]
theorem big_tells (l : List Int) (hl : l.length≤1048576) (hb : ∀ b ∈ l,0≤b∧b≤255) : Eve (fun k => impl_big.f k l) (bigV l):=by
 simp only [impl_big.f];refine ev_loop0 l (fun k (s : Int) i => impl_big.l0 k s l (l.length : Int) i) (fun _ s r => r.foldl stp s) (fun _ _ => True) (fun s _ => ?_) (fun i hi s _ ih => ?_) 0 trivial
 ·
  simp only [impl_big.l0]
  exact Eve.ite (fun h => absurd h (by omega)) (fun _ => Eve.one)
 have hx:=hb l[i] (List.getElem_mem hi);simp only [impl_big.l0];refine Eve.ite (fun _ => ?_) (fun h => absurd (by omega) h);refine Eve.ite (fun _ => ?_) (fun h => absurd (by omega) h);refine Eve.ite (fun _ => ?_) (fun h => absurd (by omega) h);simp only [rd_at _ _ hi,or_byte _ _ hx.1 hx.2,wi (show i≤9223372036854775806 by omega)];exact ih _ trivial
theorem of_tells (a : ByteArray) (hl : a.size≤1048576) : Eve (fun k => spec_l01Of.f k a) (bigV (bytesOf a)):=by
 have hn : (bytesOf a).length=a.size:=bytesOf_length a;simp only [spec_l01Of.f];refine ev_loop0 (bytesOf a) (fun k (s : Int) i => spec_l01Of.l0 k a s i) (fun _ s r => r.foldl stp s) (fun _ _ => True) (fun s _ => ?_) (fun i hi s _ ih => ?_) 0 trivial
 ·
  simp only [spec_l01Of.l0]
  exact Eve.ite (fun h => absurd h (by omega)) (fun _ => Eve.one)
 simp only [spec_l01Of.l0];refine Eve.ite (fun _ => ?_) (fun h => absurd (by omega) h);refine Eve.ite (fun _ => ?_) (fun h => absurd (by omega) h);simp only [bt_get a i hi,wi (show i≤9223372036854775806 by omega)];exact ih _ trivial
def zer (n : Nat) : ByteArray:=⟨(Lib.repeatL [0] n).toArray⟩
def takV (a : ByteArray) (f : Bool) (n : Nat) : ByteArray×ByteArray×Bool:=if a.size<n then (zer n,a,true) else (a.extract 0 n,a.extract n a.size,f)
def numV (a : ByteArray) (f : Bool) (n : Nat) : Int×ByteArray×Bool:=if a.size<n then (0,a,true) else (bigV (bytesOf (a.extract 0 n)),a.extract n a.size,f)
theorem take_tells (a : ByteArray) (f : Bool) (n : Nat) (hn : n≤65535) : impl_byteReader_take.f a f (n : Int)=some (takV a f n):=by
 unfold impl_byteReader_take.f takV
 by_cases h : a.size<n
 ·
  rw [if_pos (by omega),if_pos h]
  unfold strings_Repeat.f;rw [if_pos (by omega),if_pos (by rw [show (⟨#[0]⟩ : ByteArray).size=1 from rfl];omega),if_pos (by omega)]
  rfl
 rw [if_neg (by omega),if_pos (by omega),if_pos (by omega),if_neg h]
 rfl
theorem zer_size (n : Nat) : (zer n).size=n:=by
 show (Lib.repeatL [0] n).toArray.size=n;rw [List.size_toArray,Lib.repeatL_length];simp
theorem fold_zero : ∀ n : Nat,((Lib.repeatL [0] n).map fun b : UInt8 => (b.toNat : Int)).foldl stp 0=0
 | 0 => rfl
 | n + 1 => by
  have e : stp 0 0=0:=by unfold stp;rw [w64m,w64m,w64m];omega
  simp only [Lib.repeatL,List.cons_append,List.nil_append,List.map_cons,List.foldl_cons];rw [show ((0 : UInt8).toNat : Int)=0 from rfl,e];exact fold_zero n
theorem big_zer (n : Nat) : bigV (bytesOf (zer n))=0:=by
 unfold bigV bytesOf zer;exact fold_zero n
theorem num_tells (a : ByteArray) (f : Bool) (n : Nat) (hn : n≤65535) : Eve (fun k => impl_byteReader_num.f k a f (n : Int)) (numV a f n):=by
 simp only [impl_byteReader_num.f,take_tells a f n hn,Option.bind_some];unfold takV numV
 by_cases h : a.size<n
 ·
  simp only [if_pos h]
  have hz:=zer_size n;refine Eve.ite (fun _ => ?_) (fun h => absurd (by omega) h);refine Eve.bind (big_tells _ (by rw [bytesOf_length,hz];omega) (bytes_in _)) ?_;rw [big_zer];exact Eve.one
 simp only [if_neg h];have hz : (a.extract 0 n).size≤n:=by rw [ByteArray.size_extract];omega
 refine Eve.ite (fun _ => ?_) (fun h => absurd (by omega) h);exact Eve.bind (big_tells _ (by rw [bytesOf_length];omega) (bytes_in _)) Eve.one
theorem big1 (x : Int) (h : 0≤x∧x≤255) : bigV [x]=x:=by
 simp only [bigV,List.foldl_cons,List.foldl_nil,stp];rw [w64m,w64m,w64m];omega
theorem big2 (x y : Int) (h : 0≤x∧x≤255) (h2 : 0≤y∧y≤255) : 0≤bigV [x,y]∧bigV [x,y]≤65535:=by
 simp only [bigV,List.foldl_cons,List.foldl_nil,stp];simp only [w64m];omega
theorem len1 {l : List Int} (h : l.length=1) : ∃ x,l=[x]:=by
 match l,h with
 | [x],_ => exact ⟨x,rfl⟩
theorem len2 {l : List Int} (h : l.length=2) : ∃ x y,l=[x,y]:=by
 match l,h with
 | [x,y],_ => exact ⟨x,y,rfl⟩
theorem bytes_ext1 (a : ByteArray) (i : Nat) (h : i<a.size) : bigV (bytesOf (a.extract i (i + 1)))=bt a (i : Int):=by
 have hl : (bytesOf (a.extract i (i + 1))).length=1:=by rw [bytesOf_length,ByteArray.size_extract];omega
 obtain ⟨x,hx⟩:=len1 hl;have h2:=bytes_in (a.extract i (i + 1)) x (by rw [hx];simp);have h3:=bt_get (a.extract i (i + 1)) 0 (by omega);rw [hx,big1 x h2];simp only [hx,List.getElem_cons_zero] at h3;rw [← h3];unfold bt;have e0 : (((0 : Nat) : Int)).toNat=0:=rfl;have e1 : ((i : Int)).toNat=i:=Int.toNat_natCast i;simp only [e0,e1];rw [dif_pos (by rw [ByteArray.size_extract];omega),dif_pos h]
 congr 2
 rw [ByteArray.getElem_extract];simp
theorem bytes_ext2 (a : ByteArray) (i : Nat) (h : i + 2≤a.size) : 0≤bigV (bytesOf (a.extract i (i + 2)))∧bigV (bytesOf (a.extract i (i + 2)))≤65535:=by
 have hl : (bytesOf (a.extract i (i + 2))).length=2:=by rw [bytesOf_length,ByteArray.size_extract];omega
 obtain ⟨x,y,hx⟩:=len2 hl;have hb:=bytes_in (a.extract i (i + 2));rw [hx] at hb ⊢;exact big2 x y (hb x (by simp)) (hb y (by simp))
abbrev IVal:=S26
abbrev eB : ByteArray:=⟨#[]⟩
abbrev Rd:=Int×Int×ByteArray×ByteArray×Bool
def valV (a : ByteArray) (f : Bool) : Rd :=
  let q:=numV a f 1
  if q.1=1 then (q.1,(numV q.2.1 q.2.2 1).1,eB,(numV q.2.1 q.2.2 1).2.1,(numV q.2.1 q.2.2 1).2.2)
  else if q.1=2 then (q.1,wrap64 ((numV q.2.1 q.2.2 8).1 - 4611686018427387904),eB,(numV q.2.1 q.2.2 8).2.1,(numV q.2.1 q.2.2 8).2.2)
  else if q.1=3∨q.1=4∨q.1=5 then
    let r:=numV q.2.1 q.2.2 2
    (q.1,0,(takV r.2.1 r.2.2 r.1.toNat).1,(takV r.2.1 r.2.2 r.1.toNat).2.1,(takV r.2.1 r.2.2 r.1.toNat).2.2)
  else (q.1,0,eB,q.2.1,q.2.2)
theorem num2_in (a : ByteArray) (f : Bool) : 0≤(numV a f 2).1∧(numV a f 2).1≤65535:=by
  unfold numV
  by_cases h : a.size<2
  · rw [if_pos h];simp
  rw [if_neg h];exact bytes_ext2 a 0 (by omega)
theorem j0_tells (q x1 : Int) (t : ByteArray) (a : ByteArray) (f : Bool) : Eve (fun k => impl_byteReader_value.j0 k true a f q x1 t) (q,x1,(takV (numV a f 2).2.1 (numV a f 2).2.2 (numV a f 2).1.toNat).1,(takV (numV a f 2).2.1 (numV a f 2).2.2 (numV a f 2).1.toNat).2.1,(takV (numV a f 2).2.1 (numV a f 2).2.2 (numV a f 2).1.toNat).2.2):=by
  refine Eve.succ ?_;simp only [impl_byteReader_value.j0,if_true];refine Eve.bind (num_tells a f 2 (by omega)) ?_;have hb:=num2_in a f;have ht:=take_tells (numV a f 2).2.1 (numV a f 2).2.2 (numV a f 2).1.toNat (by omega);rw [show (((numV a f 2).1.toNat : Nat) : Int)=(numV a f 2).1 from Int.toNat_of_nonneg hb.1] at ht;simp only [ht,Option.bind_some];exact Eve.one
theorem value_tells (a : ByteArray) (f : Bool) : Eve (fun k => impl_byteReader_value.f k a f) (valV a f):=by
  simp only [impl_byteReader_value.f];refine Eve.bind (num_tells a f 1 (by omega)) ?_;unfold valV;generalize numV a f 1=q;simp only;refine Eve.ite (fun h => ?_) (fun h => ?_)
  · rw [if_pos h]
    exact Eve.bind (num_tells q.2.1 q.2.2 1 (by omega)) Eve.one
  rw [if_neg h];refine Eve.ite (fun h2 => ?_) (fun h2 => ?_)
  · rw [if_pos h2]
    exact Eve.bind (num_tells q.2.1 q.2.2 8 (by omega)) Eve.one
  rw [if_neg h2];refine Eve.ite (fun h3 => ?_) (fun h3 => ?_)
  · rw [if_pos (.inl h3)]
    simp only [h3,beq_self_eq_true];exact j0_tells _ _ _ _ _
  refine Eve.ite (fun h4 => ?_) (fun h4 => ?_)
  · rw [if_pos (.inr (.inl h4))]
    simp only [h4,beq_self_eq_true];exact j0_tells _ _ _ _ _
  by_cases h5 : q.1=5
  · rw [if_pos (.inr (.inr h5))]
    simp only [h5,beq_self_eq_true];exact j0_tells _ _ _ _ _
  rw [if_neg (by omega)];have : (q.1 == 5)=false:=by simpa using h5
  simp only [this];refine Eve.succ ?_;simp only [impl_byteReader_value.j0,Bool.false_eq_true,if_false];exact Eve.one
def nxtV (a : ByteArray) : Option (IVal×ByteArray) :=
  if a.size=0 then none
  else if bt a 0=0 then some (⟨0,0,eB⟩,a.extract 1 a.size)
  else if bt a 0=1 then (if a.size<2 then none else some (⟨1,bt a 1,eB⟩,a.extract 2 a.size))
  else if bt a 0=2 then (if a.size<9 then none else if bt a 1 > 127 then none else some (⟨2,wrap64 (bigV (bytesOf (a.extract 1 9)) - 4611686018427387904),eB⟩,a.extract 9 a.size))
  else if bt a 0=3∨bt a 0=4∨bt a 0=5 then
    (if a.size<3 then none else if (a.size : Int)<3 + bigV (bytesOf (a.extract 1 3)) then none
     else some (⟨bt a 0,0,a.extract 3 (3 + bigV (bytesOf (a.extract 1 3))).toNat⟩,a.extract (3 + bigV (bytesOf (a.extract 1 3))).toNat a.size))
  else none
def told (o : Option (IVal×ByteArray)) : Rd:=match o with|some (v,r) => (v.f0,v.f1,v.f2,r,true)|none => (0,0,eB,eB,false)
theorem wbt (a : ByteArray) (i : Int) : wrap64 (bt a i)=bt a i:=w64 (by have:=bt_range a i;omega) (by have:=bt_range a i;omega)
theorem n0_tells (a : ByteArray) (q : Int) (hs : a.size≤1048576) : Eve (fun k => spec_l01Next.j0 k a true q 0 eB)
    (told (if a.size<3 then none else if (a.size : Int)<3 + bigV (bytesOf (a.extract 1 3)) then none
     else some (⟨q,0,a.extract 3 (3 + bigV (bytesOf (a.extract 1 3))).toNat⟩,a.extract (3 + bigV (bytesOf (a.extract 1 3))).toNat a.size))):=by
  refine Eve.succ ?_;simp only [spec_l01Next.j0,if_true];refine Eve.ite (fun h => ?_) (fun h => ?_)
  · rw [if_pos (by omega)];exact Eve.one
  rw [if_neg (by omega)];refine Eve.ite (fun _ => ?_) (fun h => absurd (by omega) h);refine Eve.ite (fun _ => ?_) (fun h => absurd (by omega) h);refine Eve.bind (of_tells (a.extract 1 3) (by rw [ByteArray.size_extract];omega)) ?_;have hb:=bytes_ext2 a 1 (by omega);simp only [show 1 + 2=3 from rfl] at hb;have hw : wrap64 (3 + bigV (bytesOf (a.extract 1 3)))=3 + bigV (bytesOf (a.extract 1 3)):=w64 (by omega) (by omega);simp only [hw];refine Eve.ite (fun h2 => ?_) (fun h2 => ?_)
  · rw [if_pos h2];exact Eve.one
  rw [if_neg h2];refine Eve.ite (fun _ => ?_) (fun h => absurd (by omega) h);refine Eve.ite (fun _ => ?_) (fun h => absurd (by omega) h);exact Eve.ite (fun _ => Eve.one) (fun h => absurd (by omega) h)
theorem next_tells (a : ByteArray) (hs : a.size≤1048576) : Eve (fun k => spec_l01Next.f k a) (told (nxtV a)):=by
  unfold nxtV;simp only [spec_l01Next.f,wbt];refine Eve.ite (fun h => ?_) (fun h => ?_)
  · have hz : a.size=0:=by omega
    rw [if_pos hz];exact Eve.one
  have hz : ¬ a.size=0:=by omega
  rw [if_neg hz];refine Eve.ite (fun _ => ?_) (fun h => absurd (by omega) h);refine Eve.ite (fun h0 => ?_) (fun h0 => ?_)
  · rw [if_pos h0]
    refine Eve.ite (fun _ => ?_) (fun h => absurd (by omega) h);exact Eve.one.eq (by rw [h0];rfl)
  rw [if_neg h0];refine Eve.ite (fun h1 => ?_) (fun h1 => ?_)
  · rw [if_pos h1]
    refine Eve.succ ?_;simp only [spec_l01Next.j1,wbt,h1];have hw : wrap64 (1 + 1)=2:=w64 (by omega) (by omega);simp only [hw,if_true];refine Eve.ite (fun h => ?_) (fun h => ?_)
    · have hy : a.size<2:=by omega
      rw [if_pos hy];exact Eve.one
    have hy : ¬ a.size<2:=by omega
    rw [if_neg hy];refine Eve.ite (fun _ => ?_) (fun h => absurd (by omega) h);refine Eve.ite (fun _ => ?_) (fun h => absurd (by omega) h);exact Eve.ite (fun _ => Eve.one) (fun h => absurd (by omega) h)
  rw [if_neg h1];refine Eve.ite (fun h2 => ?_) (fun h2 => ?_)
  · rw [if_pos h2]
    refine Eve.succ ?_;simp only [spec_l01Next.j1,h2];have hw : wrap64 (1 + 8)=9:=w64 (by omega) (by omega);simp only [hw];refine Eve.ite (fun h => ?_) (fun h => ?_)
    · have hy : a.size<9:=by omega
      rw [if_pos hy];exact Eve.one
    have hy : ¬ a.size<9:=by omega
    rw [if_neg hy];refine Eve.ite (fun h => absurd h (by omega)) (fun _ => ?_);refine Eve.ite (fun _ => ?_) (fun h => absurd (by omega) h);refine Eve.ite (fun h => ?_) (fun h => ?_)
    · rw [if_pos h];exact Eve.one
    rw [if_neg h];refine Eve.ite (fun _ => ?_) (fun h => absurd (by omega) h);refine Eve.ite (fun _ => ?_) (fun h => absurd (by omega) h);refine Eve.bind (of_tells (a.extract 1 9) (by rw [ByteArray.size_extract];omega)) ?_;refine Eve.ite (fun _ => ?_) (fun h => absurd (by omega) h);exact Eve.ite (fun _ => Eve.one) (fun h => absurd (by omega) h)
  rw [if_neg h2];refine Eve.ite (fun h3 => ?_) (fun h3 => ?_)
  · rw [if_pos (show bt a 0=3∨bt a 0=4∨bt a 0=5 from .inl h3)]
    simp only [h3,beq_self_eq_true];exact n0_tells a 3 hs
  refine Eve.ite (fun h4 => ?_) (fun h4 => ?_)
  · rw [if_pos (show bt a 0=3∨bt a 0=4∨bt a 0=5 from .inr (.inl h4))]
    simp only [h4,beq_self_eq_true];exact n0_tells a 4 hs
  by_cases h5 : bt a 0=5
  · rw [if_pos (show bt a 0=3∨bt a 0=4∨bt a 0=5 from .inr (.inr h5))]
    simp only [h5,beq_self_eq_true];exact n0_tells a 5 hs
  have hy : ¬ (bt a 0=3∨bt a 0=4∨bt a 0=5):=by omega
  rw [if_neg hy];have : (bt a 0 == 5)=false:=by simpa using h5
  simp only [this];refine Eve.succ ?_;simp only [spec_l01Next.j0,Bool.false_eq_true,if_false];exact Eve.one
def Bad (v : IVal) : Prop:=v.f0<0∨v.f0 > 5∨(v.f0=2∧(v.f1 < -1000000000000∨v.f1 > 1000000000000))
def rdv (r : Rd) : IVal:=⟨r.1,r.2.1,r.2.2.1⟩
theorem num_one (a : ByteArray) (f : Bool) (h : 0<a.size) : numV a f 1=(bt a 0,a.extract 1 a.size,f):=by
  unfold numV;rw [if_neg (by omega)];have:=bytes_ext1 a 0 h;simp only [Nat.zero_add] at this;rw [this];rfl
theorem num_none (a : ByteArray) (f : Bool) (n : Nat) (h : a.size<n) : numV a f n=(0,a,true):=by unfold numV;rw [if_pos h]
theorem num_some (a : ByteArray) (f : Bool) (n : Nat) (h : n≤a.size) : numV a f n=(bigV (bytesOf (a.extract 0 n)),a.extract n a.size,f):=by unfold numV;rw [if_neg (by omega)]
theorem tail_size (a : ByteArray) (n : Nat) : (a.extract n a.size).size=a.size - n:=by rw [ByteArray.size_extract];omega
theorem ext_ext (a : ByteArray) (n i j : Nat) (h : n + j≤a.size) : (a.extract n a.size).extract i j=a.extract (n + i) (n + j):=by
  rw [ByteArray.extract_extract,Nat.min_eq_left h]
theorem ext_tail (a : ByteArray) (n i : Nat) (h : n≤a.size) : (a.extract n a.size).extract i (a.extract n a.size).size=a.extract (n + i) a.size:=by
  rw [tail_size,ByteArray.extract_extract]
  congr 1
  omega
theorem big8 (l : List Int) (x : Int) (r : List Int) (hl : l=x :: r) (hr : r.length=7) (hb : ∀ b ∈ l,0≤b∧b≤255) (hx : x > 127) : wrap64 (bigV l - 4611686018427387904) < -1000000000000∨wrap64 (bigV l - 4611686018427387904) > 1000000000000:=by
  subst hl
  match r,hr with
  | [b1,b2,b3,b4,b5,b6,b7],_ =>
    have h0:=hb x (by simp);have h1:=hb b1 (by simp);have h2:=hb b2 (by simp);have h3:=hb b3 (by simp);have h4:=hb b4 (by simp);have h5:=hb b5 (by simp);have h6:=hb b6 (by simp);have h7:=hb b7 (by simp)
    have e : bigV [x,b1,b2,b3,b4,b5,b6,b7]=x * 72057594037927936 + b1 * 281474976710656 + b2 * 1099511627776 + b3 * 4294967296 + b4 * 16777216 + b5 * 65536 + b6 * 256 + b7 - 18446744073709551616:=by
      simp only [bigV,List.foldl_cons,List.foldl_nil];have s0 : stp 0 x=x:=by unfold stp;simp only [w64m];omega
      have s1 : stp x b1=x * 256 + b1:=by unfold stp;simp only [w64m];omega
      have s2 : stp (x * 256 + b1) b2=x * 65536 + b1 * 256 + b2:=by unfold stp;simp only [w64m];omega
      have s3 : stp (x * 65536 + b1 * 256 + b2) b3=x * 16777216 + b1 * 65536 + b2 * 256 + b3:=by unfold stp;simp only [w64m];omega
      have s4 : stp (x * 16777216 + b1 * 65536 + b2 * 256 + b3) b4=x * 4294967296 + b1 * 16777216 + b2 * 65536 + b3 * 256 + b4:=by unfold stp;simp only [w64m];omega
      have s5 : stp (x * 4294967296 + b1 * 16777216 + b2 * 65536 + b3 * 256 + b4) b5=x * 1099511627776 + b1 * 4294967296 + b2 * 16777216 + b3 * 65536 + b4 * 256 + b5:=by unfold stp;simp only [w64m];omega
      have s6 : stp (x * 1099511627776 + b1 * 4294967296 + b2 * 16777216 + b3 * 65536 + b4 * 256 + b5) b6=x * 281474976710656 + b1 * 1099511627776 + b2 * 4294967296 + b3 * 16777216 + b4 * 65536 + b5 * 256 + b6:=by unfold stp;simp only [w64m];omega
      rw [s0,s1,s2,s3,s4,s5,s6];unfold stp;simp only [w64m];omega
    rw [e,w64m]
    omega
theorem nxt_some (a : ByteArray) (v : IVal) (r : ByteArray) (h : nxtV a=some (v,r)) : valV a false=(v.f0,v.f1,v.f2,r,false)∧r.size<a.size:=by
  unfold nxtV at h
  by_cases hz : a.size=0
  · rw [if_pos hz] at h;simp at h
  rw [if_neg hz] at h;unfold valV;rw [num_one a false (by omega)];simp only;have ht:=tail_size a 1
  by_cases h0 : bt a 0=0
  · rw [if_pos h0] at h
    obtain ⟨rfl,rfl⟩ : _∧_:=by simpa using h
    rw [if_neg (by omega),if_neg (by omega),if_neg (by omega),h0];exact ⟨rfl,by omega⟩
  rw [if_neg h0] at h
  by_cases h1 : bt a 0=1
  · rw [if_pos h1] at h
    by_cases h2 : a.size<2
    · rw [if_pos h2] at h;simp at h
    rw [if_neg h2] at h;obtain ⟨rfl,rfl⟩ : _∧_:=by simpa using h
    rw [if_pos h1,num_some _ _ _ (by omega),ext_ext _ _ _ _ (by omega),ext_tail _ _ _ (by omega),h1];have:=bytes_ext1 a 1 (by omega);refine ⟨?_,by rw [tail_size];omega⟩;show (1,bigV (bytesOf (a.extract 1 (1 + 1))),eB,a.extract 2 a.size,false)=_;rw [this];rfl
  rw [if_neg h1] at h
  by_cases h2 : bt a 0=2
  · rw [if_pos h2] at h
    by_cases h3 : a.size<9
    · rw [if_pos h3] at h;simp at h
    rw [if_neg h3] at h
    by_cases h4 : bt a 1 > 127
    · rw [if_pos h4] at h;simp at h
    rw [if_neg h4] at h;obtain ⟨rfl,rfl⟩ : _∧_:=by simpa using h
    rw [if_neg h1,if_pos h2,num_some _ _ _ (by omega),ext_ext _ _ _ _ (by omega),ext_tail _ _ _ (by omega),h2];exact ⟨rfl,by rw [tail_size];omega⟩
  rw [if_neg h2] at h
  by_cases h3 : bt a 0=3∨bt a 0=4∨bt a 0=5
  · rw [if_pos h3] at h
    by_cases h4 : a.size<3
    · rw [if_pos h4] at h;simp at h
    rw [if_neg h4] at h;have hb:=bytes_ext2 a 1 (by omega);simp only [show 1 + 2=3 from rfl] at hb
    by_cases h5 : (a.size : Int)<3 + bigV (bytesOf (a.extract 1 3))
    · rw [if_pos h5] at h;simp at h
    rw [if_neg h5] at h;obtain ⟨rfl,rfl⟩ : _∧_:=by simpa using h
    rw [if_neg h1,if_neg h2,if_pos h3,num_some _ _ _ (by omega),ext_ext _ _ _ _ (by omega),ext_tail _ _ _ (by omega)];simp only [show 1 + 0=1 from rfl,show 1 + 2=3 from rfl];generalize bigV (bytesOf (a.extract 1 3))=n at hb h5 ⊢;obtain ⟨n,rfl⟩ : ∃ m : Nat,n=(m : Int):=⟨n.toNat,by omega⟩;have e1 : ((n : Int)).toNat=n:=Int.toNat_natCast n;have e2 : (3 + (n : Int)).toNat=3 + n:=by omega
    have ht3:=tail_size a 3;unfold takV;simp only [e1,e2];rw [if_neg (by omega),ext_ext _ _ _ _ (by omega),ext_tail _ _ _ (by omega)];exact ⟨rfl,by rw [tail_size];omega⟩
  rw [if_neg h3] at h;simp at h
theorem nxt_none (a : ByteArray) (h : nxtV a=none) : (valV a false).2.2.2.2=true∨Bad (rdv (valV a false)):=by
  by_cases hz : a.size=0
  · left
    unfold valV;rw [num_none a false 1 (by omega)];simp
  unfold nxtV at h;rw [if_neg hz] at h;unfold valV;rw [num_one a false (by omega)];simp only;have ht:=tail_size a 1
  by_cases h0 : bt a 0=0
  · rw [if_pos h0] at h;simp at h
  rw [if_neg h0] at h
  by_cases h1 : bt a 0=1
  · rw [if_pos h1] at h ⊢
    by_cases h2 : a.size<2
    · left;rw [num_none _ _ _ (by omega)]
    rw [if_neg h2] at h;simp at h
  rw [if_neg h1] at h ⊢
  by_cases h2 : bt a 0=2
  · rw [if_pos h2] at h ⊢
    by_cases h3 : a.size<9
    · left;rw [num_none _ _ _ (by omega)]
    rw [if_neg h3] at h
    by_cases h4 : bt a 1 > 127
    · right;right;right
      refine ⟨h2,?_⟩;rw [num_some _ _ _ (by omega),ext_ext _ _ _ _ (by omega)];simp only [show 1 + 0=1 from rfl,show 1 + 8=9 from rfl,rdv];have hl : (bytesOf (a.extract 1 9)).length=8:=by rw [bytesOf_length,ByteArray.size_extract];omega
      have hg:=bt_get (a.extract 1 9) 0 (by omega)
      have he : bt (a.extract 1 9) ((0 : Nat) : Int)=bt a 1:=by
        unfold bt;have e0 : (((0 : Nat) : Int)).toNat=0:=rfl;have e1 : ((1 : Int)).toNat=1:=rfl;simp only [e0,e1];rw [dif_pos (by rw [ByteArray.size_extract];omega),dif_pos (by omega)]
        congr 2
        rw [ByteArray.getElem_extract]
      cases hc : bytesOf (a.extract 1 9) with
      | nil => rw [hc] at hl;simp at hl
      | cons x r =>
        have hb:=bytes_in (a.extract 1 9);rw [he] at hg;simp only [hc,List.getElem_cons_zero] at hg;rw [hc] at hl hb;exact big8 _ x r rfl (by simpa using hl) hb (by omega)
    rw [if_neg h4] at h;simp at h
  rw [if_neg h2] at h ⊢
  by_cases h3 : bt a 0=3∨bt a 0=4∨bt a 0=5
  · rw [if_pos h3] at h ⊢
    left
    by_cases h4 : a.size<3
    · rw [num_none _ _ 2 (by omega)]
      unfold takV;simp
    rw [if_neg h4] at h;have hb:=bytes_ext2 a 1 (by omega);simp only [show 1 + 2=3 from rfl] at hb
    by_cases h5 : (a.size : Int)<3 + bigV (bytesOf (a.extract 1 3))
    · rw [num_some _ _ 2 (by omega),ext_ext _ _ _ _ (by omega),ext_tail _ _ _ (by omega)]
      simp only [show 1 + 0=1 from rfl,show 1 + 2=3 from rfl];unfold takV;rw [if_pos (by rw [tail_size];omega)]
    rw [if_neg h5] at h;simp at h
  rw [if_neg h3]
  right
  have:=bt_range a 0
  right;left
  show bt a 0 > 5
  omega
theorem num_mono (a : ByteArray) (f : Bool) (n : Nat) : (numV a f n).2.1.size≤a.size∧(f=true→(numV a f n).2.2=true):=by
  unfold numV
  by_cases h : a.size<n
  · rw [if_pos h];exact ⟨Nat.le_refl _,fun _ => rfl⟩
  rw [if_neg h];exact ⟨by simp only [tail_size];omega,fun h => h⟩
theorem tak_mono (a : ByteArray) (f : Bool) (n : Nat) : (takV a f n).2.1.size≤a.size∧(f=true→(takV a f n).2.2=true):=by
  unfold takV
  by_cases h : a.size<n
  · rw [if_pos h];exact ⟨Nat.le_refl _,fun _ => rfl⟩
  rw [if_neg h];exact ⟨by simp only [tail_size];omega,fun h => h⟩
theorem val_mono (a : ByteArray) (f : Bool) : (valV a f).2.2.2.1.size≤(numV a f 1).2.1.size∧(f=true→(valV a f).2.2.2.2=true):=by
  have hq:=num_mono a f 1;unfold valV;generalize numV a f 1=q at hq;simp only
  by_cases h1 : q.1=1
  · rw [if_pos h1]
    have:=num_mono q.2.1 q.2.2 1;exact ⟨this.1,fun h => this.2 (hq.2 h)⟩
  rw [if_neg h1]
  by_cases h2 : q.1=2
  · rw [if_pos h2]
    have:=num_mono q.2.1 q.2.2 8;exact ⟨this.1,fun h => this.2 (hq.2 h)⟩
  rw [if_neg h2]
  by_cases h3 : q.1=3∨q.1=4∨q.1=5
  · rw [if_pos h3]
    have hr:=num_mono q.2.1 q.2.2 2;have ht:=tak_mono (numV q.2.1 q.2.2 2).2.1 (numV q.2.1 q.2.2 2).2.2 (numV q.2.1 q.2.2 2).1.toNat;exact ⟨Nat.le_trans ht.1 hr.1,fun h => ht.2 (hr.2 (hq.2 h))⟩
  rw [if_neg h3];exact ⟨Nat.le_refl _,hq.2⟩
theorem val_less (a : ByteArray) (f : Bool) (h : 0<a.size) : (valV a f).2.2.2.1.size<a.size:=by
  have h1:=(val_mono a f).1;rw [num_one a f h] at h1;have:=tail_size a 1;simp only at h1
  omega
abbrev IFld:=S68
theorem emp (a : ByteArray) : a.toList=([] : List UInt8)↔a.size=0:=by
 rw [ba_toList,← data_length,List.length_eq_zero_iff]
def itS : Nat→ByteArray→Option (List IVal)
 | 0,a => if a.size=0 then some [] else none
 | m + 1,a => if a.size=0 then some [] else match nxtV a with
  | none => none
  | some (v,r) => (itS m r).map (v :: ·)
def toldL (acc : List IVal) (o : Option (List IVal)) : List IVal×Bool:=match o with|some l => (acc ++ l,true)|none => ([],false)
theorem items_spec : ∀ (m : Nat) (a : ByteArray) (acc : List IVal),a.size≤m→a.size≤1048576→acc.length + a.size≤1048576→Eve (fun k => spec_l01Items.l0 k a acc) (toldL acc (itS m a)):=by
 intro m
 induction m with
 | zero =>
  intro a acc h1 h2 h3;refine Eve.succ ?_;simp only [spec_l01Items.l0,itS];have hz : a.size=0:=by omega
  rw [if_pos hz];exact Eve.ite (fun h => absurd h (by omega)) (fun _ => Eve.one.eq (by simp [toldL]))
 | succ m ih =>
  intro a acc h1 h2 h3;refine Eve.succ ?_;simp only [spec_l01Items.l0,itS]
  by_cases hz : a.size=0
  ·
   rw [if_pos hz]
   exact Eve.ite (fun h => absurd h (by omega)) (fun _ => Eve.one.eq (by simp [toldL]))
  rw [if_neg hz];refine Eve.ite (fun _ => ?_) (fun h => absurd (by omega) h);refine Eve.bind (next_tells a h2) ?_
  cases hn : nxtV a with
  | none => simp only [told,Bool.false_eq_true,if_false];exact Eve.one
  | some p =>
   obtain ⟨v,r⟩:=p;have hs:=nxt_some a v r hn;simp only [told,if_true];refine Eve.ite (fun _ => ?_) (fun h => absurd (by omega) h);refine (ih r (acc ++ [⟨v.f0,v.f1,v.f2⟩]) (by omega) (by omega) (by simp;omega)).eq ?_
   cases itS m r with
   | none => rfl
   | some l => simp [toldL]
theorem tak_size (a : ByteArray) (f : Bool) (n : Nat) (_h : a.size≤1048576) (hn : n≤65535) : (takV a f n).1.size≤1048576:=by
 unfold takV
 by_cases h2 : a.size<n
 ·
  rw [if_pos h2];simp only [zer_size];omega
 rw [if_neg h2];simp only [ByteArray.size_extract];omega
theorem val_size (a : ByteArray) (f : Bool) (h : a.size≤1048576) : (rdv (valV a f)).f2.size≤1048576:=by
 have hq:=num_mono a f 1;unfold valV;generalize numV a f 1=q at hq;simp only [rdv]
 by_cases h1 : q.1=1
 ·
  rw [if_pos h1];exact Nat.zero_le _
 rw [if_neg h1]
 by_cases h2 : q.1=2
 ·
  rw [if_pos h2];exact Nat.zero_le _
 rw [if_neg h2]
 by_cases h3 : q.1=3∨q.1=4∨q.1=5
 ·
  rw [if_pos h3]
  have hr:=num_mono q.2.1 q.2.2 2;have hn:=num2_in q.2.1 q.2.2;exact tak_size _ _ _ (by omega) (by omega)
 rw [if_neg h3];exact Nat.zero_le _
theorem items_stop (acc : List IVal) (a : ByteArray) : Eve (fun k => impl_items.l0 k acc a true) (acc,false):=by
 refine Eve.succ ?_;simp only [impl_items.l0,if_true,Bool.not_true];exact Eve.ite (fun _ => Eve.one) (fun _ => Eve.one)
theorem items_end (acc : List IVal) (a : ByteArray) (h : a.size=0) : Eve (fun k => impl_items.l0 k acc a false) (acc,true):=by
 refine Eve.succ ?_;simp only [impl_items.l0,Bool.not_false];exact Eve.ite (fun _ => Eve.one) (fun h2 => absurd ((emp a).2 h) h2)
theorem items_step (acc : List IVal) (a : ByteArray) (h : 0<a.size) (hl : acc.length≤1048576) {x : List IVal×Bool}
  (hx : Eve (fun k => impl_items.l0 k (acc ++ [rdv (valV a false)]) (valV a false).2.2.2.1 (valV a false).2.2.2.2) x) : Eve (fun k => impl_items.l0 k acc a false) x:=by
 refine Eve.succ ?_;simp only [impl_items.l0,Bool.false_eq_true,if_false];refine Eve.ite (fun h2 => absurd ((emp a).1 h2) (by omega)) (fun _ => ?_);refine Eve.bind (value_tells a false) ?_;exact Eve.ite (fun _ => hx) (fun h2 => absurd (by omega) h2)
theorem items_some : ∀ (m : Nat) (a : ByteArray) (acc l : List IVal),itS m a=some l→acc.length + a.size≤1048576→Eve (fun k => impl_items.l0 k acc a false) (acc ++ l,true):=by
 intro m
 induction m with
 | zero =>
  intro a acc l h h2;simp only [itS] at h
  by_cases hz : a.size=0
  ·
   rw [if_pos hz] at h
   obtain rfl : []=l:=by simpa using h
   exact (items_end acc a hz).eq (by simp)
  rw [if_neg hz] at h;simp at h
 | succ m ih =>
  intro a acc l h h2;simp only [itS] at h
  by_cases hz : a.size=0
  ·
   rw [if_pos hz] at h
   obtain rfl : []=l:=by simpa using h
   exact (items_end acc a hz).eq (by simp)
  rw [if_neg hz] at h
  cases hn : nxtV a with
  | none => rw [hn] at h;simp at h
  | some p =>
   obtain ⟨v,r⟩:=p;rw [hn] at h;simp only [Option.map_eq_some_iff] at h;obtain ⟨l',h',rfl⟩:=h;obtain ⟨hs,hlt⟩:=nxt_some a v r hn;refine items_step acc a (by omega) (by omega) ?_;rw [hs];refine (ih r (acc ++ [rdv (v.f0,v.f1,v.f2,r,false)]) l' h' (by simp;omega)).eq ?_;simp [rdv]
theorem items_some_end : ∀ (m : Nat) (a : ByteArray) (acc : List IVal),a.size≤m→acc.length + a.size≤1048576 → ∃ l ok,Eve (fun k => impl_items.l0 k acc a false) (acc ++ l,ok)∧(l.length≤a.size ∧ ∀ x ∈ l,x.f2.size≤1048576):=by
 intro m
 induction m with
 | zero => intro a acc h1 h2;exact ⟨[],true,(items_end acc a (by omega)).eq (by simp),by simp,by simp⟩
 | succ m ih =>
  intro a acc h1 h2
  by_cases hz : a.size=0
  ·
   exact ⟨[],true,(items_end acc a hz).eq (by simp),by simp,by simp⟩
  have hlt:=val_less a false (by omega);have hvs:=val_size a false (by omega)
  cases hf : (valV a false).2.2.2.2 with
  | true =>
   refine ⟨[rdv (valV a false)],false,items_step acc a (by omega) (by omega) ?_,by simp;omega,by simpa using hvs⟩;rw [hf];exact items_stop _ _
  | false =>
   obtain ⟨l,ok,hl,hl1,hl2⟩:=ih (valV a false).2.2.2.1 (acc ++ [rdv (valV a false)]) (by omega) (by simp;omega);refine ⟨rdv (valV a false) :: l,ok,items_step acc a (by omega) (by omega) ?_,by simp;omega,by simpa using ⟨hvs,hl2⟩⟩;rw [hf];exact hl.eq (by simp)
theorem items_none : ∀ (m : Nat) (a : ByteArray) (acc : List IVal),a.size≤m→itS m a=none→acc.length + a.size≤1048576 → ∃ l ok,Eve (fun k => impl_items.l0 k acc a false) (acc ++ l,ok)∧(ok=false ∨ ∃ v ∈ l,Bad v)∧(l.length≤a.size ∧ ∀ x ∈ l,x.f2.size≤1048576):=by
 intro m
 induction m with
 | zero =>
  intro a acc h1 h h2;simp only [itS] at h;rw [if_pos (show a.size=0 by omega)] at h;simp at h
 | succ m ih =>
  intro a acc h1 h h2;simp only [itS] at h
  by_cases hz : a.size=0
  ·
   rw [if_pos hz] at h;simp at h
  rw [if_neg hz] at h;have hlt:=val_less a false (by omega);have hvs:=val_size a false (by omega)
  cases hn : nxtV a with
  | some p =>
   obtain ⟨v,r⟩:=p;rw [hn] at h;simp only [Option.map_eq_none_iff] at h;obtain ⟨hs,hlt⟩:=nxt_some a v r hn;rw [hs] at hvs;obtain ⟨l,ok,hl,hb,hl1,hl2⟩:=ih r (acc ++ [rdv (v.f0,v.f1,v.f2,r,false)]) (by omega) h (by simp;omega);refine ⟨rdv (v.f0,v.f1,v.f2,r,false) :: l,ok,?_,?_,by simp;omega,by simpa using ⟨hvs,hl2⟩⟩
   ·
    refine items_step acc a (by omega) (by omega) ?_
    rw [hs];exact hl.eq (by simp)
   rcases hb with hb|⟨x,hx,hb⟩
   ·
    exact .inl hb
   exact .inr ⟨x,by simp [hx],hb⟩
  | none =>
   have hv:=nxt_none a hn
   cases hf : (valV a false).2.2.2.2 with
   | true =>
    refine ⟨[rdv (valV a false)],false,items_step acc a (by omega) (by omega) ?_,.inl rfl,by simp;omega,by simpa using hvs⟩;rw [hf];exact items_stop _ _
   | false =>
    rw [hf] at hv;obtain ⟨l,ok,hl,hl1,hl2⟩:=items_some_end m (valV a false).2.2.2.1 (acc ++ [rdv (valV a false)]) (by omega) (by simp;omega);refine ⟨rdv (valV a false) :: l,ok,items_step acc a (by omega) (by omega) ?_,.inr ⟨_,by simp,hv.resolve_left (by simp)⟩,by simp;omega,by simpa using ⟨hvs,hl2⟩⟩;rw [hf];exact hl.eq (by simp)
def fdS : Nat→ByteArray→Option (List IFld)
 | 0,a => if a.size=0 then some [] else none
 | m + 1,a => if a.size=0 then some [] else if (a.size : Int)<1 + bt a 0 then none else match nxtV (a.extract (1 + bt a 0).toNat a.size) with
  | none => none
  | some (v,r) => (fdS m r).map ((⟨a.extract 1 (1 + bt a 0).toNat,v⟩ : IFld) :: ·)
def toldF (acc : List IFld) (o : Option (List IFld)) : List IFld×Bool:=match o with|some l => (acc ++ l,true)|none => ([],false)
theorem wb1 (a : ByteArray) : wrap64 (1 + bt a 0)=1 + bt a 0:=w64 (by have:=bt_range a 0;omega) (by have:=bt_range a 0;omega)
theorem fields_spec : ∀ (m : Nat) (a : ByteArray) (acc : List IFld),a.size≤m→a.size≤1048576→acc.length + a.size≤1048576→Eve (fun k => spec_l01Fields.l0 k a acc) (toldF acc (fdS m a)):=by
 intro m
 induction m with
 | zero =>
  intro a acc h1 h2 h3;refine Eve.succ ?_;simp only [spec_l01Fields.l0,fdS];have hz : a.size=0:=by omega
  rw [if_pos hz];exact Eve.ite (fun h => absurd h (by omega)) (fun _ => Eve.one.eq (by simp [toldF]))
 | succ m ih =>
  intro a acc h1 h2 h3;refine Eve.succ ?_;simp only [spec_l01Fields.l0,fdS,wbt,wb1]
  by_cases hz : a.size=0
  ·
   rw [if_pos hz]
   exact Eve.ite (fun h => absurd h (by omega)) (fun _ => Eve.one.eq (by simp [toldF]))
  rw [if_neg hz];have hb:=bt_range a 0;refine Eve.ite (fun _ => ?_) (fun h => absurd (by omega) h);refine Eve.ite (fun _ => ?_) (fun h => absurd (by omega) h);refine Eve.ite (fun h => ?_) (fun h => ?_)
  ·
   rw [if_pos h];exact Eve.one
  rw [if_neg h];refine Eve.ite (fun _ => ?_) (fun h => absurd (by omega) h);refine Eve.ite (fun _ => ?_) (fun h => absurd (by omega) h);refine Eve.ite (fun _ => ?_) (fun h => absurd (by omega) h);have ht:=tail_size a (1 + bt a 0).toNat;refine Eve.bind (next_tells _ (by omega)) ?_
  cases hn : nxtV (a.extract (1 + bt a 0).toNat a.size) with
  | none => simp only [told,Bool.false_eq_true,if_false];exact Eve.one
  | some p =>
   obtain ⟨v,r⟩:=p;have hs:=nxt_some _ v r hn;simp only [told,if_true];refine Eve.ite (fun _ => ?_) (fun h => absurd (by omega) h);refine (ih r (acc ++ [⟨a.extract 1 (1 + bt a 0).toNat,⟨v.f0,v.f1,v.f2⟩⟩]) (by omega) (by omega) (by simp;omega)).eq ?_
   cases fdS m r with
   | none => rfl
   | some l => simp [toldF]
def fdV (a : ByteArray) : ByteArray×Rd :=
 let q:=numV a false 1
 let t:=takV q.2.1 q.2.2 q.1.toNat
 (t.1,valV t.2.1 t.2.2)
def fdv (x : ByteArray×Rd) : IFld:=⟨x.1,rdv x.2⟩
theorem fields_stop (acc : List IFld) (a : ByteArray) : Eve (fun k => impl_fields.l0 k acc a true) (acc,false):=by
 have hj : Eve (fun k => impl_fields.j1 k acc false a true) (acc,false):=Eve.succ (by simp only [impl_fields.j1,Bool.false_eq_true,if_false,Bool.not_true];exact Eve.one);refine Eve.succ ?_;simp only [impl_fields.l0,Bool.not_true];exact Eve.ite (fun _ => hj) (fun _ => hj)
theorem fields_end (acc : List IFld) (a : ByteArray) (h : a.size=0) : Eve (fun k => impl_fields.l0 k acc a false) (acc,true):=by
 refine Eve.succ ?_;simp only [impl_fields.l0];refine Eve.ite (fun _ => Eve.succ ?_) (fun h2 => absurd ((emp a).2 h) h2);simp only [impl_fields.j1,Bool.false_eq_true,if_false,Bool.not_false];exact Eve.one
theorem fields_step (acc : List IFld) (a : ByteArray) (h : 0<a.size) (hl : acc.length≤1048576) {x : List IFld×Bool}
  (hx : Eve (fun k => impl_fields.l0 k (acc ++ [fdv (fdV a)]) (fdV a).2.2.2.2.1 (fdV a).2.2.2.2.2) x) : Eve (fun k => impl_fields.l0 k acc a false) x:=by
 refine Eve.succ ?_;simp only [impl_fields.l0,Bool.not_false];refine Eve.ite (fun h2 => absurd ((emp a).1 h2) (by omega)) (fun _ => Eve.succ ?_);simp only [impl_fields.j1,if_true];refine Eve.bind (num_tells a false 1 (by omega)) ?_
 have hb : 0≤(numV a false 1).1∧(numV a false 1).1≤65535:=by
  rw [num_one a false h];have:=bt_range a 0;simp only;omega
 have ht:=take_tells (numV a false 1).2.1 (numV a false 1).2.2 (numV a false 1).1.toNat (by omega);rw [show (((numV a false 1).1.toNat : Nat) : Int)=(numV a false 1).1 from Int.toNat_of_nonneg hb.1] at ht;simp only [ht,Option.bind_some];refine Eve.bind (value_tells _ _) ?_;exact Eve.ite (fun _ => hx) (fun h2 => absurd (by omega) h2)
theorem fdV_less (a : ByteArray) (h : 0<a.size) : (fdV a).2.2.2.2.1.size<a.size:=by
 unfold fdV;rw [num_one a false h];simp only;have h1:=tail_size a 1;have h2:=(tak_mono (a.extract 1 a.size) false (bt a 0).toNat).1;have h3:=(val_mono (takV (a.extract 1 a.size) false (bt a 0).toNat).2.1 (takV (a.extract 1 a.size) false (bt a 0).toNat).2.2).1;have h4:=(num_mono (takV (a.extract 1 a.size) false (bt a 0).toNat).2.1 (takV (a.extract 1 a.size) false (bt a 0).toNat).2.2 1).1
 omega
theorem fdV_ok (a : ByteArray) (h : 0<a.size) (h2 : ¬ (a.size : Int)<1 + bt a 0) : fdV a=(a.extract 1 (1 + bt a 0).toNat,valV (a.extract (1 + bt a 0).toNat a.size) false):=by
 unfold fdV;rw [num_one a false h];simp only;have hb:=bt_range a 0;have ht:=tail_size a 1;have e : (1 + bt a 0).toNat=1 + (bt a 0).toNat:=by omega
 unfold takV;rw [if_neg (by omega),e];simp only;rw [ext_ext _ _ _ _ (by omega),ext_tail _ _ _ (by omega)]
theorem fdV_bad (a : ByteArray) (h : 0<a.size) (h2 : (a.size : Int)<1 + bt a 0) : (fdV a).2.2.2.2.2=true:=by
 unfold fdV;rw [num_one a false h];simp only;have hb:=bt_range a 0;have ht:=tail_size a 1;refine (val_mono _ _).2 ?_;unfold takV;rw [if_pos (by omega)]
theorem fields_some : ∀ (m : Nat) (a : ByteArray) (acc l : List IFld),fdS m a=some l→acc.length + a.size≤1048576→Eve (fun k => impl_fields.l0 k acc a false) (acc ++ l,true):=by
 intro m
 induction m with
 | zero =>
  intro a acc l h h2;simp only [fdS] at h
  by_cases hz : a.size=0
  ·
   rw [if_pos hz] at h
   obtain rfl : []=l:=by simpa using h
   exact (fields_end acc a hz).eq (by simp)
  rw [if_neg hz] at h;simp at h
 | succ m ih =>
  intro a acc l h h2;simp only [fdS] at h
  by_cases hz : a.size=0
  ·
   rw [if_pos hz] at h
   obtain rfl : []=l:=by simpa using h
   exact (fields_end acc a hz).eq (by simp)
  rw [if_neg hz] at h
  by_cases hy : (a.size : Int)<1 + bt a 0
  ·
   rw [if_pos hy] at h;simp at h
  rw [if_neg hy] at h
  cases hn : nxtV (a.extract (1 + bt a 0).toNat a.size) with
  | none => rw [hn] at h;simp at h
  | some p =>
   obtain ⟨v,r⟩:=p;rw [hn] at h;simp only [Option.map_eq_some_iff] at h;obtain ⟨l',h',rfl⟩:=h;obtain ⟨hs,hlt⟩:=nxt_some _ v r hn;have ht:=tail_size a (1 + bt a 0).toNat;have hb:=bt_range a 0;refine fields_step acc a (by omega) (by omega) ?_;rw [fdV_ok a (by omega) hy,hs];refine (ih r (acc ++ [fdv (a.extract 1 (1 + bt a 0).toNat,(v.f0,v.f1,v.f2,r,false))]) l' h' (by simp;omega)).eq ?_;simp [fdv,rdv]
theorem fdV_size (a : ByteArray) (h : 0<a.size) (h2 : a.size≤1048576) : (fdv (fdV a)).f0.size≤1048576∧(fdv (fdV a)).f1.f2.size≤1048576:=by
 unfold fdV fdv;rw [num_one a false h];have hb:=bt_range a 0;have ht:=tail_size a 1;have hm:=(tak_mono (a.extract 1 a.size) false (bt a 0).toNat).1;exact ⟨tak_size (a.extract 1 a.size) false (bt a 0).toNat (by omega) (by omega),val_size (takV (a.extract 1 a.size) false (bt a 0).toNat).2.1 (takV (a.extract 1 a.size) false (bt a 0).toNat).2.2 (by omega)⟩
theorem fields_some_end : ∀ (m : Nat) (a : ByteArray) (acc : List IFld),a.size≤m→acc.length + a.size≤1048576 → ∃ l ok,Eve (fun k => impl_fields.l0 k acc a false) (acc ++ l,ok)∧(l.length≤a.size ∧ ∀ x ∈ l,x.f0.size≤1048576∧x.f1.f2.size≤1048576):=by
 intro m
 induction m with
 | zero => intro a acc h1 h2;exact ⟨[],true,(fields_end acc a (by omega)).eq (by simp),by simp,by simp⟩
 | succ m ih =>
  intro a acc h1 h2
  by_cases hz : a.size=0
  ·
   exact ⟨[],true,(fields_end acc a hz).eq (by simp),by simp,by simp⟩
  have hlt:=fdV_less a (by omega);have hvs:=fdV_size a (by omega) (by omega)
  cases hf : (fdV a).2.2.2.2.2 with
  | true =>
   refine ⟨[fdv (fdV a)],false,fields_step acc a (by omega) (by omega) ?_,by simp;omega,by simpa using hvs⟩;rw [hf];exact fields_stop _ _
  | false =>
   obtain ⟨l,ok,hl,hl1,hl2⟩:=ih (fdV a).2.2.2.2.1 (acc ++ [fdv (fdV a)]) (by omega) (by simp;omega);refine ⟨fdv (fdV a) :: l,ok,fields_step acc a (by omega) (by omega) ?_,by simp;omega,by simpa using ⟨hvs,hl2⟩⟩;rw [hf];exact hl.eq (by simp)
theorem fields_none : ∀ (m : Nat) (a : ByteArray) (acc : List IFld),a.size≤m→fdS m a=none→acc.length + a.size≤1048576 → ∃ l ok,Eve (fun k => impl_fields.l0 k acc a false) (acc ++ l,ok)∧(ok=false ∨ ∃ v ∈ l,Bad v.f1)∧(l.length≤a.size ∧ ∀ x ∈ l,x.f0.size≤1048576∧x.f1.f2.size≤1048576):=by
 intro m
 induction m with
 | zero =>
  intro a acc h1 h h2;simp only [fdS] at h;rw [if_pos (show a.size=0 by omega)] at h;simp at h
 | succ m ih =>
  intro a acc h1 h h2;simp only [fdS] at h
  by_cases hz : a.size=0
  ·
   rw [if_pos hz] at h;simp at h
  rw [if_neg hz] at h;have hlt:=fdV_less a (by omega);have hvs:=fdV_size a (by omega) (by omega)
  by_cases hy : (a.size : Int)<1 + bt a 0
  ·
   refine ⟨[fdv (fdV a)],false,fields_step acc a (by omega) (by omega) ?_,.inl rfl,by simp;omega,by simpa using hvs⟩
   rw [fdV_bad a (by omega) hy];exact fields_stop _ _
  rw [if_neg hy] at h;have ht:=tail_size a (1 + bt a 0).toNat;have hb0:=bt_range a 0;have hok:=fdV_ok a (by omega) hy
  cases hn : nxtV (a.extract (1 + bt a 0).toNat a.size) with
  | some p =>
   obtain ⟨v,r⟩:=p;rw [hn] at h;simp only [Option.map_eq_none_iff] at h;obtain ⟨hs,hlt⟩:=nxt_some _ v r hn;rw [hok,hs] at hvs;obtain ⟨l,ok,hl,hb,hl1,hl2⟩:=ih r (acc ++ [fdv (a.extract 1 (1 + bt a 0).toNat,(v.f0,v.f1,v.f2,r,false))]) (by omega) h (by simp;omega);refine ⟨fdv (a.extract 1 (1 + bt a 0).toNat,(v.f0,v.f1,v.f2,r,false)) :: l,ok,?_,?_,by simp;omega,by simpa using ⟨hvs,hl2⟩⟩
   ·
    refine fields_step acc a (by omega) (by omega) ?_
    rw [hok,hs];exact hl.eq (by simp)
   rcases hb with hb|⟨x,hx,hb⟩
   ·
    exact .inl hb
   exact .inr ⟨x,by simp [hx],hb⟩
  | none =>
   have hv:=nxt_none _ hn
   cases hf : (fdV a).2.2.2.2.2 with
   | true =>
    refine ⟨[fdv (fdV a)],false,fields_step acc a (by omega) (by omega) ?_,.inl rfl,by simp;omega,by simpa using hvs⟩;rw [hf];exact fields_stop _ _
   | false =>
    obtain ⟨l,ok,hl,hl1,hl2⟩:=fields_some_end m (fdV a).2.2.2.2.1 (acc ++ [fdv (fdV a)]) (by omega) (by simp;omega);refine ⟨fdv (fdV a) :: l,ok,fields_step acc a (by omega) (by omega) ?_,.inr ⟨fdv (fdV a),by simp,?_⟩,by simp;omega,by simpa using ⟨hvs,hl2⟩⟩
    ·
     rw [hf]
     exact hl.eq (by simp)
    have e1 : (fdV a).2=valV (a.extract (1 + bt a 0).toNat a.size) false:=by rw [hok]
    have e2 : (fdv (fdV a)).f1=rdv (fdV a).2:=rfl;rw [e2,e1];rw [e1] at hf;rcases hv with hv|hv
    ·
     rw [hf] at hv;cases hv
    exact hv
def isL (c : Int) : Bool:=(decide (97≤c) && decide (c≤122)) || (decide (65≤c) && decide (c≤90)) || (c == 95)
def isD (c : Int) : Bool:=decide (48≤c) && decide (c≤57)
theorem specL (c : Int) : spec_l00Letter.f c=some (isL c):=by
 unfold spec_l00Letter.f isL
 split <;> split <;> (try split) <;> (try split) <;> simp <;> omega
theorem implL (c : Int) : impl_isLetter.f c=some (isL c):=by
 unfold impl_isLetter.f isL
 split <;> split <;> (try split) <;> (try split) <;> simp <;> omega
theorem specD (c : Int) : spec_l00Digit.f c=some (isD c):=by
 unfold spec_l00Digit.f isD
 split <;> simp <;> omega
theorem implD (c : Int) : impl_isDigit.f c=some (isD c):=by
 unfold impl_isDigit.f isD
 split <;> simp <;> omega
def wgo (first : Bool) : List Int→Bool
 | [] => true
 | c :: cs => (isL c || (isD c && !first)) && wgo false cs
def word (s : ByteArray) : Bool:=wgo true (bytesOf s) && (decide (1≤(s.size : Int)) && decide ((s.size : Int)≤40))
theorem word_spec (s : ByteArray) (hs : s.size≤1048576) : Eve (fun k => spec_l00Word.f k s) (word s):=by
 have hn : (bytesOf s).length=s.size:=bytesOf_length s;have hj : Eve (fun k => spec_l00Word.j0 k s true) false:=Eve.succ (by simp only [spec_l00Word.j0,if_true];exact Eve.one);simp only [spec_l00Word.f];refine Eve.ite (fun h => hj.eq ?_) (fun h => ?_)
 ·
  have : decide (1≤(s.size : Int))=false:=by simp;omega
  simp [word,this]
 refine Eve.ite (fun h2 => hj.eq ?_) (fun h2 => ?_)
 ·
  have : decide ((s.size : Int)≤40)=false:=by simp;omega
  simp [word,this]
 refine Eve.ite (fun _ => ?_) (fun h => absurd (by omega) h)
 have hw : word s=wgo true (bytesOf s):=by
  have a1 : decide (1≤(s.size : Int))=true:=by simp;omega
  have a2 : decide ((s.size : Int)≤40)=true:=by simp;omega
  simp [word,a1,a2]
 have hb:=bt_get s 0 (by omega);simp only [show ((0 : Nat) : Int)=0 from rfl] at hb;have hc : bytesOf s=bt s 0 :: (bytesOf s).drop 1:=by rw [hb];exact drop_at (bytesOf s) 0 (by omega)
 simp only [specL,Option.bind_some]
 cases hl : isL (bt s 0) with
 | false =>
  refine hj.eq ?_;rw [hw,hc];simp [wgo,hl]
 | true =>
  refine Eve.succ ?_;simp only [spec_l00Word.j0,Bool.not_true,Bool.false_eq_true,if_false]
  have:=ev_loop (bytesOf s) (fun k (_ : Unit) i => spec_l00Word.l0 k s i) (fun _ _ r => wgo false r) (fun i _ => 1≤i) (fun _ _ => by
   simp only [spec_l00Word.l0]
   exact Eve.ite (fun h => absurd h (by omega)) (fun _ => Eve.one)) (fun i hi _ hI ih => by
   have hnx:=ih () (by omega);simp only [spec_l00Word.l0,specL,specD,Option.bind_some,wi (show i≤9223372036854775806 by omega),bt_get s i hi];refine Eve.ite (fun _ => ?_) (fun h => absurd (by omega) h);refine Eve.ite (fun _ => ?_) (fun h => absurd (by omega) h);refine Eve.ite (fun h1 => hnx.eq (by simp [wgo,h1])) (fun h1 => ?_)
   exact Eve.ite (fun h2 => hnx.eq (by simp [wgo,h2])) (fun h2 => Eve.one.eq (by simp [wgo,h1,h2]))) ((bytesOf s).length - 1) 1 () (by omega) (by omega)
  refine this.eq ?_;rw [hw]
  conv => rhs;rw [hc]
  simp [wgo,hl]
theorem word_impl (s : ByteArray) (hs : s.size≤1048576) : Eve (fun k => impl_NameOK.f k s) (word s):=by
 have hn : (bytesOf s).length=s.size:=bytesOf_length s;simp only [impl_NameOK.f];refine ev_loop0 (bytesOf s) (fun k (_ : Unit) i => impl_NameOK.l0 k s (s.size : Int) i) (fun i _ r => wgo (decide (i=0)) r && (decide (1≤(s.size : Int)) && decide ((s.size : Int)≤40))) (fun _ _ => True) (fun _ _ => ?_) (fun i hi _ _ ih => ?_) () trivial
 ·
  simp only [impl_NameOK.l0]
  refine Eve.ite (fun h => absurd h (by omega)) (fun _ => Eve.all fun k => ?_);unfold impl_inRange.f
  by_cases h : 1≤(s.size : Int)
  ·
   rw [if_pos h];simp [wgo,h]
  rw [if_neg h];simp [wgo,h]
 have hnx:=ih () trivial;simp only [Nat.add_one_ne_zero,decide_false] at hnx;simp only [impl_NameOK.l0,implL,implD,Option.bind_some,wi (show i≤9223372036854775806 by omega),bt_get s i hi];refine Eve.ite (fun _ => ?_) (fun h => absurd (by omega) h);refine Eve.ite (fun _ => ?_) (fun h => absurd (by omega) h);refine Eve.ite (fun _ => ?_) (fun h => absurd (by omega) h);refine Eve.ite (fun h1 => hnx.eq (by simp [wgo,h1])) (fun h1 => ?_);refine Eve.ite (fun h2 => ?_) (fun h2 => Eve.one.eq (by simp [wgo,h1,h2]));refine Eve.ite (fun h3 => Eve.one.eq ?_) (fun h3 => hnx.eq ?_)
 ·
  obtain rfl : i=0:=by omega
  simp [wgo,h1]
 have : ¬ i=0:=by omega
 simp [wgo,h2,this]
def nam (s : ByteArray) : Bool:=word s && decide ((s.size : Int)≤12)
theorem nam_spec (s : ByteArray) (hs : s.size≤1048576) : Eve (fun k => spec_l01Name.f k s) (nam s):=by
 simp only [spec_l01Name.f,spec_NameOK.f];refine Eve.bind (v:=word s) (Eve.bind (word_spec s hs) Eve.one) ?_;refine Eve.ite (fun h => Eve.one.eq (by simp [nam,h])) (fun h => Eve.one.eq (by simp [nam,h]))
theorem nam_impl (s : ByteArray) (hs : s.size≤1048576) : Eve (fun k => impl_isShort.f k s) (nam s):=by
 simp only [impl_isShort.f];refine Eve.ite (fun h => (Eve.bind (word_impl s hs) Eve.one).eq (by simp [nam,h])) (fun h => Eve.one.eq (by simp [nam,h]))
def nms : Option ByteArray→List IFld→Bool
 | _,[] => true
 | p,f :: fs => nam f.f0 && ((match p with|none => true|some q => Op.bytesLess q.toList f.f0.toList) && nms (some f.f0) fs)
def inr (a b c : Int) : Bool:=decide (b≤a) && decide (a≤c)
theorem in_spec (a b c : Int) : spec_l01In.f a b c=some (inr a b c):=by
 unfold spec_l01In.f inr
 by_cases h : b≤a
 ·
  rw [if_pos h];simp [h]
 rw [if_neg h];simp [h]
theorem in_impl (a b c : Int) : impl_inRange.f a b c=some (inr a b c):=in_spec a b c
abbrev emB (a : ByteArray) : Bool:=a.toList == ([] : List UInt8)
def flat (v : IVal) : Bool :=
 if v.f0=0 then decide (v.f1=0) && emB v.f2
 else if v.f0=1 then inr v.f1 0 1 && emB v.f2
 else if v.f0=2 then inr v.f1 (-1000000000000) 1000000000000 && emB v.f2
 else if v.f0=3 then decide (v.f1=0) && decide ((v.f2.size : Int)≤300)
 else false
def rightV : Nat→IVal→Bool
 | 0,v => flat v
 | d + 1,v =>
  if v.f0=4 then decide (v.f1=0) && (decide ((v.f2.size : Int)≤300) && (match itS v.f2.size v.f2 with|some l => l.all (rightV d)|none => false))
  else if v.f0=5 then decide (v.f1=0) && (decide ((v.f2.size : Int)≤300) && (match fdS v.f2.size v.f2 with|some l => nms none l && l.all (fun f => rightV d f.f1)|none => false))
  else flat v
theorem bad_right (v : IVal) (h : Bad v) : ∀ d,rightV d v=false:=by
 have hf : flat v=false:=by
  unfold flat;rcases h with h|h|⟨h,h2⟩
  ·
   rw [if_neg (by omega),if_neg (by omega),if_neg (by omega),if_neg (by omega)]
  ·
   rw [if_neg (by omega),if_neg (by omega),if_neg (by omega),if_neg (by omega)]
  rw [if_neg (by omega),if_neg (by omega),if_pos h];have : inr v.f1 (-1000000000000) 1000000000000=false:=by unfold inr;simp;omega
  rw [this];rfl
 intro d
 cases d with
 | zero => exact hf
 | succ d =>
  unfold rightV;rcases h with h|h|⟨h,h2⟩
  ·
   rw [if_neg (by omega),if_neg (by omega)];exact hf
  ·
   rw [if_neg (by omega),if_neg (by omega)];exact hf
  rw [if_neg (by omega),if_neg (by omega)];exact hf
theorem rdV (l : List IVal) (i : Nat) (h : i<l.length) : rd_T26 l (i : Int)=l[i]:=getD_at _ l i h
theorem rdF (l : List IFld) (i : Nat) (h : i<l.length) : rd_T68 l (i : Int)=l[i]:=getD_at _ l i h
theorem its_size : ∀ (m : Nat) (a : ByteArray) (l : List IVal),itS m a=some l→a.size≤1048576→l.length≤a.size ∧ ∀ x ∈ l,x.f2.size≤1048576:=by
 intro m
 induction m with
 | zero =>
  intro a l h h2;simp only [itS] at h
  by_cases hz : a.size=0
  ·
   rw [if_pos hz] at h
   obtain rfl : []=l:=by simpa using h
   simp
  rw [if_neg hz] at h;simp at h
 | succ m ih =>
  intro a l h h2;simp only [itS] at h
  by_cases hz : a.size=0
  ·
   rw [if_pos hz] at h
   obtain rfl : []=l:=by simpa using h
   simp
  rw [if_neg hz] at h
  cases hn : nxtV a with
  | none => rw [hn] at h;simp at h
  | some p =>
   obtain ⟨v,r⟩:=p;rw [hn] at h;simp only [Option.map_eq_some_iff] at h;obtain ⟨l',h',rfl⟩:=h;obtain ⟨hs,hlt⟩:=nxt_some a v r hn;have hv:=val_size a false h2;rw [hs] at hv;obtain ⟨i1,i2⟩:=ih r l' h' (by omega);refine ⟨by simp;omega,fun x hx => ?_⟩;rcases List.mem_cons.1 hx with rfl|hx
   ·
    exact hv
   exact i2 x hx
theorem fds_size : ∀ (m : Nat) (a : ByteArray) (l : List IFld),fdS m a=some l→a.size≤1048576→l.length≤a.size ∧ ∀ x ∈ l,x.f0.size≤1048576∧x.f1.f2.size≤1048576:=by
 intro m
 induction m with
 | zero =>
  intro a l h h2;simp only [fdS] at h
  by_cases hz : a.size=0
  ·
   rw [if_pos hz] at h
   obtain rfl : []=l:=by simpa using h
   simp
  rw [if_neg hz] at h;simp at h
 | succ m ih =>
  intro a l h h2;simp only [fdS] at h
  by_cases hz : a.size=0
  ·
   rw [if_pos hz] at h
   obtain rfl : []=l:=by simpa using h
   simp
  rw [if_neg hz] at h
  by_cases hy : (a.size : Int)<1 + bt a 0
  ·
   rw [if_pos hy] at h;simp at h
  rw [if_neg hy] at h;have ht:=tail_size a (1 + bt a 0).toNat;have hb:=bt_range a 0
  cases hn : nxtV (a.extract (1 + bt a 0).toNat a.size) with
  | none => rw [hn] at h;simp at h
  | some p =>
   obtain ⟨v,r⟩:=p;rw [hn] at h;simp only [Option.map_eq_some_iff] at h;obtain ⟨l',h',rfl⟩:=h;obtain ⟨hs,hlt⟩:=nxt_some _ v r hn;have hv:=val_size (a.extract (1 + bt a 0).toNat a.size) false (by omega);rw [hs] at hv;obtain ⟨i1,i2⟩:=ih r l' h' (by omega);refine ⟨by simp;omega,fun x hx => ?_⟩;rcases List.mem_cons.1 hx with rfl|hx
   ·
    exact ⟨by simp only [ByteArray.size_extract];omega,hv⟩
   exact i2 x hx
theorem dn (d : Nat) (h : d≤1000) : wrap64 (((d + 1 : Nat) : Int) - 1)=(d : Int):=by rw [w64 (by omega) (by omega)];omega
theorem spec_flat (v : IVal) (e : Int) (h4 : v.f0≠4) (h5 : v.f0≠5) : Eve (fun k => spec_l01OK.f k v.f0 v.f1 v.f2 e) (flat v):=by
 refine Eve.succ ?_;simp only [spec_l01OK.f,in_spec,Option.bind_some];unfold flat;refine Eve.ite (fun h => ?_) (fun h => ?_)
 ·
  rw [if_pos h]
  exact Eve.ite (fun h => Eve.one.eq (by simp [h])) (fun h => Eve.one.eq (by simp [h]))
 rw [if_neg h];refine Eve.ite (fun h => ?_) (fun h => ?_)
 ·
  rw [if_pos h]
  exact Eve.ite (fun h => Eve.one.eq (by simp [h])) (fun h => Eve.one.eq (by simp [h]))
 rw [if_neg h];refine Eve.ite (fun h => ?_) (fun h => ?_)
 ·
  rw [if_pos h]
  exact Eve.ite (fun h => Eve.one.eq (by simp [h])) (fun h => Eve.one.eq (by simp [h]))
 rw [if_neg h];refine Eve.ite (fun h => ?_) (fun h => ?_)
 ·
  rw [if_pos h]
  exact Eve.ite (fun h => Eve.one.eq (by simp [h])) (fun h => Eve.one.eq (by simp [h]))
 rw [if_neg h];refine Eve.ite (fun h => absurd h h4) (fun _ => ?_);exact Eve.ite (fun h => absurd h h5) (fun _ => Eve.one)
theorem impl_flat (v : IVal) (e : Int) (h4 : v.f0≠4) (h5 : v.f0≠5) : Eve (fun k => impl_isRight.f k v.f0 v.f1 v.f2 e) (flat v):=by
 refine Eve.succ ?_;simp only [impl_isRight.f,impl_isNumber.f,in_impl,Option.bind_some];unfold flat;refine Eve.ite (fun h => ?_) (fun h => ?_)
 ·
  rw [if_pos h]
  exact Eve.one.eq (by rw [h];by_cases h1 : v.f1=0 <;> simp [h1])
 rw [if_neg h];refine Eve.ite (fun h => ?_) (fun h => ?_)
 ·
  rw [if_pos h]
  exact Eve.ite (fun h => Eve.one.eq (by simp [h])) (fun h => Eve.one.eq (by simp [h]))
 rw [if_neg h];refine Eve.ite (fun h => ?_) (fun h => ?_)
 ·
  rw [if_pos h]
  exact Eve.ite (fun h => Eve.one.eq (by simp [h])) (fun h => Eve.one.eq (by simp [h]))
 rw [if_neg h];refine Eve.ite (fun h => ?_) (fun h => ?_)
 ·
  rw [if_pos h]
  exact Eve.ite (fun h => Eve.one.eq (by simp [h])) (fun h => Eve.one.eq (by simp [h]))
 rw [if_neg h];refine Eve.ite (fun h => absurd h h4) (fun _ => ?_);have : (v.f0 == 5)=false:=by simpa using h5
 simp only [this];refine Eve.succ ?_;simp only [impl_isRight.j0,Bool.false_eq_true,if_false];exact Eve.one
theorem spec_j0_true (e : Int) (l : List IVal) : Eve (fun k => spec_l01OK.j0 k e l true) false:=Eve.succ (by simp only [spec_l01OK.j0,if_true];exact Eve.one)
theorem spec_j2_true (e : Int) (l : List IFld) : Eve (fun k => spec_l01OK.j2 k e l true) false:=Eve.succ (by simp only [spec_l01OK.j2,if_true];exact Eve.one)
theorem right_spec : ∀ (d : Nat) (v : IVal),d≤1000→v.f2.size≤1048576→Eve (fun k => spec_l01OK.f k v.f0 v.f1 v.f2 (d : Int)) (rightV d v):=by
 intro d
 induction d with
 | zero =>
  intro v hd hs
  by_cases h4 : v.f0=4
  ·
   have hf : flat v=false:=by unfold flat;rw [if_neg (by omega),if_neg (by omega),if_neg (by omega),if_neg (by omega)]
   show Eve _ (flat v);rw [hf];refine Eve.succ ?_;simp only [spec_l01OK.f,h4];simp only [show ¬ (4 : Int)=0 by omega,show ¬ (4 : Int)=1 by omega,show ¬ (4 : Int)=2 by omega,show ¬ (4 : Int)=3 by omega,if_false,if_true];simp only [spec_l01Items.f];refine Eve.bind (items_spec _ v.f2 [] (Nat.le_refl _) hs (by simp;omega)) ?_;have hj:=spec_j0_true ((0 : Nat) : Int) (toldL [] (itS v.f2.size v.f2)).1;refine Eve.ite (fun _ => ?_) (fun _ => hj);refine Eve.ite (fun _ => ?_) (fun _ => hj);exact Eve.ite (fun _ => hj) (fun _ => hj)
  by_cases h5 : v.f0=5
  ·
   have hf : flat v=false:=by unfold flat;rw [if_neg (by omega),if_neg (by omega),if_neg (by omega),if_neg (by omega)]
   show Eve _ (flat v);rw [hf];refine Eve.succ ?_;simp only [spec_l01OK.f,h5];simp only [show ¬ (5 : Int)=0 by omega,show ¬ (5 : Int)=1 by omega,show ¬ (5 : Int)=2 by omega,show ¬ (5 : Int)=3 by omega,show ¬ (5 : Int)=4 by omega,if_false,if_true];simp only [spec_l01Fields.f];refine Eve.bind (fields_spec _ v.f2 [] (Nat.le_refl _) hs (by simp;omega)) ?_;have hj:=spec_j2_true ((0 : Nat) : Int) (toldF [] (fdS v.f2.size v.f2)).1;refine Eve.ite (fun _ => ?_) (fun _ => hj);refine Eve.ite (fun _ => ?_) (fun _ => hj);exact Eve.ite (fun _ => hj) (fun _ => hj)
  exact spec_flat v _ h4 h5
 | succ d ih =>
  intro v hd hs;have he : (((d + 1 : Nat) : Int) == 0)=false:=by simp;omega
  by_cases h4 : v.f0=4
  ·
   unfold rightV
   rw [if_pos h4];refine Eve.succ ?_;simp only [spec_l01OK.f,h4];simp only [show ¬ (4 : Int)=0 by omega,show ¬ (4 : Int)=1 by omega,show ¬ (4 : Int)=2 by omega,show ¬ (4 : Int)=3 by omega,if_false,if_true];simp only [spec_l01Items.f];refine Eve.bind (items_spec _ v.f2 [] (Nat.le_refl _) hs (by simp;omega)) ?_;have hj:=spec_j0_true ((d + 1 : Nat) : Int) (toldL [] (itS v.f2.size v.f2)).1;refine Eve.ite (fun h1 => ?_) (fun h1 => hj.eq (by simp [h1]))
   cases hi : itS v.f2.size v.f2 with
   | none =>
    rw [hi] at hj;simp only [toldL,Bool.false_eq_true,if_false];exact hj.eq (by simp)
   | some l =>
    rw [hi] at hj;simp only [toldL,if_true,List.nil_append] at hj ⊢;refine Eve.ite (fun h2 => hj.eq ?_) (fun h2 => ?_)
    ·
     have : decide ((v.f2.size : Int)≤300)=false:=by simp;omega
     simp [this]
    obtain ⟨hl1,hl2⟩:=its_size _ _ l hi hs;have hsz : decide ((v.f2.size : Int)≤300)=true:=by simp;omega
    simp only [he];refine Eve.succ ?_;simp only [spec_l01OK.j0,Bool.false_eq_true,if_false]
    have:=ev_loop0 l (fun k (_ : Unit) i => spec_l01OK.l0 k ((d + 1 : Nat) : Int) l i) (fun _ _ r => r.all (rightV d)) (fun _ _ => True) (fun _ _ => by
     simp only [spec_l01OK.l0]
     exact Eve.ite (fun h => absurd h (by omega)) (fun _ => Eve.one)) (fun i hi _ _ ih2 => by
     simp only [spec_l01OK.l0];refine Eve.ite (fun _ => ?_) (fun h => absurd (by omega) h);refine Eve.ite (fun _ => ?_) (fun h => absurd (by omega) h);simp only [rdV l i hi,dn d (by omega),wi (show i≤9223372036854775806 by omega)];refine Eve.bind (ih l[i] (by omega) (hl2 _ (List.getElem_mem hi))) ?_
     exact Eve.ite (fun h => (ih2 () trivial).eq (by rw [List.all_cons,h,Bool.true_and])) (fun h => Eve.one.eq (by rw [List.all_cons,Bool.eq_false_iff.mpr h,Bool.false_and]))) () trivial
    exact this.eq (by simp [h1,hsz])
  by_cases h5 : v.f0=5
  ·
   unfold rightV
   rw [if_neg h4,if_pos h5];refine Eve.succ ?_;simp only [spec_l01OK.f,h5];simp only [show ¬ (5 : Int)=0 by omega,show ¬ (5 : Int)=1 by omega,show ¬ (5 : Int)=2 by omega,show ¬ (5 : Int)=3 by omega,show ¬ (5 : Int)=4 by omega,if_false,if_true];simp only [spec_l01Fields.f];refine Eve.bind (fields_spec _ v.f2 [] (Nat.le_refl _) hs (by simp;omega)) ?_;have hj:=spec_j2_true ((d + 1 : Nat) : Int) (toldF [] (fdS v.f2.size v.f2)).1;refine Eve.ite (fun h1 => ?_) (fun h1 => hj.eq (by simp [h1]))
   cases hi : fdS v.f2.size v.f2 with
   | none =>
    rw [hi] at hj;simp only [toldF,Bool.false_eq_true,if_false];exact hj.eq (by simp)
   | some l =>
    rw [hi] at hj;simp only [toldF,if_true,List.nil_append] at hj ⊢;refine Eve.ite (fun h2 => hj.eq ?_) (fun h2 => ?_)
    ·
     have : decide ((v.f2.size : Int)≤300)=false:=by simp;omega
     simp [this]
    obtain ⟨hl1,hl2⟩:=fds_size _ _ l hi hs;have hsz : decide ((v.f2.size : Int)≤300)=true:=by simp;omega
    simp only [he];refine Eve.succ ?_;simp only [spec_l01OK.j2,Bool.false_eq_true,if_false]
    have:=ev_loop0 l (fun k (_ : Unit) i => spec_l01OK.l1 k ((d + 1 : Nat) : Int) l i) (fun i _ r => nms (if i=0 then none else some (l.getD (i - 1) z68).f0) r && r.all (fun f => rightV d f.f1)) (fun _ _ => True) (fun _ _ => by
     simp only [spec_l01OK.l1]
     exact Eve.ite (fun h => absurd h (by omega)) (fun _ => Eve.one.eq (by simp [nms]))) (fun i hi _ _ ih2 => by
     have hnx:=ih2 () trivial;simp only [Nat.add_one_ne_zero,if_false,Nat.add_sub_cancel,List.getD_eq_getElem?_getD,List.getElem?_eq_getElem hi,Option.getD_some] at hnx;simp only [spec_l01OK.l1];refine Eve.ite (fun _ => ?_) (fun h => absurd (by omega) h);refine Eve.ite (fun _ => ?_) (fun h => absurd (by omega) h);have hm:=hl2 _ (List.getElem_mem hi);simp only [rdF l i hi,dn d (by omega),wi (show i≤9223372036854775806 by omega)];refine Eve.bind (nam_spec _ hm.1) ?_;refine Eve.ite (fun hn => ?_) (fun hn => Eve.one.eq (by simp [nms,hn]));refine Eve.ite (fun h3 => ?_) (fun h3 => ?_)
     ·
      have hw : wrap64 ((i : Int) - 1)=((i - 1 : Nat) : Int):=by rw [w64 (by omega) (by omega)];omega
      simp only [hw];refine Eve.ite (fun _ => ?_) (fun h => absurd (by omega) h);refine Eve.ite (fun _ => ?_) (fun h => absurd (by omega) h);rw [if_neg (by omega),List.getD_eq_getElem?_getD,List.getElem?_eq_getElem (show i - 1<l.length by omega),Option.getD_some];simp only [rdF l (i - 1) (show i - 1<l.length by omega)];refine Eve.ite (fun h6 => ?_) (fun h6 => Eve.one.eq (by simp [nms,h6]));refine Eve.bind (ih l[i].f1 (by omega) hm.2) ?_;exact Eve.ite (fun h => hnx.eq (by simp only [nms,hn,h6,List.all_cons,h,Bool.true_and])) (fun h => Eve.one.eq (by rw [List.all_cons,Bool.eq_false_iff.mpr h,Bool.false_and,Bool.and_false]))
     obtain rfl : i=0:=by omega
     rw [if_pos rfl];refine Eve.bind (ih l[0].f1 (by omega) hm.2) ?_
     exact Eve.ite (fun h => hnx.eq (by simp [nms,hn,h])) (fun h => Eve.one.eq (by simp [h]))) () trivial
    rw [if_pos rfl] at this;exact this.eq (by simp [h1,hsz])
  unfold rightV;rw [if_neg h4,if_neg h5];exact spec_flat v _ h4 h5
theorem Eve.list {α β : Type} (g : Nat→α→Option β) (q : α→β) : ∀ l : List α,(∀ x ∈ l,Eve (fun k => g k x) (q x)) → ∃ K,∀ k,K≤k → ∀ x ∈ l,g k x=some (q x)
 | [],_ => ⟨0,fun _ _ x hx => by simp at hx⟩
 | y :: l,h => by
  obtain ⟨K,hK⟩:=Eve.list g q l (fun x hx => h x (by simp [hx]));obtain ⟨K2,hK2⟩:=h y (by simp);refine ⟨max K K2,fun k hk x hx => ?_⟩;rcases List.mem_cons.1 hx with rfl|hx
  ·
   exact hK2 k (by omega)
  exact hK k (by omega) x hx
theorem cf_tells (l : List IVal) (q : IVal→Bool) (e : Int) (hl : l.length≤4194304) (h : ∀ x ∈ l,Eve (fun k => impl_isRight.f k x.f0 x.f1 x.f2 (wrap64 (e - 1))) (q x)) :
  Eve (fun k => impl_Value_at_isRight_1.f k (impl_isRight.f k) l e) (l.any (fun x => !q x)):=by
 obtain ⟨K,hK⟩:=Eve.list (fun k (x : IVal) => impl_isRight.f k x.f0 x.f1 x.f2 (wrap64 (e - 1))) q l h;refine ⟨max K (l.length + 1),fun k hk => ?_⟩;have hG : ∀ x ∈ l,impl_isRight.f k x.f0 x.f1 x.f2 (wrap64 (e - 1))=some (q x):=hK k (by omega);show impl_Value_at_isRight_1.f k (impl_isRight.f k) l e=_;generalize impl_isRight.f k=G at hG;unfold impl_Value_at_isRight_1.f impl_Value_at_isRight_1_200001.f
 have:=first_loop (fun k i => impl_Value_at_isRight_1_200001.l0 G k l (l.length : Int) i e) l (fun x => !q x) (fun k i hi => by
  have hx:=hG l[i] (List.getElem_mem hi);simp only [impl_Value_at_isRight_1_200001.l0];rw [if_pos (by omega),if_pos (by omega),if_pos (by omega),rdV l i hi,wi (show i≤9223372036854775806 by omega)];unfold impl_isRight_1.f;rw [hx]
  rfl) (fun k => by simp only [impl_Value_at_isRight_1_200001.l0];rw [if_neg (by omega)]) l.length k 0 (by omega) (by omega)
 rw [show ((0 : Nat) : Int)=0 from rfl,List.drop_zero] at this;rw [this];simp only [Option.bind_some,first_any]
theorem any_not (l : List IVal) (q : IVal→Bool) : (!(l.any (fun x => !q x)))=l.all q:=by
 induction l with
 | nil => rfl
 | cons x l ih => simp only [List.any_cons,List.all_cons,← ih];cases q x <;> simp
theorem inner_loop (l : List IFld) (hl : l.length≤1048576) (hn : ∀ f ∈ l,f.f0.size≤1048576) (ok : Bool) : Eve (fun k => impl_inner.l0 k l ok [] l (l.length : Int) 0) (l.map (·.f1),ok && nms none l):=by
 have:=ev_loop0 l (fun k (s : Bool×List IVal) i => impl_inner.l0 k l s.1 s.2 l (l.length : Int) i) (fun i s r => (s.2 ++ r.map (·.f1),s.1 && nms (if i=0 then none else some (l.getD (i - 1) z68).f0) r)) (fun i s => s.2.length=i) (fun s _ => by
  simp only [impl_inner.l0]
  exact Eve.ite (fun h => absurd h (by omega)) (fun _ => Eve.one.eq (by simp [nms]))) (fun i hi s hI ih => by
  obtain ⟨b,out⟩:=s;simp only at hI;have hf:=hn l[i] (List.getElem_mem hi);have hnx:=fun b' => ih (b',out ++ [⟨l[i].f1.f0,l[i].f1.f1,l[i].f1.f2⟩]) (by simp;omega);simp only [Nat.add_one_ne_zero,if_false,Nat.add_sub_cancel,List.getD_eq_getElem?_getD,List.getElem?_eq_getElem hi,Option.getD_some] at hnx;have hout : ∀ r : List IFld,out ++ [(⟨l[i].f1.f0,l[i].f1.f1,l[i].f1.f2⟩ : IVal)] ++ r.map (·.f1)=out ++ (l[i] :: r).map (·.f1):=by intro r;simp
  simp only [impl_inner.l0];refine Eve.ite (fun _ => ?_) (fun h => absurd (by omega) h);refine Eve.ite (fun _ => ?_) (fun h => absurd (by omega) h);refine Eve.ite (fun _ => ?_) (fun h => absurd (by omega) h);simp only [rdF l i hi,wi (show i≤9223372036854775806 by omega)];refine Eve.ite (fun hb => ?_) (fun hb => ?_)
  ·
   refine Eve.bind (nam_impl _ hf) ?_
   refine Eve.ite (fun h1 => ?_) (fun h1 => ?_)
   ·
    refine Eve.ite (fun h2 => ?_) (fun h2 => ?_)
    ·
     obtain rfl : i=0:=by omega
     refine Eve.ite (fun _ => (hnx true).eq ?_) (fun h => absurd (by omega) h);rw [hout,if_pos rfl];simp only [nms,h1,hb,Bool.true_and]
    have hw : wrap64 ((i : Int) - 1)=((i - 1 : Nat) : Int):=by rw [w64 (by omega) (by omega)];omega
    simp only [hw];refine Eve.ite (fun _ => ?_) (fun h => absurd (by omega) h);refine Eve.ite (fun _ => ?_) (fun h => absurd (by omega) h);refine Eve.ite (fun _ => ?_) (fun h => absurd (by omega) h);have hi1 : i - 1<l.length:=by omega
    have hz : ¬ i=0:=by omega
    simp only [rdF l (i - 1) hi1];refine (hnx _).eq ?_;rw [hout,if_neg hz,List.getD_eq_getElem?_getD,List.getElem?_eq_getElem hi1,Option.getD_some];simp only [nms,h1,hb,Bool.true_and]
   refine Eve.ite (fun _ => (hnx false).eq ?_) (fun h => absurd (by omega) h);rw [hout];simp only [nms,Bool.eq_false_iff.mpr h1,Bool.false_and,Bool.and_false]
  refine Eve.ite (fun _ => (hnx false).eq ?_) (fun h => absurd (by omega) h);rw [hout]
  simp only [Bool.eq_false_iff.mpr hb,Bool.false_and]) (ok,[]) rfl
 exact this.eq (by simp)
theorem inner_four (v : IVal) (h4 : v.f0=4) (hs : v.f2.size≤1048576) : ∃ l ok,Eve (fun k => impl_inner.f k v.f0 v.f1 v.f2) (l,ok)∧l.length≤1048576∧(∀ x ∈ l,x.f2.size≤1048576) ∧
  ((itS v.f2.size v.f2=some l∧ok=true)∨(itS v.f2.size v.f2=none∧(ok=false ∨ ∃ x ∈ l,Bad x))):=by
 simp only [impl_inner.f,impl_items.f,if_pos h4]
 cases hi : itS v.f2.size v.f2 with
 | some l =>
  obtain ⟨h1,h2⟩:=its_size _ _ l hi hs;exact ⟨l,true,(Eve.bind (items_some _ v.f2 [] l hi (by simp;omega)) Eve.one),by omega,h2,.inl ⟨rfl,rfl⟩⟩
 | none =>
  obtain ⟨l,ok,hl,hb,h1,h2⟩:=items_none _ v.f2 [] (Nat.le_refl _) hi (by simp;omega);exact ⟨l,ok,(Eve.bind hl Eve.one),by omega,h2,.inr ⟨rfl,hb⟩⟩
theorem inner_five (v : IVal) (h5 : v.f0=5) (hs : v.f2.size≤1048576) : ∃ l ok,Eve (fun k => impl_inner.f k v.f0 v.f1 v.f2) (l,ok)∧l.length≤1048576∧(∀ x ∈ l,x.f2.size≤1048576) ∧
  ((∃ fs,fdS v.f2.size v.f2=some fs∧l=fs.map (·.f1)∧ok=nms none fs)∨(fdS v.f2.size v.f2=none∧(ok=false ∨ ∃ x ∈ l,Bad x))):=by
 have h4 : ¬ v.f0=4:=by omega
 simp only [impl_inner.f,impl_fields.f,if_neg h4]
 cases hi : fdS v.f2.size v.f2 with
 | some fs =>
  obtain ⟨h1,h2⟩:=fds_size _ _ fs hi hs;refine ⟨fs.map (·.f1),nms none fs,?_,by simp;omega,?_,.inl ⟨fs,rfl,rfl,rfl⟩⟩
  ·
   refine Eve.bind (fields_some _ v.f2 [] fs hi (by simp;omega)) ?_
   exact (inner_loop fs (by omega) (fun f hf => (h2 f hf).1) true).eq (by simp)
  intro x hx;obtain ⟨f,hf,rfl⟩:=List.mem_map.1 hx;exact (h2 f hf).2
 | none =>
  obtain ⟨fs,ok,hl,hb,h1,h2⟩:=fields_none _ v.f2 [] (Nat.le_refl _) hi (by simp;omega);refine ⟨fs.map (·.f1),ok && nms none fs,?_,by simp;omega,?_,.inr ⟨rfl,?_⟩⟩
  ·
   refine Eve.bind hl ?_
   exact inner_loop fs (by omega) (fun f hf => (h2 f hf).1) ok
  ·
   intro x hx
   obtain ⟨f,hf,rfl⟩:=List.mem_map.1 hx;exact (h2 f hf).2
  rcases hb with hb|⟨f,hf,hb⟩
  ·
   left;rw [hb];rfl
  right;exact ⟨f.f1,List.mem_map.2 ⟨f,hf,rfl⟩,hb⟩
theorem all_bad (l : List IVal) (q : IVal→Bool) (x : IVal) (hx : x ∈ l) (h : q x=false) : l.all q=false:=by
 rw [List.all_eq_false];exact ⟨x,hx,by simp [h]⟩
theorem nest_tells (v : IVal) (d : Nat) (l : List IVal) (ok : Bool) (hd : d≤1000) (h45 : v.f0=4∨v.f0=5) (hin : Eve (fun k => impl_inner.f k v.f0 v.f1 v.f2) (l,ok)) (hl : l.length≤1048576)
  (hq : ∀ x ∈ l,Eve (fun k => impl_isRight.f k x.f0 x.f1 x.f2 (d : Int)) (rightV d x)) :
  Eve (fun k => impl_isRight.f k v.f0 v.f1 v.f2 ((d + 1 : Nat) : Int)) (decide (v.f1=0) && (decide ((v.f2.size : Int)≤300) && (ok && l.all (rightV d)))):=by
 have hj : Eve (fun k => impl_isRight.j0 k true v.f0 v.f1 v.f2 ((d + 1 : Nat) : Int)) (decide (v.f1=0) && (decide ((v.f2.size : Int)≤300) && (ok && l.all (rightV d)))):=by
  refine Eve.succ ?_;simp only [impl_isRight.j0,if_true];refine Eve.bind hin ?_;refine Eve.ite (fun h1 => ?_) (fun h1 => Eve.one.eq (by simp [h1]));refine Eve.ite (fun h2 => ?_) (fun h2 => Eve.one.eq (by simp [h2]));refine Eve.ite (fun _ => ?_) (fun h => absurd (by omega) h);refine Eve.ite (fun h3 => ?_) (fun h3 => Eve.one.eq (by rw [show ok=false from Bool.eq_false_iff.mpr h3];simp));have hc:=cf_tells l (rightV d) ((d + 1 : Nat) : Int) (by omega) (fun x hx => by rw [dn d hd];exact hq x hx);refine Eve.bind hc (Eve.one.eq ?_);rw [any_not,show ok=true from h3];simp [h1,h2]
 refine Eve.succ ?_;simp only [impl_isRight.f];rcases h45 with h|h
 ·
  simp only [h] at hj ⊢
  simp only [show ¬ (4 : Int)=0 by omega,show ¬ (4 : Int)=1 by omega,show ¬ (4 : Int)=2 by omega,show ¬ (4 : Int)=3 by omega,if_false,if_true,beq_self_eq_true];exact hj
 simp only [h] at hj ⊢;simp only [show ¬ (5 : Int)=0 by omega,show ¬ (5 : Int)=1 by omega,show ¬ (5 : Int)=2 by omega,show ¬ (5 : Int)=3 by omega,show ¬ (5 : Int)=4 by omega,if_false,beq_self_eq_true];exact hj
theorem nest_zero (v : IVal) (l : List IVal) (ok : Bool) (h45 : v.f0=4∨v.f0=5) (hin : Eve (fun k => impl_inner.f k v.f0 v.f1 v.f2) (l,ok)) : Eve (fun k => impl_isRight.f k v.f0 v.f1 v.f2 ((0 : Nat) : Int)) false:=by
 have hj : Eve (fun k => impl_isRight.j0 k true v.f0 v.f1 v.f2 ((0 : Nat) : Int)) false:=by
  refine Eve.succ ?_;simp only [impl_isRight.j0,if_true];refine Eve.bind hin ?_;refine Eve.ite (fun _ => ?_) (fun _ => Eve.one);refine Eve.ite (fun _ => ?_) (fun _ => Eve.one);exact Eve.ite (fun h => absurd h (by omega)) (fun _ => Eve.one)
 refine Eve.succ ?_;simp only [impl_isRight.f];rcases h45 with h|h
 ·
  simp only [h] at hj ⊢
  simp only [show ¬ (4 : Int)=0 by omega,show ¬ (4 : Int)=1 by omega,show ¬ (4 : Int)=2 by omega,show ¬ (4 : Int)=3 by omega,if_false,if_true,beq_self_eq_true];exact hj
 simp only [h] at hj ⊢;simp only [show ¬ (5 : Int)=0 by omega,show ¬ (5 : Int)=1 by omega,show ¬ (5 : Int)=2 by omega,show ¬ (5 : Int)=3 by omega,show ¬ (5 : Int)=4 by omega,if_false,beq_self_eq_true];exact hj
theorem right_impl : ∀ (d : Nat) (v : IVal),d≤1000→v.f2.size≤1048576→Eve (fun k => impl_isRight.f k v.f0 v.f1 v.f2 (d : Int)) (rightV d v):=by
 intro d
 induction d with
 | zero =>
  intro v hd hs
  by_cases h4 : v.f0=4
  ·
   obtain ⟨l,ok,hin,_⟩:=inner_four v h4 hs
   refine (nest_zero v l ok (.inl h4) hin).eq ?_;show false=flat v;unfold flat;rw [if_neg (by omega),if_neg (by omega),if_neg (by omega),if_neg (by omega)]
  by_cases h5 : v.f0=5
  ·
   obtain ⟨l,ok,hin,_⟩:=inner_five v h5 hs
   refine (nest_zero v l ok (.inr h5) hin).eq ?_;show false=flat v;unfold flat;rw [if_neg (by omega),if_neg (by omega),if_neg (by omega),if_neg (by omega)]
  exact impl_flat v _ h4 h5
 | succ d ih =>
  intro v hd hs
  by_cases h4 : v.f0=4
  ·
   obtain ⟨l,ok,hin,hl,hsz,hc⟩:=inner_four v h4 hs
   refine (nest_tells v d l ok (by omega) (.inl h4) hin hl (fun x hx => ih x (by omega) (hsz x hx))).eq ?_;unfold rightV;rw [if_pos h4];rcases hc with ⟨hi,rfl⟩|⟨hi,hb⟩
   ·
    rw [hi];simp
   rw [hi];rcases hb with rfl|⟨x,hx,hb⟩
   ·
    simp
   rw [all_bad l (rightV d) x hx (bad_right x hb d)];simp
  by_cases h5 : v.f0=5
  ·
   obtain ⟨l,ok,hin,hl,hsz,hc⟩:=inner_five v h5 hs
   refine (nest_tells v d l ok (by omega) (.inr h5) hin hl (fun x hx => ih x (by omega) (hsz x hx))).eq ?_;unfold rightV;rw [if_neg h4,if_pos h5];rcases hc with ⟨fs,hi,rfl,rfl⟩|⟨hi,hb⟩
   ·
    rw [hi,List.all_map];rfl
   rw [hi];rcases hb with rfl|⟨x,hx,hb⟩
   ·
    simp
   rw [all_bad l (rightV d) x hx (bad_right x hb d)];simp
  unfold rightV;rw [if_neg h4,if_neg h5];exact impl_flat v _ h4 h5
theorem right_small (d : Nat) (v : IVal) (h : 300<v.f2.size) : rightV d v=false:=by
 have he : emB v.f2=false:=by
  have : ¬ v.f2.toList=([] : List UInt8):=fun e => by have:=(emp _).1 e;omega
  simpa [emB] using this
 have hz : decide ((v.f2.size : Int)≤300)=false:=by simp;omega
 have hf : flat v=false:=by
  unfold flat;rw [he,hz]
  repeat' split
  all_goals simp
 cases d with
 | zero => exact hf
 | succ d =>
  unfold rightV;rw [hz,hf]
  repeat' split
  all_goals simp
theorem ok_impl (v : IVal) (hs : v.f2.size≤1048576) : Eve (fun k => impl_ValueOK.f k v.f0 v.f1 v.f2) (rightV 5 v):=by
 simp only [impl_ValueOK.f];exact Eve.bind (right_impl 5 v (by omega) hs) Eve.one
theorem ok_spec (v : IVal) (hs : v.f2.size≤1048576) : Eve (fun k => spec_ValueOK.f k v.f0 v.f1 v.f2) (rightV 5 v):=by
 simp only [spec_ValueOK.f];refine Eve.ite (fun _ => Eve.bind (right_spec 5 v (by omega) hs) Eve.one) (fun h => Eve.one.eq ?_);rw [right_small 5 v (by omega)]
theorem right_four {d : Nat} {v : IVal} (h : rightV d v=true) (h4 : v.f0=4) : ∃ e l,d=e + 1∧itS v.f2.size v.f2=some l∧l.all (rightV e)=true:=by
 cases d with
 | zero =>
  have : flat v=true:=h;unfold flat at this;rw [if_neg (by omega),if_neg (by omega),if_neg (by omega),if_neg (by omega)] at this
  cases this
 | succ e =>
  unfold rightV at h;rw [if_pos h4] at h
  cases hi : itS v.f2.size v.f2 with
  | none => rw [hi] at h;simp at h
  | some l =>
   rw [hi] at h;simp only [Bool.and_eq_true] at h;exact ⟨e,l,rfl,rfl,h.2.2⟩
theorem right_five {d : Nat} {v : IVal} (h : rightV d v=true) (h5 : v.f0=5) : ∃ e l,d=e + 1∧fdS v.f2.size v.f2=some l∧nms none l=true∧l.all (fun f => rightV e f.f1)=true:=by
 have h4 : ¬ v.f0=4:=by omega
 cases d with
 | zero =>
  have : flat v=true:=h;unfold flat at this;rw [if_neg (by omega),if_neg (by omega),if_neg (by omega),if_neg (by omega)] at this
  cases this
 | succ e =>
  unfold rightV at h;rw [if_neg h4,if_pos h5] at h
  cases hi : fdS v.f2.size v.f2 with
  | none => rw [hi] at h;simp at h
  | some l =>
   rw [hi] at h;simp only [Bool.and_eq_true] at h;exact ⟨e,l,rfl,rfl,h.2.2.1,h.2.2.2⟩
end Go.Proofs.Ytpmeglcmhiihoaa.Pure
end

/- Texts of this claim, merged by a program of this session. -/
import Derived.Test.YtpmeglcmhiihoaaKLawFnExactFieldsOfp22
import Derived.Test.YtpmeglcmhiihoaaKLawFnExactFieldsOfp23
import Derived.Test.YtpmeglcmhiihoaaKLawFnExactFieldsOfp24
import Derived.Test.YtpmeglcmhiihoaaKLawFnExactFieldsOfp0
import Derived.WalkKit
import Derived.ProofKit
import Derived.OpenShut
import Derived.ShutString
import Derived.ChangeOld
import Derived.Below
import Derived.SizedLaws
import Derived.Deep.Slices
import Derived.Lib.SmallJoins
import Derived.Test.YtpmeglcmhiihoaaKLawFnExactFieldsOfp11
import Derived.Test.YtpmeglcmhiihoaaKLawFnExactFieldsOfp12
import Derived.Laws.Entries
section
namespace Go.Proofs.Ytpmeglcmhiihoaa.Q
open Go.RowKit Go.Proofs.YtpmeglcmhiihoaaW.PrintWords Go.Proofs.YtpmeglcmhiihoaaW.PrintLast Go.Proofs.YtpmeglcmhiihoaaW.PrintMore
attribute [local go_sem] max2_int min2_int max_two min_two max_three min_three max_four min_four max2_str min2_str str_geq str_gtr str_leq   -- for this text's walks alone
set_option linter.unusedVariables false
set_option linter.unusedSimpArgs false

attribute [local go_sem high] eqA26
mutual
def impl_isRight.j0 : Nat→Bool→Int→Int→ByteArray→Int→Option (Bool)
 | 0,_,_,_,_,_ => none
 | k + 1,x45,x270000,x270001,x270002,x271000 => if x45=true then ((impl_inner.f k x270000 x270001 x270002).bind fun bt273 => (if x270001=0 then (if (x270002.size : Int)≤300 then (if x271000 > 0 then (if bt273.2=true then ((impl_Value_at_isRight_1.f k (impl_isRight.f k) bt273.1 x271000).bind fun t277 => (some (!t277))) else (some false)) else (some false)) else (some false)) else (some false))) else (some false)
def impl_isRight.f : Nat→Int→Int→ByteArray→Int→Option (Bool)
 | 0,_,_,_,_ => none
 | k + 1,a0_0,a0_1,a0_2,a1 => if a0_0=0 then (some (a0_0 == 0 && (a0_1 == 0 && (a0_2.toList == ([] : List UInt8))))) else (if a0_0=1 then ((impl_inRange.f a0_1 0 1).bind fun t271 => (if t271=true then (some (a0_2.toList == ([] : List UInt8))) else (some false))) else (if a0_0=2 then ((impl_isNumber.f a0_1).bind fun t272 => (if t272=true then (some (a0_2.toList == ([] : List UInt8))) else (some false))) else (if a0_0=3 then (if a0_1=0 then (some (decide ((a0_2.size : Int)≤300))) else (some false)) else (if a0_0=4 then (impl_isRight.j0 k (a0_0 == 4) a0_0 a0_1 a0_2 a1) else (impl_isRight.j0 k (a0_0 == 5) a0_0 a0_1 a0_2 a1)))))
end
theorem impl_isRight.mono_l : ∀ k,(∀ y0 y1 y2 y3,LeO (impl_isRight.f k y0 y1 y2 y3) (impl_isRight.f (k + 1) y0 y1 y2 y3))∧(∀ y0 y1 y2 y3 y4,LeO (impl_isRight.j0 k y0 y1 y2 y3 y4) (impl_isRight.j0 (k + 1) y0 y1 y2 y3 y4))
 | 0 => ⟨fun _ _ _ _ r h => by simp [impl_isRight.f] at h,fun _ _ _ _ _ r h => by simp [impl_isRight.j0] at h⟩
 | k + 1 => by
  obtain ⟨ih0,ih1⟩:=impl_isRight.mono_l k;refine ⟨?_,?_⟩
  ·
   intro y0 y1 y2 y3
   unfold impl_isRight.f
   repeat' first|(with_reducible exact ih0 _ _ _ _)|(with_reducible exact ih1 _ _ _ _ _)|(with_reducible exact impl_inner.mono _ _ _ _)|(with_reducible exact impl_Value_at_isRight_1.mono _ _ ih0 _ _ _)|(with_reducible exact zQ _)|(with_reducible exact zN _)|(with_reducible refine zP ?_ ?_)|(with_reducible refine zO ?_ (fun _ => ?_))|refine zP ?_ ?_|refine zO ?_ (fun _ => ?_)
  intro y0 y1 y2 y3 y4;unfold impl_isRight.j0
  repeat' first|(with_reducible exact ih0 _ _ _ _)|(with_reducible exact ih1 _ _ _ _ _)|(with_reducible exact impl_inner.mono _ _ _ _)|(with_reducible exact impl_Value_at_isRight_1.mono _ _ ih0 _ _ _)|(with_reducible exact zQ _)|(with_reducible exact zN _)|(with_reducible refine zP ?_ ?_)|(with_reducible refine zO ?_ (fun _ => ?_))|refine zP ?_ ?_|refine zO ?_ (fun _ => ?_)
theorem impl_isRight.mono : ∀ a0 a1 a2 a3 k,LeO (impl_isRight.f k a0 a1 a2 a3) (impl_isRight.f (k + 1) a0 a1 a2 a3):=by
 intro a0 a1 a2 a3 k;obtain ⟨ih0,ih1⟩:=impl_isRight.mono_l k;exact ih0 a0 a1 a2 a3
set_option maxHeartbeats 8000000 in
set_option maxRecDepth 100000 in
theorem impl_isRight.calls (k : Nat) : ∀ (a0_0 : Int) (a0_1 : Int) (a0_2 : ByteArray) (a1 : Int) (r : Bool) (w : World) (h : impl_isRight.f k a0_0 a0_1 a0_2 a1=some r),
  Calls Try.prog 54 #[.agg #[.int .i64 a0_0,.int .i64 a0_1,.string a0_2],.int .i64 a1] w fun e w' => e = .returned (.bool r)∧Below w.heap.size w w':=by
 induction k using Nat.strongRecOn with
 | _ k ih =>
 intro a0_0 a0_1 a0_2 a1 r w h
 cases k with
 | zero => exact absurd h (by simp [impl_isRight.f])
 | succ k =>
 simp only [impl_isRight.f] at h;have hu26:=Try.underlying26;have HB:=zh (Below.refl w.heap.size w);have H : (if a0_0=0 then (some (a0_0 == 0 && (a0_1 == 0 && (a0_2.toList == ([] : List UInt8))))) else (if a0_0=1 then ((impl_inRange.f a0_1 0 1).bind fun t271 => (if t271=true then (some (a0_2.toList == ([] : List UInt8))) else (some false))) else (if a0_0=2 then ((impl_isNumber.f a0_1).bind fun t272 => (if t272=true then (some (a0_2.toList == ([] : List UInt8))) else (some false))) else (if a0_0=3 then (if a0_1=0 then (some (decide ((a0_2.size : Int)≤300))) else (some false)) else (if a0_0=4 then (impl_isRight.j0 k (a0_0 == 4) a0_0 a0_1 a0_2 a1) else (impl_isRight.j0 k (a0_0 == 5) a0_0 a0_1 a0_2 a1))))))=some r:=h;clear h
 by_cases c3 : a0_0=0
 ·
  rw [if_pos c3] at H
  have c3b0 : (a0_0 == 0)=true:=ya.mpr c3;have c3b1 : (a0_0 != 0)=false:=zX.mpr c3;clear c3;obtain rfl:=zU H
  go_enter Try.func54,Try.ntmps54
  go_wp2_with (first|((with_reducible refine zK (N:=2) rfl ?_);(try (refine yz (by rfl) ?_;dsimp only));refine zI ?hg (N:=2) ?hd (cs:=#[.int .i64 a0_0,.int .i64 a0_1,.string a0_2]) (t:=26) ?hr ?_;(case hd => rfl);(case hg => rfl);(case hr => first|(go_simp;done)|(go_simp;rfl));intro gb269 hg w4 hbox hb;have BK269:=zh (hbox);have GW269:=zh ((by rw [hg];exact (zB (by repeat (with_reducible first|exact HB.out|apply za|apply zb|apply zc))) : w.heap.size≤gb269));have GE269:=zh ((by rw [hg];exact (zB (by repeat (with_reducible first|exact HB.out|apply za|apply zb|apply zc))) : w.heap.size≤gb269));replace HB:=zh (zC (by repeat (with_reducible first|exact HB.out|apply za|apply zb|apply zc)) hb);clear hb hbox hg)|((with_reducible refine zK (N:=3) rfl ?_);(try (refine yz (by rfl) ?_;dsimp only));refine zI ?hg (N:=3) ?hd (cs:=#[.int .i64 a1]) (t:=3) ?hr ?_;(case hd => rfl);(case hg => rfl);(case hr => first|(go_simp;done)|(go_simp;rfl));intro gb270 hg w5 hbox hb;have BK270:=zh (hbox);have GW270:=zh ((by rw [hg];exact (zB (by repeat (with_reducible first|exact HB.out|apply za|apply zb|apply zc|refine zd ?_ GE269.out))) : w.heap.size≤gb270));have GE270:=zh ((by rw [hg];exact (zB (by repeat (with_reducible first|exact HB.out|apply za|apply zb|apply zc|refine zd ?_ GE269.out))) : w.heap.size≤gb270));replace HB:=zh (zC (by repeat (with_reducible first|exact HB.out|apply za|apply zb|apply zc|refine zd ?_ GE269.out)) hb);have NB269_270:=zh ((by rw [hg];exact yc (yi (g:=gb269) (o:=.cells #[.int .i64 a0_0,.int .i64 a0_1,.string a0_2] 26 (0,0)) (by (with_reducible repeat (first|refine ze ?_ _|refine zf ?_|refine zg ?_ _));exact BK269.out)) : gb269≠gb270));have NB270_269:=zh ((by rw [hg];exact yd (yi (g:=gb269) (o:=.cells #[.int .i64 a0_0,.int .i64 a0_1,.string a0_2] 26 (0,0)) (by (with_reducible repeat (first|refine ze ?_ _|refine zf ?_|refine zg ?_ _));exact BK269.out)) : gb270≠gb269));replace BK269:=zh (zD (g:=gb269) (o:=.cells #[.int .i64 a0_0,.int .i64 a0_1,.string a0_2] 26 (0,0)) (by (with_reducible repeat (first|refine ze ?_ _|refine zf ?_|refine zg ?_ _));exact BK269.out) hb);clear hb hbox hg;have hnb6:=NB269_270.out;have hnc6:=NB270_269.out;have hcz7_0 : w5.cell? ⟨gb269,0,none⟩=some (.int .i64 a0_0):=(zz BK269.out 0).trans rfl;have hcz7_1 : w5.cell? ⟨gb269,1,none⟩=some (.int .i64 a0_1):=(zz BK269.out 1).trans rfl;have hcz7_2 : w5.cell? ⟨gb269,2,none⟩=some (.string a0_2):=(zz BK269.out 2).trans rfl;have hfz7_0:=zA BK269.out 0;have hfz7_1:=zA BK269.out 1;have hfz7_2:=zA BK269.out 2))
  go_ret
  exact ⟨by first|rfl|(simp [yt,yu] <;> rfl)|(simp [*,yt,yu] <;> rfl),by repeat (with_reducible first|exact HB.out|apply za|apply zb|apply zc|refine zd ?_ GE269.out|refine zd ?_ GE270.out)⟩
 rw [if_neg c3] at H;have c3b0 : (a0_0 == 0)=false:=zY.mpr c3;have c3b1 : (a0_0 != 0)=true:=zZ.mpr c3
 by_cases c8 : a0_0=1
 ·
  rw [if_pos c8] at H
  have c8b0 : (a0_0 == 1)=true:=ya.mpr c8;have c8b1 : (a0_0 != 1)=false:=zX.mpr c8;clear c8;replace H:=zT.mp H;obtain ⟨t271,A90,H⟩:=H;replace H : (if t271=true then (some (a0_2.toList == ([] : List UInt8))) else (some false))=some r:=H;have A9:=zh A90;clear A90
  by_cases c10 : t271=true
  ·
   subst c10
   have H1 : (some (a0_2.toList == ([] : List UInt8)))=some r:=by rw [if_pos rfl] at H;exact H
   clear H;have H:=H1;clear H1;obtain rfl:=zU H
   go_enter Try.func54,Try.ntmps54
   go_wp2_with (first|((with_reducible refine zK (N:=2) rfl ?_);(try (refine yz (by rfl) ?_;dsimp only));refine zI ?hg (N:=2) ?hd (cs:=#[.int .i64 a0_0,.int .i64 a0_1,.string a0_2]) (t:=26) ?hr ?_;(case hd => rfl);(case hg => rfl);(case hr => first|(go_simp;done)|(go_simp;rfl));intro gb269 hg w11 hbox hb;have BK269:=zh (hbox);have GW269:=zh ((by rw [hg];exact (zB (by repeat (with_reducible first|exact HB.out|apply za|apply zb|apply zc))) : w.heap.size≤gb269));have GE269:=zh ((by rw [hg];exact (zB (by repeat (with_reducible first|exact HB.out|apply za|apply zb|apply zc))) : w.heap.size≤gb269));replace HB:=zh (zC (by repeat (with_reducible first|exact HB.out|apply za|apply zb|apply zc)) hb);clear hb hbox hg)|((with_reducible refine zK (N:=3) rfl ?_);(try (refine yz (by rfl) ?_;dsimp only));refine zI ?hg (N:=3) ?hd (cs:=#[.int .i64 a1]) (t:=3) ?hr ?_;(case hd => rfl);(case hg => rfl);(case hr => first|(go_simp;done)|(go_simp;rfl));intro gb270 hg w12 hbox hb;have BK270:=zh (hbox);have GW270:=zh ((by rw [hg];exact (zB (by repeat (with_reducible first|exact HB.out|apply za|apply zb|apply zc|refine zd ?_ GE269.out))) : w.heap.size≤gb270));have GE270:=zh ((by rw [hg];exact (zB (by repeat (with_reducible first|exact HB.out|apply za|apply zb|apply zc|refine zd ?_ GE269.out))) : w.heap.size≤gb270));replace HB:=zh (zC (by repeat (with_reducible first|exact HB.out|apply za|apply zb|apply zc|refine zd ?_ GE269.out)) hb);have NB269_270:=zh ((by rw [hg];exact yc (yi (g:=gb269) (o:=.cells #[.int .i64 a0_0,.int .i64 a0_1,.string a0_2] 26 (0,0)) (by (with_reducible repeat (first|refine ze ?_ _|refine zf ?_|refine zg ?_ _));exact BK269.out)) : gb269≠gb270));have NB270_269:=zh ((by rw [hg];exact yd (yi (g:=gb269) (o:=.cells #[.int .i64 a0_0,.int .i64 a0_1,.string a0_2] 26 (0,0)) (by (with_reducible repeat (first|refine ze ?_ _|refine zf ?_|refine zg ?_ _));exact BK269.out)) : gb270≠gb269));replace BK269:=zh (zD (g:=gb269) (o:=.cells #[.int .i64 a0_0,.int .i64 a0_1,.string a0_2] 26 (0,0)) (by (with_reducible repeat (first|refine ze ?_ _|refine zf ?_|refine zg ?_ _));exact BK269.out) hb);clear hb hbox hg;have hnb13:=NB269_270.out;have hnc13:=NB270_269.out;have hcz14_0 : w12.cell? ⟨gb269,0,none⟩=some (.int .i64 a0_0):=(zz BK269.out 0).trans rfl;have hcz14_1 : w12.cell? ⟨gb269,1,none⟩=some (.int .i64 a0_1):=(zz BK269.out 1).trans rfl;have hcz14_2 : w12.cell? ⟨gb269,2,none⟩=some (.string a0_2):=(zz BK269.out 2).trans rfl;have hfz14_0:=zA BK269.out 0;have hfz14_1:=zA BK269.out 1;have hfz14_2:=zA BK269.out 2)|((with_reducible refine zJ (f:=85) rfl ?_);refine yj (some 18) rfl rfl Try.func85 (by kernel_rfl) rfl #[.int .i64 a0_1,.int .i64 0,.int .i64 1] rfl (by (try simp only [zt,zu,zv]);first|done|rfl|(simp only [zw,zx];rfl)|(simp only [yr,ys,zV,zW];rfl)) ?_;(with_reducible refine (impl_inRange.calls  a0_1 0 1 true _ A9.out).mono ?_);rintro e w' ⟨rfl,⟨nd,rfl⟩⟩;refine ⟨_,rfl,?_⟩))
   go_ret
   exact ⟨by first|rfl|(simp [yt,yu] <;> rfl)|(simp [*,yt,yu] <;> rfl),by repeat (with_reducible first|exact HB.out|apply za|apply zb|apply zc|refine zd ?_ GE269.out|refine zd ?_ GE270.out)⟩
  replace c10:=yb.mpr c10;subst c10;have H1 : (some false)=some r:=by rw [if_neg (show ¬ (false=true) by decide)] at H;exact H
  clear H;have H:=H1;clear H1;obtain rfl:=zU H
  go_enter Try.func54,Try.ntmps54
  go_wp2_with (first|((with_reducible refine zK (N:=2) rfl ?_);(try (refine yz (by rfl) ?_;dsimp only));refine zI ?hg (N:=2) ?hd (cs:=#[.int .i64 a0_0,.int .i64 a0_1,.string a0_2]) (t:=26) ?hr ?_;(case hd => rfl);(case hg => rfl);(case hr => first|(go_simp;done)|(go_simp;rfl));intro gb269 hg w15 hbox hb;have BK269:=zh (hbox);have GW269:=zh ((by rw [hg];exact (zB (by repeat (with_reducible first|exact HB.out|apply za|apply zb|apply zc))) : w.heap.size≤gb269));have GE269:=zh ((by rw [hg];exact (zB (by repeat (with_reducible first|exact HB.out|apply za|apply zb|apply zc))) : w.heap.size≤gb269));replace HB:=zh (zC (by repeat (with_reducible first|exact HB.out|apply za|apply zb|apply zc)) hb);clear hb hbox hg)|((with_reducible refine zK (N:=3) rfl ?_);(try (refine yz (by rfl) ?_;dsimp only));refine zI ?hg (N:=3) ?hd (cs:=#[.int .i64 a1]) (t:=3) ?hr ?_;(case hd => rfl);(case hg => rfl);(case hr => first|(go_simp;done)|(go_simp;rfl));intro gb270 hg w16 hbox hb;have BK270:=zh (hbox);have GW270:=zh ((by rw [hg];exact (zB (by repeat (with_reducible first|exact HB.out|apply za|apply zb|apply zc|refine zd ?_ GE269.out))) : w.heap.size≤gb270));have GE270:=zh ((by rw [hg];exact (zB (by repeat (with_reducible first|exact HB.out|apply za|apply zb|apply zc|refine zd ?_ GE269.out))) : w.heap.size≤gb270));replace HB:=zh (zC (by repeat (with_reducible first|exact HB.out|apply za|apply zb|apply zc|refine zd ?_ GE269.out)) hb);have NB269_270:=zh ((by rw [hg];exact yc (yi (g:=gb269) (o:=.cells #[.int .i64 a0_0,.int .i64 a0_1,.string a0_2] 26 (0,0)) (by (with_reducible repeat (first|refine ze ?_ _|refine zf ?_|refine zg ?_ _));exact BK269.out)) : gb269≠gb270));have NB270_269:=zh ((by rw [hg];exact yd (yi (g:=gb269) (o:=.cells #[.int .i64 a0_0,.int .i64 a0_1,.string a0_2] 26 (0,0)) (by (with_reducible repeat (first|refine ze ?_ _|refine zf ?_|refine zg ?_ _));exact BK269.out)) : gb270≠gb269));replace BK269:=zh (zD (g:=gb269) (o:=.cells #[.int .i64 a0_0,.int .i64 a0_1,.string a0_2] 26 (0,0)) (by (with_reducible repeat (first|refine ze ?_ _|refine zf ?_|refine zg ?_ _));exact BK269.out) hb);clear hb hbox hg;have hnb17:=NB269_270.out;have hnc17:=NB270_269.out;have hcz18_0 : w16.cell? ⟨gb269,0,none⟩=some (.int .i64 a0_0):=(zz BK269.out 0).trans rfl;have hcz18_1 : w16.cell? ⟨gb269,1,none⟩=some (.int .i64 a0_1):=(zz BK269.out 1).trans rfl;have hcz18_2 : w16.cell? ⟨gb269,2,none⟩=some (.string a0_2):=(zz BK269.out 2).trans rfl;have hfz18_0:=zA BK269.out 0;have hfz18_1:=zA BK269.out 1;have hfz18_2:=zA BK269.out 2)|((with_reducible refine zJ (f:=85) rfl ?_);refine yj (some 18) rfl rfl Try.func85 (by kernel_rfl) rfl #[.int .i64 a0_1,.int .i64 0,.int .i64 1] rfl (by (try simp only [zt,zu,zv]);first|done|rfl|(simp only [zw,zx];rfl)|(simp only [yr,ys,zV,zW];rfl)) ?_;(with_reducible refine (impl_inRange.calls  a0_1 0 1 false _ A9.out).mono ?_);rintro e w' ⟨rfl,⟨nd,rfl⟩⟩;refine ⟨_,rfl,?_⟩))
  go_ret
  exact ⟨by first|rfl|(simp [yt,yu] <;> rfl)|(simp [*,yt,yu] <;> rfl),by repeat (with_reducible first|exact HB.out|apply za|apply zb|apply zc|refine zd ?_ GE269.out|refine zd ?_ GE270.out)⟩
 rw [if_neg c8] at H;have c8b0 : (a0_0 == 1)=false:=zY.mpr c8;have c8b1 : (a0_0 != 1)=true:=zZ.mpr c8
 by_cases c19 : a0_0=2
 ·
  rw [if_pos c19] at H
  have c19b0 : (a0_0 == 2)=true:=ya.mpr c19;have c19b1 : (a0_0 != 2)=false:=zX.mpr c19;clear c19;replace H:=zT.mp H;obtain ⟨t272,A200,H⟩:=H;replace H : (if t272=true then (some (a0_2.toList == ([] : List UInt8))) else (some false))=some r:=H;have A20:=zh A200;clear A200
  by_cases c21 : t272=true
  ·
   subst c21
   have H1 : (some (a0_2.toList == ([] : List UInt8)))=some r:=by rw [if_pos rfl] at H;exact H
   clear H;have H:=H1;clear H1;obtain rfl:=zU H
   go_enter Try.func54,Try.ntmps54
   go_wp2_with (first|((with_reducible refine zK (N:=2) rfl ?_);(try (refine yz (by rfl) ?_;dsimp only));refine zI ?hg (N:=2) ?hd (cs:=#[.int .i64 a0_0,.int .i64 a0_1,.string a0_2]) (t:=26) ?hr ?_;(case hd => rfl);(case hg => rfl);(case hr => first|(go_simp;done)|(go_simp;rfl));intro gb269 hg w22 hbox hb;have BK269:=zh (hbox);have GW269:=zh ((by rw [hg];exact (zB (by repeat (with_reducible first|exact HB.out|apply za|apply zb|apply zc))) : w.heap.size≤gb269));have GE269:=zh ((by rw [hg];exact (zB (by repeat (with_reducible first|exact HB.out|apply za|apply zb|apply zc))) : w.heap.size≤gb269));replace HB:=zh (zC (by repeat (with_reducible first|exact HB.out|apply za|apply zb|apply zc)) hb);clear hb hbox hg)|((with_reducible refine zK (N:=3) rfl ?_);(try (refine yz (by rfl) ?_;dsimp only));refine zI ?hg (N:=3) ?hd (cs:=#[.int .i64 a1]) (t:=3) ?hr ?_;(case hd => rfl);(case hg => rfl);(case hr => first|(go_simp;done)|(go_simp;rfl));intro gb270 hg w23 hbox hb;have BK270:=zh (hbox);have GW270:=zh ((by rw [hg];exact (zB (by repeat (with_reducible first|exact HB.out|apply za|apply zb|apply zc|refine zd ?_ GE269.out))) : w.heap.size≤gb270));have GE270:=zh ((by rw [hg];exact (zB (by repeat (with_reducible first|exact HB.out|apply za|apply zb|apply zc|refine zd ?_ GE269.out))) : w.heap.size≤gb270));replace HB:=zh (zC (by repeat (with_reducible first|exact HB.out|apply za|apply zb|apply zc|refine zd ?_ GE269.out)) hb);have NB269_270:=zh ((by rw [hg];exact yc (yi (g:=gb269) (o:=.cells #[.int .i64 a0_0,.int .i64 a0_1,.string a0_2] 26 (0,0)) (by (with_reducible repeat (first|refine ze ?_ _|refine zf ?_|refine zg ?_ _));exact BK269.out)) : gb269≠gb270));have NB270_269:=zh ((by rw [hg];exact yd (yi (g:=gb269) (o:=.cells #[.int .i64 a0_0,.int .i64 a0_1,.string a0_2] 26 (0,0)) (by (with_reducible repeat (first|refine ze ?_ _|refine zf ?_|refine zg ?_ _));exact BK269.out)) : gb270≠gb269));replace BK269:=zh (zD (g:=gb269) (o:=.cells #[.int .i64 a0_0,.int .i64 a0_1,.string a0_2] 26 (0,0)) (by (with_reducible repeat (first|refine ze ?_ _|refine zf ?_|refine zg ?_ _));exact BK269.out) hb);clear hb hbox hg;have hnb24:=NB269_270.out;have hnc24:=NB270_269.out;have hcz25_0 : w23.cell? ⟨gb269,0,none⟩=some (.int .i64 a0_0):=(zz BK269.out 0).trans rfl;have hcz25_1 : w23.cell? ⟨gb269,1,none⟩=some (.int .i64 a0_1):=(zz BK269.out 1).trans rfl;have hcz25_2 : w23.cell? ⟨gb269,2,none⟩=some (.string a0_2):=(zz BK269.out 2).trans rfl;have hfz25_0:=zA BK269.out 0;have hfz25_1:=zA BK269.out 1;have hfz25_2:=zA BK269.out 2)|((with_reducible refine zJ (f:=86) rfl ?_);refine yj (some 28) rfl rfl Try.func86 (by kernel_rfl) rfl #[.int .i64 a0_1] rfl (by (try simp only [zt,zu,zv]);first|done|rfl|(simp only [zw,zx];rfl)|(simp only [yr,ys,zV,zW];rfl)) ?_;(with_reducible refine (impl_isNumber.calls  a0_1 true _ A20.out).mono ?_);rintro e w' ⟨rfl,⟨nd,rfl⟩⟩;refine ⟨_,rfl,?_⟩))
   go_ret
   exact ⟨by first|rfl|(simp [yt,yu] <;> rfl)|(simp [*,yt,yu] <;> rfl),by repeat (with_reducible first|exact HB.out|apply za|apply zb|apply zc|refine zd ?_ GE269.out|refine zd ?_ GE270.out)⟩
  replace c21:=yb.mpr c21;subst c21;have H1 : (some false)=some r:=by rw [if_neg (show ¬ (false=true) by decide)] at H;exact H
  clear H;have H:=H1;clear H1;obtain rfl:=zU H
  go_enter Try.func54,Try.ntmps54
  go_wp2_with (first|((with_reducible refine zK (N:=2) rfl ?_);(try (refine yz (by rfl) ?_;dsimp only));refine zI ?hg (N:=2) ?hd (cs:=#[.int .i64 a0_0,.int .i64 a0_1,.string a0_2]) (t:=26) ?hr ?_;(case hd => rfl);(case hg => rfl);(case hr => first|(go_simp;done)|(go_simp;rfl));intro gb269 hg w26 hbox hb;have BK269:=zh (hbox);have GW269:=zh ((by rw [hg];exact (zB (by repeat (with_reducible first|exact HB.out|apply za|apply zb|apply zc))) : w.heap.size≤gb269));have GE269:=zh ((by rw [hg];exact (zB (by repeat (with_reducible first|exact HB.out|apply za|apply zb|apply zc))) : w.heap.size≤gb269));replace HB:=zh (zC (by repeat (with_reducible first|exact HB.out|apply za|apply zb|apply zc)) hb);clear hb hbox hg)|((with_reducible refine zK (N:=3) rfl ?_);(try (refine yz (by rfl) ?_;dsimp only));refine zI ?hg (N:=3) ?hd (cs:=#[.int .i64 a1]) (t:=3) ?hr ?_;(case hd => rfl);(case hg => rfl);(case hr => first|(go_simp;done)|(go_simp;rfl));intro gb270 hg w27 hbox hb;have BK270:=zh (hbox);have GW270:=zh ((by rw [hg];exact (zB (by repeat (with_reducible first|exact HB.out|apply za|apply zb|apply zc|refine zd ?_ GE269.out))) : w.heap.size≤gb270));have GE270:=zh ((by rw [hg];exact (zB (by repeat (with_reducible first|exact HB.out|apply za|apply zb|apply zc|refine zd ?_ GE269.out))) : w.heap.size≤gb270));replace HB:=zh (zC (by repeat (with_reducible first|exact HB.out|apply za|apply zb|apply zc|refine zd ?_ GE269.out)) hb);have NB269_270:=zh ((by rw [hg];exact yc (yi (g:=gb269) (o:=.cells #[.int .i64 a0_0,.int .i64 a0_1,.string a0_2] 26 (0,0)) (by (with_reducible repeat (first|refine ze ?_ _|refine zf ?_|refine zg ?_ _));exact BK269.out)) : gb269≠gb270));have NB270_269:=zh ((by rw [hg];exact yd (yi (g:=gb269) (o:=.cells #[.int .i64 a0_0,.int .i64 a0_1,.string a0_2] 26 (0,0)) (by (with_reducible repeat (first|refine ze ?_ _|refine zf ?_|refine zg ?_ _));exact BK269.out)) : gb270≠gb269));replace BK269:=zh (zD (g:=gb269) (o:=.cells #[.int .i64 a0_0,.int .i64 a0_1,.string a0_2] 26 (0,0)) (by (with_reducible repeat (first|refine ze ?_ _|refine zf ?_|refine zg ?_ _));exact BK269.out) hb);clear hb hbox hg;have hnb28:=NB269_270.out;have hnc28:=NB270_269.out;have hcz29_0 : w27.cell? ⟨gb269,0,none⟩=some (.int .i64 a0_0):=(zz BK269.out 0).trans rfl;have hcz29_1 : w27.cell? ⟨gb269,1,none⟩=some (.int .i64 a0_1):=(zz BK269.out 1).trans rfl;have hcz29_2 : w27.cell? ⟨gb269,2,none⟩=some (.string a0_2):=(zz BK269.out 2).trans rfl;have hfz29_0:=zA BK269.out 0;have hfz29_1:=zA BK269.out 1;have hfz29_2:=zA BK269.out 2)|((with_reducible refine zJ (f:=86) rfl ?_);refine yj (some 28) rfl rfl Try.func86 (by kernel_rfl) rfl #[.int .i64 a0_1] rfl (by (try simp only [zt,zu,zv]);first|done|rfl|(simp only [zw,zx];rfl)|(simp only [yr,ys,zV,zW];rfl)) ?_;(with_reducible refine (impl_isNumber.calls  a0_1 false _ A20.out).mono ?_);rintro e w' ⟨rfl,⟨nd,rfl⟩⟩;refine ⟨_,rfl,?_⟩))
  go_ret
  exact ⟨by first|rfl|(simp [yt,yu] <;> rfl)|(simp [*,yt,yu] <;> rfl),by repeat (with_reducible first|exact HB.out|apply za|apply zb|apply zc|refine zd ?_ GE269.out|refine zd ?_ GE270.out)⟩
 rw [if_neg c19] at H;have c19b0 : (a0_0 == 2)=false:=zY.mpr c19;have c19b1 : (a0_0 != 2)=true:=zZ.mpr c19
 by_cases c30 : a0_0=3
 ·
  rw [if_pos c30] at H
  have c30b0 : (a0_0 == 3)=true:=ya.mpr c30;have c30b1 : (a0_0 != 3)=false:=zX.mpr c30;clear c30
  by_cases c31 : a0_1=0
  ·
   rw [if_pos c31] at H
   have c31b0 : (a0_1 == 0)=true:=ya.mpr c31;have c31b1 : (a0_1 != 0)=false:=zX.mpr c31;clear c31;obtain rfl:=zU H
   go_enter Try.func54,Try.ntmps54
   go_wp2_with (first|((with_reducible refine zK (N:=2) rfl ?_);(try (refine yz (by rfl) ?_;dsimp only));refine zI ?hg (N:=2) ?hd (cs:=#[.int .i64 a0_0,.int .i64 a0_1,.string a0_2]) (t:=26) ?hr ?_;(case hd => rfl);(case hg => rfl);(case hr => first|(go_simp;done)|(go_simp;rfl));intro gb269 hg w32 hbox hb;have BK269:=zh (hbox);have GW269:=zh ((by rw [hg];exact (zB (by repeat (with_reducible first|exact HB.out|apply za|apply zb|apply zc))) : w.heap.size≤gb269));have GE269:=zh ((by rw [hg];exact (zB (by repeat (with_reducible first|exact HB.out|apply za|apply zb|apply zc))) : w.heap.size≤gb269));replace HB:=zh (zC (by repeat (with_reducible first|exact HB.out|apply za|apply zb|apply zc)) hb);clear hb hbox hg)|((with_reducible refine zK (N:=3) rfl ?_);(try (refine yz (by rfl) ?_;dsimp only));refine zI ?hg (N:=3) ?hd (cs:=#[.int .i64 a1]) (t:=3) ?hr ?_;(case hd => rfl);(case hg => rfl);(case hr => first|(go_simp;done)|(go_simp;rfl));intro gb270 hg w33 hbox hb;have BK270:=zh (hbox);have GW270:=zh ((by rw [hg];exact (zB (by repeat (with_reducible first|exact HB.out|apply za|apply zb|apply zc|refine zd ?_ GE269.out))) : w.heap.size≤gb270));have GE270:=zh ((by rw [hg];exact (zB (by repeat (with_reducible first|exact HB.out|apply za|apply zb|apply zc|refine zd ?_ GE269.out))) : w.heap.size≤gb270));replace HB:=zh (zC (by repeat (with_reducible first|exact HB.out|apply za|apply zb|apply zc|refine zd ?_ GE269.out)) hb);have NB269_270:=zh ((by rw [hg];exact yc (yi (g:=gb269) (o:=.cells #[.int .i64 a0_0,.int .i64 a0_1,.string a0_2] 26 (0,0)) (by (with_reducible repeat (first|refine ze ?_ _|refine zf ?_|refine zg ?_ _));exact BK269.out)) : gb269≠gb270));have NB270_269:=zh ((by rw [hg];exact yd (yi (g:=gb269) (o:=.cells #[.int .i64 a0_0,.int .i64 a0_1,.string a0_2] 26 (0,0)) (by (with_reducible repeat (first|refine ze ?_ _|refine zf ?_|refine zg ?_ _));exact BK269.out)) : gb270≠gb269));replace BK269:=zh (zD (g:=gb269) (o:=.cells #[.int .i64 a0_0,.int .i64 a0_1,.string a0_2] 26 (0,0)) (by (with_reducible repeat (first|refine ze ?_ _|refine zf ?_|refine zg ?_ _));exact BK269.out) hb);clear hb hbox hg;have hnb34:=NB269_270.out;have hnc34:=NB270_269.out;have hcz35_0 : w33.cell? ⟨gb269,0,none⟩=some (.int .i64 a0_0):=(zz BK269.out 0).trans rfl;have hcz35_1 : w33.cell? ⟨gb269,1,none⟩=some (.int .i64 a0_1):=(zz BK269.out 1).trans rfl;have hcz35_2 : w33.cell? ⟨gb269,2,none⟩=some (.string a0_2):=(zz BK269.out 2).trans rfl;have hfz35_0:=zA BK269.out 0;have hfz35_1:=zA BK269.out 1;have hfz35_2:=zA BK269.out 2))
   go_ret
   exact ⟨by first|rfl|(simp [yt,yu] <;> rfl)|(simp [*,yt,yu] <;> rfl),by repeat (with_reducible first|exact HB.out|apply za|apply zb|apply zc|refine zd ?_ GE269.out|refine zd ?_ GE270.out)⟩
  rw [if_neg c31] at H;have c31b0 : (a0_1 == 0)=false:=zY.mpr c31;have c31b1 : (a0_1 != 0)=true:=zZ.mpr c31;obtain rfl:=zU H
  go_enter Try.func54,Try.ntmps54
  go_wp2_with (first|((with_reducible refine zK (N:=2) rfl ?_);(try (refine yz (by rfl) ?_;dsimp only));refine zI ?hg (N:=2) ?hd (cs:=#[.int .i64 a0_0,.int .i64 a0_1,.string a0_2]) (t:=26) ?hr ?_;(case hd => rfl);(case hg => rfl);(case hr => first|(go_simp;done)|(go_simp;rfl));intro gb269 hg w36 hbox hb;have BK269:=zh (hbox);have GW269:=zh ((by rw [hg];exact (zB (by repeat (with_reducible first|exact HB.out|apply za|apply zb|apply zc))) : w.heap.size≤gb269));have GE269:=zh ((by rw [hg];exact (zB (by repeat (with_reducible first|exact HB.out|apply za|apply zb|apply zc))) : w.heap.size≤gb269));replace HB:=zh (zC (by repeat (with_reducible first|exact HB.out|apply za|apply zb|apply zc)) hb);clear hb hbox hg)|((with_reducible refine zK (N:=3) rfl ?_);(try (refine yz (by rfl) ?_;dsimp only));refine zI ?hg (N:=3) ?hd (cs:=#[.int .i64 a1]) (t:=3) ?hr ?_;(case hd => rfl);(case hg => rfl);(case hr => first|(go_simp;done)|(go_simp;rfl));intro gb270 hg w37 hbox hb;have BK270:=zh (hbox);have GW270:=zh ((by rw [hg];exact (zB (by repeat (with_reducible first|exact HB.out|apply za|apply zb|apply zc|refine zd ?_ GE269.out))) : w.heap.size≤gb270));have GE270:=zh ((by rw [hg];exact (zB (by repeat (with_reducible first|exact HB.out|apply za|apply zb|apply zc|refine zd ?_ GE269.out))) : w.heap.size≤gb270));replace HB:=zh (zC (by repeat (with_reducible first|exact HB.out|apply za|apply zb|apply zc|refine zd ?_ GE269.out)) hb);have NB269_270:=zh ((by rw [hg];exact yc (yi (g:=gb269) (o:=.cells #[.int .i64 a0_0,.int .i64 a0_1,.string a0_2] 26 (0,0)) (by (with_reducible repeat (first|refine ze ?_ _|refine zf ?_|refine zg ?_ _));exact BK269.out)) : gb269≠gb270));have NB270_269:=zh ((by rw [hg];exact yd (yi (g:=gb269) (o:=.cells #[.int .i64 a0_0,.int .i64 a0_1,.string a0_2] 26 (0,0)) (by (with_reducible repeat (first|refine ze ?_ _|refine zf ?_|refine zg ?_ _));exact BK269.out)) : gb270≠gb269));replace BK269:=zh (zD (g:=gb269) (o:=.cells #[.int .i64 a0_0,.int .i64 a0_1,.string a0_2] 26 (0,0)) (by (with_reducible repeat (first|refine ze ?_ _|refine zf ?_|refine zg ?_ _));exact BK269.out) hb);clear hb hbox hg;have hnb38:=NB269_270.out;have hnc38:=NB270_269.out;have hcz39_0 : w37.cell? ⟨gb269,0,none⟩=some (.int .i64 a0_0):=(zz BK269.out 0).trans rfl;have hcz39_1 : w37.cell? ⟨gb269,1,none⟩=some (.int .i64 a0_1):=(zz BK269.out 1).trans rfl;have hcz39_2 : w37.cell? ⟨gb269,2,none⟩=some (.string a0_2):=(zz BK269.out 2).trans rfl;have hfz39_0:=zA BK269.out 0;have hfz39_1:=zA BK269.out 1;have hfz39_2:=zA BK269.out 2))
  go_ret
  exact ⟨by first|rfl|(simp [yt,yu] <;> rfl)|(simp [*,yt,yu] <;> rfl),by repeat (with_reducible first|exact HB.out|apply za|apply zb|apply zc|refine zd ?_ GE269.out|refine zd ?_ GE270.out)⟩
 rw [if_neg c30] at H;have c30b0 : (a0_0 == 3)=false:=zY.mpr c30;have c30b1 : (a0_0 != 3)=true:=zZ.mpr c30;have HC40:=zh H;clear H
 go_enter Try.func54,Try.ntmps54
 go_upto_if 45 with (first|((with_reducible refine zK (N:=2) rfl ?_);(try (refine yz (by rfl) ?_;dsimp only));refine zI ?hg (N:=2) ?hd (cs:=#[.int .i64 a0_0,.int .i64 a0_1,.string a0_2]) (t:=26) ?hr ?_;(case hd => rfl);(case hg => rfl);(case hr => first|(go_simp;done)|(go_simp;rfl));intro gb269 hg w41 hbox hb;have BK269:=zh (hbox);have GW269:=zh ((by rw [hg];exact (zB (by repeat (with_reducible first|exact HB.out|apply za|apply zb|apply zc))) : w.heap.size≤gb269));have GE269:=zh ((by rw [hg];exact (zB (by repeat (with_reducible first|exact HB.out|apply za|apply zb|apply zc))) : w.heap.size≤gb269));replace HB:=zh (zC (by repeat (with_reducible first|exact HB.out|apply za|apply zb|apply zc)) hb);clear hb hbox hg)|((with_reducible refine zK (N:=3) rfl ?_);(try (refine yz (by rfl) ?_;dsimp only));refine zI ?hg (N:=3) ?hd (cs:=#[.int .i64 a1]) (t:=3) ?hr ?_;(case hd => rfl);(case hg => rfl);(case hr => first|(go_simp;done)|(go_simp;rfl));intro gb270 hg w42 hbox hb;have BK270:=zh (hbox);have GW270:=zh ((by rw [hg];exact (zB (by repeat (with_reducible first|exact HB.out|apply za|apply zb|apply zc|refine zd ?_ GE269.out))) : w.heap.size≤gb270));have GE270:=zh ((by rw [hg];exact (zB (by repeat (with_reducible first|exact HB.out|apply za|apply zb|apply zc|refine zd ?_ GE269.out))) : w.heap.size≤gb270));replace HB:=zh (zC (by repeat (with_reducible first|exact HB.out|apply za|apply zb|apply zc|refine zd ?_ GE269.out)) hb);have NB269_270:=zh ((by rw [hg];exact yc (yi (g:=gb269) (o:=.cells #[.int .i64 a0_0,.int .i64 a0_1,.string a0_2] 26 (0,0)) (by (with_reducible repeat (first|refine ze ?_ _|refine zf ?_|refine zg ?_ _));exact BK269.out)) : gb269≠gb270));have NB270_269:=zh ((by rw [hg];exact yd (yi (g:=gb269) (o:=.cells #[.int .i64 a0_0,.int .i64 a0_1,.string a0_2] 26 (0,0)) (by (with_reducible repeat (first|refine ze ?_ _|refine zf ?_|refine zg ?_ _));exact BK269.out)) : gb270≠gb269));replace BK269:=zh (zD (g:=gb269) (o:=.cells #[.int .i64 a0_0,.int .i64 a0_1,.string a0_2] 26 (0,0)) (by (with_reducible repeat (first|refine ze ?_ _|refine zf ?_|refine zg ?_ _));exact BK269.out) hb);clear hb hbox hg;have hnb43:=NB269_270.out;have hnc43:=NB270_269.out;have hcz44_0 : w42.cell? ⟨gb269,0,none⟩=some (.int .i64 a0_0):=(zz BK269.out 0).trans rfl;have hcz44_1 : w42.cell? ⟨gb269,1,none⟩=some (.int .i64 a0_1):=(zz BK269.out 1).trans rfl;have hcz44_2 : w42.cell? ⟨gb269,2,none⟩=some (.string a0_2):=(zz BK269.out 2).trans rfl;have hfz44_0:=zA BK269.out 0;have hfz44_1:=zA BK269.out 1;have hfz44_2:=zA BK269.out 2))
 (try simp only [Act.put,zi,zj,zk])
 go_cut [45] (fun v45 wc => ∃ (kq : Nat) (x45_39 : Bool),v45 = .bool x45_39∧Aside0 (impl_isRight.j0 kq x45_39 a0_0 a0_1 a0_2 a1=some r)∧Aside0 (kq≤k)∧Aside0 (wc.heap[gb269]? = some (.cells #[.int .i64 a0_0,.int .i64 a0_1,.string a0_2] 26 (0,0)))∧Aside0 (wc.heap[gb270]? = some (.cells #[.int .i64 a1] 3 (0,0)))∧Aside0 (Below w.heap.size w wc))
 case first =>
  have H:=HC40.out;clear HC40
  by_cases c45 : a0_0=4
  ·
   rw [if_pos c45] at H
   have c45b0 : (a0_0 == 4)=true:=ya.mpr c45;have c45b1 : (a0_0 != 4)=false:=zX.mpr c45;clear c45;(first|rw [c45b0]|(simp only [zG,zH];rw [c45b0])|skip);have H':=zh H;clear H
   go_wp2
   go_meet
   case rel => exact ⟨_,((a0_0 == 4)),(by first|rfl|(simp;done)|(simp [*];done)),H',⟨by first|omega|exact ye _⟩,⟨by (with_reducible repeat (first|refine ze ?_ _|refine zf ?_|refine zg ?_ _));exact BK269.out⟩,⟨by (with_reducible repeat (first|refine ze ?_ _|refine zf ?_|refine zg ?_ _));exact BK270.out⟩,⟨by repeat (with_reducible first|exact HB.out|apply za|apply zb|apply zc|refine zd ?_ GE269.out|refine zd ?_ GE270.out)⟩⟩
  rw [if_neg c45] at H;have c45b0 : (a0_0 == 4)=false:=zY.mpr c45;have c45b1 : (a0_0 != 4)=true:=zZ.mpr c45;(first|rw [c45b0]|(simp only [zG,zH];rw [c45b0])|skip);have H':=zh H;clear H
  go_wp2
  go_meet
  case rel => exact ⟨_,((a0_0 == 5)),(by first|rfl|(simp;done)|(simp [*];done)),H',⟨by first|omega|exact ye _⟩,⟨by (with_reducible repeat (first|refine ze ?_ _|refine zf ?_|refine zg ?_ _));exact BK269.out⟩,⟨by (with_reducible repeat (first|refine ze ?_ _|refine zf ?_|refine zg ?_ _));exact BK270.out⟩,⟨by repeat (with_reducible first|exact HB.out|apply za|apply zb|apply zc|refine zd ?_ GE269.out|refine zd ?_ GE270.out)⟩⟩
 case rest =>
  clear HC40
  try clear c1
  try clear c2
  try clear p2
  try clear c3
  try clear c3b0
  try clear c3b1
  try clear c4
  try clear c5
  try clear c6
  try clear c8
  try clear c8b0
  try clear c8b1
  try clear c10
  try clear c13
  try clear c17
  try clear c19
  try clear c19b0
  try clear c19b1
  try clear c21
  try clear c24
  try clear c28
  try clear c30
  try clear c30b0
  try clear c30b1
  try clear c31
  try clear c31b0
  try clear c31b1
  try clear c34
  try clear c38
  try clear c43
  try clear c45
  try clear c45b0
  try clear c45b1
  try clear hcz14_0
  try clear hcz14_1
  try clear hcz14_2
  try clear hcz18_0
  try clear hcz18_1
  try clear hcz18_2
  try clear hcz25_0
  try clear hcz25_1
  try clear hcz25_2
  try clear hcz29_0
  try clear hcz29_1
  try clear hcz29_2
  try clear hcz35_0
  try clear hcz35_1
  try clear hcz35_2
  try clear hcz39_0
  try clear hcz39_1
  try clear hcz39_2
  try clear hcz44_0
  try clear hcz44_1
  try clear hcz44_2
  try clear hcz7_0
  try clear hcz7_1
  try clear hcz7_2
  try clear hfz14_0
  try clear hfz14_1
  try clear hfz14_2
  try clear hfz18_0
  try clear hfz18_1
  try clear hfz18_2
  try clear hfz25_0
  try clear hfz25_1
  try clear hfz25_2
  try clear hfz29_0
  try clear hfz29_1
  try clear hfz29_2
  try clear hfz35_0
  try clear hfz35_1
  try clear hfz35_2
  try clear hfz39_0
  try clear hfz39_1
  try clear hfz39_2
  try clear hfz44_0
  try clear hfz44_1
  try clear hfz44_2
  try clear hfz7_0
  try clear hfz7_1
  try clear hfz7_2
  obtain ⟨kq,x45_39,rfl,HA,HJ39,BK269,BK270,HB⟩:=hcut
  cases kq with
  | zero => exact absurd HA.out (by simp [impl_isRight.j0])
  | succ kj39 =>
   have H:=HA.out;clear HA;simp only [impl_isRight.j0] at H
   by_cases c46 : x45_39=true
   ·
    subst c46
    have H1 : ((impl_inner.f kj39 a0_0 a0_1 a0_2).bind fun bt273 => (if a0_1=0 then (if (a0_2.size : Int)≤300 then (if a1 > 0 then (if bt273.2=true then ((impl_Value_at_isRight_1.f kj39 (impl_isRight.f kj39) bt273.1 a1).bind fun t277 => (some (!t277))) else (some false)) else (some false)) else (some false)) else (some false)))=some r:=by rw [if_pos rfl] at H;exact H
    clear H;have H:=H1;clear H1;replace H:=zT.mp H;obtain ⟨⟨t273,t276⟩,A470,H⟩:=H;replace H : (if a0_1=0 then (if (a0_2.size : Int)≤300 then (if a1 > 0 then (if t276=true then ((impl_Value_at_isRight_1.f kj39 (impl_isRight.f kj39) t273 a1).bind fun t277 => (some (!t277))) else (some false)) else (some false)) else (some false)) else (some false))=some r:=H;have A47:=zh A470;clear A470
    by_cases c48 : a0_1=0
    ·
     rw [if_pos c48] at H
     have c48b0 : (a0_1 == 0)=true:=ya.mpr c48;have c48b1 : (a0_1 != 0)=false:=zX.mpr c48;clear c48
     by_cases c49 : (a0_2.size : Int)≤300
     ·
      rw [if_pos c49] at H
      have c49b0 : decide ((a0_2.size : Int)≤300)=true:=decide_eq_true c49;have c49b1 : decide (a0_2.size≤300)=true:=decide_eq_true (by omega);clear c49
      by_cases c50 : a1 > 0
      ·
       rw [if_pos c50] at H
       have c50b0 : decide (0<a1)=true:=decide_eq_true c50;clear c50
       by_cases c51 : t276=true
       ·
        subst c51
        have H1 : ((impl_Value_at_isRight_1.f kj39 (impl_isRight.f kj39) t273 a1).bind fun t277 => (some (!t277)))=some r:=by rw [if_pos rfl] at H;exact H
        clear H;have H:=H1;clear H1;replace H:=zT.mp H;obtain ⟨t277,A520,H⟩:=H;replace H : (some (!t277))=some r:=H;have A52:=zh A520;clear A520;obtain rfl:=zU H;have hnb53:=NB269_270.out;have hnc53:=NB270_269.out;have hcz54_0 : wc.cell? ⟨gb269,0,none⟩=some (.int .i64 a0_0):=(zz BK269.out 0).trans rfl;have hcz54_1 : wc.cell? ⟨gb269,1,none⟩=some (.int .i64 a0_1):=(zz BK269.out 1).trans rfl;have hcz54_2 : wc.cell? ⟨gb269,2,none⟩=some (.string a0_2):=(zz BK269.out 2).trans rfl;have hfz54_0:=zA BK269.out 0;have hfz54_1:=zA BK269.out 1;have hfz54_2:=zA BK269.out 2
        go_wp2_with (first|((with_reducible refine zJ (f:=87) rfl ?_);refine yj (some 50) rfl rfl Try.func87 (by kernel_rfl) rfl #[.agg #[.int .i64 a0_0,.int .i64 a0_1,.string a0_2]] rfl (by (try simp only [zt,zu,zv]);first|done|rfl|(simp only [zw,zx];rfl)|(simp only [yr,ys,zV,zW];rfl)) ?_;(with_reducible refine (impl_inner.calls kj39  a0_0 a0_1 a0_2 t273 true _ A47.out).mono ?_);rintro e w55 ⟨v274,rfl,ho0,hb⟩;refine ⟨_,rfl,?_⟩;have HO275:=zh (yy (Kd.R_newB ho0 (g:=gb269) (o:=.cells #[.int .i64 a0_0,.int .i64 a0_1,.string a0_2] 26 (0,0)) (by (with_reducible repeat (first|refine ze ?_ _|refine zf ?_|refine zg ?_ _));exact BK269.out)) (zB (by repeat (with_reducible first|exact HB.out|apply za|apply zb|apply zc|refine zd ?_ GE269.out|refine zd ?_ GE270.out))));replace BK269:=zh (zD (g:=gb269) (o:=.cells #[.int .i64 a0_0,.int .i64 a0_1,.string a0_2] 26 (0,0)) (by (with_reducible repeat (first|refine ze ?_ _|refine zf ?_|refine zg ?_ _));exact BK269.out) hb);replace BK270:=zh (zD (g:=gb270) (o:=.cells #[.int .i64 a1] 3 (0,0)) (by (with_reducible repeat (first|refine ze ?_ _|refine zf ?_|refine zg ?_ _));exact BK270.out) hb);replace HB:=zh (zC (by repeat (with_reducible first|exact HB.out|apply za|apply zb|apply zc|refine zd ?_ GE269.out|refine zd ?_ GE270.out)) hb);(try clear hb);(try clear hb2);(try clear hk);(try clear hi);(try clear ho0);have hcz56_0 : w55.cell? ⟨gb269,0,none⟩=some (.int .i64 a0_0):=(zz BK269.out 0).trans rfl;have hcz56_1 : w55.cell? ⟨gb269,1,none⟩=some (.int .i64 a0_1):=(zz BK269.out 1).trans rfl;have hcz56_2 : w55.cell? ⟨gb269,2,none⟩=some (.string a0_2):=(zz BK269.out 2).trans rfl;have hfz56_0:=zA BK269.out 0;have hfz56_1:=zA BK269.out 1;have hfz56_2:=zA BK269.out 2;have hcz57_0 : w55.cell? ⟨gb270,0,none⟩=some (.int .i64 a1):=(zz BK270.out 0).trans rfl;have hfz57_0:=zA BK270.out 0;obtain ⟨Ao58,co58,eo58⟩:=yk HO275.out;subst eo58)|(go_at_call 88;(with_reducible refine (impl_Value_at_isRight_1.calls kj39 (impl_isRight.f kj39) (ih kj39 (by have:=HJ39.out;omega)) _ _ t273 gb270 a1 t277 _ ?side1 ?side2 ?side3 A52.out).mono ?_);(case side1 => repeat (first|exact (yh HO275.out).2.2|(with_reducible refine Kd.C_alloc ?_ _)|(with_reducible refine Kd.C_drewN ?_ _)|(with_reducible refine Kd.C_drew ?_)));(case side2 => exact (yh HO275.out).2.1);(case side3 => (with_reducible repeat (first|refine ze ?_ _|refine zf ?_|refine zg ?_ _));exact BK270.out);rintro e w59 ⟨rfl,hb⟩;replace HO275:=zh (yg (by (with_reducible repeat (first|apply zm|apply zn|apply zo));exact HO275.out) hb);replace BK269:=zh (zD (g:=gb269) (o:=.cells #[.int .i64 a0_0,.int .i64 a0_1,.string a0_2] 26 (0,0)) (by (with_reducible repeat (first|refine ze ?_ _|refine zf ?_|refine zg ?_ _));exact BK269.out) hb);replace BK270:=zh (zD (g:=gb270) (o:=.cells #[.int .i64 a1] 3 (0,0)) (by (with_reducible repeat (first|refine ze ?_ _|refine zf ?_|refine zg ?_ _));exact BK270.out) hb);replace HB:=zh (zC (by repeat (with_reducible first|exact HB.out|apply za|apply zb|apply zc|refine zd ?_ GE269.out|refine zd ?_ GE270.out)) hb);(try clear hb);(try clear hb2);(try clear hk);(try clear hi)))
        go_ret
        exact ⟨by first|rfl|(simp [yt,yu] <;> rfl)|(simp [*,yt,yu] <;> rfl),by repeat (with_reducible first|exact HB.out|apply za|apply zb|apply zc|refine zd ?_ GE269.out|refine zd ?_ GE270.out)⟩
       replace c51:=yb.mpr c51;subst c51;have H1 : (some false)=some r:=by rw [if_neg (show ¬ (false=true) by decide)] at H;exact H
       clear H;have H:=H1;clear H1;obtain rfl:=zU H;have hnb60:=NB269_270.out;have hnc60:=NB270_269.out;have hcz61_0 : wc.cell? ⟨gb269,0,none⟩=some (.int .i64 a0_0):=(zz BK269.out 0).trans rfl;have hcz61_1 : wc.cell? ⟨gb269,1,none⟩=some (.int .i64 a0_1):=(zz BK269.out 1).trans rfl;have hcz61_2 : wc.cell? ⟨gb269,2,none⟩=some (.string a0_2):=(zz BK269.out 2).trans rfl;have hfz61_0:=zA BK269.out 0;have hfz61_1:=zA BK269.out 1;have hfz61_2:=zA BK269.out 2
       go_wp2_with (first|((with_reducible refine zJ (f:=87) rfl ?_);refine yj (some 50) rfl rfl Try.func87 (by kernel_rfl) rfl #[.agg #[.int .i64 a0_0,.int .i64 a0_1,.string a0_2]] rfl (by (try simp only [zt,zu,zv]);first|done|rfl|(simp only [zw,zx];rfl)|(simp only [yr,ys,zV,zW];rfl)) ?_;(with_reducible refine (impl_inner.calls kj39  a0_0 a0_1 a0_2 t273 false _ A47.out).mono ?_);rintro e w62 ⟨v274,rfl,ho0,hb⟩;refine ⟨_,rfl,?_⟩;have HO275:=zh (yy (Kd.R_newB ho0 (g:=gb269) (o:=.cells #[.int .i64 a0_0,.int .i64 a0_1,.string a0_2] 26 (0,0)) (by (with_reducible repeat (first|refine ze ?_ _|refine zf ?_|refine zg ?_ _));exact BK269.out)) (zB (by repeat (with_reducible first|exact HB.out|apply za|apply zb|apply zc|refine zd ?_ GE269.out|refine zd ?_ GE270.out))));replace BK269:=zh (zD (g:=gb269) (o:=.cells #[.int .i64 a0_0,.int .i64 a0_1,.string a0_2] 26 (0,0)) (by (with_reducible repeat (first|refine ze ?_ _|refine zf ?_|refine zg ?_ _));exact BK269.out) hb);replace BK270:=zh (zD (g:=gb270) (o:=.cells #[.int .i64 a1] 3 (0,0)) (by (with_reducible repeat (first|refine ze ?_ _|refine zf ?_|refine zg ?_ _));exact BK270.out) hb);replace HB:=zh (zC (by repeat (with_reducible first|exact HB.out|apply za|apply zb|apply zc|refine zd ?_ GE269.out|refine zd ?_ GE270.out)) hb);(try clear hb);(try clear hb2);(try clear hk);(try clear hi);(try clear ho0);have hcz63_0 : w62.cell? ⟨gb269,0,none⟩=some (.int .i64 a0_0):=(zz BK269.out 0).trans rfl;have hcz63_1 : w62.cell? ⟨gb269,1,none⟩=some (.int .i64 a0_1):=(zz BK269.out 1).trans rfl;have hcz63_2 : w62.cell? ⟨gb269,2,none⟩=some (.string a0_2):=(zz BK269.out 2).trans rfl;have hfz63_0:=zA BK269.out 0;have hfz63_1:=zA BK269.out 1;have hfz63_2:=zA BK269.out 2;have hcz64_0 : w62.cell? ⟨gb270,0,none⟩=some (.int .i64 a1):=(zz BK270.out 0).trans rfl;have hfz64_0:=zA BK270.out 0))
       go_ret
       exact ⟨by first|rfl|(simp [yt,yu] <;> rfl)|(simp [*,yt,yu] <;> rfl),by repeat (with_reducible first|exact HB.out|apply za|apply zb|apply zc|refine zd ?_ GE269.out|refine zd ?_ GE270.out)⟩
      rw [if_neg c50] at H;have c50b0 : decide (0<a1)=false:=decide_eq_false c50;clear c50;obtain rfl:=zU H;have hnb65:=NB269_270.out;have hnc65:=NB270_269.out;have hcz66_0 : wc.cell? ⟨gb269,0,none⟩=some (.int .i64 a0_0):=(zz BK269.out 0).trans rfl;have hcz66_1 : wc.cell? ⟨gb269,1,none⟩=some (.int .i64 a0_1):=(zz BK269.out 1).trans rfl;have hcz66_2 : wc.cell? ⟨gb269,2,none⟩=some (.string a0_2):=(zz BK269.out 2).trans rfl;have hfz66_0:=zA BK269.out 0;have hfz66_1:=zA BK269.out 1;have hfz66_2:=zA BK269.out 2
      go_wp2_with (first|((with_reducible refine zJ (f:=87) rfl ?_);refine yj (some 50) rfl rfl Try.func87 (by kernel_rfl) rfl #[.agg #[.int .i64 a0_0,.int .i64 a0_1,.string a0_2]] rfl (by (try simp only [zt,zu,zv]);first|done|rfl|(simp only [zw,zx];rfl)|(simp only [yr,ys,zV,zW];rfl)) ?_;(with_reducible refine (impl_inner.calls kj39  a0_0 a0_1 a0_2 t273 t276 _ A47.out).mono ?_);rintro e w67 ⟨v274,rfl,ho0,hb⟩;refine ⟨_,rfl,?_⟩;have HO275:=zh (yy (Kd.R_newB ho0 (g:=gb269) (o:=.cells #[.int .i64 a0_0,.int .i64 a0_1,.string a0_2] 26 (0,0)) (by (with_reducible repeat (first|refine ze ?_ _|refine zf ?_|refine zg ?_ _));exact BK269.out)) (zB (by repeat (with_reducible first|exact HB.out|apply za|apply zb|apply zc|refine zd ?_ GE269.out|refine zd ?_ GE270.out))));replace BK269:=zh (zD (g:=gb269) (o:=.cells #[.int .i64 a0_0,.int .i64 a0_1,.string a0_2] 26 (0,0)) (by (with_reducible repeat (first|refine ze ?_ _|refine zf ?_|refine zg ?_ _));exact BK269.out) hb);replace BK270:=zh (zD (g:=gb270) (o:=.cells #[.int .i64 a1] 3 (0,0)) (by (with_reducible repeat (first|refine ze ?_ _|refine zf ?_|refine zg ?_ _));exact BK270.out) hb);replace HB:=zh (zC (by repeat (with_reducible first|exact HB.out|apply za|apply zb|apply zc|refine zd ?_ GE269.out|refine zd ?_ GE270.out)) hb);(try clear hb);(try clear hb2);(try clear hk);(try clear hi);(try clear ho0);have hcz68_0 : w67.cell? ⟨gb269,0,none⟩=some (.int .i64 a0_0):=(zz BK269.out 0).trans rfl;have hcz68_1 : w67.cell? ⟨gb269,1,none⟩=some (.int .i64 a0_1):=(zz BK269.out 1).trans rfl;have hcz68_2 : w67.cell? ⟨gb269,2,none⟩=some (.string a0_2):=(zz BK269.out 2).trans rfl;have hfz68_0:=zA BK269.out 0;have hfz68_1:=zA BK269.out 1;have hfz68_2:=zA BK269.out 2;have hcz69_0 : w67.cell? ⟨gb270,0,none⟩=some (.int .i64 a1):=(zz BK270.out 0).trans rfl;have hfz69_0:=zA BK270.out 0))
      go_ret
      exact ⟨by first|rfl|(simp [yt,yu] <;> rfl)|(simp [*,yt,yu] <;> rfl),by repeat (with_reducible first|exact HB.out|apply za|apply zb|apply zc|refine zd ?_ GE269.out|refine zd ?_ GE270.out)⟩
     rw [if_neg c49] at H;have c49b0 : decide ((a0_2.size : Int)≤300)=false:=decide_eq_false c49;have c49b1 : decide (a0_2.size≤300)=false:=decide_eq_false (by omega);clear c49;obtain rfl:=zU H;have hnb70:=NB269_270.out;have hnc70:=NB270_269.out;have hcz71_0 : wc.cell? ⟨gb269,0,none⟩=some (.int .i64 a0_0):=(zz BK269.out 0).trans rfl;have hcz71_1 : wc.cell? ⟨gb269,1,none⟩=some (.int .i64 a0_1):=(zz BK269.out 1).trans rfl;have hcz71_2 : wc.cell? ⟨gb269,2,none⟩=some (.string a0_2):=(zz BK269.out 2).trans rfl;have hfz71_0:=zA BK269.out 0;have hfz71_1:=zA BK269.out 1;have hfz71_2:=zA BK269.out 2
     go_wp2_with (first|((with_reducible refine zJ (f:=87) rfl ?_);refine yj (some 50) rfl rfl Try.func87 (by kernel_rfl) rfl #[.agg #[.int .i64 a0_0,.int .i64 a0_1,.string a0_2]] rfl (by (try simp only [zt,zu,zv]);first|done|rfl|(simp only [zw,zx];rfl)|(simp only [yr,ys,zV,zW];rfl)) ?_;(with_reducible refine (impl_inner.calls kj39  a0_0 a0_1 a0_2 t273 t276 _ A47.out).mono ?_);rintro e w72 ⟨v274,rfl,ho0,hb⟩;refine ⟨_,rfl,?_⟩;have HO275:=zh (yy (Kd.R_newB ho0 (g:=gb269) (o:=.cells #[.int .i64 a0_0,.int .i64 a0_1,.string a0_2] 26 (0,0)) (by (with_reducible repeat (first|refine ze ?_ _|refine zf ?_|refine zg ?_ _));exact BK269.out)) (zB (by repeat (with_reducible first|exact HB.out|apply za|apply zb|apply zc|refine zd ?_ GE269.out|refine zd ?_ GE270.out))));replace BK269:=zh (zD (g:=gb269) (o:=.cells #[.int .i64 a0_0,.int .i64 a0_1,.string a0_2] 26 (0,0)) (by (with_reducible repeat (first|refine ze ?_ _|refine zf ?_|refine zg ?_ _));exact BK269.out) hb);replace BK270:=zh (zD (g:=gb270) (o:=.cells #[.int .i64 a1] 3 (0,0)) (by (with_reducible repeat (first|refine ze ?_ _|refine zf ?_|refine zg ?_ _));exact BK270.out) hb);replace HB:=zh (zC (by repeat (with_reducible first|exact HB.out|apply za|apply zb|apply zc|refine zd ?_ GE269.out|refine zd ?_ GE270.out)) hb);(try clear hb);(try clear hb2);(try clear hk);(try clear hi);(try clear ho0);have hcz73_0 : w72.cell? ⟨gb269,0,none⟩=some (.int .i64 a0_0):=(zz BK269.out 0).trans rfl;have hcz73_1 : w72.cell? ⟨gb269,1,none⟩=some (.int .i64 a0_1):=(zz BK269.out 1).trans rfl;have hcz73_2 : w72.cell? ⟨gb269,2,none⟩=some (.string a0_2):=(zz BK269.out 2).trans rfl;have hfz73_0:=zA BK269.out 0;have hfz73_1:=zA BK269.out 1;have hfz73_2:=zA BK269.out 2))
     go_ret
     exact ⟨by first|rfl|(simp [yt,yu] <;> rfl)|(simp [*,yt,yu] <;> rfl),by repeat (with_reducible first|exact HB.out|apply za|apply zb|apply zc|refine zd ?_ GE269.out|refine zd ?_ GE270.out)⟩
    rw [if_neg c48] at H;have c48b0 : (a0_1 == 0)=false:=zY.mpr c48;have c48b1 : (a0_1 != 0)=true:=zZ.mpr c48;obtain rfl:=zU H;have hnb74:=NB269_270.out;have hnc74:=NB270_269.out;have hcz75_0 : wc.cell? ⟨gb269,0,none⟩=some (.int .i64 a0_0):=(zz BK269.out 0).trans rfl;have hcz75_1 : wc.cell? ⟨gb269,1,none⟩=some (.int .i64 a0_1):=(zz BK269.out 1).trans rfl;have hcz75_2 : wc.cell? ⟨gb269,2,none⟩=some (.string a0_2):=(zz BK269.out 2).trans rfl;have hfz75_0:=zA BK269.out 0;have hfz75_1:=zA BK269.out 1;have hfz75_2:=zA BK269.out 2
    go_wp2_with (first|((with_reducible refine zJ (f:=87) rfl ?_);refine yj (some 50) rfl rfl Try.func87 (by kernel_rfl) rfl #[.agg #[.int .i64 a0_0,.int .i64 a0_1,.string a0_2]] rfl (by (try simp only [zt,zu,zv]);first|done|rfl|(simp only [zw,zx];rfl)|(simp only [yr,ys,zV,zW];rfl)) ?_;(with_reducible refine (impl_inner.calls kj39  a0_0 a0_1 a0_2 t273 t276 _ A47.out).mono ?_);rintro e w76 ⟨v274,rfl,ho0,hb⟩;refine ⟨_,rfl,?_⟩;have HO275:=zh (yy (Kd.R_newB ho0 (g:=gb269) (o:=.cells #[.int .i64 a0_0,.int .i64 a0_1,.string a0_2] 26 (0,0)) (by (with_reducible repeat (first|refine ze ?_ _|refine zf ?_|refine zg ?_ _));exact BK269.out)) (zB (by repeat (with_reducible first|exact HB.out|apply za|apply zb|apply zc|refine zd ?_ GE269.out|refine zd ?_ GE270.out))));replace BK269:=zh (zD (g:=gb269) (o:=.cells #[.int .i64 a0_0,.int .i64 a0_1,.string a0_2] 26 (0,0)) (by (with_reducible repeat (first|refine ze ?_ _|refine zf ?_|refine zg ?_ _));exact BK269.out) hb);replace BK270:=zh (zD (g:=gb270) (o:=.cells #[.int .i64 a1] 3 (0,0)) (by (with_reducible repeat (first|refine ze ?_ _|refine zf ?_|refine zg ?_ _));exact BK270.out) hb);replace HB:=zh (zC (by repeat (with_reducible first|exact HB.out|apply za|apply zb|apply zc|refine zd ?_ GE269.out|refine zd ?_ GE270.out)) hb);(try clear hb);(try clear hb2);(try clear hk);(try clear hi);(try clear ho0);have hcz77_0 : w76.cell? ⟨gb269,0,none⟩=some (.int .i64 a0_0):=(zz BK269.out 0).trans rfl;have hcz77_1 : w76.cell? ⟨gb269,1,none⟩=some (.int .i64 a0_1):=(zz BK269.out 1).trans rfl;have hcz77_2 : w76.cell? ⟨gb269,2,none⟩=some (.string a0_2):=(zz BK269.out 2).trans rfl;have hfz77_0:=zA BK269.out 0;have hfz77_1:=zA BK269.out 1;have hfz77_2:=zA BK269.out 2))
    go_ret
    exact ⟨by first|rfl|(simp [yt,yu] <;> rfl)|(simp [*,yt,yu] <;> rfl),by repeat (with_reducible first|exact HB.out|apply za|apply zb|apply zc|refine zd ?_ GE269.out|refine zd ?_ GE270.out)⟩
   replace c46:=yb.mpr c46;subst c46;have H1 : (some false)=some r:=by rw [if_neg (show ¬ (false=true) by decide)] at H;exact H
   clear H;have H:=H1;clear H1;obtain rfl:=zU H
   go_wp2
   go_ret
   exact ⟨by first|rfl|(simp [yt,yu] <;> rfl)|(simp [*,yt,yu] <;> rfl),by repeat (with_reducible first|exact HB.out|apply za|apply zb|apply zc|refine zd ?_ GE269.out|refine zd ?_ GE270.out)⟩

end Go.Proofs.Ytpmeglcmhiihoaa.Q
end
section
namespace Go.Proofs.Ytpmeglcmhiihoaa.Q
open Go.RowKit Go.Proofs.YtpmeglcmhiihoaaW.PrintWords Go.Proofs.YtpmeglcmhiihoaaW.PrintLast Go.Proofs.YtpmeglcmhiihoaaW.PrintMore
attribute [local go_sem] max2_int min2_int max_two min_two max_three min_three max_four min_four max2_str min2_str str_geq str_gtr str_leq   -- for this text's walks alone
set_option linter.unusedVariables false
set_option linter.unusedSimpArgs false

def impl_ValueOK.f (k : Nat) (a0_0 : Int) (a0_1 : Int) (a0_2 : ByteArray) : Option (Bool):=(impl_isRight.f k a0_0 a0_1 a0_2 5).bind fun t279 => (some t279)
theorem impl_ValueOK.mono : ∀ a0 a1 a2 k,LeO (impl_ValueOK.f k a0 a1 a2) (impl_ValueOK.f (k + 1) a0 a1 a2):=by
 intro a0 a1 a2 k;unfold impl_ValueOK.f
 repeat' first|(with_reducible exact impl_isRight.mono _ _ _ _ _)|(with_reducible exact zQ _)|(with_reducible exact zN _)|(with_reducible refine zP ?_ ?_)|(with_reducible refine zO ?_ (fun _ => ?_))|refine zP ?_ ?_|refine zO ?_ (fun _ => ?_)
set_option maxHeartbeats 8000000 in
set_option maxRecDepth 100000 in
theorem impl_ValueOK.calls (k : Nat) (a0_0 : Int) (a0_1 : Int) (a0_2 : ByteArray) (r : Bool) (w : World) (h : impl_ValueOK.f k a0_0 a0_1 a0_2=some r) :
  Calls Try.prog 17 #[.agg #[.int .i64 a0_0,.int .i64 a0_1,.string a0_2]] w fun e w' => e = .returned (.bool r)∧Below w.heap.size w w':=by
 have hu26:=Try.underlying26;have HB:=zh (Below.refl w.heap.size w);have H : ((impl_isRight.f k a0_0 a0_1 a0_2 5).bind fun t279 => (some t279))=some r:=h;clear h;replace H:=zT.mp H;obtain ⟨t279,A20,H⟩:=H;replace H : (some t279)=some r:=H;have A2:=zh A20;clear A20;obtain rfl:=zU H
 go_enter Try.func17,Try.ntmps17
 go_wp2_with (first|((with_reducible refine zK (N:=1) rfl ?_);refine zI ?hg (N:=1) ?hd (cs:=#[.int .i64 a0_0,.int .i64 a0_1,.string a0_2]) (t:=26) ?hr ?_;(case hd => rfl);(case hg => rfl);(case hr => first|(go_simp;done)|(go_simp;rfl));intro gb278 hg w3 hbox hb;have BK278:=zh (hbox);have GW278:=zh ((by rw [hg];exact (zB (by repeat (with_reducible first|exact HB.out|apply za|apply zb|apply zc))) : w.heap.size≤gb278));have GE278:=zh ((by rw [hg];exact (zB (by repeat (with_reducible first|exact HB.out|apply za|apply zb|apply zc))) : w.heap.size≤gb278));replace HB:=zh (zC (by repeat (with_reducible first|exact HB.out|apply za|apply zb|apply zc)) hb);clear hb hbox hg;have hcz4_0 : w3.cell? ⟨gb278,0,none⟩=some (.int .i64 a0_0):=(zz BK278.out 0).trans rfl;have hcz4_1 : w3.cell? ⟨gb278,1,none⟩=some (.int .i64 a0_1):=(zz BK278.out 1).trans rfl;have hcz4_2 : w3.cell? ⟨gb278,2,none⟩=some (.string a0_2):=(zz BK278.out 2).trans rfl;have hfz4_0:=zA BK278.out 0;have hfz4_1:=zA BK278.out 1;have hfz4_2:=zA BK278.out 2)|((with_reducible refine zJ (f:=54) rfl ?_);refine yj (some 4) rfl rfl Try.func54 (by kernel_rfl) rfl #[.agg #[.int .i64 a0_0,.int .i64 a0_1,.string a0_2],.int .i64 5] rfl (by (try simp only [zt,zu,zv]);first|done|rfl|(simp only [zw,zx];rfl)|(simp only [yr,ys,zV,zW];rfl)) ?_;(with_reducible refine (impl_isRight.calls k  a0_0 a0_1 a0_2 5 t279 _ A2.out).mono ?_);rintro e w5 ⟨rfl,hb⟩;refine ⟨_,rfl,?_⟩;replace BK278:=zh (zD (g:=gb278) (o:=.cells #[.int .i64 a0_0,.int .i64 a0_1,.string a0_2] 26 (0,0)) (by (with_reducible repeat (first|refine ze ?_ _|refine zf ?_|refine zg ?_ _));exact BK278.out) hb);replace HB:=zh (zC (by repeat (with_reducible first|exact HB.out|apply za|apply zb|apply zc|refine zd ?_ GE278.out)) hb);(try clear hb);(try clear hb2);(try clear hk);(try clear hi)))
 go_ret
 exact ⟨by first|rfl|(simp [yt,yu] <;> rfl)|(simp [*,yt,yu] <;> rfl),by repeat (with_reducible first|exact HB.out|apply za|apply zb|apply zc|refine zd ?_ GE278.out)⟩

end Go.Proofs.Ytpmeglcmhiihoaa.Q
end
section
namespace Go.Proofs.Ytpmeglcmhiihoaa.Q
open Go.RowKit Go.Proofs.YtpmeglcmhiihoaaW.PrintWords Go.Proofs.YtpmeglcmhiihoaaW.PrintLast Go.Proofs.YtpmeglcmhiihoaaW.PrintMore
attribute [local go_sem] max2_int min2_int max_two min_two max_three min_three max_four min_four max2_str min2_str str_geq str_gtr str_leq   -- for this text's walks alone
set_option linter.unusedVariables false
set_option linter.unusedSimpArgs false

def impl_FieldsOf.f (k : Nat) (a0_0 : Int) (a0_1 : Int) (a0_2 : ByteArray) : Option ((List (S68))×Int):=(impl_ValueOK.f k a0_0 a0_1 a0_2).bind fun t553 => (if t553=true then (if a0_0=5 then ((impl_fields.f k a0_0 a0_1 a0_2).bind fun bt554 => (some (bt554.1,0))) else (some (([] : List (S68)),8))) else (some (([] : List (S68)),1)))
theorem impl_FieldsOf.mono : ∀ a0 a1 a2 k,LeO (impl_FieldsOf.f k a0 a1 a2) (impl_FieldsOf.f (k + 1) a0 a1 a2):=by
 intro a0 a1 a2 k;unfold impl_FieldsOf.f
 repeat' first|(with_reducible exact impl_ValueOK.mono _ _ _ _)|(with_reducible exact impl_fields.mono _ _ _ _)|(with_reducible exact zQ _)|(with_reducible exact zN _)|(with_reducible refine zP ?_ ?_)|(with_reducible refine zO ?_ (fun _ => ?_))|refine zP ?_ ?_|refine zO ?_ (fun _ => ?_)
set_option maxHeartbeats 8000000 in
set_option maxRecDepth 100000 in
theorem impl_FieldsOf.calls (k : Nat) (a0_0 : Int) (a0_1 : Int) (a0_2 : ByteArray) (r1 : List (S68)) (r2 : Int) (w : World) (h : impl_FieldsOf.f k a0_0 a0_1 a0_2=some (r1,r2)) :
  Calls Try.prog 35 #[.agg #[.int .i64 a0_0,.int .i64 a0_1,.string a0_2]] w fun e w' => ∃ v0_ : Value,e = .returned (.tuple #[v0_,.int .i64 r2])∧Kd.R k68 68 w' w.heap.size (fun _ => True) v0_ r1∧Below w.heap.size w w':=by
 have hu26:=Try.underlying26;have HB:=zh (Below.refl w.heap.size w);have H : ((impl_ValueOK.f k a0_0 a0_1 a0_2).bind fun t553 => (if t553=true then (if a0_0=5 then ((impl_fields.f k a0_0 a0_1 a0_2).bind fun bt554 => (some (bt554.1,0))) else (some (([] : List (S68)),8))) else (some (([] : List (S68)),1))))=some (r1,r2):=h;clear h;replace H:=zT.mp H;obtain ⟨t553,A20,H⟩:=H;replace H : (if t553=true then (if a0_0=5 then ((impl_fields.f k a0_0 a0_1 a0_2).bind fun bt554 => (some (bt554.1,0))) else (some (([] : List (S68)),8))) else (some (([] : List (S68)),1)))=some (r1,r2):=H;have A2:=zh A20;clear A20
 by_cases c3 : t553=true
 ·
  subst c3
  have H1 : (if a0_0=5 then ((impl_fields.f k a0_0 a0_1 a0_2).bind fun bt554 => (some (bt554.1,0))) else (some (([] : List (S68)),8)))=some (r1,r2):=by rw [if_pos rfl] at H;exact H
  clear H;have H:=H1;clear H1
  by_cases c4 : a0_0=5
  ·
   rw [if_pos c4] at H
   have c4b0 : (a0_0 == 5)=true:=ya.mpr c4;have c4b1 : (a0_0 != 5)=false:=zX.mpr c4;clear c4;replace H:=zT.mp H;obtain ⟨⟨t554,t557⟩,A50,H⟩:=H;replace H : (some (t554,0))=some (r1,r2):=H;have A5:=zh A50;clear A50;simp only [Option.some.injEq,Prod.mk.injEq] at H;obtain ⟨rfl,rfl⟩:=H
   go_enter Try.func35,Try.ntmps35
   go_wp2_with (first|((with_reducible refine zK (N:=1) rfl ?_);refine zI ?hg (N:=1) ?hd (cs:=#[.int .i64 a0_0,.int .i64 a0_1,.string a0_2]) (t:=26) ?hr ?_;(case hd => rfl);(case hg => rfl);(case hr => first|(go_simp;done)|(go_simp;rfl));intro gb552 hg w6 hbox hb;have BK552:=zh (hbox);have GW552:=zh ((by rw [hg];exact (zB (by repeat (with_reducible first|exact HB.out|apply za|apply zb|apply zc))) : w.heap.size≤gb552));have GE552:=zh ((by rw [hg];exact (zB (by repeat (with_reducible first|exact HB.out|apply za|apply zb|apply zc))) : w.heap.size≤gb552));replace HB:=zh (zC (by repeat (with_reducible first|exact HB.out|apply za|apply zb|apply zc)) hb);clear hb hbox hg;have hcz7_0 : w6.cell? ⟨gb552,0,none⟩=some (.int .i64 a0_0):=(zz BK552.out 0).trans rfl;have hcz7_1 : w6.cell? ⟨gb552,1,none⟩=some (.int .i64 a0_1):=(zz BK552.out 1).trans rfl;have hcz7_2 : w6.cell? ⟨gb552,2,none⟩=some (.string a0_2):=(zz BK552.out 2).trans rfl;have hfz7_0:=zA BK552.out 0;have hfz7_1:=zA BK552.out 1;have hfz7_2:=zA BK552.out 2)|((with_reducible refine zJ (f:=17) rfl ?_);refine yj (some 8) rfl rfl Try.func17 (by kernel_rfl) rfl #[.agg #[.int .i64 a0_0,.int .i64 a0_1,.string a0_2]] rfl (by (try simp only [zt,zu,zv]);first|done|rfl|(simp only [zw,zx];rfl)|(simp only [yr,ys,zV,zW];rfl)) ?_;(with_reducible refine (impl_ValueOK.calls k  a0_0 a0_1 a0_2 true _ A2.out).mono ?_);rintro e w8 ⟨rfl,hb⟩;refine ⟨_,rfl,?_⟩;replace BK552:=zh (zD (g:=gb552) (o:=.cells #[.int .i64 a0_0,.int .i64 a0_1,.string a0_2] 26 (0,0)) (by (with_reducible repeat (first|refine ze ?_ _|refine zf ?_|refine zg ?_ _));exact BK552.out) hb);replace HB:=zh (zC (by repeat (with_reducible first|exact HB.out|apply za|apply zb|apply zc|refine zd ?_ GE552.out)) hb);(try clear hb);(try clear hb2);(try clear hk);(try clear hi);have hcz9_0 : w8.cell? ⟨gb552,0,none⟩=some (.int .i64 a0_0):=(zz BK552.out 0).trans rfl;have hcz9_1 : w8.cell? ⟨gb552,1,none⟩=some (.int .i64 a0_1):=(zz BK552.out 1).trans rfl;have hcz9_2 : w8.cell? ⟨gb552,2,none⟩=some (.string a0_2):=(zz BK552.out 2).trans rfl;have hfz9_0:=zA BK552.out 0;have hfz9_1:=zA BK552.out 1;have hfz9_2:=zA BK552.out 2)|((with_reducible refine zJ (f:=65) rfl ?_);refine yj (some 16) rfl rfl Try.func65 (by kernel_rfl) rfl #[.agg #[.int .i64 a0_0,.int .i64 a0_1,.string a0_2]] rfl (by (try simp only [zt,zu,zv]);first|done|rfl|(simp only [zw,zx];rfl)|(simp only [yr,ys,zV,zW];rfl)) ?_;(with_reducible refine (impl_fields.calls k  a0_0 a0_1 a0_2 t554 t557 _ A5.out).mono ?_);rintro e w10 ⟨v555,rfl,ho0,hb⟩;refine ⟨_,rfl,?_⟩;have HO556:=zh (yy ho0 (zB (by repeat (with_reducible first|exact HB.out|apply za|apply zb|apply zc|refine zd ?_ GE552.out))));replace BK552:=zh (zD (g:=gb552) (o:=.cells #[.int .i64 a0_0,.int .i64 a0_1,.string a0_2] 26 (0,0)) (by (with_reducible repeat (first|refine ze ?_ _|refine zf ?_|refine zg ?_ _));exact BK552.out) hb);replace HB:=zh (zC (by repeat (with_reducible first|exact HB.out|apply za|apply zb|apply zc|refine zd ?_ GE552.out)) hb);(try clear hb);(try clear hb2);(try clear hk);(try clear hi);(try clear ho0)))
   go_ret2
   exact ⟨_,by first|rfl|(simp [yt,yu] <;> rfl)|(simp [*,yt,yu] <;> rfl),by (with_reducible repeat (first|apply zm|apply zn|apply zo));exact HO556.out,by repeat (with_reducible first|exact HB.out|apply za|apply zb|apply zc|refine zd ?_ GE552.out)⟩
  rw [if_neg c4] at H;have c4b0 : (a0_0 == 5)=false:=zY.mpr c4;have c4b1 : (a0_0 != 5)=true:=zZ.mpr c4;simp only [Option.some.injEq,Prod.mk.injEq] at H;obtain ⟨rfl,rfl⟩:=H
  go_enter Try.func35,Try.ntmps35
  go_wp2_with (first|((with_reducible refine zK (N:=1) rfl ?_);refine zI ?hg (N:=1) ?hd (cs:=#[.int .i64 a0_0,.int .i64 a0_1,.string a0_2]) (t:=26) ?hr ?_;(case hd => rfl);(case hg => rfl);(case hr => first|(go_simp;done)|(go_simp;rfl));intro gb552 hg w11 hbox hb;have BK552:=zh (hbox);have GW552:=zh ((by rw [hg];exact (zB (by repeat (with_reducible first|exact HB.out|apply za|apply zb|apply zc))) : w.heap.size≤gb552));have GE552:=zh ((by rw [hg];exact (zB (by repeat (with_reducible first|exact HB.out|apply za|apply zb|apply zc))) : w.heap.size≤gb552));replace HB:=zh (zC (by repeat (with_reducible first|exact HB.out|apply za|apply zb|apply zc)) hb);clear hb hbox hg;have hcz12_0 : w11.cell? ⟨gb552,0,none⟩=some (.int .i64 a0_0):=(zz BK552.out 0).trans rfl;have hcz12_1 : w11.cell? ⟨gb552,1,none⟩=some (.int .i64 a0_1):=(zz BK552.out 1).trans rfl;have hcz12_2 : w11.cell? ⟨gb552,2,none⟩=some (.string a0_2):=(zz BK552.out 2).trans rfl;have hfz12_0:=zA BK552.out 0;have hfz12_1:=zA BK552.out 1;have hfz12_2:=zA BK552.out 2)|((with_reducible refine zJ (f:=17) rfl ?_);refine yj (some 8) rfl rfl Try.func17 (by kernel_rfl) rfl #[.agg #[.int .i64 a0_0,.int .i64 a0_1,.string a0_2]] rfl (by (try simp only [zt,zu,zv]);first|done|rfl|(simp only [zw,zx];rfl)|(simp only [yr,ys,zV,zW];rfl)) ?_;(with_reducible refine (impl_ValueOK.calls k  a0_0 a0_1 a0_2 true _ A2.out).mono ?_);rintro e w13 ⟨rfl,hb⟩;refine ⟨_,rfl,?_⟩;replace BK552:=zh (zD (g:=gb552) (o:=.cells #[.int .i64 a0_0,.int .i64 a0_1,.string a0_2] 26 (0,0)) (by (with_reducible repeat (first|refine ze ?_ _|refine zf ?_|refine zg ?_ _));exact BK552.out) hb);replace HB:=zh (zC (by repeat (with_reducible first|exact HB.out|apply za|apply zb|apply zc|refine zd ?_ GE552.out)) hb);(try clear hb);(try clear hb2);(try clear hk);(try clear hi);have hcz14_0 : w13.cell? ⟨gb552,0,none⟩=some (.int .i64 a0_0):=(zz BK552.out 0).trans rfl;have hcz14_1 : w13.cell? ⟨gb552,1,none⟩=some (.int .i64 a0_1):=(zz BK552.out 1).trans rfl;have hcz14_2 : w13.cell? ⟨gb552,2,none⟩=some (.string a0_2):=(zz BK552.out 2).trans rfl;have hfz14_0:=zA BK552.out 0;have hfz14_1:=zA BK552.out 1;have hfz14_2:=zA BK552.out 2))
  go_ret2
  exact ⟨_,by first|rfl|(simp [yt,yu] <;> rfl)|(simp [*,yt,yu] <;> rfl),by first|exact Kd.R_nil _ _ _ _ _|exact Kd.N_nil _ _ _ _ _|exact Kd.V_nil _ _ _ _ _|exact Kd.Q_nil _ _ _ _ _|exact Kd.S_nil _ _ _ _ _,by repeat (with_reducible first|exact HB.out|apply za|apply zb|apply zc|refine zd ?_ GE552.out)⟩
 replace c3:=yb.mpr c3;subst c3;have H1 : (some (([] : List (S68)),1))=some (r1,r2):=by rw [if_neg (show ¬ (false=true) by decide)] at H;exact H
 clear H;have H:=H1;clear H1;simp only [Option.some.injEq,Prod.mk.injEq] at H;obtain ⟨rfl,rfl⟩:=H
 go_enter Try.func35,Try.ntmps35
 go_wp2_with (first|((with_reducible refine zK (N:=1) rfl ?_);refine zI ?hg (N:=1) ?hd (cs:=#[.int .i64 a0_0,.int .i64 a0_1,.string a0_2]) (t:=26) ?hr ?_;(case hd => rfl);(case hg => rfl);(case hr => first|(go_simp;done)|(go_simp;rfl));intro gb552 hg w15 hbox hb;have BK552:=zh (hbox);have GW552:=zh ((by rw [hg];exact (zB (by repeat (with_reducible first|exact HB.out|apply za|apply zb|apply zc))) : w.heap.size≤gb552));have GE552:=zh ((by rw [hg];exact (zB (by repeat (with_reducible first|exact HB.out|apply za|apply zb|apply zc))) : w.heap.size≤gb552));replace HB:=zh (zC (by repeat (with_reducible first|exact HB.out|apply za|apply zb|apply zc)) hb);clear hb hbox hg;have hcz16_0 : w15.cell? ⟨gb552,0,none⟩=some (.int .i64 a0_0):=(zz BK552.out 0).trans rfl;have hcz16_1 : w15.cell? ⟨gb552,1,none⟩=some (.int .i64 a0_1):=(zz BK552.out 1).trans rfl;have hcz16_2 : w15.cell? ⟨gb552,2,none⟩=some (.string a0_2):=(zz BK552.out 2).trans rfl;have hfz16_0:=zA BK552.out 0;have hfz16_1:=zA BK552.out 1;have hfz16_2:=zA BK552.out 2)|((with_reducible refine zJ (f:=17) rfl ?_);refine yj (some 8) rfl rfl Try.func17 (by kernel_rfl) rfl #[.agg #[.int .i64 a0_0,.int .i64 a0_1,.string a0_2]] rfl (by (try simp only [zt,zu,zv]);first|done|rfl|(simp only [zw,zx];rfl)|(simp only [yr,ys,zV,zW];rfl)) ?_;(with_reducible refine (impl_ValueOK.calls k  a0_0 a0_1 a0_2 false _ A2.out).mono ?_);rintro e w17 ⟨rfl,hb⟩;refine ⟨_,rfl,?_⟩;replace BK552:=zh (zD (g:=gb552) (o:=.cells #[.int .i64 a0_0,.int .i64 a0_1,.string a0_2] 26 (0,0)) (by (with_reducible repeat (first|refine ze ?_ _|refine zf ?_|refine zg ?_ _));exact BK552.out) hb);replace HB:=zh (zC (by repeat (with_reducible first|exact HB.out|apply za|apply zb|apply zc|refine zd ?_ GE552.out)) hb);(try clear hb);(try clear hb2);(try clear hk);(try clear hi)))
 go_ret2
 exact ⟨_,by first|rfl|(simp [yt,yu] <;> rfl)|(simp [*,yt,yu] <;> rfl),by first|exact Kd.R_nil _ _ _ _ _|exact Kd.N_nil _ _ _ _ _|exact Kd.V_nil _ _ _ _ _|exact Kd.Q_nil _ _ _ _ _|exact Kd.S_nil _ _ _ _ _,by repeat (with_reducible first|exact HB.out|apply za|apply zb|apply zc|refine zd ?_ GE552.out)⟩

end Go.Proofs.Ytpmeglcmhiihoaa.Q
end
section
namespace Go.Proofs.Ytpmeglcmhiihoaa.Q
open Go.RowKit Go.Proofs.YtpmeglcmhiihoaaW.PrintWords Go.Proofs.YtpmeglcmhiihoaaW.PrintLast Go.Proofs.YtpmeglcmhiihoaaW.PrintMore
attribute [local go_sem] max2_int min2_int max_two min_two max_three min_three max_four min_four max2_str min2_str str_geq str_gtr str_leq   -- for this text's walks alone
set_option linter.unusedVariables false
set_option linter.unusedSimpArgs false

def laws_eqValue.f (a0_0 : Int) (a0_1 : Int) (a0_2 : ByteArray) (a1_0 : Int) (a1_1 : Int) (a1_2 : ByteArray) : Option (Bool):=if a0_0=a1_0 then (if a0_1=a1_1 then (if a0_2.toList=a1_2.toList then (some true) else (some false)) else (some false)) else (some false)
set_option maxHeartbeats 8000000 in
set_option maxRecDepth 100000 in
theorem laws_eqValue.calls (a0_0 : Int) (a0_1 : Int) (a0_2 : ByteArray) (a1_0 : Int) (a1_1 : Int) (a1_2 : ByteArray) (r : Bool) (w : World) (h : laws_eqValue.f a0_0 a0_1 a0_2 a1_0 a1_1 a1_2=some r) :
  Calls Try.prog 21 #[.agg #[.int .i64 a0_0,.int .i64 a0_1,.string a0_2],.agg #[.int .i64 a1_0,.int .i64 a1_1,.string a1_2]] w fun e w' => e = .returned (.bool r)∧Below w.heap.size w w':=by
 have hu26:=Try.underlying26;have HB:=zh (Below.refl w.heap.size w);have H : (if a0_0=a1_0 then (if a0_1=a1_1 then (if a0_2.toList=a1_2.toList then (some true) else (some false)) else (some false)) else (some false))=some r:=h;clear h
 by_cases c3 : a0_0=a1_0
 ·
  rw [if_pos c3] at H
  have c3b0 : (a0_0 == a1_0)=true:=ya.mpr c3;have c3b1 : (a0_0 != a1_0)=false:=zX.mpr c3;clear c3
  by_cases c4 : a0_1=a1_1
  ·
   rw [if_pos c4] at H
   have c4b0 : (a0_1 == a1_1)=true:=ya.mpr c4;have c4b1 : (a0_1 != a1_1)=false:=zX.mpr c4;clear c4
   by_cases c5 : a0_2.toList=a1_2.toList
   ·
    rw [if_pos c5] at H
    have c5b0 : (a0_2.toList == a1_2.toList)=true:=ya.mpr c5;have c5b1 : (a0_2.toList != a1_2.toList)=false:=zX.mpr c5;clear c5;obtain rfl:=zU H
    go_enter Try.func21,Try.ntmps21
    go_wp2_with (first|((with_reducible refine zK (N:=2) rfl ?_);refine zI ?hg (N:=2) ?hd (cs:=#[.int .i64 a0_0,.int .i64 a0_1,.string a0_2]) (t:=26) ?hr ?_;(case hd => rfl);(case hg => rfl);(case hr => first|(go_simp;done)|(go_simp;rfl));intro gb312 hg w6 hbox hb;have BK312:=zh (hbox);have GW312:=zh ((by rw [hg];exact (zB (by repeat (with_reducible first|exact HB.out|apply za|apply zb|apply zc))) : w.heap.size≤gb312));have GE312:=zh ((by rw [hg];exact (zB (by repeat (with_reducible first|exact HB.out|apply za|apply zb|apply zc))) : w.heap.size≤gb312));replace HB:=zh (zC (by repeat (with_reducible first|exact HB.out|apply za|apply zb|apply zc)) hb);clear hb hbox hg)|((with_reducible refine zK (N:=3) rfl ?_);refine zI ?hg (N:=3) ?hd (cs:=#[.int .i64 a1_0,.int .i64 a1_1,.string a1_2]) (t:=26) ?hr ?_;(case hd => rfl);(case hg => rfl);(case hr => first|(go_simp;done)|(go_simp;rfl));intro gb313 hg w7 hbox hb;have BK313:=zh (hbox);have GW313:=zh ((by rw [hg];exact (zB (by repeat (with_reducible first|exact HB.out|apply za|apply zb|apply zc|refine zd ?_ GE312.out))) : w.heap.size≤gb313));have GE313:=zh ((by rw [hg];exact (zB (by repeat (with_reducible first|exact HB.out|apply za|apply zb|apply zc|refine zd ?_ GE312.out))) : w.heap.size≤gb313));replace HB:=zh (zC (by repeat (with_reducible first|exact HB.out|apply za|apply zb|apply zc|refine zd ?_ GE312.out)) hb);have NB312_313:=zh ((by rw [hg];exact yc (yi (g:=gb312) (o:=.cells #[.int .i64 a0_0,.int .i64 a0_1,.string a0_2] 26 (0,0)) (by (with_reducible repeat (first|refine ze ?_ _|refine zf ?_|refine zg ?_ _));exact BK312.out)) : gb312≠gb313));have NB313_312:=zh ((by rw [hg];exact yd (yi (g:=gb312) (o:=.cells #[.int .i64 a0_0,.int .i64 a0_1,.string a0_2] 26 (0,0)) (by (with_reducible repeat (first|refine ze ?_ _|refine zf ?_|refine zg ?_ _));exact BK312.out)) : gb313≠gb312));replace BK312:=zh (zD (g:=gb312) (o:=.cells #[.int .i64 a0_0,.int .i64 a0_1,.string a0_2] 26 (0,0)) (by (with_reducible repeat (first|refine ze ?_ _|refine zf ?_|refine zg ?_ _));exact BK312.out) hb);clear hb hbox hg;have hnb8:=NB312_313.out;have hnc8:=NB313_312.out;have hcz9_0 : w7.cell? ⟨gb312,0,none⟩=some (.int .i64 a0_0):=(zz BK312.out 0).trans rfl;have hcz9_1 : w7.cell? ⟨gb312,1,none⟩=some (.int .i64 a0_1):=(zz BK312.out 1).trans rfl;have hcz9_2 : w7.cell? ⟨gb312,2,none⟩=some (.string a0_2):=(zz BK312.out 2).trans rfl;have hfz9_0:=zA BK312.out 0;have hfz9_1:=zA BK312.out 1;have hfz9_2:=zA BK312.out 2;have hcz10_0 : w7.cell? ⟨gb313,0,none⟩=some (.int .i64 a1_0):=(zz BK313.out 0).trans rfl;have hcz10_1 : w7.cell? ⟨gb313,1,none⟩=some (.int .i64 a1_1):=(zz BK313.out 1).trans rfl;have hcz10_2 : w7.cell? ⟨gb313,2,none⟩=some (.string a1_2):=(zz BK313.out 2).trans rfl;have hfz10_0:=zA BK313.out 0;have hfz10_1:=zA BK313.out 1;have hfz10_2:=zA BK313.out 2))
    go_ret
    exact ⟨by first|rfl|(simp [yt,yu] <;> rfl)|(simp [*,yt,yu] <;> rfl),by repeat (with_reducible first|exact HB.out|apply za|apply zb|apply zc|refine zd ?_ GE312.out|refine zd ?_ GE313.out)⟩
   rw [if_neg c5] at H;have c5b0 : (a0_2.toList == a1_2.toList)=false:=zY.mpr c5;have c5b1 : (a0_2.toList != a1_2.toList)=true:=zZ.mpr c5;obtain rfl:=zU H
   go_enter Try.func21,Try.ntmps21
   go_wp2_with (first|((with_reducible refine zK (N:=2) rfl ?_);refine zI ?hg (N:=2) ?hd (cs:=#[.int .i64 a0_0,.int .i64 a0_1,.string a0_2]) (t:=26) ?hr ?_;(case hd => rfl);(case hg => rfl);(case hr => first|(go_simp;done)|(go_simp;rfl));intro gb312 hg w11 hbox hb;have BK312:=zh (hbox);have GW312:=zh ((by rw [hg];exact (zB (by repeat (with_reducible first|exact HB.out|apply za|apply zb|apply zc))) : w.heap.size≤gb312));have GE312:=zh ((by rw [hg];exact (zB (by repeat (with_reducible first|exact HB.out|apply za|apply zb|apply zc))) : w.heap.size≤gb312));replace HB:=zh (zC (by repeat (with_reducible first|exact HB.out|apply za|apply zb|apply zc)) hb);clear hb hbox hg)|((with_reducible refine zK (N:=3) rfl ?_);refine zI ?hg (N:=3) ?hd (cs:=#[.int .i64 a1_0,.int .i64 a1_1,.string a1_2]) (t:=26) ?hr ?_;(case hd => rfl);(case hg => rfl);(case hr => first|(go_simp;done)|(go_simp;rfl));intro gb313 hg w12 hbox hb;have BK313:=zh (hbox);have GW313:=zh ((by rw [hg];exact (zB (by repeat (with_reducible first|exact HB.out|apply za|apply zb|apply zc|refine zd ?_ GE312.out))) : w.heap.size≤gb313));have GE313:=zh ((by rw [hg];exact (zB (by repeat (with_reducible first|exact HB.out|apply za|apply zb|apply zc|refine zd ?_ GE312.out))) : w.heap.size≤gb313));replace HB:=zh (zC (by repeat (with_reducible first|exact HB.out|apply za|apply zb|apply zc|refine zd ?_ GE312.out)) hb);have NB312_313:=zh ((by rw [hg];exact yc (yi (g:=gb312) (o:=.cells #[.int .i64 a0_0,.int .i64 a0_1,.string a0_2] 26 (0,0)) (by (with_reducible repeat (first|refine ze ?_ _|refine zf ?_|refine zg ?_ _));exact BK312.out)) : gb312≠gb313));have NB313_312:=zh ((by rw [hg];exact yd (yi (g:=gb312) (o:=.cells #[.int .i64 a0_0,.int .i64 a0_1,.string a0_2] 26 (0,0)) (by (with_reducible repeat (first|refine ze ?_ _|refine zf ?_|refine zg ?_ _));exact BK312.out)) : gb313≠gb312));replace BK312:=zh (zD (g:=gb312) (o:=.cells #[.int .i64 a0_0,.int .i64 a0_1,.string a0_2] 26 (0,0)) (by (with_reducible repeat (first|refine ze ?_ _|refine zf ?_|refine zg ?_ _));exact BK312.out) hb);clear hb hbox hg;have hnb13:=NB312_313.out;have hnc13:=NB313_312.out;have hcz14_0 : w12.cell? ⟨gb312,0,none⟩=some (.int .i64 a0_0):=(zz BK312.out 0).trans rfl;have hcz14_1 : w12.cell? ⟨gb312,1,none⟩=some (.int .i64 a0_1):=(zz BK312.out 1).trans rfl;have hcz14_2 : w12.cell? ⟨gb312,2,none⟩=some (.string a0_2):=(zz BK312.out 2).trans rfl;have hfz14_0:=zA BK312.out 0;have hfz14_1:=zA BK312.out 1;have hfz14_2:=zA BK312.out 2;have hcz15_0 : w12.cell? ⟨gb313,0,none⟩=some (.int .i64 a1_0):=(zz BK313.out 0).trans rfl;have hcz15_1 : w12.cell? ⟨gb313,1,none⟩=some (.int .i64 a1_1):=(zz BK313.out 1).trans rfl;have hcz15_2 : w12.cell? ⟨gb313,2,none⟩=some (.string a1_2):=(zz BK313.out 2).trans rfl;have hfz15_0:=zA BK313.out 0;have hfz15_1:=zA BK313.out 1;have hfz15_2:=zA BK313.out 2))
   go_ret
   exact ⟨by first|rfl|(simp [yt,yu] <;> rfl)|(simp [*,yt,yu] <;> rfl),by repeat (with_reducible first|exact HB.out|apply za|apply zb|apply zc|refine zd ?_ GE312.out|refine zd ?_ GE313.out)⟩
  rw [if_neg c4] at H;have c4b0 : (a0_1 == a1_1)=false:=zY.mpr c4;have c4b1 : (a0_1 != a1_1)=true:=zZ.mpr c4;obtain rfl:=zU H
  go_enter Try.func21,Try.ntmps21
  go_wp2_with (first|((with_reducible refine zK (N:=2) rfl ?_);refine zI ?hg (N:=2) ?hd (cs:=#[.int .i64 a0_0,.int .i64 a0_1,.string a0_2]) (t:=26) ?hr ?_;(case hd => rfl);(case hg => rfl);(case hr => first|(go_simp;done)|(go_simp;rfl));intro gb312 hg w16 hbox hb;have BK312:=zh (hbox);have GW312:=zh ((by rw [hg];exact (zB (by repeat (with_reducible first|exact HB.out|apply za|apply zb|apply zc))) : w.heap.size≤gb312));have GE312:=zh ((by rw [hg];exact (zB (by repeat (with_reducible first|exact HB.out|apply za|apply zb|apply zc))) : w.heap.size≤gb312));replace HB:=zh (zC (by repeat (with_reducible first|exact HB.out|apply za|apply zb|apply zc)) hb);clear hb hbox hg)|((with_reducible refine zK (N:=3) rfl ?_);refine zI ?hg (N:=3) ?hd (cs:=#[.int .i64 a1_0,.int .i64 a1_1,.string a1_2]) (t:=26) ?hr ?_;(case hd => rfl);(case hg => rfl);(case hr => first|(go_simp;done)|(go_simp;rfl));intro gb313 hg w17 hbox hb;have BK313:=zh (hbox);have GW313:=zh ((by rw [hg];exact (zB (by repeat (with_reducible first|exact HB.out|apply za|apply zb|apply zc|refine zd ?_ GE312.out))) : w.heap.size≤gb313));have GE313:=zh ((by rw [hg];exact (zB (by repeat (with_reducible first|exact HB.out|apply za|apply zb|apply zc|refine zd ?_ GE312.out))) : w.heap.size≤gb313));replace HB:=zh (zC (by repeat (with_reducible first|exact HB.out|apply za|apply zb|apply zc|refine zd ?_ GE312.out)) hb);have NB312_313:=zh ((by rw [hg];exact yc (yi (g:=gb312) (o:=.cells #[.int .i64 a0_0,.int .i64 a0_1,.string a0_2] 26 (0,0)) (by (with_reducible repeat (first|refine ze ?_ _|refine zf ?_|refine zg ?_ _));exact BK312.out)) : gb312≠gb313));have NB313_312:=zh ((by rw [hg];exact yd (yi (g:=gb312) (o:=.cells #[.int .i64 a0_0,.int .i64 a0_1,.string a0_2] 26 (0,0)) (by (with_reducible repeat (first|refine ze ?_ _|refine zf ?_|refine zg ?_ _));exact BK312.out)) : gb313≠gb312));replace BK312:=zh (zD (g:=gb312) (o:=.cells #[.int .i64 a0_0,.int .i64 a0_1,.string a0_2] 26 (0,0)) (by (with_reducible repeat (first|refine ze ?_ _|refine zf ?_|refine zg ?_ _));exact BK312.out) hb);clear hb hbox hg;have hnb18:=NB312_313.out;have hnc18:=NB313_312.out;have hcz19_0 : w17.cell? ⟨gb312,0,none⟩=some (.int .i64 a0_0):=(zz BK312.out 0).trans rfl;have hcz19_1 : w17.cell? ⟨gb312,1,none⟩=some (.int .i64 a0_1):=(zz BK312.out 1).trans rfl;have hcz19_2 : w17.cell? ⟨gb312,2,none⟩=some (.string a0_2):=(zz BK312.out 2).trans rfl;have hfz19_0:=zA BK312.out 0;have hfz19_1:=zA BK312.out 1;have hfz19_2:=zA BK312.out 2;have hcz20_0 : w17.cell? ⟨gb313,0,none⟩=some (.int .i64 a1_0):=(zz BK313.out 0).trans rfl;have hcz20_1 : w17.cell? ⟨gb313,1,none⟩=some (.int .i64 a1_1):=(zz BK313.out 1).trans rfl;have hcz20_2 : w17.cell? ⟨gb313,2,none⟩=some (.string a1_2):=(zz BK313.out 2).trans rfl;have hfz20_0:=zA BK313.out 0;have hfz20_1:=zA BK313.out 1;have hfz20_2:=zA BK313.out 2))
  go_ret
  exact ⟨by first|rfl|(simp [yt,yu] <;> rfl)|(simp [*,yt,yu] <;> rfl),by repeat (with_reducible first|exact HB.out|apply za|apply zb|apply zc|refine zd ?_ GE312.out|refine zd ?_ GE313.out)⟩
 rw [if_neg c3] at H;have c3b0 : (a0_0 == a1_0)=false:=zY.mpr c3;have c3b1 : (a0_0 != a1_0)=true:=zZ.mpr c3;obtain rfl:=zU H
 go_enter Try.func21,Try.ntmps21
 go_wp2_with (first|((with_reducible refine zK (N:=2) rfl ?_);refine zI ?hg (N:=2) ?hd (cs:=#[.int .i64 a0_0,.int .i64 a0_1,.string a0_2]) (t:=26) ?hr ?_;(case hd => rfl);(case hg => rfl);(case hr => first|(go_simp;done)|(go_simp;rfl));intro gb312 hg w21 hbox hb;have BK312:=zh (hbox);have GW312:=zh ((by rw [hg];exact (zB (by repeat (with_reducible first|exact HB.out|apply za|apply zb|apply zc))) : w.heap.size≤gb312));have GE312:=zh ((by rw [hg];exact (zB (by repeat (with_reducible first|exact HB.out|apply za|apply zb|apply zc))) : w.heap.size≤gb312));replace HB:=zh (zC (by repeat (with_reducible first|exact HB.out|apply za|apply zb|apply zc)) hb);clear hb hbox hg)|((with_reducible refine zK (N:=3) rfl ?_);refine zI ?hg (N:=3) ?hd (cs:=#[.int .i64 a1_0,.int .i64 a1_1,.string a1_2]) (t:=26) ?hr ?_;(case hd => rfl);(case hg => rfl);(case hr => first|(go_simp;done)|(go_simp;rfl));intro gb313 hg w22 hbox hb;have BK313:=zh (hbox);have GW313:=zh ((by rw [hg];exact (zB (by repeat (with_reducible first|exact HB.out|apply za|apply zb|apply zc|refine zd ?_ GE312.out))) : w.heap.size≤gb313));have GE313:=zh ((by rw [hg];exact (zB (by repeat (with_reducible first|exact HB.out|apply za|apply zb|apply zc|refine zd ?_ GE312.out))) : w.heap.size≤gb313));replace HB:=zh (zC (by repeat (with_reducible first|exact HB.out|apply za|apply zb|apply zc|refine zd ?_ GE312.out)) hb);have NB312_313:=zh ((by rw [hg];exact yc (yi (g:=gb312) (o:=.cells #[.int .i64 a0_0,.int .i64 a0_1,.string a0_2] 26 (0,0)) (by (with_reducible repeat (first|refine ze ?_ _|refine zf ?_|refine zg ?_ _));exact BK312.out)) : gb312≠gb313));have NB313_312:=zh ((by rw [hg];exact yd (yi (g:=gb312) (o:=.cells #[.int .i64 a0_0,.int .i64 a0_1,.string a0_2] 26 (0,0)) (by (with_reducible repeat (first|refine ze ?_ _|refine zf ?_|refine zg ?_ _));exact BK312.out)) : gb313≠gb312));replace BK312:=zh (zD (g:=gb312) (o:=.cells #[.int .i64 a0_0,.int .i64 a0_1,.string a0_2] 26 (0,0)) (by (with_reducible repeat (first|refine ze ?_ _|refine zf ?_|refine zg ?_ _));exact BK312.out) hb);clear hb hbox hg;have hnb23:=NB312_313.out;have hnc23:=NB313_312.out;have hcz24_0 : w22.cell? ⟨gb312,0,none⟩=some (.int .i64 a0_0):=(zz BK312.out 0).trans rfl;have hcz24_1 : w22.cell? ⟨gb312,1,none⟩=some (.int .i64 a0_1):=(zz BK312.out 1).trans rfl;have hcz24_2 : w22.cell? ⟨gb312,2,none⟩=some (.string a0_2):=(zz BK312.out 2).trans rfl;have hfz24_0:=zA BK312.out 0;have hfz24_1:=zA BK312.out 1;have hfz24_2:=zA BK312.out 2;have hcz25_0 : w22.cell? ⟨gb313,0,none⟩=some (.int .i64 a1_0):=(zz BK313.out 0).trans rfl;have hcz25_1 : w22.cell? ⟨gb313,1,none⟩=some (.int .i64 a1_1):=(zz BK313.out 1).trans rfl;have hcz25_2 : w22.cell? ⟨gb313,2,none⟩=some (.string a1_2):=(zz BK313.out 2).trans rfl;have hfz25_0:=zA BK313.out 0;have hfz25_1:=zA BK313.out 1;have hfz25_2:=zA BK313.out 2))
 go_ret
 exact ⟨by first|rfl|(simp [yt,yu] <;> rfl)|(simp [*,yt,yu] <;> rfl),by repeat (with_reducible first|exact HB.out|apply za|apply zb|apply zc|refine zd ?_ GE312.out|refine zd ?_ GE313.out)⟩

end Go.Proofs.Ytpmeglcmhiihoaa.Q
end
section
namespace Go.Proofs.Ytpmeglcmhiihoaa.Q
open Go.RowKit Go.Proofs.YtpmeglcmhiihoaaW.PrintWords Go.Proofs.YtpmeglcmhiihoaaW.PrintLast Go.Proofs.YtpmeglcmhiihoaaW.PrintMore
attribute [local go_sem] max2_int min2_int max_two min_two max_three min_three max_four min_four max2_str min2_str str_geq str_gtr str_leq   -- for this text's walks alone
set_option linter.unusedVariables false
set_option linter.unusedSimpArgs false

def laws_eqField.f (a0_0 : ByteArray) (a0_1 : Int) (a0_2 : Int) (a0_3 : ByteArray) (a1_0 : ByteArray) (a1_1 : Int) (a1_2 : Int) (a1_3 : ByteArray) : Option (Bool):=if a0_0.toList=a1_0.toList then ((laws_eqValue.f a0_1 a0_2 a0_3 a1_1 a1_2 a1_3).bind fun t560 => (if t560=true then (some true) else (some false))) else (some false)
set_option maxHeartbeats 8000000 in
set_option maxRecDepth 100000 in
theorem laws_eqField.calls (a0_0 : ByteArray) (a0_1 : Int) (a0_2 : Int) (a0_3 : ByteArray) (a1_0 : ByteArray) (a1_1 : Int) (a1_2 : Int) (a1_3 : ByteArray) (r : Bool) (w : World) (h : laws_eqField.f a0_0 a0_1 a0_2 a0_3 a1_0 a1_1 a1_2 a1_3=some r) :
  Calls Try.prog 66 #[.agg #[.string a0_0,.int .i64 a0_1,.int .i64 a0_2,.string a0_3],.agg #[.string a1_0,.int .i64 a1_1,.int .i64 a1_2,.string a1_3]] w fun e w' => e = .returned (.bool r)∧Below w.heap.size w w':=by
 have hu68:=Try.underlying68;have hu26:=Try.underlying26;have HB:=zh (Below.refl w.heap.size w);have H : (if a0_0.toList=a1_0.toList then ((laws_eqValue.f a0_1 a0_2 a0_3 a1_1 a1_2 a1_3).bind fun t560 => (if t560=true then (some true) else (some false))) else (some false))=some r:=h;clear h
 by_cases c3 : a0_0.toList=a1_0.toList
 ·
  rw [if_pos c3] at H
  have c3b0 : (a0_0.toList == a1_0.toList)=true:=ya.mpr c3;have c3b1 : (a0_0.toList != a1_0.toList)=false:=zX.mpr c3;clear c3;replace H:=zT.mp H;obtain ⟨t560,A40,H⟩:=H;replace H : (if t560=true then (some true) else (some false))=some r:=H;have A4:=zh A40;clear A40
  by_cases c5 : t560=true
  ·
   subst c5
   have H1 : (some true)=some r:=by rw [if_pos rfl] at H;exact H
   clear H;have H:=H1;clear H1;obtain rfl:=zU H
   go_enter Try.func66,Try.ntmps66
   go_wp2_with (first|((with_reducible refine zK (N:=2) rfl ?_);refine zI ?hg (N:=2) ?hd (cs:=#[.string a0_0,.int .i64 a0_1,.int .i64 a0_2,.string a0_3]) (t:=68) ?hr ?_;(case hd => rfl);(case hg => rfl);(case hr => first|(go_simp;done)|(go_simp;rfl));intro gb558 hg w6 hbox hb;have BK558:=zh (hbox);have GW558:=zh ((by rw [hg];exact (zB (by repeat (with_reducible first|exact HB.out|apply za|apply zb|apply zc))) : w.heap.size≤gb558));have GE558:=zh ((by rw [hg];exact (zB (by repeat (with_reducible first|exact HB.out|apply za|apply zb|apply zc))) : w.heap.size≤gb558));replace HB:=zh (zC (by repeat (with_reducible first|exact HB.out|apply za|apply zb|apply zc)) hb);clear hb hbox hg)|((with_reducible refine zK (N:=3) rfl ?_);refine zI ?hg (N:=3) ?hd (cs:=#[.string a1_0,.int .i64 a1_1,.int .i64 a1_2,.string a1_3]) (t:=68) ?hr ?_;(case hd => rfl);(case hg => rfl);(case hr => first|(go_simp;done)|(go_simp;rfl));intro gb559 hg w7 hbox hb;have BK559:=zh (hbox);have GW559:=zh ((by rw [hg];exact (zB (by repeat (with_reducible first|exact HB.out|apply za|apply zb|apply zc|refine zd ?_ GE558.out))) : w.heap.size≤gb559));have GE559:=zh ((by rw [hg];exact (zB (by repeat (with_reducible first|exact HB.out|apply za|apply zb|apply zc|refine zd ?_ GE558.out))) : w.heap.size≤gb559));replace HB:=zh (zC (by repeat (with_reducible first|exact HB.out|apply za|apply zb|apply zc|refine zd ?_ GE558.out)) hb);have NB558_559:=zh ((by rw [hg];exact yc (yi (g:=gb558) (o:=.cells #[.string a0_0,.int .i64 a0_1,.int .i64 a0_2,.string a0_3] 68 (0,0)) (by (with_reducible repeat (first|refine ze ?_ _|refine zf ?_|refine zg ?_ _));exact BK558.out)) : gb558≠gb559));have NB559_558:=zh ((by rw [hg];exact yd (yi (g:=gb558) (o:=.cells #[.string a0_0,.int .i64 a0_1,.int .i64 a0_2,.string a0_3] 68 (0,0)) (by (with_reducible repeat (first|refine ze ?_ _|refine zf ?_|refine zg ?_ _));exact BK558.out)) : gb559≠gb558));replace BK558:=zh (zD (g:=gb558) (o:=.cells #[.string a0_0,.int .i64 a0_1,.int .i64 a0_2,.string a0_3] 68 (0,0)) (by (with_reducible repeat (first|refine ze ?_ _|refine zf ?_|refine zg ?_ _));exact BK558.out) hb);clear hb hbox hg;have hnb8:=NB558_559.out;have hnc8:=NB559_558.out;have hcz9_0 : w7.cell? ⟨gb558,0,none⟩=some (.string a0_0):=(zz BK558.out 0).trans rfl;have hcz9_1 : w7.cell? ⟨gb558,1,none⟩=some (.int .i64 a0_1):=(zz BK558.out 1).trans rfl;have hcz9_2 : w7.cell? ⟨gb558,2,none⟩=some (.int .i64 a0_2):=(zz BK558.out 2).trans rfl;have hcz9_3 : w7.cell? ⟨gb558,3,none⟩=some (.string a0_3):=(zz BK558.out 3).trans rfl;have hfz9_0:=zA BK558.out 0;have hfz9_1:=zA BK558.out 1;have hfz9_2:=zA BK558.out 2;have hfz9_3:=zA BK558.out 3;have hcz10_0 : w7.cell? ⟨gb559,0,none⟩=some (.string a1_0):=(zz BK559.out 0).trans rfl;have hcz10_1 : w7.cell? ⟨gb559,1,none⟩=some (.int .i64 a1_1):=(zz BK559.out 1).trans rfl;have hcz10_2 : w7.cell? ⟨gb559,2,none⟩=some (.int .i64 a1_2):=(zz BK559.out 2).trans rfl;have hcz10_3 : w7.cell? ⟨gb559,3,none⟩=some (.string a1_3):=(zz BK559.out 3).trans rfl;have hfz10_0:=zA BK559.out 0;have hfz10_1:=zA BK559.out 1;have hfz10_2:=zA BK559.out 2;have hfz10_3:=zA BK559.out 3)|((with_reducible refine zJ (f:=21) rfl ?_);refine yj (some 14) rfl rfl Try.func21 (by kernel_rfl) rfl #[.agg #[.int .i64 a0_1,.int .i64 a0_2,.string a0_3],.agg #[.int .i64 a1_1,.int .i64 a1_2,.string a1_3]] rfl (by (try simp only [zt,zu,zv]);first|done|rfl|(simp only [zw,zx];rfl)|(simp only [yr,ys,zV,zW];rfl)) ?_;(with_reducible refine (laws_eqValue.calls  a0_1 a0_2 a0_3 a1_1 a1_2 a1_3 true _ A4.out).mono ?_);rintro e w11 ⟨rfl,hb⟩;refine ⟨_,rfl,?_⟩;replace BK558:=zh (zD (g:=gb558) (o:=.cells #[.string a0_0,.int .i64 a0_1,.int .i64 a0_2,.string a0_3] 68 (0,0)) (by (with_reducible repeat (first|refine ze ?_ _|refine zf ?_|refine zg ?_ _));exact BK558.out) hb);replace BK559:=zh (zD (g:=gb559) (o:=.cells #[.string a1_0,.int .i64 a1_1,.int .i64 a1_2,.string a1_3] 68 (0,0)) (by (with_reducible repeat (first|refine ze ?_ _|refine zf ?_|refine zg ?_ _));exact BK559.out) hb);replace HB:=zh (zC (by repeat (with_reducible first|exact HB.out|apply za|apply zb|apply zc|refine zd ?_ GE558.out|refine zd ?_ GE559.out)) hb);(try clear hb);(try clear hb2);(try clear hk);(try clear hi)))
   go_ret
   exact ⟨by first|rfl|(simp [yt,yu] <;> rfl)|(simp [*,yt,yu] <;> rfl),by repeat (with_reducible first|exact HB.out|apply za|apply zb|apply zc|refine zd ?_ GE558.out|refine zd ?_ GE559.out)⟩
  replace c5:=yb.mpr c5;subst c5;have H1 : (some false)=some r:=by rw [if_neg (show ¬ (false=true) by decide)] at H;exact H
  clear H;have H:=H1;clear H1;obtain rfl:=zU H
  go_enter Try.func66,Try.ntmps66
  go_wp2_with (first|((with_reducible refine zK (N:=2) rfl ?_);refine zI ?hg (N:=2) ?hd (cs:=#[.string a0_0,.int .i64 a0_1,.int .i64 a0_2,.string a0_3]) (t:=68) ?hr ?_;(case hd => rfl);(case hg => rfl);(case hr => first|(go_simp;done)|(go_simp;rfl));intro gb558 hg w12 hbox hb;have BK558:=zh (hbox);have GW558:=zh ((by rw [hg];exact (zB (by repeat (with_reducible first|exact HB.out|apply za|apply zb|apply zc))) : w.heap.size≤gb558));have GE558:=zh ((by rw [hg];exact (zB (by repeat (with_reducible first|exact HB.out|apply za|apply zb|apply zc))) : w.heap.size≤gb558));replace HB:=zh (zC (by repeat (with_reducible first|exact HB.out|apply za|apply zb|apply zc)) hb);clear hb hbox hg)|((with_reducible refine zK (N:=3) rfl ?_);refine zI ?hg (N:=3) ?hd (cs:=#[.string a1_0,.int .i64 a1_1,.int .i64 a1_2,.string a1_3]) (t:=68) ?hr ?_;(case hd => rfl);(case hg => rfl);(case hr => first|(go_simp;done)|(go_simp;rfl));intro gb559 hg w13 hbox hb;have BK559:=zh (hbox);have GW559:=zh ((by rw [hg];exact (zB (by repeat (with_reducible first|exact HB.out|apply za|apply zb|apply zc|refine zd ?_ GE558.out))) : w.heap.size≤gb559));have GE559:=zh ((by rw [hg];exact (zB (by repeat (with_reducible first|exact HB.out|apply za|apply zb|apply zc|refine zd ?_ GE558.out))) : w.heap.size≤gb559));replace HB:=zh (zC (by repeat (with_reducible first|exact HB.out|apply za|apply zb|apply zc|refine zd ?_ GE558.out)) hb);have NB558_559:=zh ((by rw [hg];exact yc (yi (g:=gb558) (o:=.cells #[.string a0_0,.int .i64 a0_1,.int .i64 a0_2,.string a0_3] 68 (0,0)) (by (with_reducible repeat (first|refine ze ?_ _|refine zf ?_|refine zg ?_ _));exact BK558.out)) : gb558≠gb559));have NB559_558:=zh ((by rw [hg];exact yd (yi (g:=gb558) (o:=.cells #[.string a0_0,.int .i64 a0_1,.int .i64 a0_2,.string a0_3] 68 (0,0)) (by (with_reducible repeat (first|refine ze ?_ _|refine zf ?_|refine zg ?_ _));exact BK558.out)) : gb559≠gb558));replace BK558:=zh (zD (g:=gb558) (o:=.cells #[.string a0_0,.int .i64 a0_1,.int .i64 a0_2,.string a0_3] 68 (0,0)) (by (with_reducible repeat (first|refine ze ?_ _|refine zf ?_|refine zg ?_ _));exact BK558.out) hb);clear hb hbox hg;have hnb14:=NB558_559.out;have hnc14:=NB559_558.out;have hcz15_0 : w13.cell? ⟨gb558,0,none⟩=some (.string a0_0):=(zz BK558.out 0).trans rfl;have hcz15_1 : w13.cell? ⟨gb558,1,none⟩=some (.int .i64 a0_1):=(zz BK558.out 1).trans rfl;have hcz15_2 : w13.cell? ⟨gb558,2,none⟩=some (.int .i64 a0_2):=(zz BK558.out 2).trans rfl;have hcz15_3 : w13.cell? ⟨gb558,3,none⟩=some (.string a0_3):=(zz BK558.out 3).trans rfl;have hfz15_0:=zA BK558.out 0;have hfz15_1:=zA BK558.out 1;have hfz15_2:=zA BK558.out 2;have hfz15_3:=zA BK558.out 3;have hcz16_0 : w13.cell? ⟨gb559,0,none⟩=some (.string a1_0):=(zz BK559.out 0).trans rfl;have hcz16_1 : w13.cell? ⟨gb559,1,none⟩=some (.int .i64 a1_1):=(zz BK559.out 1).trans rfl;have hcz16_2 : w13.cell? ⟨gb559,2,none⟩=some (.int .i64 a1_2):=(zz BK559.out 2).trans rfl;have hcz16_3 : w13.cell? ⟨gb559,3,none⟩=some (.string a1_3):=(zz BK559.out 3).trans rfl;have hfz16_0:=zA BK559.out 0;have hfz16_1:=zA BK559.out 1;have hfz16_2:=zA BK559.out 2;have hfz16_3:=zA BK559.out 3)|((with_reducible refine zJ (f:=21) rfl ?_);refine yj (some 14) rfl rfl Try.func21 (by kernel_rfl) rfl #[.agg #[.int .i64 a0_1,.int .i64 a0_2,.string a0_3],.agg #[.int .i64 a1_1,.int .i64 a1_2,.string a1_3]] rfl (by (try simp only [zt,zu,zv]);first|done|rfl|(simp only [zw,zx];rfl)|(simp only [yr,ys,zV,zW];rfl)) ?_;(with_reducible refine (laws_eqValue.calls  a0_1 a0_2 a0_3 a1_1 a1_2 a1_3 false _ A4.out).mono ?_);rintro e w17 ⟨rfl,hb⟩;refine ⟨_,rfl,?_⟩;replace BK558:=zh (zD (g:=gb558) (o:=.cells #[.string a0_0,.int .i64 a0_1,.int .i64 a0_2,.string a0_3] 68 (0,0)) (by (with_reducible repeat (first|refine ze ?_ _|refine zf ?_|refine zg ?_ _));exact BK558.out) hb);replace BK559:=zh (zD (g:=gb559) (o:=.cells #[.string a1_0,.int .i64 a1_1,.int .i64 a1_2,.string a1_3] 68 (0,0)) (by (with_reducible repeat (first|refine ze ?_ _|refine zf ?_|refine zg ?_ _));exact BK559.out) hb);replace HB:=zh (zC (by repeat (with_reducible first|exact HB.out|apply za|apply zb|apply zc|refine zd ?_ GE558.out|refine zd ?_ GE559.out)) hb);(try clear hb);(try clear hb2);(try clear hk);(try clear hi)))
  go_ret
  exact ⟨by first|rfl|(simp [yt,yu] <;> rfl)|(simp [*,yt,yu] <;> rfl),by repeat (with_reducible first|exact HB.out|apply za|apply zb|apply zc|refine zd ?_ GE558.out|refine zd ?_ GE559.out)⟩
 rw [if_neg c3] at H;have c3b0 : (a0_0.toList == a1_0.toList)=false:=zY.mpr c3;have c3b1 : (a0_0.toList != a1_0.toList)=true:=zZ.mpr c3;obtain rfl:=zU H
 go_enter Try.func66,Try.ntmps66
 go_wp2_with (first|((with_reducible refine zK (N:=2) rfl ?_);refine zI ?hg (N:=2) ?hd (cs:=#[.string a0_0,.int .i64 a0_1,.int .i64 a0_2,.string a0_3]) (t:=68) ?hr ?_;(case hd => rfl);(case hg => rfl);(case hr => first|(go_simp;done)|(go_simp;rfl));intro gb558 hg w18 hbox hb;have BK558:=zh (hbox);have GW558:=zh ((by rw [hg];exact (zB (by repeat (with_reducible first|exact HB.out|apply za|apply zb|apply zc))) : w.heap.size≤gb558));have GE558:=zh ((by rw [hg];exact (zB (by repeat (with_reducible first|exact HB.out|apply za|apply zb|apply zc))) : w.heap.size≤gb558));replace HB:=zh (zC (by repeat (with_reducible first|exact HB.out|apply za|apply zb|apply zc)) hb);clear hb hbox hg)|((with_reducible refine zK (N:=3) rfl ?_);refine zI ?hg (N:=3) ?hd (cs:=#[.string a1_0,.int .i64 a1_1,.int .i64 a1_2,.string a1_3]) (t:=68) ?hr ?_;(case hd => rfl);(case hg => rfl);(case hr => first|(go_simp;done)|(go_simp;rfl));intro gb559 hg w19 hbox hb;have BK559:=zh (hbox);have GW559:=zh ((by rw [hg];exact (zB (by repeat (with_reducible first|exact HB.out|apply za|apply zb|apply zc|refine zd ?_ GE558.out))) : w.heap.size≤gb559));have GE559:=zh ((by rw [hg];exact (zB (by repeat (with_reducible first|exact HB.out|apply za|apply zb|apply zc|refine zd ?_ GE558.out))) : w.heap.size≤gb559));replace HB:=zh (zC (by repeat (with_reducible first|exact HB.out|apply za|apply zb|apply zc|refine zd ?_ GE558.out)) hb);have NB558_559:=zh ((by rw [hg];exact yc (yi (g:=gb558) (o:=.cells #[.string a0_0,.int .i64 a0_1,.int .i64 a0_2,.string a0_3] 68 (0,0)) (by (with_reducible repeat (first|refine ze ?_ _|refine zf ?_|refine zg ?_ _));exact BK558.out)) : gb558≠gb559));have NB559_558:=zh ((by rw [hg];exact yd (yi (g:=gb558) (o:=.cells #[.string a0_0,.int .i64 a0_1,.int .i64 a0_2,.string a0_3] 68 (0,0)) (by (with_reducible repeat (first|refine ze ?_ _|refine zf ?_|refine zg ?_ _));exact BK558.out)) : gb559≠gb558));replace BK558:=zh (zD (g:=gb558) (o:=.cells #[.string a0_0,.int .i64 a0_1,.int .i64 a0_2,.string a0_3] 68 (0,0)) (by (with_reducible repeat (first|refine ze ?_ _|refine zf ?_|refine zg ?_ _));exact BK558.out) hb);clear hb hbox hg;have hnb20:=NB558_559.out;have hnc20:=NB559_558.out;have hcz21_0 : w19.cell? ⟨gb558,0,none⟩=some (.string a0_0):=(zz BK558.out 0).trans rfl;have hcz21_1 : w19.cell? ⟨gb558,1,none⟩=some (.int .i64 a0_1):=(zz BK558.out 1).trans rfl;have hcz21_2 : w19.cell? ⟨gb558,2,none⟩=some (.int .i64 a0_2):=(zz BK558.out 2).trans rfl;have hcz21_3 : w19.cell? ⟨gb558,3,none⟩=some (.string a0_3):=(zz BK558.out 3).trans rfl;have hfz21_0:=zA BK558.out 0;have hfz21_1:=zA BK558.out 1;have hfz21_2:=zA BK558.out 2;have hfz21_3:=zA BK558.out 3;have hcz22_0 : w19.cell? ⟨gb559,0,none⟩=some (.string a1_0):=(zz BK559.out 0).trans rfl;have hcz22_1 : w19.cell? ⟨gb559,1,none⟩=some (.int .i64 a1_1):=(zz BK559.out 1).trans rfl;have hcz22_2 : w19.cell? ⟨gb559,2,none⟩=some (.int .i64 a1_2):=(zz BK559.out 2).trans rfl;have hcz22_3 : w19.cell? ⟨gb559,3,none⟩=some (.string a1_3):=(zz BK559.out 3).trans rfl;have hfz22_0:=zA BK559.out 0;have hfz22_1:=zA BK559.out 1;have hfz22_2:=zA BK559.out 2;have hfz22_3:=zA BK559.out 3))
 go_ret
 exact ⟨by first|rfl|(simp [yt,yu] <;> rfl)|(simp [*,yt,yu] <;> rfl),by repeat (with_reducible first|exact HB.out|apply za|apply zb|apply zc|refine zd ?_ GE558.out|refine zd ?_ GE559.out)⟩

end Go.Proofs.Ytpmeglcmhiihoaa.Q
end
section
namespace Go.Proofs.Ytpmeglcmhiihoaa.Q
open Go.RowKit Go.Proofs.YtpmeglcmhiihoaaW.PrintWords Go.Proofs.YtpmeglcmhiihoaaW.PrintLast Go.Proofs.YtpmeglcmhiihoaaW.PrintMore
attribute [local go_sem] max2_int min2_int max_two min_two max_three min_three max_four min_four max2_str min2_str str_geq str_gtr str_leq   -- for this text's walks alone
set_option linter.unusedVariables false
set_option linter.unusedSimpArgs false

def laws_eqFieldS.l0 : Nat→List (S68)→List (S68)→Int→Option (Bool)
 | 0,_,_,_ => none
 | k + 1,x0,x1,x5 => if x5<(x0.length : Int) then (if 0≤x5 then (if x5<(x1.length : Int) then ((laws_eqField.f ((rd_T68 x0 x5).f0) ((rd_T68 x0 x5).f1.f0) ((rd_T68 x0 x5).f1.f1) ((rd_T68 x0 x5).f1.f2) ((rd_T68 x1 x5).f0) ((rd_T68 x1 x5).f1.f0) ((rd_T68 x1 x5).f1.f1) ((rd_T68 x1 x5).f1.f2)).bind fun t563 => (if t563=true then (laws_eqFieldS.l0 k x0 x1 (wrap64 (x5 + 1))) else (some false))) else (none)) else (none)) else (some true)
def laws_eqFieldS.f (k : Nat) (l0 : List (S68)) (l1 : List (S68)) : Option (Bool):=if (l0.length : Int)=(l1.length : Int) then (laws_eqFieldS.l0 k l0 l1 0) else (some false)
theorem laws_eqFieldS.mono_l : ∀ k,(∀ y0 y1 y2,LeO (laws_eqFieldS.l0 k y0 y1 y2) (laws_eqFieldS.l0 (k + 1) y0 y1 y2))
 | 0 => fun _ _ _ r h => by simp [laws_eqFieldS.l0] at h
 | k + 1 => by
  have ih0:=laws_eqFieldS.mono_l k;intro y0 y1 y2;unfold laws_eqFieldS.l0
  repeat' first|(with_reducible exact ih0 _ _ _)|(with_reducible exact zQ _)|(with_reducible exact zN _)|(with_reducible refine zP ?_ ?_)|(with_reducible refine zO ?_ (fun _ => ?_))|refine zP ?_ ?_|refine zO ?_ (fun _ => ?_)
theorem laws_eqFieldS.mono : ∀ a0 a1 k,LeO (laws_eqFieldS.f k a0 a1) (laws_eqFieldS.f (k + 1) a0 a1):=by
 intro a0 a1 k;have ih0:=laws_eqFieldS.mono_l k;unfold laws_eqFieldS.f
 repeat' first|(with_reducible exact ih0 _ _ _)|(with_reducible exact zQ _)|(with_reducible exact zN _)|(with_reducible refine zP ?_ ?_)|(with_reducible refine zO ?_ (fun _ => ?_))|refine zP ?_ ?_|refine zO ?_ (fun _ => ?_)
def laws_eqFieldS.T6 : Bool×List (List Nat×List Nat):=(true,[([],[]),([],[]),([0,1],[0,1]),([2],[2]),([],[]),([],[]),([4,5],[4,5]),([6],[6]),([3,7],[3,7]),([8],[8])])
def laws_eqFieldS.B6 : List Nat:=[0,0,3,7,0,0,48,112,255,511]
theorem laws_eqFieldS.tab6 : rtab .any (opsOf Try.f36 6)=laws_eqFieldS.T6:=by kernel_rfl
theorem laws_eqFieldS.bits6 : waitsOk laws_eqFieldS.T6.2 laws_eqFieldS.B6=true:=by kernel_rfl
set_option maxHeartbeats 8000000 in
set_option maxRecDepth 100000 in
theorem laws_eqFieldS.calls (k : Nat) (A0 : Option Addr) (c0 : Nat) (l0 : List (S68)) (A1 : Option Addr) (c1 : Nat) (l1 : List (S68)) (r : Bool) (w : World) (hr0 : Kd.C k68 w A0 l0.length l0) (hc0 : l0.length≤c0) (hr1 : Kd.C k68 w A1 l1.length l1) (hc1 : l1.length≤c1) (h : laws_eqFieldS.f k l0 l1=some r) :
  Calls Try.prog 36 #[.slice A0 l0.length c0,.slice A1 l1.length c1] w fun e w' => e = .returned (.bool r)∧Below w.heap.size w w':=by
 have hu68:=Try.underlying68;have HR0:=zh hr0;have HC0:=zh hc0;clear hr0 hc0;have HR1:=zh hr1;have HC1:=zh hc1;clear hr1 hc1;have HB:=zh (Below.refl w.heap.size w);have H : (if (l0.length : Int)=(l1.length : Int) then (laws_eqFieldS.l0 k l0 l1 0) else (some false))=some r:=h;clear h
 by_cases c3 : (l0.length : Int)=(l1.length : Int)
 ·
  rw [if_pos c3] at H
  have c3b0 : ((l0.length : Int) == (l1.length : Int))=true:=ya.mpr c3;have c3b1 : ((l0.length : Int) != (l1.length : Int))=false:=zX.mpr c3;have c3b2 : (l0.length == l1.length)=true:=by first|simpa using c3|(simp at c3 ⊢;omega)
  clear c3;have H':=zh H;clear H
  go_enter Try.func36,Try.ntmps36
  go_wp2
  go_loopg [5] k (fun kq v5 w' => ∃ (x5_1 : Int),v5 = .int .i64 x5_1∧Aside0 (laws_eqFieldS.l0 kq l0 l1 x5_1=some r)∧Aside0 (kq≤k)∧Aside0 (Below w.heap.size w w'))
  case atStart => exact ⟨(0),(by first|rfl|(simp;done)|(simp [*];done)),H',⟨ye _⟩,⟨by repeat (with_reducible first|exact HB.out|apply za|apply zb|apply zc)⟩⟩
  case round =>
   clear H'
   try clear c1
   try clear p2
   try clear c3
   try clear c3b0
   try clear c3b1
   try clear c3b2
   obtain ⟨x5_1,rfl,HA,HK1,HB⟩:=hrel
   cases gk with
   | zero => exact absurd HA.out (by simp [laws_eqFieldS.l0])
   | succ k1 =>
    have H:=HA.out;clear HA;simp only [laws_eqFieldS.l0] at H
    by_cases c4 : x5_1<(l0.length : Int)
    ·
     rw [if_pos c4] at H
     have c4b0 : decide (x5_1<(l0.length : Int))=true:=decide_eq_true c4;clear c4
     by_cases c5 : 0≤x5_1
     ·
      rw [if_pos c5] at H
      have c5b0 : decide (0≤x5_1)=true:=decide_eq_true c5;clear c5
      by_cases c6 : x5_1<(l1.length : Int)
      ·
       rw [if_pos c6] at H
       have c6b0 : decide (x5_1<(l1.length : Int))=true:=decide_eq_true c6;clear c6;replace H:=zT.mp H;obtain ⟨t563,A70,H⟩:=H;replace H : (if t563=true then (laws_eqFieldS.l0 k1 l0 l1 (wrap64 (x5_1 + 1))) else (some false))=some r:=H;have A7:=zh A70;clear A70
       by_cases c8 : t563=true
       ·
        subst c8
        have H1 : (laws_eqFieldS.l0 k1 l0 l1 (wrap64 (x5_1 + 1)))=some r:=by rw [if_pos rfl] at H;exact H
        clear H;have H:=H1;clear H1;have H':=zh H;clear H
        try go_wp2
        replace HB:=zh (zc HB.out);have p561 : 0≤(x5_1 : Int):=zy (by first|(with_reducible assumption)|assumption);have q561 : x5_1<(l0.length : Int):=zy (by first|(with_reducible assumption)|assumption);obtain ⟨ad561,e561,hx561_0,hx561_1,hx561_2,hx561_3⟩:=at_T68 HR0.out x5_1 p561 q561;have hw561_3:=hx561_3;have hw561_2:=hx561_2;have hw561_1:=hx561_1;have hw561_0:=hx561_0
        cases e561
        replace hx561_0:=(HB.out.cell (zl w _ hx561_0)).trans hx561_0;replace hx561_1:=(HB.out.cell (zl w _ hx561_1)).trans hx561_1;replace hx561_2:=(HB.out.cell (zl w _ hx561_2)).trans hx561_2;replace hx561_3:=(HB.out.cell (zl w _ hx561_3)).trans hx561_3;replace p561:=eq_true p561;replace q561:=eq_true q561;have p562 : 0≤(x5_1 : Int):=zy (by first|(with_reducible assumption)|assumption);have q562 : x5_1<(l1.length : Int):=zy (by first|(with_reducible assumption)|assumption);obtain ⟨ad562,e562,hx562_0,hx562_1,hx562_2,hx562_3⟩:=at_T68 HR1.out x5_1 p562 q562;have hw562_3:=hx562_3;have hw562_2:=hx562_2;have hw562_1:=hx562_1;have hw562_0:=hx562_0
        cases e562
        replace hx562_0:=(HB.out.cell (zl w _ hx562_0)).trans hx562_0;replace hx562_1:=(HB.out.cell (zl w _ hx562_1)).trans hx562_1;replace hx562_2:=(HB.out.cell (zl w _ hx562_2)).trans hx562_2;replace hx562_3:=(HB.out.cell (zl w _ hx562_3)).trans hx562_3;replace p562:=eq_true p562;replace q562:=eq_true q562;refine start_ (n:=10) (S:=fun w' => w'.cell? (ad561.add ((x5_1).toNat * 4))=some (.string ((rd_T68 l0 x5_1).f0))∧w'.cell? ⟨(ad561.add ((x5_1).toNat * 4)).block,(ad561.add ((x5_1).toNat * 4)).off + 1,none⟩=some (.int .i64 ((rd_T68 l0 x5_1).f1.f0))∧w'.cell? ⟨(ad561.add ((x5_1).toNat * 4)).block,(ad561.add ((x5_1).toNat * 4)).off + 2,none⟩=some (.int .i64 ((rd_T68 l0 x5_1).f1.f1))∧w'.cell? ⟨(ad561.add ((x5_1).toNat * 4)).block,(ad561.add ((x5_1).toNat * 4)).off + 3,none⟩=some (.string ((rd_T68 l0 x5_1).f1.f2))∧w'.cell? (ad562.add ((x5_1).toNat * 4))=some (.string ((rd_T68 l1 x5_1).f0))∧w'.cell? ⟨(ad562.add ((x5_1).toNat * 4)).block,(ad562.add ((x5_1).toNat * 4)).off + 1,none⟩=some (.int .i64 ((rd_T68 l1 x5_1).f1.f0))∧w'.cell? ⟨(ad562.add ((x5_1).toNat * 4)).block,(ad562.add ((x5_1).toNat * 4)).off + 2,none⟩=some (.int .i64 ((rd_T68 l1 x5_1).f1.f1))∧w'.cell? ⟨(ad562.add ((x5_1).toNat * 4)).block,(ad562.add ((x5_1).toNat * 4)).off + 3,none⟩=some (.string ((rd_T68 l1 x5_1).f1.f2))) (ds:=[]) (bm_ 0 10) (by kernel_rfl) rfl rfl ⟨((HB.out.cell (zl w _ hw561_0)).trans hw561_0),((HB.out.cell (zl w _ hw561_1)).trans hw561_1),((HB.out.cell (zl w _ hw561_2)).trans hw561_2),((HB.out.cell (zl w _ hw561_3)).trans hw561_3),((HB.out.cell (zl w _ hw562_0)).trans hw562_0),((HB.out.cell (zl w _ hw562_1)).trans hw562_1),((HB.out.cell (zl w _ hw562_2)).trans hw562_2),((HB.out.cell (zl w _ hw562_3)).trans hw562_3)⟩ (fun hHeld => ?_);refine with_tabW laws_eqFieldS.tab6 laws_eqFieldS.bits6 (fun HT_ HW_ => ?_);generalize wr.drew=w9 at HB hx561_0 hx561_1 hx561_2 hx561_3 hx562_0 hx562_1 hx562_2 hx562_3 hHeld ⊢;refine pure_ (i:=0) (N:=some 17) (v:=?_) (a':=?_) (bm_ 1 10) rfl rfl (any_of HT_.out (by kernel_rfl)) (fun _ _ _ h => h) (Or.inl ⟨by rfl,?_⟩) ?_ ?_;rotate_left
        ·
         intro w'
         go_simp
         with_reducible rfl
        rotate_left
        ·
         simp only [Act.put,zi,zj,zk,zG,zH]
         rfl
        refine pure_ (i:=1) (N:=some 18) (v:=?_) (a':=?_) (bm_ 2 10) rfl rfl (any_of HT_.out (by kernel_rfl)) (fun _ _ _ h => h) (Or.inl ⟨by rfl,?_⟩) ?_ ?_;rotate_left
        ·
         intro w'
         go_simp
         with_reducible rfl
        rotate_left
        ·
         simp only [Act.put,zi,zj,zk,zG,zH]
         rfl
        refine pure_ (i:=2) (N:=some 19) (v:=?_) (a':=?_) (bm_ 3 10) rfl rfl (any_of HT_.out (by kernel_rfl)) (fun _ _ _ h => h) (Or.inl ⟨by rfl,?_⟩) ?_ ?_;rotate_left
        ·
         intro w'
         go_simp
         with_reducible rfl
        rotate_left
        ·
         simp only [Act.put,zi,zj,zk,zG,zH]
         rfl
        refine pure_ (i:=4) (N:=some 21) (v:=?_) (a':=?_) #[true,true,true,false,true,false,false,false,false,false] rfl rfl (any_of HT_.out (by kernel_rfl)) (fun _ _ _ h => h) (Or.inl ⟨by rfl,?_⟩) ?_ ?_;rotate_left
        ·
         intro w'
         go_simp
         with_reducible rfl
        rotate_left
        ·
         simp only [Act.put,zi,zj,zk,zG,zH]
         rfl
        refine pure_ (i:=5) (N:=some 22) (v:=?_) (a':=?_) #[true,true,true,false,true,true,false,false,false,false] rfl rfl (any_of HT_.out (by kernel_rfl)) (fun _ _ _ h => h) (Or.inl ⟨by rfl,?_⟩) ?_ ?_;rotate_left
        ·
         intro w'
         go_simp
         with_reducible rfl
        rotate_left
        ·
         simp only [Act.put,zi,zj,zk,zG,zH]
         rfl
        refine pure_ (i:=6) (N:=some 23) (v:=?_) (a':=?_) #[true,true,true,false,true,true,true,false,false,false] rfl rfl (any_of HT_.out (by kernel_rfl)) (fun _ _ _ h => h) (Or.inl ⟨by rfl,?_⟩) ?_ ?_;rotate_left
        ·
         intro w'
         go_simp
         with_reducible rfl
        rotate_left
        ·
         simp only [Act.put,zi,zj,zk,zG,zH]
         rfl
        refine take_ (i:=3) (N:=some 20) (v:=?_) (a':=?_) (bm_ 7 10) rfl rfl (yo HT_.out HW_.out (by kernel_rfl)) (fun _ _ _ h => h) (Or.inl ⟨by rfl,?_⟩) hHeld ?_ ?_;rotate_left
        ·
         rintro w' ⟨s0,s1,s2,s3,s4,s5,s6,s7⟩
         go_simp
         with_reducible rfl
        rotate_left
        ·
         simp only [Act.put,zi,zj,zk,zG,zH]
         rfl
        refine take_ (i:=7) (N:=some 24) (v:=?_) (a':=?_) (bm_ 8 10) rfl rfl (yo HT_.out HW_.out (by kernel_rfl)) (fun _ _ _ h => h) (Or.inl ⟨by rfl,?_⟩) hHeld ?_ ?_;rotate_left
        ·
         rintro w' ⟨s0,s1,s2,s3,s4,s5,s6,s7⟩
         go_simp
         with_reducible rfl
        rotate_left
        ·
         simp only [Act.put,zi,zj,zk,zG,zH]
         rfl
        refine one_ (i:=8) (N:=some 25) (bm_ 9 10) rfl rfl (one_of HT_.out (by kernel_rfl)) (by decide) (fun K hK => ?_);refine goes_ Try.func66 (by kernel_rfl) rfl #[.agg #[.string ((rd_T68 l0 x5_1).f0),.int .i64 ((rd_T68 l0 x5_1).f1.f0),.int .i64 ((rd_T68 l0 x5_1).f1.f1),.string ((rd_T68 l0 x5_1).f1.f2)],.agg #[.string ((rd_T68 l1 x5_1).f0),.int .i64 ((rd_T68 l1 x5_1).f1.f0),.int .i64 ((rd_T68 l1 x5_1).f1.f1),.string ((rd_T68 l1 x5_1).f1.f2)]] (by rfl) rfl rfl (by (try simp only [zt,zu,zv]);first|done|rfl|(simp only [zw,zx];rfl)|(simp only [yr,ys,zV,zW];rfl)) ?_
        with_reducible refine (laws_eqField.calls  ((rd_T68 l0 x5_1).f0) ((rd_T68 l0 x5_1).f1.f0) ((rd_T68 l0 x5_1).f1.f1) ((rd_T68 l0 x5_1).f1.f2) ((rd_T68 l1 x5_1).f0) ((rd_T68 l1 x5_1).f1.f0) ((rd_T68 l1 x5_1).f1.f1) ((rd_T68 l1 x5_1).f1.f2) true _ A7.out).mono ?_
        rintro e w10 ⟨rfl,hb⟩;refine ⟨_,rfl,?_⟩;replace HB:=zh (zC (by repeat (with_reducible first|exact HB.out|apply za|apply zb|apply zc)) hb);(try clear hb);(try clear hb2);(try clear hk);(try clear hi);refine hK.out _ _ ⟨((HB.out.cell (zl w _ hw561_0)).trans hw561_0),((HB.out.cell (zl w _ hw561_1)).trans hw561_1),((HB.out.cell (zl w _ hw561_2)).trans hw561_2),((HB.out.cell (zl w _ hw561_3)).trans hw561_3),((HB.out.cell (zl w _ hw562_0)).trans hw562_0),((HB.out.cell (zl w _ hw562_1)).trans hw562_1),((HB.out.cell (zl w _ hw562_2)).trans hw562_2),((HB.out.cell (zl w _ hw562_3)).trans hw562_3)⟩ (fun hHeld => ?_);clear hK K;refine norm_ (a':=?_) ?_ ?_;rotate_left
        ·
         show Act.put _ (some 25) _=_
         simp only [Act.put,zi,zj,zk,zG,zH]
         rfl
        refine pure_ (i:=9) (N:=some 26) (v:=?_) (a':=?_) (bm_ 10 10) rfl rfl (any_of HT_.out (by kernel_rfl)) (fun _ _ _ h => h) (Or.inl ⟨by rfl,?_⟩) ?_ ?_;rotate_left
        ·
         intro w'
         go_simp
         with_reducible rfl
        rotate_left
        ·
         simp only [Act.put,zi,zj,zk,zG,zH]
         rfl
        refine done_ (done_of HT_.out (by kernel_rfl)) ?_
        try go_wp2
        go_roundg k1
        case measure => have:=HK1.out;omega
        case rel => exact ⟨(wrap64 (x5_1 + 1)),(by first|rfl|(simp;done)|(simp [*];done)),H',⟨by have:=HK1.out;omega⟩,⟨by repeat (with_reducible first|exact HB.out|apply za|apply zb|apply zc)⟩⟩
       replace c8:=yb.mpr c8;subst c8;have H1 : (some false)=some r:=by rw [if_neg (show ¬ (false=true) by decide)] at H;exact H
       clear H;have H:=H1;clear H1;obtain rfl:=zU H
       try go_wp2
       replace HB:=zh (zc HB.out);have p561 : 0≤(x5_1 : Int):=zy (by first|(with_reducible assumption)|assumption);have q561 : x5_1<(l0.length : Int):=zy (by first|(with_reducible assumption)|assumption);obtain ⟨ad561,e561,hx561_0,hx561_1,hx561_2,hx561_3⟩:=at_T68 HR0.out x5_1 p561 q561;have hw561_3:=hx561_3;have hw561_2:=hx561_2;have hw561_1:=hx561_1;have hw561_0:=hx561_0
       cases e561
       replace hx561_0:=(HB.out.cell (zl w _ hx561_0)).trans hx561_0;replace hx561_1:=(HB.out.cell (zl w _ hx561_1)).trans hx561_1;replace hx561_2:=(HB.out.cell (zl w _ hx561_2)).trans hx561_2;replace hx561_3:=(HB.out.cell (zl w _ hx561_3)).trans hx561_3;replace p561:=eq_true p561;replace q561:=eq_true q561;have p562 : 0≤(x5_1 : Int):=zy (by first|(with_reducible assumption)|assumption);have q562 : x5_1<(l1.length : Int):=zy (by first|(with_reducible assumption)|assumption);obtain ⟨ad562,e562,hx562_0,hx562_1,hx562_2,hx562_3⟩:=at_T68 HR1.out x5_1 p562 q562;have hw562_3:=hx562_3;have hw562_2:=hx562_2;have hw562_1:=hx562_1;have hw562_0:=hx562_0
       cases e562
       replace hx562_0:=(HB.out.cell (zl w _ hx562_0)).trans hx562_0;replace hx562_1:=(HB.out.cell (zl w _ hx562_1)).trans hx562_1;replace hx562_2:=(HB.out.cell (zl w _ hx562_2)).trans hx562_2;replace hx562_3:=(HB.out.cell (zl w _ hx562_3)).trans hx562_3;replace p562:=eq_true p562;replace q562:=eq_true q562;refine start_ (n:=10) (S:=fun w' => w'.cell? (ad561.add ((x5_1).toNat * 4))=some (.string ((rd_T68 l0 x5_1).f0))∧w'.cell? ⟨(ad561.add ((x5_1).toNat * 4)).block,(ad561.add ((x5_1).toNat * 4)).off + 1,none⟩=some (.int .i64 ((rd_T68 l0 x5_1).f1.f0))∧w'.cell? ⟨(ad561.add ((x5_1).toNat * 4)).block,(ad561.add ((x5_1).toNat * 4)).off + 2,none⟩=some (.int .i64 ((rd_T68 l0 x5_1).f1.f1))∧w'.cell? ⟨(ad561.add ((x5_1).toNat * 4)).block,(ad561.add ((x5_1).toNat * 4)).off + 3,none⟩=some (.string ((rd_T68 l0 x5_1).f1.f2))∧w'.cell? (ad562.add ((x5_1).toNat * 4))=some (.string ((rd_T68 l1 x5_1).f0))∧w'.cell? ⟨(ad562.add ((x5_1).toNat * 4)).block,(ad562.add ((x5_1).toNat * 4)).off + 1,none⟩=some (.int .i64 ((rd_T68 l1 x5_1).f1.f0))∧w'.cell? ⟨(ad562.add ((x5_1).toNat * 4)).block,(ad562.add ((x5_1).toNat * 4)).off + 2,none⟩=some (.int .i64 ((rd_T68 l1 x5_1).f1.f1))∧w'.cell? ⟨(ad562.add ((x5_1).toNat * 4)).block,(ad562.add ((x5_1).toNat * 4)).off + 3,none⟩=some (.string ((rd_T68 l1 x5_1).f1.f2))) (ds:=[]) (bm_ 0 10) (by kernel_rfl) rfl rfl ⟨((HB.out.cell (zl w _ hw561_0)).trans hw561_0),((HB.out.cell (zl w _ hw561_1)).trans hw561_1),((HB.out.cell (zl w _ hw561_2)).trans hw561_2),((HB.out.cell (zl w _ hw561_3)).trans hw561_3),((HB.out.cell (zl w _ hw562_0)).trans hw562_0),((HB.out.cell (zl w _ hw562_1)).trans hw562_1),((HB.out.cell (zl w _ hw562_2)).trans hw562_2),((HB.out.cell (zl w _ hw562_3)).trans hw562_3)⟩ (fun hHeld => ?_);refine with_tabW laws_eqFieldS.tab6 laws_eqFieldS.bits6 (fun HT_ HW_ => ?_);generalize wr.drew=w11 at HB hx561_0 hx561_1 hx561_2 hx561_3 hx562_0 hx562_1 hx562_2 hx562_3 hHeld ⊢;refine pure_ (i:=0) (N:=some 17) (v:=?_) (a':=?_) (bm_ 1 10) rfl rfl (any_of HT_.out (by kernel_rfl)) (fun _ _ _ h => h) (Or.inl ⟨by rfl,?_⟩) ?_ ?_;rotate_left
       ·
        intro w'
        go_simp
        with_reducible rfl
       rotate_left
       ·
        simp only [Act.put,zi,zj,zk,zG,zH]
        rfl
       refine pure_ (i:=1) (N:=some 18) (v:=?_) (a':=?_) (bm_ 2 10) rfl rfl (any_of HT_.out (by kernel_rfl)) (fun _ _ _ h => h) (Or.inl ⟨by rfl,?_⟩) ?_ ?_;rotate_left
       ·
        intro w'
        go_simp
        with_reducible rfl
       rotate_left
       ·
        simp only [Act.put,zi,zj,zk,zG,zH]
        rfl
       refine pure_ (i:=2) (N:=some 19) (v:=?_) (a':=?_) (bm_ 3 10) rfl rfl (any_of HT_.out (by kernel_rfl)) (fun _ _ _ h => h) (Or.inl ⟨by rfl,?_⟩) ?_ ?_;rotate_left
       ·
        intro w'
        go_simp
        with_reducible rfl
       rotate_left
       ·
        simp only [Act.put,zi,zj,zk,zG,zH]
        rfl
       refine pure_ (i:=4) (N:=some 21) (v:=?_) (a':=?_) #[true,true,true,false,true,false,false,false,false,false] rfl rfl (any_of HT_.out (by kernel_rfl)) (fun _ _ _ h => h) (Or.inl ⟨by rfl,?_⟩) ?_ ?_;rotate_left
       ·
        intro w'
        go_simp
        with_reducible rfl
       rotate_left
       ·
        simp only [Act.put,zi,zj,zk,zG,zH]
        rfl
       refine pure_ (i:=5) (N:=some 22) (v:=?_) (a':=?_) #[true,true,true,false,true,true,false,false,false,false] rfl rfl (any_of HT_.out (by kernel_rfl)) (fun _ _ _ h => h) (Or.inl ⟨by rfl,?_⟩) ?_ ?_;rotate_left
       ·
        intro w'
        go_simp
        with_reducible rfl
       rotate_left
       ·
        simp only [Act.put,zi,zj,zk,zG,zH]
        rfl
       refine pure_ (i:=6) (N:=some 23) (v:=?_) (a':=?_) #[true,true,true,false,true,true,true,false,false,false] rfl rfl (any_of HT_.out (by kernel_rfl)) (fun _ _ _ h => h) (Or.inl ⟨by rfl,?_⟩) ?_ ?_;rotate_left
       ·
        intro w'
        go_simp
        with_reducible rfl
       rotate_left
       ·
        simp only [Act.put,zi,zj,zk,zG,zH]
        rfl
       refine take_ (i:=3) (N:=some 20) (v:=?_) (a':=?_) (bm_ 7 10) rfl rfl (yo HT_.out HW_.out (by kernel_rfl)) (fun _ _ _ h => h) (Or.inl ⟨by rfl,?_⟩) hHeld ?_ ?_;rotate_left
       ·
        rintro w' ⟨s0,s1,s2,s3,s4,s5,s6,s7⟩
        go_simp
        with_reducible rfl
       rotate_left
       ·
        simp only [Act.put,zi,zj,zk,zG,zH]
        rfl
       refine take_ (i:=7) (N:=some 24) (v:=?_) (a':=?_) (bm_ 8 10) rfl rfl (yo HT_.out HW_.out (by kernel_rfl)) (fun _ _ _ h => h) (Or.inl ⟨by rfl,?_⟩) hHeld ?_ ?_;rotate_left
       ·
        rintro w' ⟨s0,s1,s2,s3,s4,s5,s6,s7⟩
        go_simp
        with_reducible rfl
       rotate_left
       ·
        simp only [Act.put,zi,zj,zk,zG,zH]
        rfl
       refine one_ (i:=8) (N:=some 25) (bm_ 9 10) rfl rfl (one_of HT_.out (by kernel_rfl)) (by decide) (fun K hK => ?_);refine goes_ Try.func66 (by kernel_rfl) rfl #[.agg #[.string ((rd_T68 l0 x5_1).f0),.int .i64 ((rd_T68 l0 x5_1).f1.f0),.int .i64 ((rd_T68 l0 x5_1).f1.f1),.string ((rd_T68 l0 x5_1).f1.f2)],.agg #[.string ((rd_T68 l1 x5_1).f0),.int .i64 ((rd_T68 l1 x5_1).f1.f0),.int .i64 ((rd_T68 l1 x5_1).f1.f1),.string ((rd_T68 l1 x5_1).f1.f2)]] (by rfl) rfl rfl (by (try simp only [zt,zu,zv]);first|done|rfl|(simp only [zw,zx];rfl)|(simp only [yr,ys,zV,zW];rfl)) ?_
       with_reducible refine (laws_eqField.calls  ((rd_T68 l0 x5_1).f0) ((rd_T68 l0 x5_1).f1.f0) ((rd_T68 l0 x5_1).f1.f1) ((rd_T68 l0 x5_1).f1.f2) ((rd_T68 l1 x5_1).f0) ((rd_T68 l1 x5_1).f1.f0) ((rd_T68 l1 x5_1).f1.f1) ((rd_T68 l1 x5_1).f1.f2) false _ A7.out).mono ?_
       rintro e w12 ⟨rfl,hb⟩;refine ⟨_,rfl,?_⟩;replace HB:=zh (zC (by repeat (with_reducible first|exact HB.out|apply za|apply zb|apply zc)) hb);(try clear hb);(try clear hb2);(try clear hk);(try clear hi);refine hK.out _ _ ⟨((HB.out.cell (zl w _ hw561_0)).trans hw561_0),((HB.out.cell (zl w _ hw561_1)).trans hw561_1),((HB.out.cell (zl w _ hw561_2)).trans hw561_2),((HB.out.cell (zl w _ hw561_3)).trans hw561_3),((HB.out.cell (zl w _ hw562_0)).trans hw562_0),((HB.out.cell (zl w _ hw562_1)).trans hw562_1),((HB.out.cell (zl w _ hw562_2)).trans hw562_2),((HB.out.cell (zl w _ hw562_3)).trans hw562_3)⟩ (fun hHeld => ?_);clear hK K;refine norm_ (a':=?_) ?_ ?_;rotate_left
       ·
        show Act.put _ (some 25) _=_
        simp only [Act.put,zi,zj,zk,zG,zH]
        rfl
       refine pure_ (i:=9) (N:=some 26) (v:=?_) (a':=?_) (bm_ 10 10) rfl rfl (any_of HT_.out (by kernel_rfl)) (fun _ _ _ h => h) (Or.inl ⟨by rfl,?_⟩) ?_ ?_;rotate_left
       ·
        intro w'
        go_simp
        with_reducible rfl
       rotate_left
       ·
        simp only [Act.put,zi,zj,zk,zG,zH]
        rfl
       refine done_ (done_of HT_.out (by kernel_rfl)) ?_
       try go_wp2
       go_ret
       exact ⟨by first|rfl|(simp [yt,yu] <;> rfl)|(simp [*,yt,yu] <;> rfl),by repeat (with_reducible first|exact HB.out|apply za|apply zb|apply zc)⟩
      rw [if_neg c6] at H;exact absurd H (by simp)
     rw [if_neg c5] at H;exact absurd H (by simp)
    rw [if_neg c4] at H;have c4b0 : decide (x5_1<(l0.length : Int))=false:=decide_eq_false c4;clear c4;obtain rfl:=zU H
    go_wp2
    go_ret
    exact ⟨by first|rfl|(simp [yt,yu] <;> rfl)|(simp [*,yt,yu] <;> rfl),by repeat (with_reducible first|exact HB.out|apply za|apply zb|apply zc)⟩
 rw [if_neg c3] at H;have c3b0 : ((l0.length : Int) == (l1.length : Int))=false:=zY.mpr c3;have c3b1 : ((l0.length : Int) != (l1.length : Int))=true:=zZ.mpr c3;have c3b2 : (l0.length == l1.length)=false:=by first|simpa using c3|(simp at c3 ⊢;omega)
 obtain rfl:=zU H
 go_enter Try.func36,Try.ntmps36
 go_wp2
 go_ret
 exact ⟨by first|rfl|(simp [yt,yu] <;> rfl)|(simp [*,yt,yu] <;> rfl),by repeat (with_reducible first|exact HB.out|apply za|apply zb|apply zc)⟩

end Go.Proofs.Ytpmeglcmhiihoaa.Q
end
section
namespace Go.Proofs.Ytpmeglcmhiihoaa.Q
open Go.RowKit Go.Proofs.YtpmeglcmhiihoaaW.PrintWords Go.Proofs.YtpmeglcmhiihoaaW.PrintLast Go.Proofs.YtpmeglcmhiihoaaW.PrintMore
attribute [local go_sem] max2_int min2_int max_two min_two max_three min_three max_four min_four max2_str min2_str str_geq str_gtr str_leq   -- for this text's walks alone
set_option linter.unusedVariables false
set_option linter.unusedSimpArgs false

def laws_markText.l0 : Nat→Int→ByteArray→Option (ByteArray)
 | 0,_,_ => none
 | k + 1,x0,x3 => if x0 > 0 then ((some (([(wrap64 (48 + (Int.tmod x0 10))) % 256] : List Int) : List Int)).bind fun y500 => (if (strOfNums y500).size + x3.size≤9223372036854775807 then (laws_markText.l0 k (wrap64 (Int.tdiv x0 10)) ((strOfNums y500) ++ x3)) else (none))) else (if 1 + x3.size≤9223372036854775807 then (some ((⟨#[109]⟩ : ByteArray) ++ x3)) else (none))
def laws_markText.f (k : Nat) (a0 : Int) : Option (ByteArray):=if a0≤0 then (some (⟨#[109,48]⟩ : ByteArray)) else (laws_markText.l0 k a0 (⟨#[]⟩ : ByteArray))
theorem laws_markText.mono_l : ∀ k,(∀ y0 y1,LeO (laws_markText.l0 k y0 y1) (laws_markText.l0 (k + 1) y0 y1))
 | 0 => fun _ _ r h => by simp [laws_markText.l0] at h
 | k + 1 => by
  have ih0:=laws_markText.mono_l k;intro y0 y1;unfold laws_markText.l0
  repeat' first|(with_reducible exact ih0 _ _)|(with_reducible exact zQ _)|(with_reducible exact zN _)|(with_reducible refine zP ?_ ?_)|(with_reducible refine zO ?_ (fun _ => ?_))|refine zP ?_ ?_|refine zO ?_ (fun _ => ?_)
theorem laws_markText.mono : ∀ a0 k,LeO (laws_markText.f k a0) (laws_markText.f (k + 1) a0):=by
 intro a0 k;have ih0:=laws_markText.mono_l k;unfold laws_markText.f
 repeat' first|(with_reducible exact ih0 _ _)|(with_reducible exact zQ _)|(with_reducible exact zN _)|(with_reducible refine zP ?_ ?_)|(with_reducible refine zO ?_ (fun _ => ?_))|refine zP ?_ ?_|refine zO ?_ (fun _ => ?_)
set_option maxHeartbeats 8000000 in
set_option maxRecDepth 100000 in
theorem laws_markText.calls (k : Nat) (a0 : Int) (r : ByteArray) (w : World) (h : laws_markText.f k a0=some r) :
  Calls Try.prog 63 #[.int .i64 a0] w fun e w' => e = .returned (.string r)∧Below w.heap.size w w':=by
 have HB:=zh (Below.refl w.heap.size w);have H : (if a0≤0 then (some (⟨#[109,48]⟩ : ByteArray)) else (laws_markText.l0 k a0 (⟨#[]⟩ : ByteArray)))=some r:=h;clear h
 by_cases c2 : a0≤0
 ·
  rw [if_pos c2] at H
  have c2b0 : decide (a0≤0)=true:=decide_eq_true c2;clear c2;obtain rfl:=zU H
  go_enter Try.func63,Try.ntmps63
  go_wp2
  go_ret
  exact ⟨by first|rfl|(simp [yt,yu] <;> rfl)|(simp [*,yt,yu] <;> rfl),by repeat (with_reducible first|exact HB.out|apply za|apply zb|apply zc)⟩
 rw [if_neg c2] at H;have c2b0 : decide (a0≤0)=false:=decide_eq_false c2;clear c2;have H':=zh H;clear H
 go_enter Try.func63,Try.ntmps63
 go_wp2
 go_loopg [0,3] k (fun kq v0 v3 w' => ∃ (x0_1 : Int) (x3_1 : ByteArray),v0 = .int .i64 x0_1∧v3 = .string x3_1∧Aside0 (laws_markText.l0 kq x0_1 x3_1=some r)∧Aside0 (kq≤k)∧Aside0 (Below w.heap.size w w'))
 case atStart => exact ⟨(a0),((⟨#[]⟩ : ByteArray)),(by first|rfl|(simp;done)|(simp [*];done)),(by first|rfl|(simp;done)|(simp [*];done)),H',⟨ye _⟩,⟨by repeat (with_reducible first|exact HB.out|apply za|apply zb|apply zc)⟩⟩
 case round =>
  clear H'
  try clear c2
  try clear c2b0
  try clear p2
  obtain ⟨x0_1,x3_1,rfl,rfl,HA,HK1,HB⟩:=hrel
  cases gk with
  | zero => exact absurd HA.out (by simp [laws_markText.l0])
  | succ k1 =>
   have H:=HA.out;clear HA;simp only [laws_markText.l0] at H
   by_cases c3 : x0_1 > 0
   ·
    rw [if_pos c3] at H
    have c3b0 : decide (0<x0_1)=true:=decide_eq_true c3;clear c3;obtain ⟨y500,hy500⟩ : ∃ y_ : List Int,y_=(([(wrap64 (48 + (Int.tmod x0_1 10))) % 256] : List Int)):=⟨_,rfl⟩;replace H : (if (strOfNums y500).size + x3_1.size≤9223372036854775807 then (laws_markText.l0 k1 (wrap64 (Int.tdiv x0_1 10)) ((strOfNums y500) ++ x3_1)) else (none))=some r:=by first|(rw [hy500];with_reducible exact H)|(have H2_:=(Option.bind_some _ _).symm.trans H;rw [hy500];with_reducible exact H2_)|(have H2_:=(Option.bind_some _ _).symm.trans H;with_reducible exact H2_)|with_reducible exact H|(rw [hy500];exact H)|exact H
    have Ny500:=zh hy500;clear hy500
    by_cases c4 : (strOfNums y500).size + x3_1.size≤9223372036854775807
    ·
     rw [if_pos c4] at H
     have c4b0:=eq_true c4;have c4b1 : decide ((strOfNums y500).size + x3_1.size≤9223372036854775807)=true:=decide_eq_true c4
     try have c4b2 : (9223372036854775807<(strOfNums y500).size + x3_1.size)=False:=eq_false (Nat.not_lt.2 c4)
     have H':=zh H;clear H
     go_wp2_with (first|((with_reducible refine zK (N:=12) rfl ?_);refine Kd.R_lit (Kd.int .u8) _ 5 ?hg (N:=12) ?hd (xs:=([(wrap64 (48 + (Int.tmod x0_1 10))) % 256] : List Int)) (inner:=[.int .u8 ((wrap64 (48 + (Int.tmod x0_1 10))) % 256)]) (ok:=fun _ => True) (okp:=fun _ => True) ?hr ?hp (fun _ hk => hk) trivial (Below.refl _ _) (ye _) (by simp) ?_;(case hd => rfl);(case hg => rfl);(case hr => first|(go_simp;done)|(go_simp;rfl));(case hp => exact (Reps.one (show Kd.M (Kd.int .u8) _ _ _ ((wrap64 (48 + (Int.tmod x0_1 10))) % 256) [.int .u8 ((wrap64 (48 + (Int.tmod x0_1 10))) % 256)] from rfl) (Reps.none _ _)));intro v501 w5 ho6 hb hg_ hnew_;clear hg_ hnew_;(first|rw [← Ny500.out] at ho6|(simp only [Int.reduceToNat] at ho6;rw [← Ny500.out] at ho6));have HO502:=zh (yy ho6 (zB (by repeat (with_reducible first|exact HB.out|apply za|apply zb|apply zc))));replace HB:=zh (zC (by repeat (with_reducible first|exact HB.out|apply za|apply zb|apply zc)) hb);clear hb ho6;have hcv7:=own_string (P:=Try.prog) Try.underlying29 Try.underlying5 Try.underlying9 (Kd.own_of_R HO502.out)))
     go_roundg k1
     case measure => have:=HK1.out;omega
     case rel => exact ⟨(wrap64 (Int.tdiv x0_1 10)),((strOfNums y500) ++ x3_1),(by first|rfl|(simp;done)|(simp [*];done)),(by first|rfl|(simp;done)|(simp [*];done)),H',⟨by have:=HK1.out;omega⟩,⟨by repeat (with_reducible first|exact HB.out|apply za|apply zb|apply zc)⟩⟩
    rw [if_neg c4] at H;exact absurd H (by simp)
   rw [if_neg c3] at H;have c3b0 : decide (0<x0_1)=false:=decide_eq_false c3;clear c3
   by_cases c8 : 1 + x3_1.size≤9223372036854775807
   ·
    rw [if_pos c8] at H
    have c8b0:=eq_true c8;have c8b1 : decide (1 + x3_1.size≤9223372036854775807)=true:=decide_eq_true c8
    try have c8b2 : (9223372036854775807<1 + x3_1.size)=False:=eq_false (Nat.not_lt.2 c8)
    obtain rfl:=zU H
    go_wp2
    go_ret
    exact ⟨by first|rfl|(simp [yt,yu] <;> rfl)|(simp [*,yt,yu] <;> rfl),by repeat (with_reducible first|exact HB.out|apply za|apply zb|apply zc)⟩
   rw [if_neg c8] at H;exact absurd H (by simp)

end Go.Proofs.Ytpmeglcmhiihoaa.Q
end
section
namespace Go.Proofs.Ytpmeglcmhiihoaa.Q
open Go.RowKit Go.Proofs.YtpmeglcmhiihoaaW.PrintWords Go.Proofs.YtpmeglcmhiihoaaW.PrintLast Go.Proofs.YtpmeglcmhiihoaaW.PrintMore
attribute [local go_sem] max2_int min2_int max_two min_two max_three min_three max_four min_four max2_str min2_str str_geq str_gtr str_leq   -- for this text's walks alone
set_option linter.unusedVariables false
set_option linter.unusedSimpArgs false

def laws_markFieldS.l0 : Nat→List (S68)→Int→Int→Option (Int×(List (S68)))
 | 0,_,_,_ => none
 | k + 1,x0,x1,x5 => if x5<(x0.length : Int) then ((laws_markText.f k x1).bind fun t564 => (if 0≤x5 then ((some (x0.set (x5 : Int).toNat (⟨t564,(⟨(rd_T68 x0 x5).f1.f0,(rd_T68 x0 x5).f1.f1,(rd_T68 x0 x5).f1.f2⟩ : S26)⟩ : S68) : List (S68))).bind fun y565 => ((some (y565.set (x5 : Int).toNat (⟨(rd_T68 y565 x5).f0,(⟨wrap64 (x1 + 1),(rd_T68 y565 x5).f1.f1,(rd_T68 y565 x5).f1.f2⟩ : S26)⟩ : S68) : List (S68))).bind fun y566 => ((some (y566.set (x5 : Int).toNat (⟨(rd_T68 y566 x5).f0,(⟨(rd_T68 y566 x5).f1.f0,wrap64 ((wrap64 (x1 + 1)) + 1),(rd_T68 y566 x5).f1.f2⟩ : S26)⟩ : S68) : List (S68))).bind fun y567 => ((laws_markText.f k (wrap64 ((wrap64 ((wrap64 (x1 + 1)) + 1)) + 1))).bind fun t568 => (laws_markFieldS.l0 k (y567.set (x5 : Int).toNat (⟨(rd_T68 y567 x5).f0,(⟨(rd_T68 y567 x5).f1.f0,(rd_T68 y567 x5).f1.f1,t568⟩ : S26)⟩ : S68)) (wrap64 ((wrap64 ((wrap64 ((wrap64 (x1 + 1)) + 1)) + 1)) + 1)) (wrap64 (x5 + 1))))))) else (none))) else (some (x1,x0))
def laws_markFieldS.f (k : Nat) (l0 : List (S68)) (a1 : Int) : Option (Int×(List (S68))):=laws_markFieldS.l0 k l0 a1 0
theorem laws_markFieldS.mono_l : ∀ k,(∀ y0 y1 y2,LeO (laws_markFieldS.l0 k y0 y1 y2) (laws_markFieldS.l0 (k + 1) y0 y1 y2))
 | 0 => fun _ _ _ r h => by simp [laws_markFieldS.l0] at h
 | k + 1 => by
  have ih0:=laws_markFieldS.mono_l k;intro y0 y1 y2;unfold laws_markFieldS.l0
  repeat' first|(with_reducible exact ih0 _ _ _)|(with_reducible exact laws_markText.mono _ _)|(with_reducible exact zQ _)|(with_reducible exact zN _)|(with_reducible refine zP ?_ ?_)|(with_reducible refine zO ?_ (fun _ => ?_))|refine zP ?_ ?_|refine zO ?_ (fun _ => ?_)
theorem laws_markFieldS.mono : ∀ a0 a1 k,LeO (laws_markFieldS.f k a0 a1) (laws_markFieldS.f (k + 1) a0 a1):=by
 intro a0 a1 k;have ih0:=laws_markFieldS.mono_l k;unfold laws_markFieldS.f
 repeat' first|(with_reducible exact ih0 _ _ _)|(with_reducible exact laws_markText.mono _ _)|(with_reducible exact zQ _)|(with_reducible exact zN _)|(with_reducible refine zP ?_ ?_)|(with_reducible refine zO ?_ (fun _ => ?_))|refine zP ?_ ?_|refine zO ?_ (fun _ => ?_)
set_option maxHeartbeats 8000000 in
set_option maxRecDepth 100000 in
theorem laws_markFieldS.calls (k : Nat) (P0_ : Nat→Prop) (u9000_ : Value) (l0 : List (S68)) (a1 : Int) (r1 : Int) (r2 : List (S68)) (w0 w : World) (hB : Below w0.heap.size w0 w) (ho0 : Kd.R k68 68 w w0.heap.size P0_ u9000_ l0) (h : laws_markFieldS.f k l0 a1=some (r1,r2)) :
  Calls Try.prog 37 #[u9000_,.int .i64 a1] w fun e w' => e = .returned (.int .i64 r1)∧Kd.R k68 68 w' w0.heap.size (fun k_ => (P0_ k_∨w.heap.size≤k_)) u9000_ r2∧Below w0.heap.size w0 w' ∧ Kept w w' (fun k_ => P0_ k_):=by
 have HO0:=zh (show Kd.R k68 68 w w0.heap.size (fun k_ => (P0_ k_∨w.heap.size≤k_)) u9000_ l0 from zM ho0 (fun k_ hk => (.inl hk)));have HK:=zh (Kept.refl w (fun k_ => P0_ k_));have HW0:=zh hB.size;have HB:=zh hB;clear hB;have H : (laws_markFieldS.l0 k l0 a1 0)=some (r1,r2):=h;clear h;have H':=zh H;clear H
 go_enter Try.func37,Try.ntmps37
 go_wp2
 go_loopg [1,5] k (fun kq v1 v5 w' => ∃ (x0_1 : List (S68)) (x1_1 : Int) (x5_1 : Int),v1 = .int .i64 x1_1∧v5 = .int .i64 x5_1∧Aside0 (laws_markFieldS.l0 kq x0_1 x1_1 x5_1=some (r1,r2))∧Aside0 (kq≤k)∧Aside0 (Kd.R k68 68 w' w0.heap.size (fun k_ => (P0_ k_∨w.heap.size≤k_)) u9000_ x0_1)∧Aside0 (Kept w w' (fun k_ => P0_ k_))∧Aside0 (Below w0.heap.size w0 w'))
 case atStart => exact ⟨(l0),(a1),(0),(by first|rfl|(simp;done)|(simp [*];done)),(by first|rfl|(simp;done)|(simp [*];done)),H',⟨ye _⟩,⟨by (with_reducible repeat (first|apply zm|apply zn|apply zo));exact HO0.out⟩,⟨by repeat (with_reducible first|exact HK.out|apply zr|apply zp|apply zq)⟩,⟨by repeat (with_reducible first|exact HB.out|apply za|apply zb|apply zc)⟩⟩
 case round =>
  clear H'
  try clear p2
  obtain ⟨x0_1,x1_1,x5_1,rfl,rfl,HA,HK1,HO_0,HK,HB⟩:=hrel
  cases gk with
  | zero => exact absurd HA.out (by simp [laws_markFieldS.l0])
  | succ k1 =>
   have H:=HA.out;clear HA;simp only [laws_markFieldS.l0] at H
   by_cases c3 : x5_1<(x0_1.length : Int)
   ·
    rw [if_pos c3] at H
    have c3b0 : decide (x5_1<(x0_1.length : Int))=true:=decide_eq_true c3;clear c3;replace H:=zT.mp H;obtain ⟨t564,A40,H⟩:=H;replace H : (if 0≤x5_1 then ((some (x0_1.set (x5_1 : Int).toNat (⟨t564,(⟨(rd_T68 x0_1 x5_1).f1.f0,(rd_T68 x0_1 x5_1).f1.f1,(rd_T68 x0_1 x5_1).f1.f2⟩ : S26)⟩ : S68) : List (S68))).bind fun y565 => ((some (y565.set (x5_1 : Int).toNat (⟨(rd_T68 y565 x5_1).f0,(⟨wrap64 (x1_1 + 1),(rd_T68 y565 x5_1).f1.f1,(rd_T68 y565 x5_1).f1.f2⟩ : S26)⟩ : S68) : List (S68))).bind fun y566 => ((some (y566.set (x5_1 : Int).toNat (⟨(rd_T68 y566 x5_1).f0,(⟨(rd_T68 y566 x5_1).f1.f0,wrap64 ((wrap64 (x1_1 + 1)) + 1),(rd_T68 y566 x5_1).f1.f2⟩ : S26)⟩ : S68) : List (S68))).bind fun y567 => ((laws_markText.f k1 (wrap64 ((wrap64 ((wrap64 (x1_1 + 1)) + 1)) + 1))).bind fun t568 => (laws_markFieldS.l0 k1 (y567.set (x5_1 : Int).toNat (⟨(rd_T68 y567 x5_1).f0,(⟨(rd_T68 y567 x5_1).f1.f0,(rd_T68 y567 x5_1).f1.f1,t568⟩ : S26)⟩ : S68)) (wrap64 ((wrap64 ((wrap64 ((wrap64 (x1_1 + 1)) + 1)) + 1)) + 1)) (wrap64 (x5_1 + 1))))))) else (none))=some (r1,r2):=H;have A4:=zh A40;clear A40
    by_cases c5 : 0≤x5_1
    ·
     rw [if_pos c5] at H
     have c5b0 : decide (0≤x5_1)=true:=decide_eq_true c5;clear c5;obtain ⟨y565,hy565⟩ : ∃ y_ : List (S68),y_=(x0_1.set (x5_1 : Int).toNat (⟨t564,(⟨(rd_T68 x0_1 x5_1).f1.f0,(rd_T68 x0_1 x5_1).f1.f1,(rd_T68 x0_1 x5_1).f1.f2⟩ : S26)⟩ : S68)):=⟨_,rfl⟩;replace H : ((some (y565.set (x5_1 : Int).toNat (⟨(rd_T68 y565 x5_1).f0,(⟨wrap64 (x1_1 + 1),(rd_T68 y565 x5_1).f1.f1,(rd_T68 y565 x5_1).f1.f2⟩ : S26)⟩ : S68) : List (S68))).bind fun y566 => ((some (y566.set (x5_1 : Int).toNat (⟨(rd_T68 y566 x5_1).f0,(⟨(rd_T68 y566 x5_1).f1.f0,wrap64 ((wrap64 (x1_1 + 1)) + 1),(rd_T68 y566 x5_1).f1.f2⟩ : S26)⟩ : S68) : List (S68))).bind fun y567 => ((laws_markText.f k1 (wrap64 ((wrap64 ((wrap64 (x1_1 + 1)) + 1)) + 1))).bind fun t568 => (laws_markFieldS.l0 k1 (y567.set (x5_1 : Int).toNat (⟨(rd_T68 y567 x5_1).f0,(⟨(rd_T68 y567 x5_1).f1.f0,(rd_T68 y567 x5_1).f1.f1,t568⟩ : S26)⟩ : S68)) (wrap64 ((wrap64 ((wrap64 ((wrap64 (x1_1 + 1)) + 1)) + 1)) + 1)) (wrap64 (x5_1 + 1))))))=some (r1,r2):=by first|(rw [hy565];with_reducible exact H)|(have H2_:=(Option.bind_some _ _).symm.trans H;rw [hy565];with_reducible exact H2_)|(have H2_:=(Option.bind_some _ _).symm.trans H;with_reducible exact H2_)|with_reducible exact H|(rw [hy565];exact H)|exact H
     have Ny565:=zh hy565;clear hy565;obtain ⟨y566,hy566⟩ : ∃ y_ : List (S68),y_=(y565.set (x5_1 : Int).toNat (⟨(rd_T68 y565 x5_1).f0,(⟨wrap64 (x1_1 + 1),(rd_T68 y565 x5_1).f1.f1,(rd_T68 y565 x5_1).f1.f2⟩ : S26)⟩ : S68)):=⟨_,rfl⟩;replace H : ((some (y566.set (x5_1 : Int).toNat (⟨(rd_T68 y566 x5_1).f0,(⟨(rd_T68 y566 x5_1).f1.f0,wrap64 ((wrap64 (x1_1 + 1)) + 1),(rd_T68 y566 x5_1).f1.f2⟩ : S26)⟩ : S68) : List (S68))).bind fun y567 => ((laws_markText.f k1 (wrap64 ((wrap64 ((wrap64 (x1_1 + 1)) + 1)) + 1))).bind fun t568 => (laws_markFieldS.l0 k1 (y567.set (x5_1 : Int).toNat (⟨(rd_T68 y567 x5_1).f0,(⟨(rd_T68 y567 x5_1).f1.f0,(rd_T68 y567 x5_1).f1.f1,t568⟩ : S26)⟩ : S68)) (wrap64 ((wrap64 ((wrap64 ((wrap64 (x1_1 + 1)) + 1)) + 1)) + 1)) (wrap64 (x5_1 + 1)))))=some (r1,r2):=by first|(rw [hy566];with_reducible exact H)|(have H2_:=(Option.bind_some _ _).symm.trans H;rw [hy566];with_reducible exact H2_)|(have H2_:=(Option.bind_some _ _).symm.trans H;with_reducible exact H2_)|with_reducible exact H|(rw [hy566];exact H)|exact H
     have Ny566:=zh hy566;clear hy566;obtain ⟨y567,hy567⟩ : ∃ y_ : List (S68),y_=(y566.set (x5_1 : Int).toNat (⟨(rd_T68 y566 x5_1).f0,(⟨(rd_T68 y566 x5_1).f1.f0,wrap64 ((wrap64 (x1_1 + 1)) + 1),(rd_T68 y566 x5_1).f1.f2⟩ : S26)⟩ : S68)):=⟨_,rfl⟩;replace H : ((laws_markText.f k1 (wrap64 ((wrap64 ((wrap64 (x1_1 + 1)) + 1)) + 1))).bind fun t568 => (laws_markFieldS.l0 k1 (y567.set (x5_1 : Int).toNat (⟨(rd_T68 y567 x5_1).f0,(⟨(rd_T68 y567 x5_1).f1.f0,(rd_T68 y567 x5_1).f1.f1,t568⟩ : S26)⟩ : S68)) (wrap64 ((wrap64 ((wrap64 ((wrap64 (x1_1 + 1)) + 1)) + 1)) + 1)) (wrap64 (x5_1 + 1))))=some (r1,r2):=by first|(rw [hy567];with_reducible exact H)|(have H2_:=(Option.bind_some _ _).symm.trans H;rw [hy567];with_reducible exact H2_)|(have H2_:=(Option.bind_some _ _).symm.trans H;with_reducible exact H2_)|with_reducible exact H|(rw [hy567];exact H)|exact H
     have Ny567:=zh hy567;clear hy567;replace H:=zT.mp H;obtain ⟨t568,A90,H⟩:=H;replace H : (laws_markFieldS.l0 k1 (y567.set (x5_1 : Int).toNat (⟨(rd_T68 y567 x5_1).f0,(⟨(rd_T68 y567 x5_1).f1.f0,(rd_T68 y567 x5_1).f1.f1,t568⟩ : S26)⟩ : S68)) (wrap64 ((wrap64 ((wrap64 ((wrap64 (x1_1 + 1)) + 1)) + 1)) + 1)) (wrap64 (x5_1 + 1)))=some (r1,r2):=H;have A9:=zh A90;clear A90;obtain ⟨y569,hy569⟩ : ∃ y_ : List (S68),y_=(y567.set (x5_1 : Int).toNat (⟨(rd_T68 y567 x5_1).f0,(⟨(rd_T68 y567 x5_1).f1.f0,(rd_T68 y567 x5_1).f1.f1,t568⟩ : S26)⟩ : S68)):=⟨_,rfl⟩;replace H : (laws_markFieldS.l0 k1 y569 (wrap64 ((wrap64 ((wrap64 ((wrap64 (x1_1 + 1)) + 1)) + 1)) + 1)) (wrap64 (x5_1 + 1)))=some (r1,r2):=by first|(rw [hy569];with_reducible exact H)|(have H2_:=(Option.bind_some _ _).symm.trans H;rw [hy569];with_reducible exact H2_)|(have H2_:=(Option.bind_some _ _).symm.trans H;with_reducible exact H2_)|with_reducible exact H|(rw [hy569];exact H)|exact H
     have Ny569:=zh hy569;clear hy569;have H':=zh H;clear H;obtain ⟨Ao11,co11,eo11⟩:=yk HO_0.out;subst eo11
     go_wp2_with (first|((with_reducible refine zJ (f:=63) rfl ?_);refine yj (some 15) rfl rfl Try.func63 (by kernel_rfl) rfl #[.int .i64 x1_1] rfl (by (try simp only [zt,zu,zv]);first|done|rfl|(simp only [zw,zx];rfl)|(simp only [yr,ys,zV,zW];rfl)) ?_;(with_reducible refine (laws_markText.calls k1  x1_1 t564 _ A4.out).mono ?_);rintro e w12 ⟨rfl,hb⟩;refine ⟨_,rfl,?_⟩;replace HO_0:=zh (yg (by (with_reducible repeat (first|apply zm|apply zn|apply zo));exact HO_0.out) hb);replace HK:=zh (Kept.below (S:=(fun k_ => P0_ k_)) (by repeat (with_reducible first|exact HK.out|apply zr|apply zp|apply zq)) hb);replace HB:=zh (zC (by repeat (with_reducible first|exact HB.out|apply za|apply zb|apply zc)) hb);(try clear hb);(try clear hb2);(try clear hk);(try clear hi);have p6 : 0≤(x5_1 : Int):=zy (by first|(with_reducible assumption)|assumption);have q6 : (x5_1 : Int)<((x0_1.length : Int) : Int):=zy (by first|(with_reducible assumption)|assumption);obtain ⟨go6,co6,eo6,gb6,gl6,cl6,HG6⟩:=Kd.R_form HO_0.out (by omega);(first|cases eo6|(injection eo6 with ea_ en_ ec_;(first|subst ea_|(injection ea_ with ea_;subst ea_));subst ec_;clear en_));have GB6:=zh gb6;have GG6:=zh HG6;clear gb6 gl6 HG6;have HMgo6:=zh (show (P0_ go6∨w.heap.size≤go6) from (HO_0.out.1 _ rfl));obtain ⟨ce6,hcl6,hM6,hcc6,hfr6⟩:=Kd.R_elem HO_0.out z68 (x5_1 : Int) p6 q6;obtain rfl:=k68_openM hM6;have hx6_0 : w12.cell? ⟨go6,(x5_1 : Int).toNat * 4,none⟩=some (.string ((rd_T68 x0_1 x5_1).f0)):=hcc6 0 _ rfl;have hx6_1 : w12.cell? ⟨go6,(x5_1 : Int).toNat * 4 + 1,none⟩=some (.int .i64 ((rd_T68 x0_1 x5_1).f1.f0)):=hcc6 1 _ rfl;have hx6_2 : w12.cell? ⟨go6,(x5_1 : Int).toNat * 4 + 2,none⟩=some (.int .i64 ((rd_T68 x0_1 x5_1).f1.f1)):=hcc6 2 _ rfl;have hx6_3 : w12.cell? ⟨go6,(x5_1 : Int).toNat * 4 + 3,none⟩=some (.string ((rd_T68 x0_1 x5_1).f1.f2)):=hcc6 3 _ rfl;have hf6_0 : w12.frozen? ⟨go6,(x5_1 : Int).toNat * 4,none⟩=false:=hfr6 0;have hf6_1 : w12.frozen? ⟨go6,(x5_1 : Int).toNat * 4 + 1,none⟩=false:=hfr6 1;have hf6_2 : w12.frozen? ⟨go6,(x5_1 : Int).toNat * 4 + 2,none⟩=false:=hfr6 2;have hf6_3 : w12.frozen? ⟨go6,(x5_1 : Int).toNat * 4 + 3,none⟩=false:=hfr6 3;clear hcl6 hcc6 hfr6 hM6;replace p6:=eq_true p6;replace q6:=eq_true q6;have HX13:=zh (show Kd.R k68 68 w12 w0.heap.size (fun k_ => (P0_ k_∨w.heap.size≤k_)) (.slice (some ⟨go6,0,none⟩) x0_1.length co11) x0_1 from (by (with_reducible repeat (first|apply zm|apply zn|apply zo));exact HO_0.out));obtain ⟨ce13,hcl13,hM13,hcc13,hfr13⟩:=Kd.R_elem HX13.out z68 (x5_1 : Int) (zy (by first|(with_reducible assumption)|assumption)) (by have h_ : (x5_1 : Int)<((x0_1.length : Int) : Int):=zy (by first|(with_reducible assumption)|assumption);first|exact h_|(have e_:=(yh HO_0.out).1;omega)|simpa using h_);obtain rfl:=k68_openM hM13;have HP13:=Kd.R_seg HX13.out (x5_1 : Int) (zy (by first|(with_reducible assumption)|assumption)) (by have h_ : (x5_1 : Int)<((x0_1.length : Int) : Int):=zy (by first|(with_reducible assumption)|assumption);first|exact h_|(have e_:=(yh HO_0.out).1;omega)|simpa using h_) (seg:=[.string t564]) (j:=0) hcl13 hcc13 (show 1≤4 from by decide) (x':=(⟨t564,(⟨(rd_T68 x0_1 x5_1).f1.f0,(rd_T68 x0_1 x5_1).f1.f1,(rd_T68 x0_1 x5_1).f1.f2⟩ : S26)⟩ : S68)) (k68_mkM _ _ _ (⟨t564,(⟨(rd_T68 x0_1 x5_1).f1.f0,(rd_T68 x0_1 x5_1).f1.f1,(rd_T68 x0_1 x5_1).f1.f2⟩ : S26)⟩ : S68) ) (fun _ hk => hk);have hx13_0:=hcc13 0 _ rfl;(try simp only [show (k68).sz=4 from rfl,Nat.mul_one,Nat.add_zero] at hx13_0);have hf13_0:=hfr13 0;(try simp only [show (k68).sz=4 from rfl,Nat.mul_one,Nat.add_zero] at hf13_0);clear hcl13 hcc13 hfr13 hM13)|((with_reducible refine gate_store (t:=9) (p:=17) rfl ?_);refine store_event (t:=9) (p:=17) (v:=?vo_w14) (w1:=(w12.setCell ⟨go6,(x5_1 : Int).toNat * 4,none⟩ (.string t564))) ?hg ?ho ?hn ?hr ?_;(case ho => rfl);(case hg => rfl);(case hn => rfl);(case hr => first|(go_simp;done)|(go_simp;rfl));intro w14 hw;have hg : w12.grownBy w14 (some go6):=(by rw [hw];exact HP13.2);have hp_ : Kd.R k68 68 w14 w0.heap.size (fun k_ => (P0_ k_∨w.heap.size≤k_)) (.slice (some ⟨go6,0,none⟩) x0_1.length co11) y565:=(by rw [hw,Ny565.out];exact HP13.1);clear HP13;replace HB:=zh ((by rw [hw];exact zd (HB.out) GB6.out : Below w0.heap.size w0 w14));replace HK:=zh (yA (S:=(fun k_ => P0_ k_)) hg (by repeat (with_reducible first|exact HK.out|apply zr|apply zp|apply zq)) (fun k_ e_ => (HO_0.out.1 k_ e_)));replace HO_0:=zh (hp_);clear hg hw hp_;have p7 : 0≤(x5_1 : Int):=zy (by first|(with_reducible assumption)|assumption);have q7 : (x5_1 : Int)<((x0_1.length : Int) : Int):=zy (by first|(with_reducible assumption)|assumption);obtain ⟨ce7,hcl7,hM7,hcc7,hfr7⟩:=Kd.R_elem HO_0.out z68 (x5_1 : Int) p7 q7;obtain rfl:=k68_openM hM7;have hx7_0 : w14.cell? ⟨go6,(x5_1 : Int).toNat * 4,none⟩=some (.string ((rd_T68 y565 x5_1).f0)):=hcc7 0 _ rfl;have hx7_1 : w14.cell? ⟨go6,(x5_1 : Int).toNat * 4 + 1,none⟩=some (.int .i64 ((rd_T68 y565 x5_1).f1.f0)):=hcc7 1 _ rfl;have hx7_2 : w14.cell? ⟨go6,(x5_1 : Int).toNat * 4 + 2,none⟩=some (.int .i64 ((rd_T68 y565 x5_1).f1.f1)):=hcc7 2 _ rfl;have hx7_3 : w14.cell? ⟨go6,(x5_1 : Int).toNat * 4 + 3,none⟩=some (.string ((rd_T68 y565 x5_1).f1.f2)):=hcc7 3 _ rfl;have hf7_0 : w14.frozen? ⟨go6,(x5_1 : Int).toNat * 4,none⟩=false:=hfr7 0;have hf7_1 : w14.frozen? ⟨go6,(x5_1 : Int).toNat * 4 + 1,none⟩=false:=hfr7 1;have hf7_2 : w14.frozen? ⟨go6,(x5_1 : Int).toNat * 4 + 2,none⟩=false:=hfr7 2;have hf7_3 : w14.frozen? ⟨go6,(x5_1 : Int).toNat * 4 + 3,none⟩=false:=hfr7 3;clear hcl7 hcc7 hfr7 hM7;replace p7:=eq_true p7;replace q7:=eq_true q7;have HX15:=zh (show Kd.R k68 68 w14 w0.heap.size (fun k_ => (P0_ k_∨w.heap.size≤k_)) (.slice (some ⟨go6,0,none⟩) x0_1.length co11) y565 from (by (with_reducible repeat (first|apply zm|apply zn|apply zo));exact HO_0.out));obtain ⟨ce15,hcl15,hM15,hcc15,hfr15⟩:=Kd.R_elem HX15.out z68 (x5_1 : Int) (zy (by first|(with_reducible assumption)|assumption)) (by have h_ : (x5_1 : Int)<((x0_1.length : Int) : Int):=zy (by first|(with_reducible assumption)|assumption);first|exact h_|(have e_:=(yh HO_0.out).1;omega)|simpa using h_);obtain rfl:=k68_openM hM15;have HP15:=Kd.R_seg HX15.out (x5_1 : Int) (zy (by first|(with_reducible assumption)|assumption)) (by have h_ : (x5_1 : Int)<((x0_1.length : Int) : Int):=zy (by first|(with_reducible assumption)|assumption);first|exact h_|(have e_:=(yh HO_0.out).1;omega)|simpa using h_) (seg:=[.int .i64 (wrap64 (x1_1 + 1))]) (j:=1) hcl15 hcc15 (show 2≤4 from by decide) (x':=(⟨(rd_T68 y565 x5_1).f0,(⟨wrap64 (x1_1 + 1),(rd_T68 y565 x5_1).f1.f1,(rd_T68 y565 x5_1).f1.f2⟩ : S26)⟩ : S68)) (k68_mkM _ _ _ (⟨(rd_T68 y565 x5_1).f0,(⟨wrap64 (x1_1 + 1),(rd_T68 y565 x5_1).f1.f1,(rd_T68 y565 x5_1).f1.f2⟩ : S26)⟩ : S68) ) (fun _ hk => hk);have hx15_1:=hcc15 1 _ rfl;(try simp only [show (k68).sz=4 from rfl,Nat.mul_one,Nat.add_zero] at hx15_1);have hf15_1:=hfr15 1;(try simp only [show (k68).sz=4 from rfl,Nat.mul_one,Nat.add_zero] at hf15_1);clear hcl15 hcc15 hfr15 hM15)|((with_reducible refine gate_store (t:=3) (p:=25) rfl ?_);refine store_event (t:=3) (p:=25) (v:=?vo_w16) (w1:=(w14.setCell ⟨go6,(x5_1 : Int).toNat * 4 + 1,none⟩ (.int .i64 (wrap64 (x1_1 + 1))))) ?hg ?ho ?hn ?hr ?_;(case ho => rfl);(case hg => rfl);(case hn => rfl);(case hr => first|(go_simp;done)|(go_simp;rfl));intro w16 hw;have hg : w14.grownBy w16 (some go6):=(by rw [hw];exact HP15.2);have hp_ : Kd.R k68 68 w16 w0.heap.size (fun k_ => (P0_ k_∨w.heap.size≤k_)) (.slice (some ⟨go6,0,none⟩) x0_1.length co11) y566:=(by rw [hw,Ny566.out];exact HP15.1);clear HP15;replace HB:=zh ((by rw [hw];exact zd (HB.out) GB6.out : Below w0.heap.size w0 w16));replace HK:=zh (yA (S:=(fun k_ => P0_ k_)) hg (by repeat (with_reducible first|exact HK.out|apply zr|apply zp|apply zq)) (fun k_ e_ => (HO_0.out.1 k_ e_)));replace HO_0:=zh (hp_);clear hg hw hp_;have p8 : 0≤(x5_1 : Int):=zy (by first|(with_reducible assumption)|assumption);have q8 : (x5_1 : Int)<((x0_1.length : Int) : Int):=zy (by first|(with_reducible assumption)|assumption);obtain ⟨ce8,hcl8,hM8,hcc8,hfr8⟩:=Kd.R_elem HO_0.out z68 (x5_1 : Int) p8 q8;obtain rfl:=k68_openM hM8;have hx8_0 : w16.cell? ⟨go6,(x5_1 : Int).toNat * 4,none⟩=some (.string ((rd_T68 y566 x5_1).f0)):=hcc8 0 _ rfl;have hx8_1 : w16.cell? ⟨go6,(x5_1 : Int).toNat * 4 + 1,none⟩=some (.int .i64 ((rd_T68 y566 x5_1).f1.f0)):=hcc8 1 _ rfl;have hx8_2 : w16.cell? ⟨go6,(x5_1 : Int).toNat * 4 + 2,none⟩=some (.int .i64 ((rd_T68 y566 x5_1).f1.f1)):=hcc8 2 _ rfl;have hx8_3 : w16.cell? ⟨go6,(x5_1 : Int).toNat * 4 + 3,none⟩=some (.string ((rd_T68 y566 x5_1).f1.f2)):=hcc8 3 _ rfl;have hf8_0 : w16.frozen? ⟨go6,(x5_1 : Int).toNat * 4,none⟩=false:=hfr8 0;have hf8_1 : w16.frozen? ⟨go6,(x5_1 : Int).toNat * 4 + 1,none⟩=false:=hfr8 1;have hf8_2 : w16.frozen? ⟨go6,(x5_1 : Int).toNat * 4 + 2,none⟩=false:=hfr8 2;have hf8_3 : w16.frozen? ⟨go6,(x5_1 : Int).toNat * 4 + 3,none⟩=false:=hfr8 3;clear hcl8 hcc8 hfr8 hM8;replace p8:=eq_true p8;replace q8:=eq_true q8;have HX17:=zh (show Kd.R k68 68 w16 w0.heap.size (fun k_ => (P0_ k_∨w.heap.size≤k_)) (.slice (some ⟨go6,0,none⟩) x0_1.length co11) y566 from (by (with_reducible repeat (first|apply zm|apply zn|apply zo));exact HO_0.out));obtain ⟨ce17,hcl17,hM17,hcc17,hfr17⟩:=Kd.R_elem HX17.out z68 (x5_1 : Int) (zy (by first|(with_reducible assumption)|assumption)) (by have h_ : (x5_1 : Int)<((x0_1.length : Int) : Int):=zy (by first|(with_reducible assumption)|assumption);first|exact h_|(have e_:=(yh HO_0.out).1;omega)|simpa using h_);obtain rfl:=k68_openM hM17;have HP17:=Kd.R_seg HX17.out (x5_1 : Int) (zy (by first|(with_reducible assumption)|assumption)) (by have h_ : (x5_1 : Int)<((x0_1.length : Int) : Int):=zy (by first|(with_reducible assumption)|assumption);first|exact h_|(have e_:=(yh HO_0.out).1;omega)|simpa using h_) (seg:=[.int .i64 (wrap64 ((wrap64 (x1_1 + 1)) + 1))]) (j:=2) hcl17 hcc17 (show 3≤4 from by decide) (x':=(⟨(rd_T68 y566 x5_1).f0,(⟨(rd_T68 y566 x5_1).f1.f0,wrap64 ((wrap64 (x1_1 + 1)) + 1),(rd_T68 y566 x5_1).f1.f2⟩ : S26)⟩ : S68)) (k68_mkM _ _ _ (⟨(rd_T68 y566 x5_1).f0,(⟨(rd_T68 y566 x5_1).f1.f0,wrap64 ((wrap64 (x1_1 + 1)) + 1),(rd_T68 y566 x5_1).f1.f2⟩ : S26)⟩ : S68) ) (fun _ hk => hk);have hx17_2:=hcc17 2 _ rfl;(try simp only [show (k68).sz=4 from rfl,Nat.mul_one,Nat.add_zero] at hx17_2);have hf17_2:=hfr17 2;(try simp only [show (k68).sz=4 from rfl,Nat.mul_one,Nat.add_zero] at hf17_2);clear hcl17 hcc17 hfr17 hM17)|((with_reducible refine gate_store (t:=3) (p:=33) rfl ?_);refine store_event (t:=3) (p:=33) (v:=?vo_w18) (w1:=(w16.setCell ⟨go6,(x5_1 : Int).toNat * 4 + 2,none⟩ (.int .i64 (wrap64 ((wrap64 (x1_1 + 1)) + 1))))) ?hg ?ho ?hn ?hr ?_;(case ho => rfl);(case hg => rfl);(case hn => rfl);(case hr => first|(go_simp;done)|(go_simp;rfl));intro w18 hw;have hg : w16.grownBy w18 (some go6):=(by rw [hw];exact HP17.2);have hp_ : Kd.R k68 68 w18 w0.heap.size (fun k_ => (P0_ k_∨w.heap.size≤k_)) (.slice (some ⟨go6,0,none⟩) x0_1.length co11) y567:=(by rw [hw,Ny567.out];exact HP17.1);clear HP17;replace HB:=zh ((by rw [hw];exact zd (HB.out) GB6.out : Below w0.heap.size w0 w18));replace HK:=zh (yA (S:=(fun k_ => P0_ k_)) hg (by repeat (with_reducible first|exact HK.out|apply zr|apply zp|apply zq)) (fun k_ e_ => (HO_0.out.1 k_ e_)));replace HO_0:=zh (hp_);clear hg hw hp_)|((with_reducible refine zJ (f:=63) rfl ?_);refine yj (some 39) rfl rfl Try.func63 (by kernel_rfl) rfl #[.int .i64 (wrap64 ((wrap64 ((wrap64 (x1_1 + 1)) + 1)) + 1))] rfl (by (try simp only [zt,zu,zv]);first|done|rfl|(simp only [zw,zx];rfl)|(simp only [yr,ys,zV,zW];rfl)) ?_;(with_reducible refine (laws_markText.calls k1  (wrap64 ((wrap64 ((wrap64 (x1_1 + 1)) + 1)) + 1)) t568 _ A9.out).mono ?_);rintro e w19 ⟨rfl,hb⟩;refine ⟨_,rfl,?_⟩;replace HO_0:=zh (yg (by (with_reducible repeat (first|apply zm|apply zn|apply zo));exact HO_0.out) hb);replace HK:=zh (Kept.below (S:=(fun k_ => P0_ k_)) (by repeat (with_reducible first|exact HK.out|apply zr|apply zp|apply zq)) hb);replace HB:=zh (zC (by repeat (with_reducible first|exact HB.out|apply za|apply zb|apply zc)) hb);(try clear hb);(try clear hb2);(try clear hk);(try clear hi);have p10 : 0≤(x5_1 : Int):=zy (by first|(with_reducible assumption)|assumption);have q10 : (x5_1 : Int)<((x0_1.length : Int) : Int):=zy (by first|(with_reducible assumption)|assumption);obtain ⟨ce10,hcl10,hM10,hcc10,hfr10⟩:=Kd.R_elem HO_0.out z68 (x5_1 : Int) p10 q10;obtain rfl:=k68_openM hM10;have hx10_0 : w19.cell? ⟨go6,(x5_1 : Int).toNat * 4,none⟩=some (.string ((rd_T68 y567 x5_1).f0)):=hcc10 0 _ rfl;have hx10_1 : w19.cell? ⟨go6,(x5_1 : Int).toNat * 4 + 1,none⟩=some (.int .i64 ((rd_T68 y567 x5_1).f1.f0)):=hcc10 1 _ rfl;have hx10_2 : w19.cell? ⟨go6,(x5_1 : Int).toNat * 4 + 2,none⟩=some (.int .i64 ((rd_T68 y567 x5_1).f1.f1)):=hcc10 2 _ rfl;have hx10_3 : w19.cell? ⟨go6,(x5_1 : Int).toNat * 4 + 3,none⟩=some (.string ((rd_T68 y567 x5_1).f1.f2)):=hcc10 3 _ rfl;have hf10_0 : w19.frozen? ⟨go6,(x5_1 : Int).toNat * 4,none⟩=false:=hfr10 0;have hf10_1 : w19.frozen? ⟨go6,(x5_1 : Int).toNat * 4 + 1,none⟩=false:=hfr10 1;have hf10_2 : w19.frozen? ⟨go6,(x5_1 : Int).toNat * 4 + 2,none⟩=false:=hfr10 2;have hf10_3 : w19.frozen? ⟨go6,(x5_1 : Int).toNat * 4 + 3,none⟩=false:=hfr10 3;clear hcl10 hcc10 hfr10 hM10;replace p10:=eq_true p10;replace q10:=eq_true q10;have HX20:=zh (show Kd.R k68 68 w19 w0.heap.size (fun k_ => (P0_ k_∨w.heap.size≤k_)) (.slice (some ⟨go6,0,none⟩) x0_1.length co11) y567 from (by (with_reducible repeat (first|apply zm|apply zn|apply zo));exact HO_0.out));obtain ⟨ce20,hcl20,hM20,hcc20,hfr20⟩:=Kd.R_elem HX20.out z68 (x5_1 : Int) (zy (by first|(with_reducible assumption)|assumption)) (by have h_ : (x5_1 : Int)<((x0_1.length : Int) : Int):=zy (by first|(with_reducible assumption)|assumption);first|exact h_|(have e_:=(yh HO_0.out).1;omega)|simpa using h_);obtain rfl:=k68_openM hM20;have HP20:=Kd.R_seg HX20.out (x5_1 : Int) (zy (by first|(with_reducible assumption)|assumption)) (by have h_ : (x5_1 : Int)<((x0_1.length : Int) : Int):=zy (by first|(with_reducible assumption)|assumption);first|exact h_|(have e_:=(yh HO_0.out).1;omega)|simpa using h_) (seg:=[.string t568]) (j:=3) hcl20 hcc20 (show 4≤4 from by decide) (x':=(⟨(rd_T68 y567 x5_1).f0,(⟨(rd_T68 y567 x5_1).f1.f0,(rd_T68 y567 x5_1).f1.f1,t568⟩ : S26)⟩ : S68)) (k68_mkM _ _ _ (⟨(rd_T68 y567 x5_1).f0,(⟨(rd_T68 y567 x5_1).f1.f0,(rd_T68 y567 x5_1).f1.f1,t568⟩ : S26)⟩ : S68) ) (fun _ hk => hk);have hx20_3:=hcc20 3 _ rfl;(try simp only [show (k68).sz=4 from rfl,Nat.mul_one,Nat.add_zero] at hx20_3);have hf20_3:=hfr20 3;(try simp only [show (k68).sz=4 from rfl,Nat.mul_one,Nat.add_zero] at hf20_3);clear hcl20 hcc20 hfr20 hM20)|((with_reducible refine gate_store (t:=9) (p:=42) rfl ?_);refine store_event (t:=9) (p:=42) (v:=?vo_w21) (w1:=(w19.setCell ⟨go6,(x5_1 : Int).toNat * 4 + 3,none⟩ (.string t568))) ?hg ?ho ?hn ?hr ?_;(case ho => rfl);(case hg => rfl);(case hn => rfl);(case hr => first|(go_simp;done)|(go_simp;rfl));intro w21 hw;have hg : w19.grownBy w21 (some go6):=(by rw [hw];exact HP20.2);have hp_ : Kd.R k68 68 w21 w0.heap.size (fun k_ => (P0_ k_∨w.heap.size≤k_)) (.slice (some ⟨go6,0,none⟩) x0_1.length co11) y569:=(by rw [hw,Ny569.out];exact HP20.1);clear HP20;replace HB:=zh ((by rw [hw];exact zd (HB.out) GB6.out : Below w0.heap.size w0 w21));replace HK:=zh (yA (S:=(fun k_ => P0_ k_)) hg (by repeat (with_reducible first|exact HK.out|apply zr|apply zp|apply zq)) (fun k_ e_ => (HO_0.out.1 k_ e_)));replace HO_0:=zh (hp_);clear hg hw hp_))
     go_roundg k1
     case measure => have:=HK1.out;omega
     case rel => exact ⟨(y569),(wrap64 ((wrap64 ((wrap64 ((wrap64 (x1_1 + 1)) + 1)) + 1)) + 1)),(wrap64 (x5_1 + 1)),(by first|rfl|(simp;done)|(simp [*];done)),(by first|rfl|(simp;done)|(simp [*];done)),H',⟨by have:=HK1.out;omega⟩,⟨by (with_reducible repeat (first|apply zm|apply zn|apply zo));exact HO_0.out⟩,⟨by repeat (with_reducible first|exact HK.out|apply zr|apply zp|apply zq)⟩,⟨by repeat (with_reducible first|exact HB.out|apply za|apply zb|apply zc)⟩⟩
    rw [if_neg c5] at H;exact absurd H (by simp)
   rw [if_neg c3] at H;have c3b0 : decide (x5_1<(x0_1.length : Int))=false:=decide_eq_false c3;clear c3;simp only [Option.some.injEq,Prod.mk.injEq] at H;obtain ⟨rfl,rfl⟩:=H;obtain ⟨Ao22,co22,eo22⟩:=yk HO_0.out;subst eo22
   go_wp2
   go_ret
   exact ⟨by first|rfl|(simp [yt,yu] <;> rfl)|(simp [*,yt,yu] <;> rfl),by (with_reducible repeat (first|apply zm|apply zn|apply zo));exact HO_0.out,by repeat (with_reducible first|exact HB.out|apply za|apply zb|apply zc),by repeat (with_reducible first|exact HK.out|apply zr|apply zp|apply zq)⟩

end Go.Proofs.Ytpmeglcmhiihoaa.Q
end
section
namespace Go.Proofs.Ytpmeglcmhiihoaa.Q
open Go.RowKit Go.Proofs.YtpmeglcmhiihoaaW.PrintWords Go.Proofs.YtpmeglcmhiihoaaW.PrintLast Go.Proofs.YtpmeglcmhiihoaaW.PrintMore
attribute [local go_sem] max2_int min2_int max_two min_two max_three min_three max_four min_four max2_str min2_str str_geq str_gtr str_leq   -- for this text's walks alone
set_option linter.unusedVariables false
set_option linter.unusedSimpArgs false

def laws_heldFieldS.l0 : Nat→List (S68)→Int→Int→Option (Int)
 | 0,_,_,_ => none
 | k + 1,x0,x1,x5 => if x5<(x0.length : Int) then (if 0≤x5 then ((laws_markText.f k x1).bind fun t571 => (if ((rd_T68 x0 x5).f0).toList=t571.toList then (if ((rd_T68 x0 x5).f1.f0)=(wrap64 (x1 + 1)) then (if ((rd_T68 x0 x5).f1.f1)=(wrap64 ((wrap64 (x1 + 1)) + 1)) then ((laws_markText.f k (wrap64 ((wrap64 ((wrap64 (x1 + 1)) + 1)) + 1))).bind fun t575 => (if ((rd_T68 x0 x5).f1.f2).toList=t575.toList then (laws_heldFieldS.l0 k x0 (wrap64 ((wrap64 ((wrap64 ((wrap64 (x1 + 1)) + 1)) + 1)) + 1)) (wrap64 (x5 + 1))) else (some (-1)))) else (some (-1))) else (some (-1))) else (some (-1)))) else (none)) else (some x1)
def laws_heldFieldS.f (k : Nat) (l0 : List (S68)) (a1 : Int) : Option (Int):=laws_heldFieldS.l0 k l0 a1 0
theorem laws_heldFieldS.mono_l : ∀ k,(∀ y0 y1 y2,LeO (laws_heldFieldS.l0 k y0 y1 y2) (laws_heldFieldS.l0 (k + 1) y0 y1 y2))
 | 0 => fun _ _ _ r h => by simp [laws_heldFieldS.l0] at h
 | k + 1 => by
  have ih0:=laws_heldFieldS.mono_l k;intro y0 y1 y2;unfold laws_heldFieldS.l0
  repeat' first|(with_reducible exact ih0 _ _ _)|(with_reducible exact laws_markText.mono _ _)|(with_reducible exact zQ _)|(with_reducible exact zN _)|(with_reducible refine zP ?_ ?_)|(with_reducible refine zO ?_ (fun _ => ?_))|refine zP ?_ ?_|refine zO ?_ (fun _ => ?_)
theorem laws_heldFieldS.mono : ∀ a0 a1 k,LeO (laws_heldFieldS.f k a0 a1) (laws_heldFieldS.f (k + 1) a0 a1):=by
 intro a0 a1 k;have ih0:=laws_heldFieldS.mono_l k;unfold laws_heldFieldS.f
 repeat' first|(with_reducible exact ih0 _ _ _)|(with_reducible exact laws_markText.mono _ _)|(with_reducible exact zQ _)|(with_reducible exact zN _)|(with_reducible refine zP ?_ ?_)|(with_reducible refine zO ?_ (fun _ => ?_))|refine zP ?_ ?_|refine zO ?_ (fun _ => ?_)
def laws_heldFieldS.T4 : Bool×List (List Nat×List Nat):=(true,[([],[]),([],[]),([0,1],[0,1]),([2],[2]),([3],[3]),([],[]),([5],[5]),([4,6],[4,6])])
def laws_heldFieldS.B4 : List Nat:=[0,0,3,7,15,0,32,127]
theorem laws_heldFieldS.tab4 : rtab .any (opsOf Try.f38 4)=laws_heldFieldS.T4:=by kernel_rfl
theorem laws_heldFieldS.bits4 : waitsOk laws_heldFieldS.T4.2 laws_heldFieldS.B4=true:=by kernel_rfl
def laws_heldFieldS.T13 : Bool×List (List Nat×List Nat):=(true,[([],[]),([],[]),([0,1],[0,1]),([2],[2]),([3],[3]),([4],[4]),([],[]),([6],[6]),([5,7],[5,7])])
def laws_heldFieldS.B13 : List Nat:=[0,0,3,7,15,31,0,64,255]
theorem laws_heldFieldS.tab13 : rtab .any (opsOf Try.f38 13)=laws_heldFieldS.T13:=by kernel_rfl
theorem laws_heldFieldS.bits13 : waitsOk laws_heldFieldS.T13.2 laws_heldFieldS.B13=true:=by kernel_rfl
set_option maxHeartbeats 8000000 in
set_option maxRecDepth 100000 in
theorem laws_heldFieldS.calls (k : Nat) (A0 : Option Addr) (c0 : Nat) (l0 : List (S68)) (a1 : Int) (r : Int) (w : World) (hr0 : Kd.C k68 w A0 l0.length l0) (hc0 : l0.length≤c0) (h : laws_heldFieldS.f k l0 a1=some r) :
  Calls Try.prog 38 #[.slice A0 l0.length c0,.int .i64 a1] w fun e w' => e = .returned (.int .i64 r)∧Below w.heap.size w w':=by
 have HR0:=zh hr0;have HC0:=zh hc0;clear hr0 hc0;have HB:=zh (Below.refl w.heap.size w);have H : (laws_heldFieldS.l0 k l0 a1 0)=some r:=h;clear h;have H':=zh H;clear H
 go_enter Try.func38,Try.ntmps38
 go_wp2
 go_loopg [1,5] k (fun kq v1 v5 w' => ∃ (x1_1 : Int) (x5_1 : Int),v1 = .int .i64 x1_1∧v5 = .int .i64 x5_1∧Aside0 (laws_heldFieldS.l0 kq l0 x1_1 x5_1=some r)∧Aside0 (kq≤k)∧Aside0 (Below w.heap.size w w'))
 case atStart => exact ⟨(a1),(0),(by first|rfl|(simp;done)|(simp [*];done)),(by first|rfl|(simp;done)|(simp [*];done)),H',⟨ye _⟩,⟨by repeat (with_reducible first|exact HB.out|apply za|apply zb|apply zc)⟩⟩
 case round =>
  clear H'
  try clear p2
  obtain ⟨x1_1,x5_1,rfl,rfl,HA,HK1,HB⟩:=hrel
  cases gk with
  | zero => exact absurd HA.out (by simp [laws_heldFieldS.l0])
  | succ k1 =>
   have H:=HA.out;clear HA;simp only [laws_heldFieldS.l0] at H
   by_cases c3 : x5_1<(l0.length : Int)
   ·
    rw [if_pos c3] at H
    have c3b0 : decide (x5_1<(l0.length : Int))=true:=decide_eq_true c3;clear c3
    by_cases c4 : 0≤x5_1
    ·
     rw [if_pos c4] at H
     have c4b0 : decide (0≤x5_1)=true:=decide_eq_true c4;clear c4;replace H:=zT.mp H;obtain ⟨t571,A50,H⟩:=H;replace H : (if ((rd_T68 l0 x5_1).f0).toList=t571.toList then (if ((rd_T68 l0 x5_1).f1.f0)=(wrap64 (x1_1 + 1)) then (if ((rd_T68 l0 x5_1).f1.f1)=(wrap64 ((wrap64 (x1_1 + 1)) + 1)) then ((laws_markText.f k1 (wrap64 ((wrap64 ((wrap64 (x1_1 + 1)) + 1)) + 1))).bind fun t575 => (if ((rd_T68 l0 x5_1).f1.f2).toList=t575.toList then (laws_heldFieldS.l0 k1 l0 (wrap64 ((wrap64 ((wrap64 ((wrap64 (x1_1 + 1)) + 1)) + 1)) + 1)) (wrap64 (x5_1 + 1))) else (some (-1)))) else (some (-1))) else (some (-1))) else (some (-1)))=some r:=H;have A5:=zh A50;clear A50
     by_cases c6 : ((rd_T68 l0 x5_1).f0).toList=t571.toList
     ·
      rw [if_pos c6] at H
      have c6b0 : (((rd_T68 l0 x5_1).f0).toList == t571.toList)=true:=ya.mpr c6;have c6b1 : (((rd_T68 l0 x5_1).f0).toList != t571.toList)=false:=zX.mpr c6;clear c6
      by_cases c7 : ((rd_T68 l0 x5_1).f1.f0)=(wrap64 (x1_1 + 1))
      ·
       rw [if_pos c7] at H
       have c7b0 : (((rd_T68 l0 x5_1).f1.f0) == (wrap64 (x1_1 + 1)))=true:=ya.mpr c7;have c7b1 : (((rd_T68 l0 x5_1).f1.f0) != (wrap64 (x1_1 + 1)))=false:=zX.mpr c7;clear c7
       by_cases c8 : ((rd_T68 l0 x5_1).f1.f1)=(wrap64 ((wrap64 (x1_1 + 1)) + 1))
       ·
        rw [if_pos c8] at H
        have c8b0 : (((rd_T68 l0 x5_1).f1.f1) == (wrap64 ((wrap64 (x1_1 + 1)) + 1)))=true:=ya.mpr c8;have c8b1 : (((rd_T68 l0 x5_1).f1.f1) != (wrap64 ((wrap64 (x1_1 + 1)) + 1)))=false:=zX.mpr c8;clear c8;replace H:=zT.mp H;obtain ⟨t575,A90,H⟩:=H;replace H : (if ((rd_T68 l0 x5_1).f1.f2).toList=t575.toList then (laws_heldFieldS.l0 k1 l0 (wrap64 ((wrap64 ((wrap64 ((wrap64 (x1_1 + 1)) + 1)) + 1)) + 1)) (wrap64 (x5_1 + 1))) else (some (-1)))=some r:=H;have A9:=zh A90;clear A90
        by_cases c10 : ((rd_T68 l0 x5_1).f1.f2).toList=t575.toList
        ·
         rw [if_pos c10] at H
         have c10b0 : (((rd_T68 l0 x5_1).f1.f2).toList == t575.toList)=true:=ya.mpr c10;have c10b1 : (((rd_T68 l0 x5_1).f1.f2).toList != t575.toList)=false:=zX.mpr c10;clear c10;have H':=zh H;clear H
         try go_wp2
         replace HB:=zh (zc HB.out);have p570 : 0≤(x5_1 : Int):=zy (by first|(with_reducible assumption)|assumption);have q570 : x5_1<(l0.length : Int):=zy (by first|(with_reducible assumption)|assumption);obtain ⟨ad570,e570,hx570_0,hx570_1,hx570_2,hx570_3⟩:=at_T68 HR0.out x5_1 p570 q570;have hw570_3:=hx570_3;have hw570_2:=hx570_2;have hw570_1:=hx570_1;have hw570_0:=hx570_0
         cases e570
         replace hx570_0:=(HB.out.cell (zl w _ hx570_0)).trans hx570_0;replace hx570_1:=(HB.out.cell (zl w _ hx570_1)).trans hx570_1;replace hx570_2:=(HB.out.cell (zl w _ hx570_2)).trans hx570_2;replace hx570_3:=(HB.out.cell (zl w _ hx570_3)).trans hx570_3;replace p570:=eq_true p570;replace q570:=eq_true q570;refine start_ (n:=8) (S:=fun w' => w'.cell? (ad570.add ((x5_1).toNat * 4))=some (.string ((rd_T68 l0 x5_1).f0))∧w'.cell? ⟨(ad570.add ((x5_1).toNat * 4)).block,(ad570.add ((x5_1).toNat * 4)).off + 1,none⟩=some (.int .i64 ((rd_T68 l0 x5_1).f1.f0))∧w'.cell? ⟨(ad570.add ((x5_1).toNat * 4)).block,(ad570.add ((x5_1).toNat * 4)).off + 2,none⟩=some (.int .i64 ((rd_T68 l0 x5_1).f1.f1))∧w'.cell? ⟨(ad570.add ((x5_1).toNat * 4)).block,(ad570.add ((x5_1).toNat * 4)).off + 3,none⟩=some (.string ((rd_T68 l0 x5_1).f1.f2))) (ds:=[]) (bm_ 0 8) (by kernel_rfl) rfl rfl ⟨((HB.out.cell (zl w _ hw570_0)).trans hw570_0),((HB.out.cell (zl w _ hw570_1)).trans hw570_1),((HB.out.cell (zl w _ hw570_2)).trans hw570_2),((HB.out.cell (zl w _ hw570_3)).trans hw570_3)⟩ (fun hHeld => ?_);refine with_tabW laws_heldFieldS.tab4 laws_heldFieldS.bits4 (fun HT_ HW_ => ?_);generalize wr.drew=w11 at HB hx570_0 hx570_1 hx570_2 hx570_3 hHeld ⊢;refine pure_ (i:=0) (N:=some 12) (v:=?_) (a':=?_) (bm_ 1 8) rfl rfl (any_of HT_.out (by kernel_rfl)) (fun _ _ _ h => h) (Or.inl ⟨by rfl,?_⟩) ?_ ?_;rotate_left
         ·
          intro w'
          go_simp
          with_reducible rfl
         rotate_left
         ·
          simp only [Act.put,zi,zj,zk,zG,zH]
          rfl
         refine pure_ (i:=1) (N:=some 13) (v:=?_) (a':=?_) (bm_ 2 8) rfl rfl (any_of HT_.out (by kernel_rfl)) (fun _ _ _ h => h) (Or.inl ⟨by rfl,?_⟩) ?_ ?_;rotate_left
         ·
          intro w'
          go_simp
          with_reducible rfl
         rotate_left
         ·
          simp only [Act.put,zi,zj,zk,zG,zH]
          rfl
         refine pure_ (i:=2) (N:=some 14) (v:=?_) (a':=?_) (bm_ 3 8) rfl rfl (any_of HT_.out (by kernel_rfl)) (fun _ _ _ h => h) (Or.inl ⟨by rfl,?_⟩) ?_ ?_;rotate_left
         ·
          intro w'
          go_simp
          with_reducible rfl
         rotate_left
         ·
          simp only [Act.put,zi,zj,zk,zG,zH]
          rfl
         refine pure_ (i:=3) (N:=some 15) (v:=?_) (a':=?_) (bm_ 4 8) rfl rfl (any_of HT_.out (by kernel_rfl)) (fun _ _ _ h => h) (Or.inl ⟨by rfl,?_⟩) ?_ ?_;rotate_left
         ·
          intro w'
          go_simp
          with_reducible rfl
         rotate_left
         ·
          simp only [Act.put,zi,zj,zk,zG,zH]
          rfl
         refine pure_ (i:=5) (N:=some 17) (v:=?_) (a':=?_) #[true,true,true,true,false,true,false,false] rfl rfl (any_of HT_.out (by kernel_rfl)) (fun _ _ _ h => h) (Or.inl ⟨by rfl,?_⟩) ?_ ?_;rotate_left
         ·
          intro w'
          go_simp
          with_reducible rfl
         rotate_left
         ·
          simp only [Act.put,zi,zj,zk,zG,zH]
          rfl
         refine take_ (i:=4) (N:=some 16) (v:=?_) (a':=?_) (bm_ 6 8) rfl rfl (yo HT_.out HW_.out (by kernel_rfl)) (fun _ _ _ h => h) (Or.inl ⟨by rfl,?_⟩) hHeld ?_ ?_;rotate_left
         ·
          rintro w' ⟨s0,s1,s2,s3⟩
          go_simp
          with_reducible rfl
         rotate_left
         ·
          simp only [Act.put,zi,zj,zk,zG,zH]
          rfl
         refine one_ (i:=6) (N:=some 18) (bm_ 7 8) rfl rfl (one_of HT_.out (by kernel_rfl)) (by decide) (fun K hK => ?_);refine goes_ Try.func63 (by kernel_rfl) rfl #[.int .i64 x1_1] (by rfl) rfl rfl (by (try simp only [zt,zu,zv]);first|done|rfl|(simp only [zw,zx];rfl)|(simp only [yr,ys,zV,zW];rfl)) ?_
         with_reducible refine (laws_markText.calls k1  x1_1 t571 _ A5.out).mono ?_
         rintro e w12 ⟨rfl,hb⟩;refine ⟨_,rfl,?_⟩;replace HB:=zh (zC (by repeat (with_reducible first|exact HB.out|apply za|apply zb|apply zc)) hb);(try clear hb);(try clear hb2);(try clear hk);(try clear hi);refine hK.out _ _ ⟨((HB.out.cell (zl w _ hw570_0)).trans hw570_0),((HB.out.cell (zl w _ hw570_1)).trans hw570_1),((HB.out.cell (zl w _ hw570_2)).trans hw570_2),((HB.out.cell (zl w _ hw570_3)).trans hw570_3)⟩ (fun hHeld => ?_);clear hK K;refine norm_ (a':=?_) ?_ ?_;rotate_left
         ·
          show Act.put _ (some 18) _=_
          simp only [Act.put,zi,zj,zk,zG,zH]
          rfl
         refine pure_ (i:=7) (N:=some 19) (v:=?_) (a':=?_) (bm_ 8 8) rfl rfl (any_of HT_.out (by kernel_rfl)) (fun _ _ _ h => h) (Or.inl ⟨by rfl,?_⟩) ?_ ?_;rotate_left
         ·
          intro w'
          go_simp
          with_reducible rfl
         rotate_left
         ·
          simp only [Act.put,zi,zj,zk,zG,zH]
          rfl
         refine done_ (done_of HT_.out (by kernel_rfl)) ?_;have p572 : 0≤(x5_1 : Int):=zy (by first|(with_reducible assumption)|assumption);have q572 : x5_1<(l0.length : Int):=zy (by first|(with_reducible assumption)|assumption);obtain ⟨ad572,e572,hx572_0,hx572_1,hx572_2,hx572_3⟩:=at_T68 HR0.out x5_1 p572 q572;obtain rfl : ad570=ad572:=(by injection e572);replace hx572_0:=(HB.out.cell (zl w _ hx572_0)).trans hx572_0;replace hx572_1:=(HB.out.cell (zl w _ hx572_1)).trans hx572_1;replace hx572_2:=(HB.out.cell (zl w _ hx572_2)).trans hx572_2;replace hx572_3:=(HB.out.cell (zl w _ hx572_3)).trans hx572_3;replace p572:=eq_true p572;replace q572:=eq_true q572;have p573 : 0≤(x5_1 : Int):=zy (by first|(with_reducible assumption)|assumption);have q573 : x5_1<(l0.length : Int):=zy (by first|(with_reducible assumption)|assumption);obtain ⟨ad573,e573,hx573_0,hx573_1,hx573_2,hx573_3⟩:=at_T68 HR0.out x5_1 p573 q573;obtain rfl : ad570=ad573:=(by injection e573);replace hx573_0:=(HB.out.cell (zl w _ hx573_0)).trans hx573_0;replace hx573_1:=(HB.out.cell (zl w _ hx573_1)).trans hx573_1;replace hx573_2:=(HB.out.cell (zl w _ hx573_2)).trans hx573_2;replace hx573_3:=(HB.out.cell (zl w _ hx573_3)).trans hx573_3;replace p573:=eq_true p573;replace q573:=eq_true q573
         try go_wp2
         replace HB:=zh (zc HB.out);have p574 : 0≤(x5_1 : Int):=zy (by first|(with_reducible assumption)|assumption);have q574 : x5_1<(l0.length : Int):=zy (by first|(with_reducible assumption)|assumption);obtain ⟨ad574,e574,hx574_0,hx574_1,hx574_2,hx574_3⟩:=at_T68 HR0.out x5_1 p574 q574;have hw574_3:=hx574_3;have hw574_2:=hx574_2;have hw574_1:=hx574_1;have hw574_0:=hx574_0;obtain rfl : ad570=ad574:=(by injection e574);replace hx574_0:=(HB.out.cell (zl w _ hx574_0)).trans hx574_0;replace hx574_1:=(HB.out.cell (zl w _ hx574_1)).trans hx574_1;replace hx574_2:=(HB.out.cell (zl w _ hx574_2)).trans hx574_2;replace hx574_3:=(HB.out.cell (zl w _ hx574_3)).trans hx574_3;replace p574:=eq_true p574;replace q574:=eq_true q574;refine start_ (n:=9) (S:=fun w' => w'.cell? (ad570.add ((x5_1).toNat * 4))=some (.string ((rd_T68 l0 x5_1).f0))∧w'.cell? ⟨(ad570.add ((x5_1).toNat * 4)).block,(ad570.add ((x5_1).toNat * 4)).off + 1,none⟩=some (.int .i64 ((rd_T68 l0 x5_1).f1.f0))∧w'.cell? ⟨(ad570.add ((x5_1).toNat * 4)).block,(ad570.add ((x5_1).toNat * 4)).off + 2,none⟩=some (.int .i64 ((rd_T68 l0 x5_1).f1.f1))∧w'.cell? ⟨(ad570.add ((x5_1).toNat * 4)).block,(ad570.add ((x5_1).toNat * 4)).off + 3,none⟩=some (.string ((rd_T68 l0 x5_1).f1.f2))) (ds:=[]) (bm_ 0 9) (by kernel_rfl) rfl rfl ⟨((HB.out.cell (zl w _ hw574_0)).trans hw574_0),((HB.out.cell (zl w _ hw574_1)).trans hw574_1),((HB.out.cell (zl w _ hw574_2)).trans hw574_2),((HB.out.cell (zl w _ hw574_3)).trans hw574_3)⟩ (fun hHeld => ?_);refine with_tabW laws_heldFieldS.tab13 laws_heldFieldS.bits13 (fun HT_ HW_ => ?_);generalize w12.drew=w13 at HB hx574_0 hx574_1 hx574_2 hx574_3 hHeld ⊢;refine pure_ (i:=0) (N:=some 42) (v:=?_) (a':=?_) (bm_ 1 9) rfl rfl (any_of HT_.out (by kernel_rfl)) (fun _ _ _ h => h) (Or.inl ⟨by rfl,?_⟩) ?_ ?_;rotate_left
         ·
          intro w'
          go_simp
          with_reducible rfl
         rotate_left
         ·
          simp only [Act.put,zi,zj,zk,zG,zH]
          rfl
         refine pure_ (i:=1) (N:=some 43) (v:=?_) (a':=?_) (bm_ 2 9) rfl rfl (any_of HT_.out (by kernel_rfl)) (fun _ _ _ h => h) (Or.inl ⟨by rfl,?_⟩) ?_ ?_;rotate_left
         ·
          intro w'
          go_simp
          with_reducible rfl
         rotate_left
         ·
          simp only [Act.put,zi,zj,zk,zG,zH]
          rfl
         refine pure_ (i:=2) (N:=some 44) (v:=?_) (a':=?_) (bm_ 3 9) rfl rfl (any_of HT_.out (by kernel_rfl)) (fun _ _ _ h => h) (Or.inl ⟨by rfl,?_⟩) ?_ ?_;rotate_left
         ·
          intro w'
          go_simp
          with_reducible rfl
         rotate_left
         ·
          simp only [Act.put,zi,zj,zk,zG,zH]
          rfl
         refine pure_ (i:=3) (N:=some 45) (v:=?_) (a':=?_) (bm_ 4 9) rfl rfl (any_of HT_.out (by kernel_rfl)) (fun _ _ _ h => h) (Or.inl ⟨by rfl,?_⟩) ?_ ?_;rotate_left
         ·
          intro w'
          go_simp
          with_reducible rfl
         rotate_left
         ·
          simp only [Act.put,zi,zj,zk,zG,zH]
          rfl
         refine pure_ (i:=4) (N:=some 46) (v:=?_) (a':=?_) (bm_ 5 9) rfl rfl (any_of HT_.out (by kernel_rfl)) (fun _ _ _ h => h) (Or.inl ⟨by rfl,?_⟩) ?_ ?_;rotate_left
         ·
          intro w'
          go_simp
          with_reducible rfl
         rotate_left
         ·
          simp only [Act.put,zi,zj,zk,zG,zH]
          rfl
         refine pure_ (i:=6) (N:=some 48) (v:=?_) (a':=?_) #[true,true,true,true,true,false,true,false,false] rfl rfl (any_of HT_.out (by kernel_rfl)) (fun _ _ _ h => h) (Or.inl ⟨by rfl,?_⟩) ?_ ?_;rotate_left
         ·
          intro w'
          go_simp
          with_reducible rfl
         rotate_left
         ·
          simp only [Act.put,zi,zj,zk,zG,zH]
          rfl
         refine take_ (i:=5) (N:=some 47) (v:=?_) (a':=?_) (bm_ 7 9) rfl rfl (yo HT_.out HW_.out (by kernel_rfl)) (fun _ _ _ h => h) (Or.inl ⟨by rfl,?_⟩) hHeld ?_ ?_;rotate_left
         ·
          rintro w' ⟨s0,s1,s2,s3⟩
          go_simp
          with_reducible rfl
         rotate_left
         ·
          simp only [Act.put,zi,zj,zk,zG,zH]
          rfl
         refine one_ (i:=7) (N:=some 49) (bm_ 8 9) rfl rfl (one_of HT_.out (by kernel_rfl)) (by decide) (fun K hK => ?_);refine goes_ Try.func63 (by kernel_rfl) rfl #[.int .i64 (wrap64 ((wrap64 ((wrap64 (x1_1 + 1)) + 1)) + 1))] (by rfl) rfl rfl (by (try simp only [zt,zu,zv]);first|done|rfl|(simp only [zw,zx];rfl)|(simp only [yr,ys,zV,zW];rfl)) ?_
         with_reducible refine (laws_markText.calls k1  (wrap64 ((wrap64 ((wrap64 (x1_1 + 1)) + 1)) + 1)) t575 _ A9.out).mono ?_
         rintro e w14 ⟨rfl,hb⟩;refine ⟨_,rfl,?_⟩;replace HB:=zh (zC (by repeat (with_reducible first|exact HB.out|apply za|apply zb|apply zc)) hb);(try clear hb);(try clear hb2);(try clear hk);(try clear hi);refine hK.out _ _ ⟨((HB.out.cell (zl w _ hw574_0)).trans hw574_0),((HB.out.cell (zl w _ hw574_1)).trans hw574_1),((HB.out.cell (zl w _ hw574_2)).trans hw574_2),((HB.out.cell (zl w _ hw574_3)).trans hw574_3)⟩ (fun hHeld => ?_);clear hK K;refine norm_ (a':=?_) ?_ ?_;rotate_left
         ·
          show Act.put _ (some 49) _=_
          simp only [Act.put,zi,zj,zk,zG,zH]
          rfl
         refine pure_ (i:=8) (N:=some 50) (v:=?_) (a':=?_) (bm_ 9 9) rfl rfl (any_of HT_.out (by kernel_rfl)) (fun _ _ _ h => h) (Or.inl ⟨by rfl,?_⟩) ?_ ?_;rotate_left
         ·
          intro w'
          go_simp
          with_reducible rfl
         rotate_left
         ·
          simp only [Act.put,zi,zj,zk,zG,zH]
          rfl
         refine done_ (done_of HT_.out (by kernel_rfl)) ?_
         try go_wp2
         go_roundg k1
         case measure => have:=HK1.out;omega
         case rel => exact ⟨(wrap64 ((wrap64 ((wrap64 ((wrap64 (x1_1 + 1)) + 1)) + 1)) + 1)),(wrap64 (x5_1 + 1)),(by first|rfl|(simp;done)|(simp [*];done)),(by first|rfl|(simp;done)|(simp [*];done)),H',⟨by have:=HK1.out;omega⟩,⟨by repeat (with_reducible first|exact HB.out|apply za|apply zb|apply zc)⟩⟩
        rw [if_neg c10] at H;have c10b0 : (((rd_T68 l0 x5_1).f1.f2).toList == t575.toList)=false:=zY.mpr c10;have c10b1 : (((rd_T68 l0 x5_1).f1.f2).toList != t575.toList)=true:=zZ.mpr c10;obtain rfl:=zU H
        try go_wp2
        replace HB:=zh (zc HB.out);have p570 : 0≤(x5_1 : Int):=zy (by first|(with_reducible assumption)|assumption);have q570 : x5_1<(l0.length : Int):=zy (by first|(with_reducible assumption)|assumption);obtain ⟨ad570,e570,hx570_0,hx570_1,hx570_2,hx570_3⟩:=at_T68 HR0.out x5_1 p570 q570;have hw570_3:=hx570_3;have hw570_2:=hx570_2;have hw570_1:=hx570_1;have hw570_0:=hx570_0
        cases e570
        replace hx570_0:=(HB.out.cell (zl w _ hx570_0)).trans hx570_0;replace hx570_1:=(HB.out.cell (zl w _ hx570_1)).trans hx570_1;replace hx570_2:=(HB.out.cell (zl w _ hx570_2)).trans hx570_2;replace hx570_3:=(HB.out.cell (zl w _ hx570_3)).trans hx570_3;replace p570:=eq_true p570;replace q570:=eq_true q570;refine start_ (n:=8) (S:=fun w' => w'.cell? (ad570.add ((x5_1).toNat * 4))=some (.string ((rd_T68 l0 x5_1).f0))∧w'.cell? ⟨(ad570.add ((x5_1).toNat * 4)).block,(ad570.add ((x5_1).toNat * 4)).off + 1,none⟩=some (.int .i64 ((rd_T68 l0 x5_1).f1.f0))∧w'.cell? ⟨(ad570.add ((x5_1).toNat * 4)).block,(ad570.add ((x5_1).toNat * 4)).off + 2,none⟩=some (.int .i64 ((rd_T68 l0 x5_1).f1.f1))∧w'.cell? ⟨(ad570.add ((x5_1).toNat * 4)).block,(ad570.add ((x5_1).toNat * 4)).off + 3,none⟩=some (.string ((rd_T68 l0 x5_1).f1.f2))) (ds:=[]) (bm_ 0 8) (by kernel_rfl) rfl rfl ⟨((HB.out.cell (zl w _ hw570_0)).trans hw570_0),((HB.out.cell (zl w _ hw570_1)).trans hw570_1),((HB.out.cell (zl w _ hw570_2)).trans hw570_2),((HB.out.cell (zl w _ hw570_3)).trans hw570_3)⟩ (fun hHeld => ?_);refine with_tabW laws_heldFieldS.tab4 laws_heldFieldS.bits4 (fun HT_ HW_ => ?_);generalize wr.drew=w15 at HB hx570_0 hx570_1 hx570_2 hx570_3 hHeld ⊢;refine pure_ (i:=0) (N:=some 12) (v:=?_) (a':=?_) (bm_ 1 8) rfl rfl (any_of HT_.out (by kernel_rfl)) (fun _ _ _ h => h) (Or.inl ⟨by rfl,?_⟩) ?_ ?_;rotate_left
        ·
         intro w'
         go_simp
         with_reducible rfl
        rotate_left
        ·
         simp only [Act.put,zi,zj,zk,zG,zH]
         rfl
        refine pure_ (i:=1) (N:=some 13) (v:=?_) (a':=?_) (bm_ 2 8) rfl rfl (any_of HT_.out (by kernel_rfl)) (fun _ _ _ h => h) (Or.inl ⟨by rfl,?_⟩) ?_ ?_;rotate_left
        ·
         intro w'
         go_simp
         with_reducible rfl
        rotate_left
        ·
         simp only [Act.put,zi,zj,zk,zG,zH]
         rfl
        refine pure_ (i:=2) (N:=some 14) (v:=?_) (a':=?_) (bm_ 3 8) rfl rfl (any_of HT_.out (by kernel_rfl)) (fun _ _ _ h => h) (Or.inl ⟨by rfl,?_⟩) ?_ ?_;rotate_left
        ·
         intro w'
         go_simp
         with_reducible rfl
        rotate_left
        ·
         simp only [Act.put,zi,zj,zk,zG,zH]
         rfl
        refine pure_ (i:=3) (N:=some 15) (v:=?_) (a':=?_) (bm_ 4 8) rfl rfl (any_of HT_.out (by kernel_rfl)) (fun _ _ _ h => h) (Or.inl ⟨by rfl,?_⟩) ?_ ?_;rotate_left
        ·
         intro w'
         go_simp
         with_reducible rfl
        rotate_left
        ·
         simp only [Act.put,zi,zj,zk,zG,zH]
         rfl
        refine pure_ (i:=5) (N:=some 17) (v:=?_) (a':=?_) #[true,true,true,true,false,true,false,false] rfl rfl (any_of HT_.out (by kernel_rfl)) (fun _ _ _ h => h) (Or.inl ⟨by rfl,?_⟩) ?_ ?_;rotate_left
        ·
         intro w'
         go_simp
         with_reducible rfl
        rotate_left
        ·
         simp only [Act.put,zi,zj,zk,zG,zH]
         rfl
        refine take_ (i:=4) (N:=some 16) (v:=?_) (a':=?_) (bm_ 6 8) rfl rfl (yo HT_.out HW_.out (by kernel_rfl)) (fun _ _ _ h => h) (Or.inl ⟨by rfl,?_⟩) hHeld ?_ ?_;rotate_left
        ·
         rintro w' ⟨s0,s1,s2,s3⟩
         go_simp
         with_reducible rfl
        rotate_left
        ·
         simp only [Act.put,zi,zj,zk,zG,zH]
         rfl
        refine one_ (i:=6) (N:=some 18) (bm_ 7 8) rfl rfl (one_of HT_.out (by kernel_rfl)) (by decide) (fun K hK => ?_);refine goes_ Try.func63 (by kernel_rfl) rfl #[.int .i64 x1_1] (by rfl) rfl rfl (by (try simp only [zt,zu,zv]);first|done|rfl|(simp only [zw,zx];rfl)|(simp only [yr,ys,zV,zW];rfl)) ?_
        with_reducible refine (laws_markText.calls k1  x1_1 t571 _ A5.out).mono ?_
        rintro e w16 ⟨rfl,hb⟩;refine ⟨_,rfl,?_⟩;replace HB:=zh (zC (by repeat (with_reducible first|exact HB.out|apply za|apply zb|apply zc)) hb);(try clear hb);(try clear hb2);(try clear hk);(try clear hi);refine hK.out _ _ ⟨((HB.out.cell (zl w _ hw570_0)).trans hw570_0),((HB.out.cell (zl w _ hw570_1)).trans hw570_1),((HB.out.cell (zl w _ hw570_2)).trans hw570_2),((HB.out.cell (zl w _ hw570_3)).trans hw570_3)⟩ (fun hHeld => ?_);clear hK K;refine norm_ (a':=?_) ?_ ?_;rotate_left
        ·
         show Act.put _ (some 18) _=_
         simp only [Act.put,zi,zj,zk,zG,zH]
         rfl
        refine pure_ (i:=7) (N:=some 19) (v:=?_) (a':=?_) (bm_ 8 8) rfl rfl (any_of HT_.out (by kernel_rfl)) (fun _ _ _ h => h) (Or.inl ⟨by rfl,?_⟩) ?_ ?_;rotate_left
        ·
         intro w'
         go_simp
         with_reducible rfl
        rotate_left
        ·
         simp only [Act.put,zi,zj,zk,zG,zH]
         rfl
        refine done_ (done_of HT_.out (by kernel_rfl)) ?_;have p572 : 0≤(x5_1 : Int):=zy (by first|(with_reducible assumption)|assumption);have q572 : x5_1<(l0.length : Int):=zy (by first|(with_reducible assumption)|assumption);obtain ⟨ad572,e572,hx572_0,hx572_1,hx572_2,hx572_3⟩:=at_T68 HR0.out x5_1 p572 q572;obtain rfl : ad570=ad572:=(by injection e572);replace hx572_0:=(HB.out.cell (zl w _ hx572_0)).trans hx572_0;replace hx572_1:=(HB.out.cell (zl w _ hx572_1)).trans hx572_1;replace hx572_2:=(HB.out.cell (zl w _ hx572_2)).trans hx572_2;replace hx572_3:=(HB.out.cell (zl w _ hx572_3)).trans hx572_3;replace p572:=eq_true p572;replace q572:=eq_true q572;have p573 : 0≤(x5_1 : Int):=zy (by first|(with_reducible assumption)|assumption);have q573 : x5_1<(l0.length : Int):=zy (by first|(with_reducible assumption)|assumption);obtain ⟨ad573,e573,hx573_0,hx573_1,hx573_2,hx573_3⟩:=at_T68 HR0.out x5_1 p573 q573;obtain rfl : ad570=ad573:=(by injection e573);replace hx573_0:=(HB.out.cell (zl w _ hx573_0)).trans hx573_0;replace hx573_1:=(HB.out.cell (zl w _ hx573_1)).trans hx573_1;replace hx573_2:=(HB.out.cell (zl w _ hx573_2)).trans hx573_2;replace hx573_3:=(HB.out.cell (zl w _ hx573_3)).trans hx573_3;replace p573:=eq_true p573;replace q573:=eq_true q573
        try go_wp2
        replace HB:=zh (zc HB.out);have p574 : 0≤(x5_1 : Int):=zy (by first|(with_reducible assumption)|assumption);have q574 : x5_1<(l0.length : Int):=zy (by first|(with_reducible assumption)|assumption);obtain ⟨ad574,e574,hx574_0,hx574_1,hx574_2,hx574_3⟩:=at_T68 HR0.out x5_1 p574 q574;have hw574_3:=hx574_3;have hw574_2:=hx574_2;have hw574_1:=hx574_1;have hw574_0:=hx574_0;obtain rfl : ad570=ad574:=(by injection e574);replace hx574_0:=(HB.out.cell (zl w _ hx574_0)).trans hx574_0;replace hx574_1:=(HB.out.cell (zl w _ hx574_1)).trans hx574_1;replace hx574_2:=(HB.out.cell (zl w _ hx574_2)).trans hx574_2;replace hx574_3:=(HB.out.cell (zl w _ hx574_3)).trans hx574_3;replace p574:=eq_true p574;replace q574:=eq_true q574;refine start_ (n:=9) (S:=fun w' => w'.cell? (ad570.add ((x5_1).toNat * 4))=some (.string ((rd_T68 l0 x5_1).f0))∧w'.cell? ⟨(ad570.add ((x5_1).toNat * 4)).block,(ad570.add ((x5_1).toNat * 4)).off + 1,none⟩=some (.int .i64 ((rd_T68 l0 x5_1).f1.f0))∧w'.cell? ⟨(ad570.add ((x5_1).toNat * 4)).block,(ad570.add ((x5_1).toNat * 4)).off + 2,none⟩=some (.int .i64 ((rd_T68 l0 x5_1).f1.f1))∧w'.cell? ⟨(ad570.add ((x5_1).toNat * 4)).block,(ad570.add ((x5_1).toNat * 4)).off + 3,none⟩=some (.string ((rd_T68 l0 x5_1).f1.f2))) (ds:=[]) (bm_ 0 9) (by kernel_rfl) rfl rfl ⟨((HB.out.cell (zl w _ hw574_0)).trans hw574_0),((HB.out.cell (zl w _ hw574_1)).trans hw574_1),((HB.out.cell (zl w _ hw574_2)).trans hw574_2),((HB.out.cell (zl w _ hw574_3)).trans hw574_3)⟩ (fun hHeld => ?_);refine with_tabW laws_heldFieldS.tab13 laws_heldFieldS.bits13 (fun HT_ HW_ => ?_);generalize w16.drew=w17 at HB hx574_0 hx574_1 hx574_2 hx574_3 hHeld ⊢;refine pure_ (i:=0) (N:=some 42) (v:=?_) (a':=?_) (bm_ 1 9) rfl rfl (any_of HT_.out (by kernel_rfl)) (fun _ _ _ h => h) (Or.inl ⟨by rfl,?_⟩) ?_ ?_;rotate_left
        ·
         intro w'
         go_simp
         with_reducible rfl
        rotate_left
        ·
         simp only [Act.put,zi,zj,zk,zG,zH]
         rfl
        refine pure_ (i:=1) (N:=some 43) (v:=?_) (a':=?_) (bm_ 2 9) rfl rfl (any_of HT_.out (by kernel_rfl)) (fun _ _ _ h => h) (Or.inl ⟨by rfl,?_⟩) ?_ ?_;rotate_left
        ·
         intro w'
         go_simp
         with_reducible rfl
        rotate_left
        ·
         simp only [Act.put,zi,zj,zk,zG,zH]
         rfl
        refine pure_ (i:=2) (N:=some 44) (v:=?_) (a':=?_) (bm_ 3 9) rfl rfl (any_of HT_.out (by kernel_rfl)) (fun _ _ _ h => h) (Or.inl ⟨by rfl,?_⟩) ?_ ?_;rotate_left
        ·
         intro w'
         go_simp
         with_reducible rfl
        rotate_left
        ·
         simp only [Act.put,zi,zj,zk,zG,zH]
         rfl
        refine pure_ (i:=3) (N:=some 45) (v:=?_) (a':=?_) (bm_ 4 9) rfl rfl (any_of HT_.out (by kernel_rfl)) (fun _ _ _ h => h) (Or.inl ⟨by rfl,?_⟩) ?_ ?_;rotate_left
        ·
         intro w'
         go_simp
         with_reducible rfl
        rotate_left
        ·
         simp only [Act.put,zi,zj,zk,zG,zH]
         rfl
        refine pure_ (i:=4) (N:=some 46) (v:=?_) (a':=?_) (bm_ 5 9) rfl rfl (any_of HT_.out (by kernel_rfl)) (fun _ _ _ h => h) (Or.inl ⟨by rfl,?_⟩) ?_ ?_;rotate_left
        ·
         intro w'
         go_simp
         with_reducible rfl
        rotate_left
        ·
         simp only [Act.put,zi,zj,zk,zG,zH]
         rfl
        refine pure_ (i:=6) (N:=some 48) (v:=?_) (a':=?_) #[true,true,true,true,true,false,true,false,false] rfl rfl (any_of HT_.out (by kernel_rfl)) (fun _ _ _ h => h) (Or.inl ⟨by rfl,?_⟩) ?_ ?_;rotate_left
        ·
         intro w'
         go_simp
         with_reducible rfl
        rotate_left
        ·
         simp only [Act.put,zi,zj,zk,zG,zH]
         rfl
        refine take_ (i:=5) (N:=some 47) (v:=?_) (a':=?_) (bm_ 7 9) rfl rfl (yo HT_.out HW_.out (by kernel_rfl)) (fun _ _ _ h => h) (Or.inl ⟨by rfl,?_⟩) hHeld ?_ ?_;rotate_left
        ·
         rintro w' ⟨s0,s1,s2,s3⟩
         go_simp
         with_reducible rfl
        rotate_left
        ·
         simp only [Act.put,zi,zj,zk,zG,zH]
         rfl
        refine one_ (i:=7) (N:=some 49) (bm_ 8 9) rfl rfl (one_of HT_.out (by kernel_rfl)) (by decide) (fun K hK => ?_);refine goes_ Try.func63 (by kernel_rfl) rfl #[.int .i64 (wrap64 ((wrap64 ((wrap64 (x1_1 + 1)) + 1)) + 1))] (by rfl) rfl rfl (by (try simp only [zt,zu,zv]);first|done|rfl|(simp only [zw,zx];rfl)|(simp only [yr,ys,zV,zW];rfl)) ?_
        with_reducible refine (laws_markText.calls k1  (wrap64 ((wrap64 ((wrap64 (x1_1 + 1)) + 1)) + 1)) t575 _ A9.out).mono ?_
        rintro e w18 ⟨rfl,hb⟩;refine ⟨_,rfl,?_⟩;replace HB:=zh (zC (by repeat (with_reducible first|exact HB.out|apply za|apply zb|apply zc)) hb);(try clear hb);(try clear hb2);(try clear hk);(try clear hi);refine hK.out _ _ ⟨((HB.out.cell (zl w _ hw574_0)).trans hw574_0),((HB.out.cell (zl w _ hw574_1)).trans hw574_1),((HB.out.cell (zl w _ hw574_2)).trans hw574_2),((HB.out.cell (zl w _ hw574_3)).trans hw574_3)⟩ (fun hHeld => ?_);clear hK K;refine norm_ (a':=?_) ?_ ?_;rotate_left
        ·
         show Act.put _ (some 49) _=_
         simp only [Act.put,zi,zj,zk,zG,zH]
         rfl
        refine pure_ (i:=8) (N:=some 50) (v:=?_) (a':=?_) (bm_ 9 9) rfl rfl (any_of HT_.out (by kernel_rfl)) (fun _ _ _ h => h) (Or.inl ⟨by rfl,?_⟩) ?_ ?_;rotate_left
        ·
         intro w'
         go_simp
         with_reducible rfl
        rotate_left
        ·
         simp only [Act.put,zi,zj,zk,zG,zH]
         rfl
        refine done_ (done_of HT_.out (by kernel_rfl)) ?_
        try go_wp2
        go_ret
        exact ⟨by first|rfl|(simp [yt,yu] <;> rfl)|(simp [*,yt,yu] <;> rfl),by repeat (with_reducible first|exact HB.out|apply za|apply zb|apply zc)⟩
       rw [if_neg c8] at H;have c8b0 : (((rd_T68 l0 x5_1).f1.f1) == (wrap64 ((wrap64 (x1_1 + 1)) + 1)))=false:=zY.mpr c8;have c8b1 : (((rd_T68 l0 x5_1).f1.f1) != (wrap64 ((wrap64 (x1_1 + 1)) + 1)))=true:=zZ.mpr c8;obtain rfl:=zU H
       try go_wp2
       replace HB:=zh (zc HB.out);have p570 : 0≤(x5_1 : Int):=zy (by first|(with_reducible assumption)|assumption);have q570 : x5_1<(l0.length : Int):=zy (by first|(with_reducible assumption)|assumption);obtain ⟨ad570,e570,hx570_0,hx570_1,hx570_2,hx570_3⟩:=at_T68 HR0.out x5_1 p570 q570;have hw570_3:=hx570_3;have hw570_2:=hx570_2;have hw570_1:=hx570_1;have hw570_0:=hx570_0
       cases e570
       replace hx570_0:=(HB.out.cell (zl w _ hx570_0)).trans hx570_0;replace hx570_1:=(HB.out.cell (zl w _ hx570_1)).trans hx570_1;replace hx570_2:=(HB.out.cell (zl w _ hx570_2)).trans hx570_2;replace hx570_3:=(HB.out.cell (zl w _ hx570_3)).trans hx570_3;replace p570:=eq_true p570;replace q570:=eq_true q570;refine start_ (n:=8) (S:=fun w' => w'.cell? (ad570.add ((x5_1).toNat * 4))=some (.string ((rd_T68 l0 x5_1).f0))∧w'.cell? ⟨(ad570.add ((x5_1).toNat * 4)).block,(ad570.add ((x5_1).toNat * 4)).off + 1,none⟩=some (.int .i64 ((rd_T68 l0 x5_1).f1.f0))∧w'.cell? ⟨(ad570.add ((x5_1).toNat * 4)).block,(ad570.add ((x5_1).toNat * 4)).off + 2,none⟩=some (.int .i64 ((rd_T68 l0 x5_1).f1.f1))∧w'.cell? ⟨(ad570.add ((x5_1).toNat * 4)).block,(ad570.add ((x5_1).toNat * 4)).off + 3,none⟩=some (.string ((rd_T68 l0 x5_1).f1.f2))) (ds:=[]) (bm_ 0 8) (by kernel_rfl) rfl rfl ⟨((HB.out.cell (zl w _ hw570_0)).trans hw570_0),((HB.out.cell (zl w _ hw570_1)).trans hw570_1),((HB.out.cell (zl w _ hw570_2)).trans hw570_2),((HB.out.cell (zl w _ hw570_3)).trans hw570_3)⟩ (fun hHeld => ?_);refine with_tabW laws_heldFieldS.tab4 laws_heldFieldS.bits4 (fun HT_ HW_ => ?_);generalize wr.drew=w19 at HB hx570_0 hx570_1 hx570_2 hx570_3 hHeld ⊢;refine pure_ (i:=0) (N:=some 12) (v:=?_) (a':=?_) (bm_ 1 8) rfl rfl (any_of HT_.out (by kernel_rfl)) (fun _ _ _ h => h) (Or.inl ⟨by rfl,?_⟩) ?_ ?_;rotate_left
       ·
        intro w'
        go_simp
        with_reducible rfl
       rotate_left
       ·
        simp only [Act.put,zi,zj,zk,zG,zH]
        rfl
       refine pure_ (i:=1) (N:=some 13) (v:=?_) (a':=?_) (bm_ 2 8) rfl rfl (any_of HT_.out (by kernel_rfl)) (fun _ _ _ h => h) (Or.inl ⟨by rfl,?_⟩) ?_ ?_;rotate_left
       ·
        intro w'
        go_simp
        with_reducible rfl
       rotate_left
       ·
        simp only [Act.put,zi,zj,zk,zG,zH]
        rfl
       refine pure_ (i:=2) (N:=some 14) (v:=?_) (a':=?_) (bm_ 3 8) rfl rfl (any_of HT_.out (by kernel_rfl)) (fun _ _ _ h => h) (Or.inl ⟨by rfl,?_⟩) ?_ ?_;rotate_left
       ·
        intro w'
        go_simp
        with_reducible rfl
       rotate_left
       ·
        simp only [Act.put,zi,zj,zk,zG,zH]
        rfl
       refine pure_ (i:=3) (N:=some 15) (v:=?_) (a':=?_) (bm_ 4 8) rfl rfl (any_of HT_.out (by kernel_rfl)) (fun _ _ _ h => h) (Or.inl ⟨by rfl,?_⟩) ?_ ?_;rotate_left
       ·
        intro w'
        go_simp
        with_reducible rfl
       rotate_left
       ·
        simp only [Act.put,zi,zj,zk,zG,zH]
        rfl
       refine pure_ (i:=5) (N:=some 17) (v:=?_) (a':=?_) #[true,true,true,true,false,true,false,false] rfl rfl (any_of HT_.out (by kernel_rfl)) (fun _ _ _ h => h) (Or.inl ⟨by rfl,?_⟩) ?_ ?_;rotate_left
       ·
        intro w'
        go_simp
        with_reducible rfl
       rotate_left
       ·
        simp only [Act.put,zi,zj,zk,zG,zH]
        rfl
       refine take_ (i:=4) (N:=some 16) (v:=?_) (a':=?_) (bm_ 6 8) rfl rfl (yo HT_.out HW_.out (by kernel_rfl)) (fun _ _ _ h => h) (Or.inl ⟨by rfl,?_⟩) hHeld ?_ ?_;rotate_left
       ·
        rintro w' ⟨s0,s1,s2,s3⟩
        go_simp
        with_reducible rfl
       rotate_left
       ·
        simp only [Act.put,zi,zj,zk,zG,zH]
        rfl
       refine one_ (i:=6) (N:=some 18) (bm_ 7 8) rfl rfl (one_of HT_.out (by kernel_rfl)) (by decide) (fun K hK => ?_);refine goes_ Try.func63 (by kernel_rfl) rfl #[.int .i64 x1_1] (by rfl) rfl rfl (by (try simp only [zt,zu,zv]);first|done|rfl|(simp only [zw,zx];rfl)|(simp only [yr,ys,zV,zW];rfl)) ?_
       with_reducible refine (laws_markText.calls k1  x1_1 t571 _ A5.out).mono ?_
       rintro e w20 ⟨rfl,hb⟩;refine ⟨_,rfl,?_⟩;replace HB:=zh (zC (by repeat (with_reducible first|exact HB.out|apply za|apply zb|apply zc)) hb);(try clear hb);(try clear hb2);(try clear hk);(try clear hi);refine hK.out _ _ ⟨((HB.out.cell (zl w _ hw570_0)).trans hw570_0),((HB.out.cell (zl w _ hw570_1)).trans hw570_1),((HB.out.cell (zl w _ hw570_2)).trans hw570_2),((HB.out.cell (zl w _ hw570_3)).trans hw570_3)⟩ (fun hHeld => ?_);clear hK K;refine norm_ (a':=?_) ?_ ?_;rotate_left
       ·
        show Act.put _ (some 18) _=_
        simp only [Act.put,zi,zj,zk,zG,zH]
        rfl
       refine pure_ (i:=7) (N:=some 19) (v:=?_) (a':=?_) (bm_ 8 8) rfl rfl (any_of HT_.out (by kernel_rfl)) (fun _ _ _ h => h) (Or.inl ⟨by rfl,?_⟩) ?_ ?_;rotate_left
       ·
        intro w'
        go_simp
        with_reducible rfl
       rotate_left
       ·
        simp only [Act.put,zi,zj,zk,zG,zH]
        rfl
       refine done_ (done_of HT_.out (by kernel_rfl)) ?_;have p572 : 0≤(x5_1 : Int):=zy (by first|(with_reducible assumption)|assumption);have q572 : x5_1<(l0.length : Int):=zy (by first|(with_reducible assumption)|assumption);obtain ⟨ad572,e572,hx572_0,hx572_1,hx572_2,hx572_3⟩:=at_T68 HR0.out x5_1 p572 q572;obtain rfl : ad570=ad572:=(by injection e572);replace hx572_0:=(HB.out.cell (zl w _ hx572_0)).trans hx572_0;replace hx572_1:=(HB.out.cell (zl w _ hx572_1)).trans hx572_1;replace hx572_2:=(HB.out.cell (zl w _ hx572_2)).trans hx572_2;replace hx572_3:=(HB.out.cell (zl w _ hx572_3)).trans hx572_3;replace p572:=eq_true p572;replace q572:=eq_true q572;have p573 : 0≤(x5_1 : Int):=zy (by first|(with_reducible assumption)|assumption);have q573 : x5_1<(l0.length : Int):=zy (by first|(with_reducible assumption)|assumption);obtain ⟨ad573,e573,hx573_0,hx573_1,hx573_2,hx573_3⟩:=at_T68 HR0.out x5_1 p573 q573;obtain rfl : ad570=ad573:=(by injection e573);replace hx573_0:=(HB.out.cell (zl w _ hx573_0)).trans hx573_0;replace hx573_1:=(HB.out.cell (zl w _ hx573_1)).trans hx573_1;replace hx573_2:=(HB.out.cell (zl w _ hx573_2)).trans hx573_2;replace hx573_3:=(HB.out.cell (zl w _ hx573_3)).trans hx573_3;replace p573:=eq_true p573;replace q573:=eq_true q573
       try go_wp2
       go_ret
       exact ⟨by first|rfl|(simp [yt,yu] <;> rfl)|(simp [*,yt,yu] <;> rfl),by repeat (with_reducible first|exact HB.out|apply za|apply zb|apply zc)⟩
      rw [if_neg c7] at H;have c7b0 : (((rd_T68 l0 x5_1).f1.f0) == (wrap64 (x1_1 + 1)))=false:=zY.mpr c7;have c7b1 : (((rd_T68 l0 x5_1).f1.f0) != (wrap64 (x1_1 + 1)))=true:=zZ.mpr c7;obtain rfl:=zU H
      try go_wp2
      replace HB:=zh (zc HB.out);have p570 : 0≤(x5_1 : Int):=zy (by first|(with_reducible assumption)|assumption);have q570 : x5_1<(l0.length : Int):=zy (by first|(with_reducible assumption)|assumption);obtain ⟨ad570,e570,hx570_0,hx570_1,hx570_2,hx570_3⟩:=at_T68 HR0.out x5_1 p570 q570;have hw570_3:=hx570_3;have hw570_2:=hx570_2;have hw570_1:=hx570_1;have hw570_0:=hx570_0
      cases e570
      replace hx570_0:=(HB.out.cell (zl w _ hx570_0)).trans hx570_0;replace hx570_1:=(HB.out.cell (zl w _ hx570_1)).trans hx570_1;replace hx570_2:=(HB.out.cell (zl w _ hx570_2)).trans hx570_2;replace hx570_3:=(HB.out.cell (zl w _ hx570_3)).trans hx570_3;replace p570:=eq_true p570;replace q570:=eq_true q570;refine start_ (n:=8) (S:=fun w' => w'.cell? (ad570.add ((x5_1).toNat * 4))=some (.string ((rd_T68 l0 x5_1).f0))∧w'.cell? ⟨(ad570.add ((x5_1).toNat * 4)).block,(ad570.add ((x5_1).toNat * 4)).off + 1,none⟩=some (.int .i64 ((rd_T68 l0 x5_1).f1.f0))∧w'.cell? ⟨(ad570.add ((x5_1).toNat * 4)).block,(ad570.add ((x5_1).toNat * 4)).off + 2,none⟩=some (.int .i64 ((rd_T68 l0 x5_1).f1.f1))∧w'.cell? ⟨(ad570.add ((x5_1).toNat * 4)).block,(ad570.add ((x5_1).toNat * 4)).off + 3,none⟩=some (.string ((rd_T68 l0 x5_1).f1.f2))) (ds:=[]) (bm_ 0 8) (by kernel_rfl) rfl rfl ⟨((HB.out.cell (zl w _ hw570_0)).trans hw570_0),((HB.out.cell (zl w _ hw570_1)).trans hw570_1),((HB.out.cell (zl w _ hw570_2)).trans hw570_2),((HB.out.cell (zl w _ hw570_3)).trans hw570_3)⟩ (fun hHeld => ?_);refine with_tabW laws_heldFieldS.tab4 laws_heldFieldS.bits4 (fun HT_ HW_ => ?_);generalize wr.drew=w21 at HB hx570_0 hx570_1 hx570_2 hx570_3 hHeld ⊢;refine pure_ (i:=0) (N:=some 12) (v:=?_) (a':=?_) (bm_ 1 8) rfl rfl (any_of HT_.out (by kernel_rfl)) (fun _ _ _ h => h) (Or.inl ⟨by rfl,?_⟩) ?_ ?_;rotate_left
      ·
       intro w'
       go_simp
       with_reducible rfl
      rotate_left
      ·
       simp only [Act.put,zi,zj,zk,zG,zH]
       rfl
      refine pure_ (i:=1) (N:=some 13) (v:=?_) (a':=?_) (bm_ 2 8) rfl rfl (any_of HT_.out (by kernel_rfl)) (fun _ _ _ h => h) (Or.inl ⟨by rfl,?_⟩) ?_ ?_;rotate_left
      ·
       intro w'
       go_simp
       with_reducible rfl
      rotate_left
      ·
       simp only [Act.put,zi,zj,zk,zG,zH]
       rfl
      refine pure_ (i:=2) (N:=some 14) (v:=?_) (a':=?_) (bm_ 3 8) rfl rfl (any_of HT_.out (by kernel_rfl)) (fun _ _ _ h => h) (Or.inl ⟨by rfl,?_⟩) ?_ ?_;rotate_left
      ·
       intro w'
       go_simp
       with_reducible rfl
      rotate_left
      ·
       simp only [Act.put,zi,zj,zk,zG,zH]
       rfl
      refine pure_ (i:=3) (N:=some 15) (v:=?_) (a':=?_) (bm_ 4 8) rfl rfl (any_of HT_.out (by kernel_rfl)) (fun _ _ _ h => h) (Or.inl ⟨by rfl,?_⟩) ?_ ?_;rotate_left
      ·
       intro w'
       go_simp
       with_reducible rfl
      rotate_left
      ·
       simp only [Act.put,zi,zj,zk,zG,zH]
       rfl
      refine pure_ (i:=5) (N:=some 17) (v:=?_) (a':=?_) #[true,true,true,true,false,true,false,false] rfl rfl (any_of HT_.out (by kernel_rfl)) (fun _ _ _ h => h) (Or.inl ⟨by rfl,?_⟩) ?_ ?_;rotate_left
      ·
       intro w'
       go_simp
       with_reducible rfl
      rotate_left
      ·
       simp only [Act.put,zi,zj,zk,zG,zH]
       rfl
      refine take_ (i:=4) (N:=some 16) (v:=?_) (a':=?_) (bm_ 6 8) rfl rfl (yo HT_.out HW_.out (by kernel_rfl)) (fun _ _ _ h => h) (Or.inl ⟨by rfl,?_⟩) hHeld ?_ ?_;rotate_left
      ·
       rintro w' ⟨s0,s1,s2,s3⟩
       go_simp
       with_reducible rfl
      rotate_left
      ·
       simp only [Act.put,zi,zj,zk,zG,zH]
       rfl
      refine one_ (i:=6) (N:=some 18) (bm_ 7 8) rfl rfl (one_of HT_.out (by kernel_rfl)) (by decide) (fun K hK => ?_);refine goes_ Try.func63 (by kernel_rfl) rfl #[.int .i64 x1_1] (by rfl) rfl rfl (by (try simp only [zt,zu,zv]);first|done|rfl|(simp only [zw,zx];rfl)|(simp only [yr,ys,zV,zW];rfl)) ?_
      with_reducible refine (laws_markText.calls k1  x1_1 t571 _ A5.out).mono ?_
      rintro e w22 ⟨rfl,hb⟩;refine ⟨_,rfl,?_⟩;replace HB:=zh (zC (by repeat (with_reducible first|exact HB.out|apply za|apply zb|apply zc)) hb);(try clear hb);(try clear hb2);(try clear hk);(try clear hi);refine hK.out _ _ ⟨((HB.out.cell (zl w _ hw570_0)).trans hw570_0),((HB.out.cell (zl w _ hw570_1)).trans hw570_1),((HB.out.cell (zl w _ hw570_2)).trans hw570_2),((HB.out.cell (zl w _ hw570_3)).trans hw570_3)⟩ (fun hHeld => ?_);clear hK K;refine norm_ (a':=?_) ?_ ?_;rotate_left
      ·
       show Act.put _ (some 18) _=_
       simp only [Act.put,zi,zj,zk,zG,zH]
       rfl
      refine pure_ (i:=7) (N:=some 19) (v:=?_) (a':=?_) (bm_ 8 8) rfl rfl (any_of HT_.out (by kernel_rfl)) (fun _ _ _ h => h) (Or.inl ⟨by rfl,?_⟩) ?_ ?_;rotate_left
      ·
       intro w'
       go_simp
       with_reducible rfl
      rotate_left
      ·
       simp only [Act.put,zi,zj,zk,zG,zH]
       rfl
      refine done_ (done_of HT_.out (by kernel_rfl)) ?_;have p572 : 0≤(x5_1 : Int):=zy (by first|(with_reducible assumption)|assumption);have q572 : x5_1<(l0.length : Int):=zy (by first|(with_reducible assumption)|assumption);obtain ⟨ad572,e572,hx572_0,hx572_1,hx572_2,hx572_3⟩:=at_T68 HR0.out x5_1 p572 q572;obtain rfl : ad570=ad572:=(by injection e572);replace hx572_0:=(HB.out.cell (zl w _ hx572_0)).trans hx572_0;replace hx572_1:=(HB.out.cell (zl w _ hx572_1)).trans hx572_1;replace hx572_2:=(HB.out.cell (zl w _ hx572_2)).trans hx572_2;replace hx572_3:=(HB.out.cell (zl w _ hx572_3)).trans hx572_3;replace p572:=eq_true p572;replace q572:=eq_true q572
      try go_wp2
      go_ret
      exact ⟨by first|rfl|(simp [yt,yu] <;> rfl)|(simp [*,yt,yu] <;> rfl),by repeat (with_reducible first|exact HB.out|apply za|apply zb|apply zc)⟩
     rw [if_neg c6] at H;have c6b0 : (((rd_T68 l0 x5_1).f0).toList == t571.toList)=false:=zY.mpr c6;have c6b1 : (((rd_T68 l0 x5_1).f0).toList != t571.toList)=true:=zZ.mpr c6;obtain rfl:=zU H
     try go_wp2
     replace HB:=zh (zc HB.out);have p570 : 0≤(x5_1 : Int):=zy (by first|(with_reducible assumption)|assumption);have q570 : x5_1<(l0.length : Int):=zy (by first|(with_reducible assumption)|assumption);obtain ⟨ad570,e570,hx570_0,hx570_1,hx570_2,hx570_3⟩:=at_T68 HR0.out x5_1 p570 q570;have hw570_3:=hx570_3;have hw570_2:=hx570_2;have hw570_1:=hx570_1;have hw570_0:=hx570_0
     cases e570
     replace hx570_0:=(HB.out.cell (zl w _ hx570_0)).trans hx570_0;replace hx570_1:=(HB.out.cell (zl w _ hx570_1)).trans hx570_1;replace hx570_2:=(HB.out.cell (zl w _ hx570_2)).trans hx570_2;replace hx570_3:=(HB.out.cell (zl w _ hx570_3)).trans hx570_3;replace p570:=eq_true p570;replace q570:=eq_true q570;refine start_ (n:=8) (S:=fun w' => w'.cell? (ad570.add ((x5_1).toNat * 4))=some (.string ((rd_T68 l0 x5_1).f0))∧w'.cell? ⟨(ad570.add ((x5_1).toNat * 4)).block,(ad570.add ((x5_1).toNat * 4)).off + 1,none⟩=some (.int .i64 ((rd_T68 l0 x5_1).f1.f0))∧w'.cell? ⟨(ad570.add ((x5_1).toNat * 4)).block,(ad570.add ((x5_1).toNat * 4)).off + 2,none⟩=some (.int .i64 ((rd_T68 l0 x5_1).f1.f1))∧w'.cell? ⟨(ad570.add ((x5_1).toNat * 4)).block,(ad570.add ((x5_1).toNat * 4)).off + 3,none⟩=some (.string ((rd_T68 l0 x5_1).f1.f2))) (ds:=[]) (bm_ 0 8) (by kernel_rfl) rfl rfl ⟨((HB.out.cell (zl w _ hw570_0)).trans hw570_0),((HB.out.cell (zl w _ hw570_1)).trans hw570_1),((HB.out.cell (zl w _ hw570_2)).trans hw570_2),((HB.out.cell (zl w _ hw570_3)).trans hw570_3)⟩ (fun hHeld => ?_);refine with_tabW laws_heldFieldS.tab4 laws_heldFieldS.bits4 (fun HT_ HW_ => ?_);generalize wr.drew=w23 at HB hx570_0 hx570_1 hx570_2 hx570_3 hHeld ⊢;refine pure_ (i:=0) (N:=some 12) (v:=?_) (a':=?_) (bm_ 1 8) rfl rfl (any_of HT_.out (by kernel_rfl)) (fun _ _ _ h => h) (Or.inl ⟨by rfl,?_⟩) ?_ ?_;rotate_left
     ·
      intro w'
      go_simp
      with_reducible rfl
     rotate_left
     ·
      simp only [Act.put,zi,zj,zk,zG,zH]
      rfl
     refine pure_ (i:=1) (N:=some 13) (v:=?_) (a':=?_) (bm_ 2 8) rfl rfl (any_of HT_.out (by kernel_rfl)) (fun _ _ _ h => h) (Or.inl ⟨by rfl,?_⟩) ?_ ?_;rotate_left
     ·
      intro w'
      go_simp
      with_reducible rfl
     rotate_left
     ·
      simp only [Act.put,zi,zj,zk,zG,zH]
      rfl
     refine pure_ (i:=2) (N:=some 14) (v:=?_) (a':=?_) (bm_ 3 8) rfl rfl (any_of HT_.out (by kernel_rfl)) (fun _ _ _ h => h) (Or.inl ⟨by rfl,?_⟩) ?_ ?_;rotate_left
     ·
      intro w'
      go_simp
      with_reducible rfl
     rotate_left
     ·
      simp only [Act.put,zi,zj,zk,zG,zH]
      rfl
     refine pure_ (i:=3) (N:=some 15) (v:=?_) (a':=?_) (bm_ 4 8) rfl rfl (any_of HT_.out (by kernel_rfl)) (fun _ _ _ h => h) (Or.inl ⟨by rfl,?_⟩) ?_ ?_;rotate_left
     ·
      intro w'
      go_simp
      with_reducible rfl
     rotate_left
     ·
      simp only [Act.put,zi,zj,zk,zG,zH]
      rfl
     refine pure_ (i:=5) (N:=some 17) (v:=?_) (a':=?_) #[true,true,true,true,false,true,false,false] rfl rfl (any_of HT_.out (by kernel_rfl)) (fun _ _ _ h => h) (Or.inl ⟨by rfl,?_⟩) ?_ ?_;rotate_left
     ·
      intro w'
      go_simp
      with_reducible rfl
     rotate_left
     ·
      simp only [Act.put,zi,zj,zk,zG,zH]
      rfl
     refine take_ (i:=4) (N:=some 16) (v:=?_) (a':=?_) (bm_ 6 8) rfl rfl (yo HT_.out HW_.out (by kernel_rfl)) (fun _ _ _ h => h) (Or.inl ⟨by rfl,?_⟩) hHeld ?_ ?_;rotate_left
     ·
      rintro w' ⟨s0,s1,s2,s3⟩
      go_simp
      with_reducible rfl
     rotate_left
     ·
      simp only [Act.put,zi,zj,zk,zG,zH]
      rfl
     refine one_ (i:=6) (N:=some 18) (bm_ 7 8) rfl rfl (one_of HT_.out (by kernel_rfl)) (by decide) (fun K hK => ?_);refine goes_ Try.func63 (by kernel_rfl) rfl #[.int .i64 x1_1] (by rfl) rfl rfl (by (try simp only [zt,zu,zv]);first|done|rfl|(simp only [zw,zx];rfl)|(simp only [yr,ys,zV,zW];rfl)) ?_
     with_reducible refine (laws_markText.calls k1  x1_1 t571 _ A5.out).mono ?_
     rintro e w24 ⟨rfl,hb⟩;refine ⟨_,rfl,?_⟩;replace HB:=zh (zC (by repeat (with_reducible first|exact HB.out|apply za|apply zb|apply zc)) hb);(try clear hb);(try clear hb2);(try clear hk);(try clear hi);refine hK.out _ _ ⟨((HB.out.cell (zl w _ hw570_0)).trans hw570_0),((HB.out.cell (zl w _ hw570_1)).trans hw570_1),((HB.out.cell (zl w _ hw570_2)).trans hw570_2),((HB.out.cell (zl w _ hw570_3)).trans hw570_3)⟩ (fun hHeld => ?_);clear hK K;refine norm_ (a':=?_) ?_ ?_;rotate_left
     ·
      show Act.put _ (some 18) _=_
      simp only [Act.put,zi,zj,zk,zG,zH]
      rfl
     refine pure_ (i:=7) (N:=some 19) (v:=?_) (a':=?_) (bm_ 8 8) rfl rfl (any_of HT_.out (by kernel_rfl)) (fun _ _ _ h => h) (Or.inl ⟨by rfl,?_⟩) ?_ ?_;rotate_left
     ·
      intro w'
      go_simp
      with_reducible rfl
     rotate_left
     ·
      simp only [Act.put,zi,zj,zk,zG,zH]
      rfl
     refine done_ (done_of HT_.out (by kernel_rfl)) ?_
     try go_wp2
     go_ret
     exact ⟨by first|rfl|(simp [yt,yu] <;> rfl)|(simp [*,yt,yu] <;> rfl),by repeat (with_reducible first|exact HB.out|apply za|apply zb|apply zc)⟩
    rw [if_neg c4] at H;exact absurd H (by simp)
   rw [if_neg c3] at H;have c3b0 : decide (x5_1<(l0.length : Int))=false:=decide_eq_false c3;clear c3;obtain rfl:=zU H
   go_wp2
   go_ret
   exact ⟨by first|rfl|(simp [yt,yu] <;> rfl)|(simp [*,yt,yu] <;> rfl),by repeat (with_reducible first|exact HB.out|apply za|apply zb|apply zc)⟩

end Go.Proofs.Ytpmeglcmhiihoaa.Q
end
section
namespace Go.Proofs.Ytpmeglcmhiihoaa.Q
open Go.RowKit Go.Proofs.YtpmeglcmhiihoaaW.PrintWords Go.Proofs.YtpmeglcmhiihoaaW.PrintLast Go.Proofs.YtpmeglcmhiihoaaW.PrintMore
attribute [local go_sem] max2_int min2_int max_two min_two max_three min_three max_four min_four max2_str min2_str str_geq str_gtr str_leq   -- for this text's walks alone
set_option linter.unusedVariables false
set_option linter.unusedSimpArgs false

mutual
def laws_FnExactFieldsOf.j0 : Nat→List (S68)→Int→List (S68)→Bool→Int→Int→ByteArray→Option (Bool)
 | 0,_,_,_,_,_,_,_ => none
 | k + 1,x4,x5,x6,x37,x577000,x577001,x577002 => if x37=true then (some false) else ((laws_markFieldS.f k x6 1).bind fun bt593 => ((laws_heldFieldS.f k bt593.2 1).bind fun t595 => (if t595<0 then (some false) else (if t595=bt593.1 then ((laws_toValue.f x577000 x577001 x577002).bind fun bt596 => ((impl_FieldsOf.f k bt596.1 bt596.2.1 bt596.2.2).bind fun bt599 => ((laws_eqFieldS.f k bt599.1 x4).bind fun t603 => (if t603=true then (laws_FnExactFieldsOf.j1 k bt593.2 bt593.1 (bt599.2 != x5)) else (laws_FnExactFieldsOf.j1 k bt593.2 bt593.1 true))))) else (some false)))))
def laws_FnExactFieldsOf.j1 : Nat→List (S68)→Int→Bool→Option (Bool)
 | 0,_,_,_ => none
 | k + 1,x6,x8,x63 => if x63=true then (some false) else ((laws_heldFieldS.f k x6 1).bind fun t604 => (if t604<0 then (some false) else (if t604=x8 then (some true) else (some false))))
end
def laws_FnExactFieldsOf.f (k : Nat) (a0_0 : Int) (a0_1 : Int) (a0_2 : ByteArray) : Option (Bool):=(laws_szValue.f a0_0 a0_1 a0_2 1048576).bind fun t577 => (if t577<0 then (some true) else ((laws_toValue.f a0_0 a0_1 a0_2).bind fun bt578 => ((spec_FieldsOf.f k bt578.1 bt578.2.1 bt578.2.2).bind fun bt581 => ((laws_toValue.f a0_0 a0_1 a0_2).bind fun bt585 => ((impl_FieldsOf.f k bt585.1 bt585.2.1 bt585.2.2).bind fun bt588 => ((laws_eqFieldS.f k bt588.1 bt581.1).bind fun t592 => (if t592=true then (laws_FnExactFieldsOf.j0 k bt581.1 bt581.2 bt588.1 (bt588.2 != bt581.2) a0_0 a0_1 a0_2) else (laws_FnExactFieldsOf.j0 k bt581.1 bt581.2 bt588.1 true a0_0 a0_1 a0_2))))))))
theorem laws_FnExactFieldsOf.mono_l : ∀ k,(∀ y0 y1 y2 y3 y4 y5 y6,LeO (laws_FnExactFieldsOf.j0 k y0 y1 y2 y3 y4 y5 y6) (laws_FnExactFieldsOf.j0 (k + 1) y0 y1 y2 y3 y4 y5 y6))∧(∀ y0 y1 y2,LeO (laws_FnExactFieldsOf.j1 k y0 y1 y2) (laws_FnExactFieldsOf.j1 (k + 1) y0 y1 y2))
 | 0 => ⟨fun _ _ _ _ _ _ _ r h => by simp [laws_FnExactFieldsOf.j0] at h,fun _ _ _ r h => by simp [laws_FnExactFieldsOf.j1] at h⟩
 | k + 1 => by
  obtain ⟨ih0,ih1⟩:=laws_FnExactFieldsOf.mono_l k;refine ⟨?_,?_⟩
  ·
   intro y0 y1 y2 y3 y4 y5 y6
   unfold laws_FnExactFieldsOf.j0
   repeat' first|(with_reducible exact ih0 _ _ _ _ _ _ _)|(with_reducible exact ih1 _ _ _)|(with_reducible exact spec_FieldsOf.mono _ _ _ _)|(with_reducible exact impl_FieldsOf.mono _ _ _ _)|(with_reducible exact laws_eqFieldS.mono _ _ _)|(with_reducible exact laws_markFieldS.mono _ _ _)|(with_reducible exact laws_heldFieldS.mono _ _ _)|(with_reducible exact zQ _)|(with_reducible exact zN _)|(with_reducible refine zP ?_ ?_)|(with_reducible refine zO ?_ (fun _ => ?_))|refine zP ?_ ?_|refine zO ?_ (fun _ => ?_)
  intro y0 y1 y2;unfold laws_FnExactFieldsOf.j1
  repeat' first|(with_reducible exact ih0 _ _ _ _ _ _ _)|(with_reducible exact ih1 _ _ _)|(with_reducible exact spec_FieldsOf.mono _ _ _ _)|(with_reducible exact impl_FieldsOf.mono _ _ _ _)|(with_reducible exact laws_eqFieldS.mono _ _ _)|(with_reducible exact laws_markFieldS.mono _ _ _)|(with_reducible exact laws_heldFieldS.mono _ _ _)|(with_reducible exact zQ _)|(with_reducible exact zN _)|(with_reducible refine zP ?_ ?_)|(with_reducible refine zO ?_ (fun _ => ?_))|refine zP ?_ ?_|refine zO ?_ (fun _ => ?_)
theorem laws_FnExactFieldsOf.mono : ∀ a0 a1 a2 k,LeO (laws_FnExactFieldsOf.f k a0 a1 a2) (laws_FnExactFieldsOf.f (k + 1) a0 a1 a2):=by
 intro a0 a1 a2 k;obtain ⟨ih0,ih1⟩:=laws_FnExactFieldsOf.mono_l k;unfold laws_FnExactFieldsOf.f
 repeat' first|(with_reducible exact ih0 _ _ _ _ _ _ _)|(with_reducible exact ih1 _ _ _)|(with_reducible exact spec_FieldsOf.mono _ _ _ _)|(with_reducible exact impl_FieldsOf.mono _ _ _ _)|(with_reducible exact laws_eqFieldS.mono _ _ _)|(with_reducible exact laws_markFieldS.mono _ _ _)|(with_reducible exact laws_heldFieldS.mono _ _ _)|(with_reducible exact zQ _)|(with_reducible exact zN _)|(with_reducible refine zP ?_ ?_)|(with_reducible refine zO ?_ (fun _ => ?_))|refine zP ?_ ?_|refine zO ?_ (fun _ => ?_)
set_option maxHeartbeats 8000000 in
set_option maxRecDepth 100000 in
theorem laws_FnExactFieldsOf.calls (k : Nat) (a0_0 : Int) (a0_1 : Int) (a0_2 : ByteArray) (r : Bool) (w : World) (h : laws_FnExactFieldsOf.f k a0_0 a0_1 a0_2=some r) :
  Calls Try.prog 8 #[.agg #[.int .i64 a0_0,.int .i64 a0_1,.string a0_2]] w fun e w' => e = .returned (.bool r)∧Below w.heap.size w w':=by
 have hu23:=Try.underlying23;have HB:=zh (Below.refl w.heap.size w);have H : ((laws_szValue.f a0_0 a0_1 a0_2 1048576).bind fun t577 => (if t577<0 then (some true) else ((laws_toValue.f a0_0 a0_1 a0_2).bind fun bt578 => ((spec_FieldsOf.f k bt578.1 bt578.2.1 bt578.2.2).bind fun bt581 => ((laws_toValue.f a0_0 a0_1 a0_2).bind fun bt585 => ((impl_FieldsOf.f k bt585.1 bt585.2.1 bt585.2.2).bind fun bt588 => ((laws_eqFieldS.f k bt588.1 bt581.1).bind fun t592 => (if t592=true then (laws_FnExactFieldsOf.j0 k bt581.1 bt581.2 bt588.1 (bt588.2 != bt581.2) a0_0 a0_1 a0_2) else (laws_FnExactFieldsOf.j0 k bt581.1 bt581.2 bt588.1 true a0_0 a0_1 a0_2)))))))))=some r:=h;clear h;replace H:=zT.mp H;obtain ⟨t577,A20,H⟩:=H;replace H : (if t577<0 then (some true) else ((laws_toValue.f a0_0 a0_1 a0_2).bind fun bt578 => ((spec_FieldsOf.f k bt578.1 bt578.2.1 bt578.2.2).bind fun bt581 => ((laws_toValue.f a0_0 a0_1 a0_2).bind fun bt585 => ((impl_FieldsOf.f k bt585.1 bt585.2.1 bt585.2.2).bind fun bt588 => ((laws_eqFieldS.f k bt588.1 bt581.1).bind fun t592 => (if t592=true then (laws_FnExactFieldsOf.j0 k bt581.1 bt581.2 bt588.1 (bt588.2 != bt581.2) a0_0 a0_1 a0_2) else (laws_FnExactFieldsOf.j0 k bt581.1 bt581.2 bt588.1 true a0_0 a0_1 a0_2))))))))=some r:=H;have A2:=zh A20;clear A20
 by_cases c3 : t577<0
 ·
  rw [if_pos c3] at H
  have c3b0 : decide (t577<0)=true:=decide_eq_true c3;clear c3;obtain rfl:=zU H
  go_enter Try.func8,Try.ntmps8
  go_wp2_with (first|((with_reducible refine zK (N:=1) rfl ?_);refine zI ?hg (N:=1) ?hd (cs:=#[.int .i64 a0_0,.int .i64 a0_1,.string a0_2]) (t:=23) ?hr ?_;(case hd => rfl);(case hg => rfl);(case hr => first|(go_simp;done)|(go_simp;rfl));intro gb576 hg w4 hbox hb;have BK576:=zh (hbox);have GW576:=zh ((by rw [hg];exact (zB (by repeat (with_reducible first|exact HB.out|apply za|apply zb|apply zc))) : w.heap.size≤gb576));have GE576:=zh ((by rw [hg];exact (zB (by repeat (with_reducible first|exact HB.out|apply za|apply zb|apply zc))) : w.heap.size≤gb576));replace HB:=zh (zC (by repeat (with_reducible first|exact HB.out|apply za|apply zb|apply zc)) hb);clear hb hbox hg;have hcz5_0 : w4.cell? ⟨gb576,0,none⟩=some (.int .i64 a0_0):=(zz BK576.out 0).trans rfl;have hcz5_1 : w4.cell? ⟨gb576,1,none⟩=some (.int .i64 a0_1):=(zz BK576.out 1).trans rfl;have hcz5_2 : w4.cell? ⟨gb576,2,none⟩=some (.string a0_2):=(zz BK576.out 2).trans rfl;have hfz5_0:=zA BK576.out 0;have hfz5_1:=zA BK576.out 1;have hfz5_2:=zA BK576.out 2)|((with_reducible refine zJ (f:=14) rfl ?_);refine yj (some 14) rfl rfl Try.func14 (by kernel_rfl) rfl #[.agg #[.int .i64 a0_0,.int .i64 a0_1,.string a0_2],.int .i64 1048576] rfl (by (try simp only [zt,zu,zv]);first|done|rfl|(simp only [zw,zx];rfl)|(simp only [yr,ys,zV,zW];rfl)) ?_;(with_reducible refine (laws_szValue.calls  a0_0 a0_1 a0_2 1048576 t577 _ A2.out).mono ?_);rintro e w6 ⟨rfl,hb⟩;refine ⟨_,rfl,?_⟩;replace BK576:=zh (zD (g:=gb576) (o:=.cells #[.int .i64 a0_0,.int .i64 a0_1,.string a0_2] 23 (0,0)) (by (with_reducible repeat (first|refine ze ?_ _|refine zf ?_|refine zg ?_ _));exact BK576.out) hb);replace HB:=zh (zC (by repeat (with_reducible first|exact HB.out|apply za|apply zb|apply zc|refine zd ?_ GE576.out)) hb);(try clear hb);(try clear hb2);(try clear hk);(try clear hi)))
  go_ret
  exact ⟨by first|rfl|(simp [yt,yu] <;> rfl)|(simp [*,yt,yu] <;> rfl),by repeat (with_reducible first|exact HB.out|apply za|apply zb|apply zc|refine zd ?_ GE576.out)⟩
 rw [if_neg c3] at H;have c3b0 : decide (t577<0)=false:=decide_eq_false c3;clear c3;replace H:=zT.mp H;obtain ⟨⟨t578,t579,t580⟩,A70,H⟩:=H;replace H : ((spec_FieldsOf.f k t578 t579 t580).bind fun bt581 => ((laws_toValue.f a0_0 a0_1 a0_2).bind fun bt585 => ((impl_FieldsOf.f k bt585.1 bt585.2.1 bt585.2.2).bind fun bt588 => ((laws_eqFieldS.f k bt588.1 bt581.1).bind fun t592 => (if t592=true then (laws_FnExactFieldsOf.j0 k bt581.1 bt581.2 bt588.1 (bt588.2 != bt581.2) a0_0 a0_1 a0_2) else (laws_FnExactFieldsOf.j0 k bt581.1 bt581.2 bt588.1 true a0_0 a0_1 a0_2))))))=some r:=H;have A7:=zh A70;clear A70;replace H:=zT.mp H;obtain ⟨⟨t581,t584⟩,A80,H⟩:=H;replace H : ((laws_toValue.f a0_0 a0_1 a0_2).bind fun bt585 => ((impl_FieldsOf.f k bt585.1 bt585.2.1 bt585.2.2).bind fun bt588 => ((laws_eqFieldS.f k bt588.1 t581).bind fun t592 => (if t592=true then (laws_FnExactFieldsOf.j0 k t581 t584 bt588.1 (bt588.2 != t584) a0_0 a0_1 a0_2) else (laws_FnExactFieldsOf.j0 k t581 t584 bt588.1 true a0_0 a0_1 a0_2)))))=some r:=H;have A8:=zh A80;clear A80;replace H:=zT.mp H;obtain ⟨⟨t585,t586,t587⟩,A90,H⟩:=H;replace H : ((impl_FieldsOf.f k t585 t586 t587).bind fun bt588 => ((laws_eqFieldS.f k bt588.1 t581).bind fun t592 => (if t592=true then (laws_FnExactFieldsOf.j0 k t581 t584 bt588.1 (bt588.2 != t584) a0_0 a0_1 a0_2) else (laws_FnExactFieldsOf.j0 k t581 t584 bt588.1 true a0_0 a0_1 a0_2))))=some r:=H;have A9:=zh A90;clear A90;replace H:=zT.mp H;obtain ⟨⟨t588,t591⟩,A100,H⟩:=H;replace H : ((laws_eqFieldS.f k t588 t581).bind fun t592 => (if t592=true then (laws_FnExactFieldsOf.j0 k t581 t584 t588 (t591 != t584) a0_0 a0_1 a0_2) else (laws_FnExactFieldsOf.j0 k t581 t584 t588 true a0_0 a0_1 a0_2)))=some r:=H;have A10:=zh A100;clear A100;have HC11:=zh H;clear H
 go_enter Try.func8,Try.ntmps8
 go_upto_region 7 with (first|((with_reducible refine zK (N:=1) rfl ?_);refine zI ?hg (N:=1) ?hd (cs:=#[.int .i64 a0_0,.int .i64 a0_1,.string a0_2]) (t:=23) ?hr ?_;(case hd => rfl);(case hg => rfl);(case hr => first|(go_simp;done)|(go_simp;rfl));intro gb576 hg w12 hbox hb;have BK576:=zh (hbox);have GW576:=zh ((by rw [hg];exact (zB (by repeat (with_reducible first|exact HB.out|apply za|apply zb|apply zc))) : w.heap.size≤gb576));have GE576:=zh ((by rw [hg];exact (zB (by repeat (with_reducible first|exact HB.out|apply za|apply zb|apply zc))) : w.heap.size≤gb576));replace HB:=zh (zC (by repeat (with_reducible first|exact HB.out|apply za|apply zb|apply zc)) hb);clear hb hbox hg;have hcz13_0 : w12.cell? ⟨gb576,0,none⟩=some (.int .i64 a0_0):=(zz BK576.out 0).trans rfl;have hcz13_1 : w12.cell? ⟨gb576,1,none⟩=some (.int .i64 a0_1):=(zz BK576.out 1).trans rfl;have hcz13_2 : w12.cell? ⟨gb576,2,none⟩=some (.string a0_2):=(zz BK576.out 2).trans rfl;have hfz13_0:=zA BK576.out 0;have hfz13_1:=zA BK576.out 1;have hfz13_2:=zA BK576.out 2)|((with_reducible refine zJ (f:=14) rfl ?_);refine yj (some 14) rfl rfl Try.func14 (by kernel_rfl) rfl #[.agg #[.int .i64 a0_0,.int .i64 a0_1,.string a0_2],.int .i64 1048576] rfl (by (try simp only [zt,zu,zv]);first|done|rfl|(simp only [zw,zx];rfl)|(simp only [yr,ys,zV,zW];rfl)) ?_;(with_reducible refine (laws_szValue.calls  a0_0 a0_1 a0_2 1048576 t577 _ A2.out).mono ?_);rintro e w14 ⟨rfl,hb⟩;refine ⟨_,rfl,?_⟩;replace BK576:=zh (zD (g:=gb576) (o:=.cells #[.int .i64 a0_0,.int .i64 a0_1,.string a0_2] 23 (0,0)) (by (with_reducible repeat (first|refine ze ?_ _|refine zf ?_|refine zg ?_ _));exact BK576.out) hb);replace HB:=zh (zC (by repeat (with_reducible first|exact HB.out|apply za|apply zb|apply zc|refine zd ?_ GE576.out)) hb);(try clear hb);(try clear hb2);(try clear hk);(try clear hi);have hcz15_0 : w14.cell? ⟨gb576,0,none⟩=some (.int .i64 a0_0):=(zz BK576.out 0).trans rfl;have hcz15_1 : w14.cell? ⟨gb576,1,none⟩=some (.int .i64 a0_1):=(zz BK576.out 1).trans rfl;have hcz15_2 : w14.cell? ⟨gb576,2,none⟩=some (.string a0_2):=(zz BK576.out 2).trans rfl;have hfz15_0:=zA BK576.out 0;have hfz15_1:=zA BK576.out 1;have hfz15_2:=zA BK576.out 2)|((with_reducible refine zJ (f:=16) rfl ?_);refine yj (some 19) rfl rfl Try.func16 (by kernel_rfl) rfl #[.agg #[.int .i64 a0_0,.int .i64 a0_1,.string a0_2]] rfl (by (try simp only [zt,zu,zv]);first|done|rfl|(simp only [zw,zx];rfl)|(simp only [yr,ys,zV,zW];rfl)) ?_;(with_reducible refine (laws_toValue.calls  a0_0 a0_1 a0_2 t578 t579 t580 _ A7.out).mono ?_);rintro e w16 ⟨rfl,hb⟩;refine ⟨_,rfl,?_⟩;replace BK576:=zh (zD (g:=gb576) (o:=.cells #[.int .i64 a0_0,.int .i64 a0_1,.string a0_2] 23 (0,0)) (by (with_reducible repeat (first|refine ze ?_ _|refine zf ?_|refine zg ?_ _));exact BK576.out) hb);replace HB:=zh (zC (by repeat (with_reducible first|exact HB.out|apply za|apply zb|apply zc|refine zd ?_ GE576.out)) hb);(try clear hb);(try clear hb2);(try clear hk);(try clear hi))|((with_reducible refine zJ (f:=34) rfl ?_);refine yj (some 20) rfl rfl Try.func34 (by kernel_rfl) rfl #[.agg #[.int .i64 t578,.int .i64 t579,.string t580]] rfl (by (try simp only [zt,zu,zv]);first|done|rfl|(simp only [zw,zx];rfl)|(simp only [yr,ys,zV,zW];rfl)) ?_;(with_reducible refine (spec_FieldsOf.calls k  t578 t579 t580 t581 t584 _ A8.out).mono ?_);rintro e w17 ⟨v582,rfl,ho0,hb⟩;refine ⟨_,rfl,?_⟩;have HO583:=zh (yy ho0 (zB (by repeat (with_reducible first|exact HB.out|apply za|apply zb|apply zc|refine zd ?_ GE576.out))));replace BK576:=zh (zD (g:=gb576) (o:=.cells #[.int .i64 a0_0,.int .i64 a0_1,.string a0_2] 23 (0,0)) (by (with_reducible repeat (first|refine ze ?_ _|refine zf ?_|refine zg ?_ _));exact BK576.out) hb);replace HB:=zh (zC (by repeat (with_reducible first|exact HB.out|apply za|apply zb|apply zc|refine zd ?_ GE576.out)) hb);(try clear hb);(try clear hb2);(try clear hk);(try clear hi);(try clear ho0);have hcz18_0 : w17.cell? ⟨gb576,0,none⟩=some (.int .i64 a0_0):=(zz BK576.out 0).trans rfl;have hcz18_1 : w17.cell? ⟨gb576,1,none⟩=some (.int .i64 a0_1):=(zz BK576.out 1).trans rfl;have hcz18_2 : w17.cell? ⟨gb576,2,none⟩=some (.string a0_2):=(zz BK576.out 2).trans rfl;have hfz18_0:=zA BK576.out 0;have hfz18_1:=zA BK576.out 1;have hfz18_2:=zA BK576.out 2)|((with_reducible refine zJ (f:=16) rfl ?_);refine yj (some 25) rfl rfl Try.func16 (by kernel_rfl) rfl #[.agg #[.int .i64 a0_0,.int .i64 a0_1,.string a0_2]] rfl (by (try simp only [zt,zu,zv]);first|done|rfl|(simp only [zw,zx];rfl)|(simp only [yr,ys,zV,zW];rfl)) ?_;(with_reducible refine (laws_toValue.calls  a0_0 a0_1 a0_2 t585 t586 t587 _ A9.out).mono ?_);rintro e w19 ⟨rfl,hb⟩;refine ⟨_,rfl,?_⟩;replace HO583:=zh (yg (by (with_reducible repeat (first|apply zm|apply zn|apply zo));exact HO583.out) hb);replace BK576:=zh (zD (g:=gb576) (o:=.cells #[.int .i64 a0_0,.int .i64 a0_1,.string a0_2] 23 (0,0)) (by (with_reducible repeat (first|refine ze ?_ _|refine zf ?_|refine zg ?_ _));exact BK576.out) hb);replace HB:=zh (zC (by repeat (with_reducible first|exact HB.out|apply za|apply zb|apply zc|refine zd ?_ GE576.out)) hb);(try clear hb);(try clear hb2);(try clear hk);(try clear hi))|((with_reducible refine zJ (f:=35) rfl ?_);refine yj (some 26) rfl rfl Try.func35 (by kernel_rfl) rfl #[.agg #[.int .i64 t585,.int .i64 t586,.string t587]] rfl (by (try simp only [zt,zu,zv]);first|done|rfl|(simp only [zw,zx];rfl)|(simp only [yr,ys,zV,zW];rfl)) ?_;(with_reducible refine (impl_FieldsOf.calls k  t585 t586 t587 t588 t591 _ A10.out).mono ?_);rintro e w20 ⟨v589,rfl,ho0,hb⟩;refine ⟨_,rfl,?_⟩;have HO590:=zh (yy (Kd.R_new' ho0 (Kd.R_lt (by (with_reducible repeat (first|apply zm|apply zn|apply zo));exact HO583.out))) (zB (by repeat (with_reducible first|exact HB.out|apply za|apply zb|apply zc|refine zd ?_ GE576.out))));replace HO583:=zh (Kd.R_elder' (by (with_reducible repeat (first|apply zm|apply zn|apply zo));exact HO583.out) (Kd.R_base ho0) hb);replace BK576:=zh (zD (g:=gb576) (o:=.cells #[.int .i64 a0_0,.int .i64 a0_1,.string a0_2] 23 (0,0)) (by (with_reducible repeat (first|refine ze ?_ _|refine zf ?_|refine zg ?_ _));exact BK576.out) hb);replace HB:=zh (zC (by repeat (with_reducible first|exact HB.out|apply za|apply zb|apply zc|refine zd ?_ GE576.out)) hb);(try clear hb);(try clear hb2);(try clear hk);(try clear hi);(try clear ho0)))
 (try simp only [Act.put,zi,zj,zk])
 go_cut [37] (fun v37 wc => ∃ (kq : Nat) (x37_10 : Bool),v37 = .bool x37_10∧Aside0 (laws_FnExactFieldsOf.j0 kq t581 t584 t588 x37_10 a0_0 a0_1 a0_2=some r)∧Aside0 (kq≤k)∧Aside0 (Kd.R k68 68 wc w.heap.size (fun k_ => some k_≠(v589 : Value).ownBlock) v582 t581)∧Aside0 (Kd.R k68 68 wc w.heap.size (fun k_ => some k_≠(v582 : Value).ownBlock) v589 t588)∧Aside0 (wc.heap[gb576]? = some (.cells #[.int .i64 a0_0,.int .i64 a0_1,.string a0_2] 23 (0,0)))∧Aside0 (Below w.heap.size w wc))
 case first =>
  have H:=HC11.out;clear HC11;replace H:=zT.mp H;obtain ⟨t592,A210,H⟩:=H;replace H : (if t592=true then (laws_FnExactFieldsOf.j0 k t581 t584 t588 (t591 != t584) a0_0 a0_1 a0_2) else (laws_FnExactFieldsOf.j0 k t581 t584 t588 true a0_0 a0_1 a0_2))=some r:=H;have A21:=zh A210;clear A210
  by_cases c22 : t592=true
  ·
   subst c22
   have H1 : (laws_FnExactFieldsOf.j0 k t581 t584 t588 (t591 != t584) a0_0 a0_1 a0_2)=some r:=by rw [if_pos rfl] at H;exact H
   clear H;have H:=H1;clear H1;have H':=zh H;clear H;obtain ⟨Ao23,co23,eo23⟩:=yk HO590.out;subst eo23;obtain ⟨Ao24,co24,eo24⟩:=yk HO583.out;subst eo24
   go_wp2_with (first|((with_reducible refine zJ (f:=36) rfl ?_);refine yj (some 31) rfl rfl Try.func36 (by kernel_rfl) rfl #[.slice Ao23 t588.length co23,.slice Ao24 t581.length co24] rfl (by (try simp only [zt,zu,zv]);first|done|rfl|(simp only [zw,zx];rfl)|(simp only [yr,ys,zV,zW];rfl)) ?_;(with_reducible refine (laws_eqFieldS.calls k  _ _ t588 _ _ t581 true _ ?side1 ?side2 ?side3 ?side4 A21.out).mono ?_);(case side1 => repeat (first|exact (yh HO590.out).2.2|(with_reducible refine Kd.C_alloc ?_ _)|(with_reducible refine Kd.C_drewN ?_ _)|(with_reducible refine Kd.C_drew ?_)));(case side2 => exact (yh HO590.out).2.1);(case side3 => repeat (first|exact (yh HO583.out).2.2|(with_reducible refine Kd.C_alloc ?_ _)|(with_reducible refine Kd.C_drewN ?_ _)|(with_reducible refine Kd.C_drew ?_)));(case side4 => exact (yh HO583.out).2.1);rintro e w25 ⟨rfl,hb⟩;refine ⟨_,rfl,?_⟩;replace HO583:=zh (yg (by (with_reducible repeat (first|apply zm|apply zn|apply zo));exact HO583.out) hb);replace HO590:=zh (yg (by (with_reducible repeat (first|apply zm|apply zn|apply zo));exact HO590.out) hb);replace BK576:=zh (zD (g:=gb576) (o:=.cells #[.int .i64 a0_0,.int .i64 a0_1,.string a0_2] 23 (0,0)) (by (with_reducible repeat (first|refine ze ?_ _|refine zf ?_|refine zg ?_ _));exact BK576.out) hb);replace HB:=zh (zC (by repeat (with_reducible first|exact HB.out|apply za|apply zb|apply zc|refine zd ?_ GE576.out)) hb);(try clear hb);(try clear hb2);(try clear hk);(try clear hi)))
   go_meet
   case rel => exact ⟨_,((t591 != t584)),(by first|rfl|(simp;done)|(simp [*];done)),H',⟨by first|omega|exact ye _⟩,⟨by (with_reducible repeat (first|apply zm|apply zn|apply zo));exact zM HO583.out (fun _ hk => hk.2)⟩,⟨by (with_reducible repeat (first|apply zm|apply zn|apply zo));exact zM HO590.out (fun _ hk => hk.2)⟩,⟨by (with_reducible repeat (first|refine ze ?_ _|refine zf ?_|refine zg ?_ _));exact BK576.out⟩,⟨by repeat (with_reducible first|exact HB.out|apply za|apply zb|apply zc|refine zd ?_ GE576.out)⟩⟩
  replace c22:=yb.mpr c22;subst c22;have H1 : (laws_FnExactFieldsOf.j0 k t581 t584 t588 true a0_0 a0_1 a0_2)=some r:=by rw [if_neg (show ¬ (false=true) by decide)] at H;exact H
  clear H;have H:=H1;clear H1;have H':=zh H;clear H;obtain ⟨Ao26,co26,eo26⟩:=yk HO590.out;subst eo26;obtain ⟨Ao27,co27,eo27⟩:=yk HO583.out;subst eo27
  go_wp2_with (first|((with_reducible refine zJ (f:=36) rfl ?_);refine yj (some 31) rfl rfl Try.func36 (by kernel_rfl) rfl #[.slice Ao26 t588.length co26,.slice Ao27 t581.length co27] rfl (by (try simp only [zt,zu,zv]);first|done|rfl|(simp only [zw,zx];rfl)|(simp only [yr,ys,zV,zW];rfl)) ?_;(with_reducible refine (laws_eqFieldS.calls k  _ _ t588 _ _ t581 false _ ?side1 ?side2 ?side3 ?side4 A21.out).mono ?_);(case side1 => repeat (first|exact (yh HO590.out).2.2|(with_reducible refine Kd.C_alloc ?_ _)|(with_reducible refine Kd.C_drewN ?_ _)|(with_reducible refine Kd.C_drew ?_)));(case side2 => exact (yh HO590.out).2.1);(case side3 => repeat (first|exact (yh HO583.out).2.2|(with_reducible refine Kd.C_alloc ?_ _)|(with_reducible refine Kd.C_drewN ?_ _)|(with_reducible refine Kd.C_drew ?_)));(case side4 => exact (yh HO583.out).2.1);rintro e w28 ⟨rfl,hb⟩;refine ⟨_,rfl,?_⟩;replace HO583:=zh (yg (by (with_reducible repeat (first|apply zm|apply zn|apply zo));exact HO583.out) hb);replace HO590:=zh (yg (by (with_reducible repeat (first|apply zm|apply zn|apply zo));exact HO590.out) hb);replace BK576:=zh (zD (g:=gb576) (o:=.cells #[.int .i64 a0_0,.int .i64 a0_1,.string a0_2] 23 (0,0)) (by (with_reducible repeat (first|refine ze ?_ _|refine zf ?_|refine zg ?_ _));exact BK576.out) hb);replace HB:=zh (zC (by repeat (with_reducible first|exact HB.out|apply za|apply zb|apply zc|refine zd ?_ GE576.out)) hb);(try clear hb);(try clear hb2);(try clear hk);(try clear hi)))
  go_meet
  case rel => exact ⟨_,(true),(by first|rfl|(simp;done)|(simp [*];done)),H',⟨by first|omega|exact ye _⟩,⟨by (with_reducible repeat (first|apply zm|apply zn|apply zo));exact zM HO583.out (fun _ hk => hk.2)⟩,⟨by (with_reducible repeat (first|apply zm|apply zn|apply zo));exact zM HO590.out (fun _ hk => hk.2)⟩,⟨by (with_reducible repeat (first|refine ze ?_ _|refine zf ?_|refine zg ?_ _));exact BK576.out⟩,⟨by repeat (with_reducible first|exact HB.out|apply za|apply zb|apply zc|refine zd ?_ GE576.out)⟩⟩
 case rest =>
  clear HC11
  try clear c1
  try clear c2
  try clear p2
  try clear c3
  try clear c3b0
  try clear c8
  try clear c14
  try clear c16
  try clear c22
  try clear hcz13_0
  try clear hcz13_1
  try clear hcz13_2
  try clear hcz15_0
  try clear hcz15_1
  try clear hcz15_2
  try clear hcz18_0
  try clear hcz18_1
  try clear hcz18_2
  try clear hcz5_0
  try clear hcz5_1
  try clear hcz5_2
  try clear hfz13_0
  try clear hfz13_1
  try clear hfz13_2
  try clear hfz15_0
  try clear hfz15_1
  try clear hfz15_2
  try clear hfz18_0
  try clear hfz18_1
  try clear hfz18_2
  try clear hfz5_0
  try clear hfz5_1
  try clear hfz5_2
  obtain ⟨kq,x37_10,rfl,HA,HJ10,HO_4,HO_6,BK576,HB⟩:=hcut
  cases kq with
  | zero => exact absurd HA.out (by simp [laws_FnExactFieldsOf.j0])
  | succ kj10 =>
   have H:=HA.out;clear HA;simp only [laws_FnExactFieldsOf.j0] at H
   by_cases c29 : x37_10=true
   ·
    subst c29
    have H1 : (some false)=some r:=by rw [if_pos rfl] at H;exact H
    clear H;have H:=H1;clear H1;obtain rfl:=zU H
    go_wp2
    go_ret
    exact ⟨by first|rfl|(simp [yt,yu] <;> rfl)|(simp [*,yt,yu] <;> rfl),by repeat (with_reducible first|exact HB.out|apply za|apply zb|apply zc|refine zd ?_ GE576.out)⟩
   replace c29:=yb.mpr c29;subst c29;have H1 : ((laws_markFieldS.f kj10 t588 1).bind fun bt593 => ((laws_heldFieldS.f kj10 bt593.2 1).bind fun t595 => (if t595<0 then (some false) else (if t595=bt593.1 then ((laws_toValue.f a0_0 a0_1 a0_2).bind fun bt596 => ((impl_FieldsOf.f kj10 bt596.1 bt596.2.1 bt596.2.2).bind fun bt599 => ((laws_eqFieldS.f kj10 bt599.1 t581).bind fun t603 => (if t603=true then (laws_FnExactFieldsOf.j1 kj10 bt593.2 bt593.1 (bt599.2 != t584)) else (laws_FnExactFieldsOf.j1 kj10 bt593.2 bt593.1 true))))) else (some false)))))=some r:=by rw [if_neg (show ¬ (false=true) by decide)] at H;exact H
   clear H;have H:=H1;clear H1;replace H:=zT.mp H;obtain ⟨⟨t593,t594⟩,A300,H⟩:=H;replace H : ((laws_heldFieldS.f kj10 t594 1).bind fun t595 => (if t595<0 then (some false) else (if t595=t593 then ((laws_toValue.f a0_0 a0_1 a0_2).bind fun bt596 => ((impl_FieldsOf.f kj10 bt596.1 bt596.2.1 bt596.2.2).bind fun bt599 => ((laws_eqFieldS.f kj10 bt599.1 t581).bind fun t603 => (if t603=true then (laws_FnExactFieldsOf.j1 kj10 t594 t593 (bt599.2 != t584)) else (laws_FnExactFieldsOf.j1 kj10 t594 t593 true))))) else (some false))))=some r:=H;have A30:=zh A300;clear A300;replace H:=zT.mp H;obtain ⟨t595,A310,H⟩:=H;replace H : (if t595<0 then (some false) else (if t595=t593 then ((laws_toValue.f a0_0 a0_1 a0_2).bind fun bt596 => ((impl_FieldsOf.f kj10 bt596.1 bt596.2.1 bt596.2.2).bind fun bt599 => ((laws_eqFieldS.f kj10 bt599.1 t581).bind fun t603 => (if t603=true then (laws_FnExactFieldsOf.j1 kj10 t594 t593 (bt599.2 != t584)) else (laws_FnExactFieldsOf.j1 kj10 t594 t593 true))))) else (some false)))=some r:=H;have A31:=zh A310;clear A310
   by_cases c32 : t595<0
   ·
    rw [if_pos c32] at H
    have c32b0 : decide (t595<0)=true:=decide_eq_true c32;clear c32;obtain rfl:=zU H;obtain ⟨Ao33,co33,eo33⟩:=yk HO_6.out;subst eo33
    go_wp2_with (first|((with_reducible refine zJ (f:=37) rfl ?_);refine yj (some 40) rfl rfl Try.func37 (by kernel_rfl) rfl #[.slice Ao33 t588.length co33,.int .i64 1] rfl (by (try simp only [zt,zu,zv]);first|done|rfl|(simp only [zw,zx];rfl)|(simp only [yr,ys,zV,zW];rfl)) ?_;(with_reducible refine (laws_markFieldS.calls kj10  (fun k_ => some k_=(.slice Ao33 t588.length co33 : Value).ownBlock) (.slice Ao33 t588.length co33) t588 1 t593 t594 w _ ?side1 ?side2 A30.out).mono ?_);(case side1 => repeat (with_reducible first|exact HB.out|apply za|apply zb|apply zc|refine zd ?_ GE576.out));(case side2 => exact Kd.R_tight rfl HO_6.out);rintro e w34 ⟨rfl,hy0,hb,hkp⟩;refine ⟨_,rfl,?_⟩;replace HO_4:=zh (zM (ok':=fun k_ => some k_≠(.slice Ao33 t588.length co33 : Value).ownBlock) (Kd.R_keptB (HO_4.out) hkp (fun k_ hk_ hs_ => (hk_) hs_)) (fun k_ hk_ => hk_.1));replace BK576:=zh (blk_kept (by (with_reducible repeat (first|refine ze ?_ _|refine zf ?_|refine zg ?_ _));exact BK576.out) hkp (fun hs_ => (fun e_ => (Kd.R_ne HO_6.out BK576.out (by decide)) e_) hs_));replace HO_6:=zh (Kd.R_reok rfl hy0 (fun k_ e_ => HO_6.out.1 k_ e_));replace HB:=zh (hb);(try clear hb);(try clear hkp);(try clear hy0))|((with_reducible refine zJ (f:=38) rfl ?_);refine yj (some 43) rfl rfl Try.func38 (by kernel_rfl) rfl #[.slice Ao33 t594.length co33,.int .i64 1] rfl (by (try simp only [zt,zu,zv]);first|done|(rw [show t594.length=t588.length from (yh HO_6.out).1.symm] <;> rfl)|rfl|(simp only [zw,zx];rfl)|(simp only [yr,ys,zV,zW];rfl)) ?_;(with_reducible refine (laws_heldFieldS.calls kj10  _ _ t594 1 t595 _ ?side1 ?side2 A31.out).mono ?_);(case side1 => repeat (first|exact (yh HO_6.out).2.2|(with_reducible refine Kd.C_alloc ?_ _)|(with_reducible refine Kd.C_drewN ?_ _)|(with_reducible refine Kd.C_drew ?_)));(case side2 => rw [show t594.length=t588.length from (yh HO_6.out).1.symm];exact (yh HO_6.out).2.1);rintro e w35 ⟨rfl,hb⟩;refine ⟨_,rfl,?_⟩;replace HO_4:=zh (yg (by (with_reducible repeat (first|apply zm|apply zn|apply zo));exact HO_4.out) hb);replace HO_6:=zh (yg (by (with_reducible repeat (first|apply zm|apply zn|apply zo));exact HO_6.out) hb);replace BK576:=zh (zD (g:=gb576) (o:=.cells #[.int .i64 a0_0,.int .i64 a0_1,.string a0_2] 23 (0,0)) (by (with_reducible repeat (first|refine ze ?_ _|refine zf ?_|refine zg ?_ _));exact BK576.out) hb);replace HB:=zh (zC (by repeat (with_reducible first|exact HB.out|apply za|apply zb|apply zc|refine zd ?_ GE576.out)) hb);(try clear hb);(try clear hb2);(try clear hk);(try clear hi)))
    go_ret
    exact ⟨by first|rfl|(simp [yt,yu] <;> rfl)|(simp [*,yt,yu] <;> rfl),by repeat (with_reducible first|exact HB.out|apply za|apply zb|apply zc|refine zd ?_ GE576.out)⟩
   rw [if_neg c32] at H;have c32b0 : decide (t595<0)=false:=decide_eq_false c32;clear c32
   by_cases c36 : t595=t593
   ·
    rw [if_pos c36] at H
    have c36b0 : (t595 == t593)=true:=ya.mpr c36;have c36b1 : (t595 != t593)=false:=zX.mpr c36;clear c36;replace H:=zT.mp H;obtain ⟨⟨t596,t597,t598⟩,A370,H⟩:=H;replace H : ((impl_FieldsOf.f kj10 t596 t597 t598).bind fun bt599 => ((laws_eqFieldS.f kj10 bt599.1 t581).bind fun t603 => (if t603=true then (laws_FnExactFieldsOf.j1 kj10 t594 t593 (bt599.2 != t584)) else (laws_FnExactFieldsOf.j1 kj10 t594 t593 true))))=some r:=H;have A37:=zh A370;clear A370;replace H:=zT.mp H;obtain ⟨⟨t599,t602⟩,A380,H⟩:=H;replace H : ((laws_eqFieldS.f kj10 t599 t581).bind fun t603 => (if t603=true then (laws_FnExactFieldsOf.j1 kj10 t594 t593 (t602 != t584)) else (laws_FnExactFieldsOf.j1 kj10 t594 t593 true)))=some r:=H;have A38:=zh A380;clear A380;have HC39:=zh H;clear H;obtain ⟨Ao40,co40,eo40⟩:=yk HO_6.out;subst eo40
    go_upto_region 18 with (first|((with_reducible refine zJ (f:=37) rfl ?_);refine yj (some 40) rfl rfl Try.func37 (by kernel_rfl) rfl #[.slice Ao40 t588.length co40,.int .i64 1] rfl (by (try simp only [zt,zu,zv]);first|done|rfl|(simp only [zw,zx];rfl)|(simp only [yr,ys,zV,zW];rfl)) ?_;(with_reducible refine (laws_markFieldS.calls kj10  (fun k_ => some k_=(.slice Ao40 t588.length co40 : Value).ownBlock) (.slice Ao40 t588.length co40) t588 1 t593 t594 w _ ?side1 ?side2 A30.out).mono ?_);(case side1 => repeat (with_reducible first|exact HB.out|apply za|apply zb|apply zc|refine zd ?_ GE576.out));(case side2 => exact Kd.R_tight rfl HO_6.out);rintro e w41 ⟨rfl,hy0,hb,hkp⟩;refine ⟨_,rfl,?_⟩;replace HO_4:=zh (zM (ok':=fun k_ => some k_≠(.slice Ao40 t588.length co40 : Value).ownBlock) (Kd.R_keptB (HO_4.out) hkp (fun k_ hk_ hs_ => (hk_) hs_)) (fun k_ hk_ => hk_.1));replace BK576:=zh (blk_kept (by (with_reducible repeat (first|refine ze ?_ _|refine zf ?_|refine zg ?_ _));exact BK576.out) hkp (fun hs_ => (fun e_ => (Kd.R_ne HO_6.out BK576.out (by decide)) e_) hs_));replace HO_6:=zh (Kd.R_reok rfl hy0 (fun k_ e_ => HO_6.out.1 k_ e_));replace HB:=zh (hb);(try clear hb);(try clear hkp);(try clear hy0))|((with_reducible refine zJ (f:=38) rfl ?_);refine yj (some 43) rfl rfl Try.func38 (by kernel_rfl) rfl #[.slice Ao40 t594.length co40,.int .i64 1] rfl (by (try simp only [zt,zu,zv]);first|done|(rw [show t594.length=t588.length from (yh HO_6.out).1.symm] <;> rfl)|rfl|(simp only [zw,zx];rfl)|(simp only [yr,ys,zV,zW];rfl)) ?_;(with_reducible refine (laws_heldFieldS.calls kj10  _ _ t594 1 t595 _ ?side1 ?side2 A31.out).mono ?_);(case side1 => repeat (first|exact (yh HO_6.out).2.2|(with_reducible refine Kd.C_alloc ?_ _)|(with_reducible refine Kd.C_drewN ?_ _)|(with_reducible refine Kd.C_drew ?_)));(case side2 => rw [show t594.length=t588.length from (yh HO_6.out).1.symm];exact (yh HO_6.out).2.1);rintro e w42 ⟨rfl,hb⟩;refine ⟨_,rfl,?_⟩;replace HO_4:=zh (yg (by (with_reducible repeat (first|apply zm|apply zn|apply zo));exact HO_4.out) hb);replace HO_6:=zh (yg (by (with_reducible repeat (first|apply zm|apply zn|apply zo));exact HO_6.out) hb);replace BK576:=zh (zD (g:=gb576) (o:=.cells #[.int .i64 a0_0,.int .i64 a0_1,.string a0_2] 23 (0,0)) (by (with_reducible repeat (first|refine ze ?_ _|refine zf ?_|refine zg ?_ _));exact BK576.out) hb);replace HB:=zh (zC (by repeat (with_reducible first|exact HB.out|apply za|apply zb|apply zc|refine zd ?_ GE576.out)) hb);(try clear hb);(try clear hb2);(try clear hk);(try clear hi);have hcz43_0 : w42.cell? ⟨gb576,0,none⟩=some (.int .i64 a0_0):=(zz BK576.out 0).trans rfl;have hcz43_1 : w42.cell? ⟨gb576,1,none⟩=some (.int .i64 a0_1):=(zz BK576.out 1).trans rfl;have hcz43_2 : w42.cell? ⟨gb576,2,none⟩=some (.string a0_2):=(zz BK576.out 2).trans rfl;have hfz43_0:=zA BK576.out 0;have hfz43_1:=zA BK576.out 1;have hfz43_2:=zA BK576.out 2)|((with_reducible refine zJ (f:=16) rfl ?_);refine yj (some 51) rfl rfl Try.func16 (by kernel_rfl) rfl #[.agg #[.int .i64 a0_0,.int .i64 a0_1,.string a0_2]] rfl (by (try simp only [zt,zu,zv]);first|done|rfl|(simp only [zw,zx];rfl)|(simp only [yr,ys,zV,zW];rfl)) ?_;(with_reducible refine (laws_toValue.calls  a0_0 a0_1 a0_2 t596 t597 t598 _ A37.out).mono ?_);rintro e w44 ⟨rfl,hb⟩;refine ⟨_,rfl,?_⟩;replace HO_4:=zh (yg (by (with_reducible repeat (first|apply zm|apply zn|apply zo));exact HO_4.out) hb);replace HO_6:=zh (yg (by (with_reducible repeat (first|apply zm|apply zn|apply zo));exact HO_6.out) hb);replace BK576:=zh (zD (g:=gb576) (o:=.cells #[.int .i64 a0_0,.int .i64 a0_1,.string a0_2] 23 (0,0)) (by (with_reducible repeat (first|refine ze ?_ _|refine zf ?_|refine zg ?_ _));exact BK576.out) hb);replace HB:=zh (zC (by repeat (with_reducible first|exact HB.out|apply za|apply zb|apply zc|refine zd ?_ GE576.out)) hb);(try clear hb);(try clear hb2);(try clear hk);(try clear hi))|((with_reducible refine zJ (f:=35) rfl ?_);refine yj (some 52) rfl rfl Try.func35 (by kernel_rfl) rfl #[.agg #[.int .i64 t596,.int .i64 t597,.string t598]] rfl (by (try simp only [zt,zu,zv]);first|done|rfl|(simp only [zw,zx];rfl)|(simp only [yr,ys,zV,zW];rfl)) ?_;(with_reducible refine (impl_FieldsOf.calls kj10  t596 t597 t598 t599 t602 _ A38.out).mono ?_);rintro e w45 ⟨v600,rfl,ho0,hb⟩;refine ⟨_,rfl,?_⟩;have HO601:=zh (yy (Kd.R_new' (Kd.R_new' ho0 (Kd.R_lt (by (with_reducible repeat (first|apply zm|apply zn|apply zo));exact HO_4.out))) (Kd.R_lt (by (with_reducible repeat (first|apply zm|apply zn|apply zo));exact HO_6.out))) (zB (by repeat (with_reducible first|exact HB.out|apply za|apply zb|apply zc|refine zd ?_ GE576.out))));replace HO_4:=zh (Kd.R_elder' (by (with_reducible repeat (first|apply zm|apply zn|apply zo));exact HO_4.out) (Kd.R_base ho0) hb);replace HO_6:=zh (Kd.R_elder' (by (with_reducible repeat (first|apply zm|apply zn|apply zo));exact HO_6.out) (Kd.R_base ho0) hb);replace BK576:=zh (zD (g:=gb576) (o:=.cells #[.int .i64 a0_0,.int .i64 a0_1,.string a0_2] 23 (0,0)) (by (with_reducible repeat (first|refine ze ?_ _|refine zf ?_|refine zg ?_ _));exact BK576.out) hb);replace HB:=zh (zC (by repeat (with_reducible first|exact HB.out|apply za|apply zb|apply zc|refine zd ?_ GE576.out)) hb);(try clear hb);(try clear hb2);(try clear hk);(try clear hi);(try clear ho0)))
    (try simp only [Act.put,zi,zj,zk])
    go_cut [63] (fun v63 wc => ∃ (kq : Nat) (x63_38 : Bool),v63 = .bool x63_38∧Aside0 (laws_FnExactFieldsOf.j1 kq t594 t593 x63_38=some r)∧Aside0 (kq≤kj10)∧Aside0 (Kd.R k68 68 wc w.heap.size (fun _ => True) (.slice Ao40 t588.length co40) t594)∧Aside0 (wc.heap[gb576]? = some (.cells #[.int .i64 a0_0,.int .i64 a0_1,.string a0_2] 23 (0,0)))∧Aside0 (Below w.heap.size w wc))
    case first =>
     have H:=HC39.out;clear HC39;replace H:=zT.mp H;obtain ⟨t603,A460,H⟩:=H;replace H : (if t603=true then (laws_FnExactFieldsOf.j1 kj10 t594 t593 (t602 != t584)) else (laws_FnExactFieldsOf.j1 kj10 t594 t593 true))=some r:=H;have A46:=zh A460;clear A460
     by_cases c47 : t603=true
     ·
      subst c47
      have H1 : (laws_FnExactFieldsOf.j1 kj10 t594 t593 (t602 != t584))=some r:=by rw [if_pos rfl] at H;exact H
      clear H;have H:=H1;clear H1;have H':=zh H;clear H;obtain ⟨Ao48,co48,eo48⟩:=yk HO601.out;subst eo48;obtain ⟨Ao49,co49,eo49⟩:=yk HO_4.out;subst eo49
      go_wp2_with (first|((with_reducible refine zJ (f:=36) rfl ?_);refine yj (some 57) rfl rfl Try.func36 (by kernel_rfl) rfl #[.slice Ao48 t599.length co48,.slice Ao49 t581.length co49] rfl (by (try simp only [zt,zu,zv]);first|done|rfl|(simp only [zw,zx];rfl)|(simp only [yr,ys,zV,zW];rfl)) ?_;(with_reducible refine (laws_eqFieldS.calls kj10  _ _ t599 _ _ t581 true _ ?side1 ?side2 ?side3 ?side4 A46.out).mono ?_);(case side1 => repeat (first|exact (yh HO601.out).2.2|(with_reducible refine Kd.C_alloc ?_ _)|(with_reducible refine Kd.C_drewN ?_ _)|(with_reducible refine Kd.C_drew ?_)));(case side2 => exact (yh HO601.out).2.1);(case side3 => repeat (first|exact (yh HO_4.out).2.2|(with_reducible refine Kd.C_alloc ?_ _)|(with_reducible refine Kd.C_drewN ?_ _)|(with_reducible refine Kd.C_drew ?_)));(case side4 => exact (yh HO_4.out).2.1);rintro e w50 ⟨rfl,hb⟩;refine ⟨_,rfl,?_⟩;replace HO_4:=zh (yg (by (with_reducible repeat (first|apply zm|apply zn|apply zo));exact HO_4.out) hb);replace HO_6:=zh (yg (by (with_reducible repeat (first|apply zm|apply zn|apply zo));exact HO_6.out) hb);replace HO601:=zh (yg (by (with_reducible repeat (first|apply zm|apply zn|apply zo));exact HO601.out) hb);replace BK576:=zh (zD (g:=gb576) (o:=.cells #[.int .i64 a0_0,.int .i64 a0_1,.string a0_2] 23 (0,0)) (by (with_reducible repeat (first|refine ze ?_ _|refine zf ?_|refine zg ?_ _));exact BK576.out) hb);replace HB:=zh (zC (by repeat (with_reducible first|exact HB.out|apply za|apply zb|apply zc|refine zd ?_ GE576.out)) hb);(try clear hb);(try clear hb2);(try clear hk);(try clear hi)))
      go_meet
      case rel => exact ⟨_,((t602 != t584)),(by first|rfl|(simp;done)|(simp [*];done)),H',⟨by have:=HJ10.out;first|omega|exact ye _⟩,⟨by (with_reducible repeat (first|apply zm|apply zn|apply zo));exact zM HO_6.out (fun _ hk => trivial)⟩,⟨by (with_reducible repeat (first|refine ze ?_ _|refine zf ?_|refine zg ?_ _));exact BK576.out⟩,⟨by repeat (with_reducible first|exact HB.out|apply za|apply zb|apply zc|refine zd ?_ GE576.out)⟩⟩
     replace c47:=yb.mpr c47;subst c47;have H1 : (laws_FnExactFieldsOf.j1 kj10 t594 t593 true)=some r:=by rw [if_neg (show ¬ (false=true) by decide)] at H;exact H
     clear H;have H:=H1;clear H1;have H':=zh H;clear H;obtain ⟨Ao51,co51,eo51⟩:=yk HO601.out;subst eo51;obtain ⟨Ao52,co52,eo52⟩:=yk HO_4.out;subst eo52
     go_wp2_with (first|((with_reducible refine zJ (f:=36) rfl ?_);refine yj (some 57) rfl rfl Try.func36 (by kernel_rfl) rfl #[.slice Ao51 t599.length co51,.slice Ao52 t581.length co52] rfl (by (try simp only [zt,zu,zv]);first|done|rfl|(simp only [zw,zx];rfl)|(simp only [yr,ys,zV,zW];rfl)) ?_;(with_reducible refine (laws_eqFieldS.calls kj10  _ _ t599 _ _ t581 false _ ?side1 ?side2 ?side3 ?side4 A46.out).mono ?_);(case side1 => repeat (first|exact (yh HO601.out).2.2|(with_reducible refine Kd.C_alloc ?_ _)|(with_reducible refine Kd.C_drewN ?_ _)|(with_reducible refine Kd.C_drew ?_)));(case side2 => exact (yh HO601.out).2.1);(case side3 => repeat (first|exact (yh HO_4.out).2.2|(with_reducible refine Kd.C_alloc ?_ _)|(with_reducible refine Kd.C_drewN ?_ _)|(with_reducible refine Kd.C_drew ?_)));(case side4 => exact (yh HO_4.out).2.1);rintro e w53 ⟨rfl,hb⟩;refine ⟨_,rfl,?_⟩;replace HO_4:=zh (yg (by (with_reducible repeat (first|apply zm|apply zn|apply zo));exact HO_4.out) hb);replace HO_6:=zh (yg (by (with_reducible repeat (first|apply zm|apply zn|apply zo));exact HO_6.out) hb);replace HO601:=zh (yg (by (with_reducible repeat (first|apply zm|apply zn|apply zo));exact HO601.out) hb);replace BK576:=zh (zD (g:=gb576) (o:=.cells #[.int .i64 a0_0,.int .i64 a0_1,.string a0_2] 23 (0,0)) (by (with_reducible repeat (first|refine ze ?_ _|refine zf ?_|refine zg ?_ _));exact BK576.out) hb);replace HB:=zh (zC (by repeat (with_reducible first|exact HB.out|apply za|apply zb|apply zc|refine zd ?_ GE576.out)) hb);(try clear hb);(try clear hb2);(try clear hk);(try clear hi)))
     go_meet
     case rel => exact ⟨_,(true),(by first|rfl|(simp;done)|(simp [*];done)),H',⟨by have:=HJ10.out;first|omega|exact ye _⟩,⟨by (with_reducible repeat (first|apply zm|apply zn|apply zo));exact zM HO_6.out (fun _ hk => trivial)⟩,⟨by (with_reducible repeat (first|refine ze ?_ _|refine zf ?_|refine zg ?_ _));exact BK576.out⟩,⟨by repeat (with_reducible first|exact HB.out|apply za|apply zb|apply zc|refine zd ?_ GE576.out)⟩⟩
    case rest =>
     clear HC39
     try clear c1
     try clear c2
     try clear p2
     try clear c3
     try clear c3b0
     try clear c4
     try clear c8
     try clear c14
     try clear c16
     try clear c22
     try clear c29
     try clear c32
     try clear c32b0
     try clear c34
     try clear c35
     try clear c36
     try clear c36b0
     try clear c36b1
     try clear c37
     try clear c38
     try clear c47
     try clear hcz13_0
     try clear hcz13_1
     try clear hcz13_2
     try clear hcz15_0
     try clear hcz15_1
     try clear hcz15_2
     try clear hcz18_0
     try clear hcz18_1
     try clear hcz18_2
     try clear hcz43_0
     try clear hcz43_1
     try clear hcz43_2
     try clear hcz5_0
     try clear hcz5_1
     try clear hcz5_2
     try clear hfz13_0
     try clear hfz13_1
     try clear hfz13_2
     try clear hfz15_0
     try clear hfz15_1
     try clear hfz15_2
     try clear hfz18_0
     try clear hfz18_1
     try clear hfz18_2
     try clear hfz43_0
     try clear hfz43_1
     try clear hfz43_2
     try clear hfz5_0
     try clear hfz5_1
     try clear hfz5_2
     try clear p2
     obtain ⟨kq,x63_38,rfl,HA,HJ38,HO_6,BK576,HB⟩:=hcut;have hl6_38:=(yh HO_6.out).1;rw [hl6_38] at HO_6;(try simp only [hl6_38]);(try simp only [hl6_38] at BK576)
     cases kq with
     | zero => exact absurd HA.out (by simp [laws_FnExactFieldsOf.j1])
     | succ kj38 =>
      have H:=HA.out;clear HA;simp only [laws_FnExactFieldsOf.j1] at H
      by_cases c54 : x63_38=true
      ·
       subst c54
       have H1 : (some false)=some r:=by rw [if_pos rfl] at H;exact H
       clear H;have H:=H1;clear H1;obtain rfl:=zU H
       go_wp2
       go_ret
       exact ⟨by first|rfl|(simp [yt,yu] <;> rfl)|(simp [*,yt,yu] <;> rfl),by repeat (with_reducible first|exact HB.out|apply za|apply zb|apply zc|refine zd ?_ GE576.out)⟩
      replace c54:=yb.mpr c54;subst c54;have H1 : ((laws_heldFieldS.f kj38 t594 1).bind fun t604 => (if t604<0 then (some false) else (if t604=t593 then (some true) else (some false))))=some r:=by rw [if_neg (show ¬ (false=true) by decide)] at H;exact H
      clear H;have H:=H1;clear H1;replace H:=zT.mp H;obtain ⟨t604,A550,H⟩:=H;replace H : (if t604<0 then (some false) else (if t604=t593 then (some true) else (some false)))=some r:=H;have A55:=zh A550;clear A550
      by_cases c56 : t604<0
      ·
       rw [if_pos c56] at H
       have c56b0 : decide (t604<0)=true:=decide_eq_true c56;clear c56;obtain rfl:=zU H
       go_wp2_with (first|((with_reducible refine zJ (f:=38) rfl ?_);refine yj (some 66) rfl rfl Try.func38 (by kernel_rfl) rfl #[.slice Ao40 t594.length co40,.int .i64 1] rfl (by (try simp only [zt,zu,zv]);first|done|rfl|(simp only [zw,zx];rfl)|(simp only [yr,ys,zV,zW];rfl)) ?_;(with_reducible refine (laws_heldFieldS.calls kj38  _ _ t594 1 t604 _ ?side1 ?side2 A55.out).mono ?_);(case side1 => repeat (first|exact (yh HO_6.out).2.2|(with_reducible refine Kd.C_alloc ?_ _)|(with_reducible refine Kd.C_drewN ?_ _)|(with_reducible refine Kd.C_drew ?_)));(case side2 => exact (yh HO_6.out).2.1);rintro e w57 ⟨rfl,hb⟩;refine ⟨_,rfl,?_⟩;replace HO_6:=zh (yg (by (with_reducible repeat (first|apply zm|apply zn|apply zo));exact HO_6.out) hb);replace BK576:=zh (zD (g:=gb576) (o:=.cells #[.int .i64 a0_0,.int .i64 a0_1,.string a0_2] 23 (0,0)) (by (with_reducible repeat (first|refine ze ?_ _|refine zf ?_|refine zg ?_ _));exact BK576.out) hb);replace HB:=zh (zC (by repeat (with_reducible first|exact HB.out|apply za|apply zb|apply zc|refine zd ?_ GE576.out)) hb);(try clear hb);(try clear hb2);(try clear hk);(try clear hi)))
       go_ret
       exact ⟨by first|rfl|(simp [yt,yu] <;> rfl)|(simp [*,yt,yu] <;> rfl),by repeat (with_reducible first|exact HB.out|apply za|apply zb|apply zc|refine zd ?_ GE576.out)⟩
      rw [if_neg c56] at H;have c56b0 : decide (t604<0)=false:=decide_eq_false c56;clear c56
      by_cases c58 : t604=t593
      ·
       rw [if_pos c58] at H
       have c58b0 : (t604 == t593)=true:=ya.mpr c58;have c58b1 : (t604 != t593)=false:=zX.mpr c58;clear c58;obtain rfl:=zU H
       go_wp2_with (first|((with_reducible refine zJ (f:=38) rfl ?_);refine yj (some 66) rfl rfl Try.func38 (by kernel_rfl) rfl #[.slice Ao40 t594.length co40,.int .i64 1] rfl (by (try simp only [zt,zu,zv]);first|done|rfl|(simp only [zw,zx];rfl)|(simp only [yr,ys,zV,zW];rfl)) ?_;(with_reducible refine (laws_heldFieldS.calls kj38  _ _ t594 1 t604 _ ?side1 ?side2 A55.out).mono ?_);(case side1 => repeat (first|exact (yh HO_6.out).2.2|(with_reducible refine Kd.C_alloc ?_ _)|(with_reducible refine Kd.C_drewN ?_ _)|(with_reducible refine Kd.C_drew ?_)));(case side2 => exact (yh HO_6.out).2.1);rintro e w59 ⟨rfl,hb⟩;refine ⟨_,rfl,?_⟩;replace HO_6:=zh (yg (by (with_reducible repeat (first|apply zm|apply zn|apply zo));exact HO_6.out) hb);replace BK576:=zh (zD (g:=gb576) (o:=.cells #[.int .i64 a0_0,.int .i64 a0_1,.string a0_2] 23 (0,0)) (by (with_reducible repeat (first|refine ze ?_ _|refine zf ?_|refine zg ?_ _));exact BK576.out) hb);replace HB:=zh (zC (by repeat (with_reducible first|exact HB.out|apply za|apply zb|apply zc|refine zd ?_ GE576.out)) hb);(try clear hb);(try clear hb2);(try clear hk);(try clear hi)))
       go_ret
       exact ⟨by first|rfl|(simp [yt,yu] <;> rfl)|(simp [*,yt,yu] <;> rfl),by repeat (with_reducible first|exact HB.out|apply za|apply zb|apply zc|refine zd ?_ GE576.out)⟩
      rw [if_neg c58] at H;have c58b0 : (t604 == t593)=false:=zY.mpr c58;have c58b1 : (t604 != t593)=true:=zZ.mpr c58;obtain rfl:=zU H
      go_wp2_with (first|((with_reducible refine zJ (f:=38) rfl ?_);refine yj (some 66) rfl rfl Try.func38 (by kernel_rfl) rfl #[.slice Ao40 t594.length co40,.int .i64 1] rfl (by (try simp only [zt,zu,zv]);first|done|rfl|(simp only [zw,zx];rfl)|(simp only [yr,ys,zV,zW];rfl)) ?_;(with_reducible refine (laws_heldFieldS.calls kj38  _ _ t594 1 t604 _ ?side1 ?side2 A55.out).mono ?_);(case side1 => repeat (first|exact (yh HO_6.out).2.2|(with_reducible refine Kd.C_alloc ?_ _)|(with_reducible refine Kd.C_drewN ?_ _)|(with_reducible refine Kd.C_drew ?_)));(case side2 => exact (yh HO_6.out).2.1);rintro e w60 ⟨rfl,hb⟩;refine ⟨_,rfl,?_⟩;replace HO_6:=zh (yg (by (with_reducible repeat (first|apply zm|apply zn|apply zo));exact HO_6.out) hb);replace BK576:=zh (zD (g:=gb576) (o:=.cells #[.int .i64 a0_0,.int .i64 a0_1,.string a0_2] 23 (0,0)) (by (with_reducible repeat (first|refine ze ?_ _|refine zf ?_|refine zg ?_ _));exact BK576.out) hb);replace HB:=zh (zC (by repeat (with_reducible first|exact HB.out|apply za|apply zb|apply zc|refine zd ?_ GE576.out)) hb);(try clear hb);(try clear hb2);(try clear hk);(try clear hi)))
      go_ret
      exact ⟨by first|rfl|(simp [yt,yu] <;> rfl)|(simp [*,yt,yu] <;> rfl),by repeat (with_reducible first|exact HB.out|apply za|apply zb|apply zc|refine zd ?_ GE576.out)⟩
   rw [if_neg c36] at H;have c36b0 : (t595 == t593)=false:=zY.mpr c36;have c36b1 : (t595 != t593)=true:=zZ.mpr c36;obtain rfl:=zU H;obtain ⟨Ao61,co61,eo61⟩:=yk HO_6.out;subst eo61
   go_wp2_with (first|((with_reducible refine zJ (f:=37) rfl ?_);refine yj (some 40) rfl rfl Try.func37 (by kernel_rfl) rfl #[.slice Ao61 t588.length co61,.int .i64 1] rfl (by (try simp only [zt,zu,zv]);first|done|rfl|(simp only [zw,zx];rfl)|(simp only [yr,ys,zV,zW];rfl)) ?_;(with_reducible refine (laws_markFieldS.calls kj10  (fun k_ => some k_=(.slice Ao61 t588.length co61 : Value).ownBlock) (.slice Ao61 t588.length co61) t588 1 t593 t594 w _ ?side1 ?side2 A30.out).mono ?_);(case side1 => repeat (with_reducible first|exact HB.out|apply za|apply zb|apply zc|refine zd ?_ GE576.out));(case side2 => exact Kd.R_tight rfl HO_6.out);rintro e w62 ⟨rfl,hy0,hb,hkp⟩;refine ⟨_,rfl,?_⟩;replace HO_4:=zh (zM (ok':=fun k_ => some k_≠(.slice Ao61 t588.length co61 : Value).ownBlock) (Kd.R_keptB (HO_4.out) hkp (fun k_ hk_ hs_ => (hk_) hs_)) (fun k_ hk_ => hk_.1));replace BK576:=zh (blk_kept (by (with_reducible repeat (first|refine ze ?_ _|refine zf ?_|refine zg ?_ _));exact BK576.out) hkp (fun hs_ => (fun e_ => (Kd.R_ne HO_6.out BK576.out (by decide)) e_) hs_));replace HO_6:=zh (Kd.R_reok rfl hy0 (fun k_ e_ => HO_6.out.1 k_ e_));replace HB:=zh (hb);(try clear hb);(try clear hkp);(try clear hy0))|((with_reducible refine zJ (f:=38) rfl ?_);refine yj (some 43) rfl rfl Try.func38 (by kernel_rfl) rfl #[.slice Ao61 t594.length co61,.int .i64 1] rfl (by (try simp only [zt,zu,zv]);first|done|(rw [show t594.length=t588.length from (yh HO_6.out).1.symm] <;> rfl)|rfl|(simp only [zw,zx];rfl)|(simp only [yr,ys,zV,zW];rfl)) ?_;(with_reducible refine (laws_heldFieldS.calls kj10  _ _ t594 1 t595 _ ?side1 ?side2 A31.out).mono ?_);(case side1 => repeat (first|exact (yh HO_6.out).2.2|(with_reducible refine Kd.C_alloc ?_ _)|(with_reducible refine Kd.C_drewN ?_ _)|(with_reducible refine Kd.C_drew ?_)));(case side2 => rw [show t594.length=t588.length from (yh HO_6.out).1.symm];exact (yh HO_6.out).2.1);rintro e w63 ⟨rfl,hb⟩;refine ⟨_,rfl,?_⟩;replace HO_4:=zh (yg (by (with_reducible repeat (first|apply zm|apply zn|apply zo));exact HO_4.out) hb);replace HO_6:=zh (yg (by (with_reducible repeat (first|apply zm|apply zn|apply zo));exact HO_6.out) hb);replace BK576:=zh (zD (g:=gb576) (o:=.cells #[.int .i64 a0_0,.int .i64 a0_1,.string a0_2] 23 (0,0)) (by (with_reducible repeat (first|refine ze ?_ _|refine zf ?_|refine zg ?_ _));exact BK576.out) hb);replace HB:=zh (zC (by repeat (with_reducible first|exact HB.out|apply za|apply zb|apply zc|refine zd ?_ GE576.out)) hb);(try clear hb);(try clear hb2);(try clear hk);(try clear hi)))
   go_ret
   exact ⟨by first|rfl|(simp [yt,yu] <;> rfl)|(simp [*,yt,yu] <;> rfl),by repeat (with_reducible first|exact HB.out|apply za|apply zb|apply zc|refine zd ?_ GE576.out)⟩

end Go.Proofs.Ytpmeglcmhiihoaa.Q
end
section
namespace Go.Proofs.YtpmeglcmhiihoaaW.PrintOpen
open Go.RowKit Go.ChangeShapes Go.WideShapes Go.ChangeAt Go.Proofs.YtpmeglcmhiihoaaW.PrintWords
def Opens {α : Type} (P : Program) (d : Kd α) (t : TypeId) (good : α→Prop) : Prop :=
 ∀ (H : Type) (enc : TypeId×Value→H) (w : World) (base : Nat) (spare : Nat→Bool) (held : Bool) (fuel : Nat) (cs : List Value) (x : DataW H×List MemPlace),
  DataW.trod enc P w base spare held fuel t cs=some x → ∃ a,d.K w a cs∧good a
variable {P : Program}
theorem opens_int {t : TypeId} {k : IntKind} (ht : P.underlying t=some (.int k)) : Opens P (Kd.int k) t (fun n => (Lit.int k n).wf=true):=by
 intro H enc w base spare held fuel cs x h;obtain ⟨n,hcs,_,hw⟩:=DataW.trod_int ht h;exact ⟨n,hcs,hw⟩
theorem opens_string {t : TypeId} (ht : P.underlying t=some .string) : Opens P Kd.string t (fun s => s.size≤9223372036854775807):=by
 intro H enc w base spare held fuel cs x h;obtain ⟨s,hcs,_,hs⟩:=DataW.trod_string ht h;exact ⟨s,hcs,by unfold maxLen at hs;exact hs⟩
def OpensF {α : Type} (P : Program) (d : Kd α) (fs : List Field) (off : Nat) (good : α→Prop) : Prop :=
 ∀ (H : Type) (enc : TypeId×Value→H) (w : World) (base : Nat) (spare : Nat→Bool) (held : Bool) (fuel : Nat) (cs : List Value),off + d.sz≤cs.length →
  (∀ f ∈ fs,∃ x,DataW.trod enc P w base spare held fuel f.type ((cs.drop f.offset).take (P.cellsOf f.type))=some x) → ∃ a,d.K w a ((cs.drop off).take d.sz)∧good a
theorem opensF_one {α : Type} {d : Kd α} {f : Field} {off : Nat} {g : α→Prop} (ho : f.offset=off) (hc : P.cellsOf f.type=d.sz) (h : Opens P d f.type g) : OpensF P d [f] off g:=by
 intro H enc w base spare held fuel cs _ hf;obtain ⟨x,hx⟩:=hf f (by simp);obtain ⟨a,hk,hg⟩:=h H enc w base spare held fuel _ x hx;rw [ho,hc] at hk;exact ⟨a,hk,hg⟩
theorem opensF_cons {α β : Type} {d : Kd α} {d' : Kd β} {f : Field} {fs : List Field} {off : Nat} {g : α→Prop} {g' : β→Prop} (ho : f.offset=off) (hc : P.cellsOf f.type=d.sz) (h : Opens P d f.type g) (h' : OpensF P d' fs (off + d.sz) g') :
  OpensF P (Kd.pair d d') (f :: fs) off (fun x => g x.1∧g' x.2):=by
 intro H enc w base spare held fuel cs hl hf;obtain ⟨x,hx⟩:=hf f (by simp);obtain ⟨a,hk,hg⟩:=h H enc w base spare held fuel _ x hx;have hl2 : off + (d.sz + d'.sz)≤cs.length:=hl;obtain ⟨b,hk',hg'⟩:=h' H enc w base spare held fuel cs (by omega) (fun f' hf' => hf f' (by simp [hf']));rw [ho,hc] at hk;refine ⟨(a,b),⟨_,_,?_,hk,hk'⟩,hg,hg'⟩;show (cs.drop off).take (d.sz + d'.sz)=_;rw [List.take_add,List.drop_drop]
theorem opens_struct {α β : Type} {t : TypeId} {fs : Array Field} {d : Kd α} {g : α→Prop} {f : β→α} (f' : α→β) (hf : ∀ a,f (f' a)=a) (ht : P.underlying t=some (.struct fs)) (hc : P.cellsOf t=d.sz) (h : OpensF P d fs.toList 0 g) :
  Opens P (Kd.iso d f) t (fun b => g (f b)):=by
 intro H enc w base spare held fuel cs x hx;obtain ⟨xs,n,_,_,hl,hlen,hxs⟩:=DataW.trod_struct ht hx
 obtain ⟨a,hk,hg⟩:=h H enc w base spare held n cs (by omega) (fun y hy => by
  obtain ⟨i,hi⟩:=List.mem_iff_getElem?.1 hy;have:=hxs i y (by simpa using hi)
  have hlt : i<xs.length:=by
   have:=(List.getElem?_eq_some_iff.1 hi).1;rw [hlen]
   simpa using this
  rw [List.getElem?_eq_getElem hlt] at this
  exact ⟨_,this⟩)
 rw [List.drop_zero,show d.sz=cs.length by omega,List.take_length] at hk;exact ⟨f' a,by show d.K w (f (f' a)) cs;rw [hf];exact hk,by show g (f (f' a));rw [hf];exact hg⟩
theorem arg_struct {α : Type} {d : Kd α} {t : TypeId} {fs : Array Field} {g : α→Prop} {H : Type} {enc : TypeId×Value→H} {w : World} {base b0 : Nat} {spare : Nat→Bool} {held : Bool} {r : Reach} {v : Value} {dd : DataW H} {p : List MemPlace}
  (ht : P.underlying t=some (.struct fs)) (h : Opens P d t g) (hv : Value.okWide P w r b0 t v) (hd : DataW.Trod enc P w base spare held t v dd p) : ∃ (a : α) (cs : List Value),v = .agg ⟨cs⟩∧d.K w a cs∧g a:=by
 obtain ⟨cs,rfl,_⟩:=okWide_struct ht hv;obtain ⟨fuel,hf⟩:=hd;obtain ⟨a,hk,hg⟩:=h H enc w base spare held fuel _ _ hf;exact ⟨a,cs.toList,rfl,hk,hg⟩
end Go.Proofs.YtpmeglcmhiihoaaW.PrintOpen
end
section
namespace Go.Proofs.Ytpmeglcmhiihoaa.Q
open Go.RowKit Go.Proofs.YtpmeglcmhiihoaaW.PrintWords Go.Proofs.YtpmeglcmhiihoaaW.PrintLast Go.Proofs.YtpmeglcmhiihoaaW.PrintMore Go.Proofs.YtpmeglcmhiihoaaW.PrintOpen
def good23 (x_ : S23) : Prop:=((Lit.int .i64 x_.f0).wf=true)∧(((Lit.int .i64 x_.f1).wf=true)∧((x_.f2.size≤9223372036854775807)))
theorem opens23 : Opens Try.prog k23 23 good23 :=
 opens_struct (f:=(fun x : S23 => (x.f0,x.f1,x.f2))) (fun ⟨x0,x1,x2⟩ => ⟨x0,x1,x2⟩) (fun _ => rfl) Try.underlying23 (by kernel_rfl) (opensF_cons rfl (by kernel_rfl) (opens_int Try.underlying3) (opensF_cons rfl (by kernel_rfl) (opens_int Try.underlying3) (opensF_one rfl (by kernel_rfl) (opens_string Try.underlying9))))
end Go.Proofs.Ytpmeglcmhiihoaa.Q
end
section
namespace Go.Proofs.Ytpmeglcmhiihoaa.Q
def laws_FnExactFieldsOf.Pure : Prop:=∀ (x0 : S23),(good23 x0) → ∃ k,laws_FnExactFieldsOf.f k x0.f0 x0.f1 x0.f2=some true
end Go.Proofs.Ytpmeglcmhiihoaa.Q
end
section
namespace Go.Proofs.YtpmeglcmhiihoaaW.Pl
open Go Go.RowKit Go.Proofs.YtpmeglcmhiihoaaW.PrintWords Go.Proofs.YtpmeglcmhiihoaaW.PrintMore
theorem w64 {i : Int} (h0 : -9223372036854775808≤i) (h1 : i≤9223372036854775807) : wrap64 i=i:=by unfold wrap64;omega
theorem fuel {k d : Nat} (h : d<k) : ∃ m,k=m + 1∧d≤m:=⟨k - 1,by omega,by omega⟩
theorem rd_at (xs : List Int) (i : Nat) (h : i<xs.length) : rd xs (i : Int)=xs[i]:=by
 unfold rd;simp [List.getD,h]
theorem getD_at {α : Type} (d : α) (xs : List α) (i : Nat) (h : i<xs.length) : xs.getD (i : Int).toNat d=xs[i]:=by
 simp [List.getD,h]
theorem drop_at {α : Type} (xs : List α) (i : Nat) (h : i<xs.length) : xs.drop i=xs[i] :: xs.drop (i + 1):=List.drop_eq_getElem_cons h
theorem ba_toList (a : ByteArray) : a.toList=a.data.toList:=ByteArray.toList_eq a
theorem ba_ext {a b : ByteArray} (h : a.toList=b.toList) : a=b:=by
 rw [ba_toList,ba_toList] at h
 cases a;cases b
 simp at h;rw [h]
def all2 {α β : Type} (e : α→β→Bool) : List α→List β→Bool
 | [],_ => true
 | _ :: _,[] => true
 | x :: xs,y :: ys => e x y && all2 e xs ys
def first {α : Type} (p : α→Bool) : List α→Nat→Int
 | [],_ => -1
 | x :: xs,i => if p x=true then i else first p xs (i + 1)
theorem first_any {α : Type} (p : α→Bool) : ∀ (xs : List α) (i : Nat),decide (first p xs i ≥ 0)=xs.any p
 | [],i => rfl
 | x :: xs,i => by
  by_cases h : p x=true
  ·
   simp [first,h]
  simp only [first,if_neg h,List.any_cons,first_any p xs (i + 1)];simp [h]
theorem first_loop {α : Type} (g : Nat→Int→Option Int) (xs : List α) (p : α→Bool)
  (hstep : ∀ (k i : Nat) (h : i<xs.length),g (k + 1) (i : Int)=if p xs[i]=true then some (i : Int) else g k ((i + 1 : Nat) : Int))
  (hend : ∀ k,g (k + 1) (xs.length : Int)=some (-1)) : ∀ (d k i : Nat),i + d=xs.length→d<k→g k (i : Int)=some (first p (xs.drop i) i):=by
 intro d
 induction d with
 | zero =>
  intro k i hi hk;obtain ⟨k,rfl,_⟩:=fuel hk;obtain rfl : i=xs.length:=by omega
  rw [hend,List.drop_length];rfl
 | succ d ih =>
  intro k i hi hk;obtain ⟨k,rfl,_⟩:=fuel hk;have hlt : i<xs.length:=by omega
  rw [hstep k i hlt,drop_at xs i hlt]
  by_cases h : p xs[i]=true
  ·
   rw [if_pos h]
   simp [first,h]
  rw [if_neg h,ih k (i + 1) (by omega) (by omega)];simp [first,h]
def total {α : Type} (s : α→Nat) : List α→Nat
 | [] => 0
 | x :: xs => s x + total s xs
def less {α : Type} (s : α→Nat) : List α→Int→Int
 | [],l => l
 | x :: xs,l => if l - s x<0 then -1 else less s xs (l - s x)
def Eve {α : Type} (g : Nat→Option α) (v : α) : Prop:=∃ K,∀ k,K≤k→g k=some v
theorem Eve.one {α : Type} {v : α} : Eve (fun _ => some v) v:=⟨0,fun _ _ => rfl⟩
theorem Eve.all {α : Type} {g : Nat→Option α} {v : α} (h : ∀ k,g k=some v) : Eve g v:=⟨0,fun k _ => h k⟩
theorem Eve.of {α : Type} {g : Nat→Option α} {v : α} {n : Nat} (h : ∀ k,n<k→g k=some v) : Eve g v:=⟨n + 1,fun k hk => h k (by omega)⟩
theorem Eve.succ {α : Type} {g : Nat→Option α} {v : α} (h : Eve (fun k => g (k + 1)) v) : Eve g v:=by
 obtain ⟨K,h⟩:=h;refine ⟨K + 1,fun k hk => ?_⟩;obtain ⟨k,rfl⟩ : ∃ m,k=m + 1:=⟨k - 1,by omega⟩;exact h k (by omega)
theorem Eve.bind {α β : Type} {g : Nat→Option α} {f : Nat→α→Option β} {v : α} {u : β} (h : Eve g v) (h2 : Eve (fun k => f k v) u) : Eve (fun k => (g k).bind (f k)) u:=by
 obtain ⟨K,h⟩:=h;obtain ⟨K2,h2⟩:=h2;refine ⟨max K K2,fun k hk => ?_⟩;show (g k).bind (f k)=some u;rw [h k (by omega),Option.bind_some];exact h2 k (by omega)
theorem Eve.ite {α : Type} {c : Prop} [Decidable c] {a b : Nat→Option α} {v : α} (h1 : c→Eve a v) (h2 : ¬ c→Eve b v) : Eve (fun k => if c then a k else b k) v:=by
 by_cases h : c
 ·
  simp only [if_pos h];exact h1 h
 simp only [if_neg h];exact h2 h
theorem Eve.get {α : Type} {g : Nat→Option α} {v : α} (h : Eve g v) : ∃ k,g k=some v:=by
 obtain ⟨K,h⟩:=h;exact ⟨K,h K (by omega)⟩
theorem Eve.eq {α : Type} {g : Nat→Option α} {v u : α} (h : Eve g v) (e : v=u) : Eve g u:=e ▸ h
theorem Eve.congr {α : Type} {g f : Nat→Option α} {v : α} (h : Eve g v) (e : ∀ k,f k=g k) : Eve f v:=by
 obtain ⟨K,h⟩:=h;exact ⟨K,fun k hk => by rw [e,h k hk]⟩
theorem ev_loop {σ α β : Type} (xs : List α) (g : Nat→σ→Int→Option β) (R : Nat→σ→List α→β) (I : Nat→σ→Prop)
  (hend : ∀ s,I xs.length s→Eve (fun k => g (k + 1) s (xs.length : Int)) (R xs.length s []))
  (hstep : ∀ (i : Nat) (h : i<xs.length) (s : σ),I i s→(∀ s',I (i + 1) s' → Eve (fun k => g k s' ((i + 1 : Nat) : Int)) (R (i + 1) s' (xs.drop (i + 1)))) →
   Eve (fun k => g (k + 1) s (i : Int)) (R i s (xs[i] :: xs.drop (i + 1)))) :
  ∀ (d i : Nat) (s : σ),i + d=xs.length→I i s→Eve (fun k => g k s (i : Int)) (R i s (xs.drop i)):=by
 intro d
 induction d with
 | zero =>
  intro i s hi hI;obtain rfl : i=xs.length:=by omega
  rw [List.drop_length];exact Eve.succ (hend s hI)
 | succ d ih =>
  intro i s hi hI;have hlt : i<xs.length:=by omega
  rw [drop_at xs i hlt];exact Eve.succ (hstep i hlt s hI (fun s' h' => ih (i + 1) s' (by omega) h'))
theorem ev_loop0 {σ α β : Type} (xs : List α) (g : Nat→σ→Int→Option β) (R : Nat→σ→List α→β) (I : Nat→σ→Prop)
  (hend : ∀ s,I xs.length s→Eve (fun k => g (k + 1) s (xs.length : Int)) (R xs.length s []))
  (hstep : ∀ (i : Nat) (h : i<xs.length) (s : σ),I i s→(∀ s',I (i + 1) s' → Eve (fun k => g k s' ((i + 1 : Nat) : Int)) (R (i + 1) s' (xs.drop (i + 1)))) →
   Eve (fun k => g (k + 1) s (i : Int)) (R i s (xs[i] :: xs.drop (i + 1)))) (s : σ) (h0 : I 0 s) : Eve (fun k => g k s 0) (R 0 s xs):=by
 have:=ev_loop xs g R I hend hstep xs.length 0 s (by omega) h0
 simpa using this
theorem ev_all {α : Type} (xs : List α) (g : Nat→Int→Option Bool) (q : α→Bool)
  (hend : Eve (fun k => g (k + 1) (xs.length : Int)) true)
  (hstep : ∀ (i : Nat) (h : i<xs.length) (v : Bool),Eve (fun k => g k ((i + 1 : Nat) : Int)) v→Eve (fun k => g (k + 1) (i : Int)) (q xs[i] && v)) : Eve (fun k => g k 0) (xs.all q) :=
 ev_loop0 xs (fun k (_ : Unit) i => g k i) (fun _ _ r => r.all q) (fun _ _ => True) (fun _ _ => hend) (fun i hi s _ ih => by
  rw [List.all_cons];exact hstep i hi _ (ih () trivial)) () trivial
end Go.Proofs.YtpmeglcmhiihoaaW.Pl
end
section
namespace Go.Proofs.Ytpmeglcmhiihoaa.Pure
open Go Go.RowKit Go.Proofs.Ytpmeglcmhiihoaa.Q Go.Proofs.YtpmeglcmhiihoaaW.PrintWords Go.Proofs.YtpmeglcmhiihoaaW.PrintLast Go.Proofs.YtpmeglcmhiihoaaW.PrintMore Go.Proofs.YtpmeglcmhiihoaaW.Pl
theorem wi {i : Nat} (h : i≤9223372036854775806) : wrap64 ((i : Int) + 1)=((i + 1 : Nat) : Int):=w64 (by omega) (by omega)
theorem w64m (y : Int) : wrap64 y=(y + 9223372036854775808) % 18446744073709551616 - 9223372036854775808:=by unfold wrap64;omega
def stp (x b : Int) : Int:=wrap64 (wrap64 (x * 256) + wrap64 b)
theorem or_byte (x b : Int) (h0 : 0≤b) (h1 : b≤255) : Go.bits .or .i64 (wrap64 (x * 256)) (wrap64 b)=stp x b:=by
 have e1 : (BitVec.ofInt 64 (wrap64 (x * 256))).toNat=2 ^ 8 * (x % 72057594037927936).toNat:=by
  rw [BitVec.toNat_ofInt,w64m];omega
 have e2 : (BitVec.ofInt 64 (wrap64 b)).toNat=b.toNat:=by
  rw [BitVec.toNat_ofInt,w64m];omega
 have e3 : (BitVec.ofInt 64 (wrap64 (x * 256)) ||| BitVec.ofInt 64 (wrap64 b)).toNat=2 ^ 8 * (x % 72057594037927936).toNat + b.toNat:=by
  rw [BitVec.toNat_or,e1,e2,Nat.two_pow_add_eq_or_of_lt (by omega)]
 show IntKind.wrap .i64 ((BitVec.ofInt 64 (wrap64 (x * 256)) ||| BitVec.ofInt 64 (wrap64 b)).toNat : Int)=_;rw [e3,i64_w];unfold stp;rw [w64m,w64m,w64m,w64m]
 omega
def bigV (l : List Int) : Int:=l.foldl stp 0
theorem bytes_in (a : ByteArray) : ∀ b ∈ bytesOf a,0≤b∧b≤255:=by
 intro b hb;obtain ⟨c,_,rfl⟩:=List.mem_map.1 hb;have:=c.toNat_lt
 omega
theorem bt_get (a : ByteArray) (i : Nat) (h : i<(bytesOf a).length) : bt a (i : Int)=(bytesOf a)[i]:=by
 rw [← rd_bytesOf,rd_at _ _ h]
theorem big_tells (l : List Int) (hl : l.length≤1048576) (hb : ∀ b ∈ l,0≤b∧b≤255) : Eve (fun k => impl_big.f k l) (bigV l):=by
 simp only [impl_big.f];refine ev_loop0 l (fun k (s : Int) i => impl_big.l0 k s l (l.length : Int) i) (fun _ s r => r.foldl stp s) (fun _ _ => True) (fun s _ => ?_) (fun i hi s _ ih => ?_) 0 trivial
 ·
  simp only [impl_big.l0]
  exact Eve.ite (fun h => absurd h (by omega)) (fun _ => Eve.one)
 have hx:=hb l[i] (List.getElem_mem hi);simp only [impl_big.l0];refine Eve.ite (fun _ => ?_) (fun h => absurd (by omega) h);refine Eve.ite (fun _ => ?_) (fun h => absurd (by omega) h);refine Eve.ite (fun _ => ?_) (fun h => absurd (by omega) h);simp only [rd_at _ _ hi,or_byte _ _ hx.1 hx.2,wi (show i≤9223372036854775806 by omega)];exact ih _ trivial
theorem of_tells (a : ByteArray) (hl : a.size≤1048576) : Eve (fun k => spec_l01Of.f k a) (bigV (bytesOf a)):=by
 have hn : (bytesOf a).length=a.size:=bytesOf_length a;simp only [spec_l01Of.f];refine ev_loop0 (bytesOf a) (fun k (s : Int) i => spec_l01Of.l0 k a s i) (fun _ s r => r.foldl stp s) (fun _ _ => True) (fun s _ => ?_) (fun i hi s _ ih => ?_) 0 trivial
 ·
  simp only [spec_l01Of.l0]
  exact Eve.ite (fun h => absurd h (by omega)) (fun _ => Eve.one)
 simp only [spec_l01Of.l0];refine Eve.ite (fun _ => ?_) (fun h => absurd (by omega) h);refine Eve.ite (fun _ => ?_) (fun h => absurd (by omega) h);simp only [bt_get a i hi,wi (show i≤9223372036854775806 by omega)];exact ih _ trivial
def zer (n : Nat) : ByteArray:=⟨(Lib.repeatL [0] n).toArray⟩
def takV (a : ByteArray) (f : Bool) (n : Nat) : ByteArray×ByteArray×Bool:=if a.size<n then (zer n,a,true) else (a.extract 0 n,a.extract n a.size,f)
def numV (a : ByteArray) (f : Bool) (n : Nat) : Int×ByteArray×Bool:=if a.size<n then (0,a,true) else (bigV (bytesOf (a.extract 0 n)),a.extract n a.size,f)
theorem take_tells (a : ByteArray) (f : Bool) (n : Nat) (hn : n≤65535) : impl_byteReader_take.f a f (n : Int)=some (takV a f n):=by
 unfold impl_byteReader_take.f takV
 by_cases h : a.size<n
 ·
  rw [if_pos (by omega),if_pos h]
  unfold strings_Repeat.f;rw [if_pos (by omega),if_pos (by rw [show (⟨#[0]⟩ : ByteArray).size=1 from rfl];omega),if_pos (by omega)]
  rfl
 rw [if_neg (by omega),if_pos (by omega),if_pos (by omega),if_neg h]
 rfl
theorem zer_size (n : Nat) : (zer n).size=n:=by
 show (Lib.repeatL [0] n).toArray.size=n;rw [List.size_toArray,Lib.repeatL_length];simp
theorem fold_zero : ∀ n : Nat,((Lib.repeatL [0] n).map fun b : UInt8 => (b.toNat : Int)).foldl stp 0=0
 | 0 => rfl
 | n + 1 => by
  have e : stp 0 0=0:=by unfold stp;rw [w64m,w64m,w64m];omega
  simp only [Lib.repeatL,List.cons_append,List.nil_append,List.map_cons,List.foldl_cons];rw [show ((0 : UInt8).toNat : Int)=0 from rfl,e];exact fold_zero n
theorem big_zer (n : Nat) : bigV (bytesOf (zer n))=0:=by
 unfold bigV bytesOf zer;exact fold_zero n
theorem num_tells (a : ByteArray) (f : Bool) (n : Nat) (hn : n≤65535) : Eve (fun k => impl_byteReader_num.f k a f (n : Int)) (numV a f n):=by
 simp only [impl_byteReader_num.f,take_tells a f n hn,Option.bind_some];unfold takV numV
 by_cases h : a.size<n
 ·
  simp only [if_pos h]
  have hz:=zer_size n;refine Eve.ite (fun _ => ?_) (fun h => absurd (by omega) h);refine Eve.bind (big_tells _ (by rw [bytesOf_length,hz];omega) (bytes_in _)) ?_;rw [big_zer];exact Eve.one
 simp only [if_neg h];have hz : (a.extract 0 n).size≤n:=by rw [ByteArray.size_extract];omega
 refine Eve.ite (fun _ => ?_) (fun h => absurd (by omega) h);exact Eve.bind (big_tells _ (by rw [bytesOf_length];omega) (bytes_in _)) Eve.one
theorem big1 (x : Int) (h : 0≤x∧x≤255) : bigV [x]=x:=by
 simp only [bigV,List.foldl_cons,List.foldl_nil,stp];rw [w64m,w64m,w64m];omega
theorem big2 (x y : Int) (h : 0≤x∧x≤255) (h2 : 0≤y∧y≤255) : 0≤bigV [x,y]∧bigV [x,y]≤65535:=by
 simp only [bigV,List.foldl_cons,List.foldl_nil,stp];simp only [w64m];omega
theorem len1 {l : List Int} (h : l.length=1) : ∃ x,l=[x]:=by
 match l,h with
 | [x],_ => exact ⟨x,rfl⟩
theorem len2 {l : List Int} (h : l.length=2) : ∃ x y,l=[x,y]:=by
 match l,h with
 | [x,y],_ => exact ⟨x,y,rfl⟩
theorem bytes_ext1 (a : ByteArray) (i : Nat) (h : i<a.size) : bigV (bytesOf (a.extract i (i + 1)))=bt a (i : Int):=by
 have hl : (bytesOf (a.extract i (i + 1))).length=1:=by rw [bytesOf_length,ByteArray.size_extract];omega
 obtain ⟨x,hx⟩:=len1 hl;have h2:=bytes_in (a.extract i (i + 1)) x (by rw [hx];simp);have h3:=bt_get (a.extract i (i + 1)) 0 (by omega);rw [hx,big1 x h2];simp only [hx,List.getElem_cons_zero] at h3;rw [← h3];unfold bt;have e0 : (((0 : Nat) : Int)).toNat=0:=rfl;have e1 : ((i : Int)).toNat=i:=Int.toNat_natCast i;simp only [e0,e1];rw [dif_pos (by rw [ByteArray.size_extract];omega),dif_pos h]
 congr 2
 rw [ByteArray.getElem_extract];simp
theorem bytes_ext2 (a : ByteArray) (i : Nat) (h : i + 2≤a.size) : 0≤bigV (bytesOf (a.extract i (i + 2)))∧bigV (bytesOf (a.extract i (i + 2)))≤65535:=by
 have hl : (bytesOf (a.extract i (i + 2))).length=2:=by rw [bytesOf_length,ByteArray.size_extract];omega
 obtain ⟨x,y,hx⟩:=len2 hl;have hb:=bytes_in (a.extract i (i + 2));rw [hx] at hb ⊢;exact big2 x y (hb x (by simp)) (hb y (by simp))
end Go.Proofs.Ytpmeglcmhiihoaa.Pure
end

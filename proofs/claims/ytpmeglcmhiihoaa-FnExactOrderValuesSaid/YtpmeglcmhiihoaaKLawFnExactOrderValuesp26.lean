/- Texts of this claim, merged by a program of this session. -/
import Derived.Test.YtpmeglcmhiihoaaKLawFnExactOrderValuesp22
import Derived.Test.YtpmeglcmhiihoaaKLawFnExactOrderValuesp24
import Derived.Test.YtpmeglcmhiihoaaKLawFnExactOrderValuesp25
section
namespace Go.Proofs.Ytpmeglcmhiihoaa.Q
open Go.RowKit Go.Proofs.YtpmeglcmhiihoaaW.PrintWords Go.Proofs.YtpmeglcmhiihoaaW.PrintLast Go.Proofs.YtpmeglcmhiihoaaW.PrintMore
attribute [local go_sem] max2_int min2_int max_two min_two max_three min_three max_four min_four max2_str min2_str str_geq str_gtr str_leq   -- for this text's walks alone
set_option linter.unusedVariables false
set_option linter.unusedSimpArgs false

attribute [local go_sem high] eqA26
mutual
def impl_isRight.j0 : Nat→Bool→Int→Int→ByteArray→Int→Option (Bool)
 | 0,_,_,_,_,_ => none
 | k + 1,x45,x270000,x270001,x270002,x271000 => if x45=true then ((impl_inner.f k x270000 x270001 x270002).bind fun bt273 => (if x270001=0 then (if (x270002.size : Int)≤300 then (if x271000 > 0 then (if bt273.2=true then ((impl_Value_at_isRight_1.f k (impl_isRight.f k) bt273.1 x271000).bind fun t277 => (some (!t277))) else (some false)) else (some false)) else (some false)) else (some false))) else (some false)
def impl_isRight.f : Nat→Int→Int→ByteArray→Int→Option (Bool)
 | 0,_,_,_,_ => none
 | k + 1,a0_0,a0_1,a0_2,a1 => if a0_0=0 then (some (a0_0 == 0 && (a0_1 == 0 && (a0_2.toList == ([] : List UInt8))))) else (if a0_0=1 then ((impl_inRange.f a0_1 0 1).bind fun t271 => (if t271=true then (some (a0_2.toList == ([] : List UInt8))) else (some false))) else (if a0_0=2 then ((impl_isNumber.f a0_1).bind fun t272 => (if t272=true then (some (a0_2.toList == ([] : List UInt8))) else (some false))) else (if a0_0=3 then (if a0_1=0 then (some (decide ((a0_2.size : Int)≤300))) else (some false)) else (if a0_0=4 then (impl_isRight.j0 k (a0_0 == 4) a0_0 a0_1 a0_2 a1) else (impl_isRight.j0 k (a0_0 == 5) a0_0 a0_1 a0_2 a1)))))
end
theorem impl_isRight.mono_l : ∀ k,(∀ y0 y1 y2 y3,LeO (impl_isRight.f k y0 y1 y2 y3) (impl_isRight.f (k + 1) y0 y1 y2 y3))∧(∀ y0 y1 y2 y3 y4,LeO (impl_isRight.j0 k y0 y1 y2 y3 y4) (impl_isRight.j0 (k + 1) y0 y1 y2 y3 y4))
 | 0 => ⟨fun _ _ _ _ r h => by simp [impl_isRight.f] at h,fun _ _ _ _ _ r h => by simp [impl_isRight.j0] at h⟩
 | k + 1 => by
  obtain ⟨ih0,ih1⟩:=impl_isRight.mono_l k;refine ⟨?_,?_⟩
  ·
   intro y0 y1 y2 y3
   unfold impl_isRight.f
   repeat' first|(with_reducible exact ih0 _ _ _ _)|(with_reducible exact ih1 _ _ _ _ _)|(with_reducible exact impl_inner.mono _ _ _ _)|(with_reducible exact impl_Value_at_isRight_1.mono _ _ ih0 _ _ _)|(with_reducible exact zQ _)|(with_reducible exact zN _)|(with_reducible refine zP ?_ ?_)|(with_reducible refine zO ?_ (fun _ => ?_))|refine zP ?_ ?_|refine zO ?_ (fun _ => ?_)
  intro y0 y1 y2 y3 y4;unfold impl_isRight.j0
  repeat' first|(with_reducible exact ih0 _ _ _ _)|(with_reducible exact ih1 _ _ _ _ _)|(with_reducible exact impl_inner.mono _ _ _ _)|(with_reducible exact impl_Value_at_isRight_1.mono _ _ ih0 _ _ _)|(with_reducible exact zQ _)|(with_reducible exact zN _)|(with_reducible refine zP ?_ ?_)|(with_reducible refine zO ?_ (fun _ => ?_))|refine zP ?_ ?_|refine zO ?_ (fun _ => ?_)
theorem impl_isRight.mono : ∀ a0 a1 a2 a3 k,LeO (impl_isRight.f k a0 a1 a2 a3) (impl_isRight.f (k + 1) a0 a1 a2 a3):=by
 intro a0 a1 a2 a3 k;obtain ⟨ih0,ih1⟩:=impl_isRight.mono_l k;exact ih0 a0 a1 a2 a3
set_option maxHeartbeats 8000000 in
set_option maxRecDepth 100000 in
theorem impl_isRight.calls (k : Nat) : ∀ (a0_0 : Int) (a0_1 : Int) (a0_2 : ByteArray) (a1 : Int) (r : Bool) (w : World) (h : impl_isRight.f k a0_0 a0_1 a0_2 a1=some r),
  Calls Try.prog 54 #[.agg #[.int .i64 a0_0,.int .i64 a0_1,.string a0_2],.int .i64 a1] w fun e w' => e = .returned (.bool r)∧Below w.heap.size w w':=by
 induction k using Nat.strongRecOn with
 | _ k ih =>
 intro a0_0 a0_1 a0_2 a1 r w h
 cases k with
 | zero => exact absurd h (by simp [impl_isRight.f])
 | succ k =>
 simp only [impl_isRight.f] at h;have hu26:=Try.underlying26;have HB:=zh (Below.refl w.heap.size w);have H : (if a0_0=0 then (some (a0_0 == 0 && (a0_1 == 0 && (a0_2.toList == ([] : List UInt8))))) else (if a0_0=1 then ((impl_inRange.f a0_1 0 1).bind fun t271 => (if t271=true then (some (a0_2.toList == ([] : List UInt8))) else (some false))) else (if a0_0=2 then ((impl_isNumber.f a0_1).bind fun t272 => (if t272=true then (some (a0_2.toList == ([] : List UInt8))) else (some false))) else (if a0_0=3 then (if a0_1=0 then (some (decide ((a0_2.size : Int)≤300))) else (some false)) else (if a0_0=4 then (impl_isRight.j0 k (a0_0 == 4) a0_0 a0_1 a0_2 a1) else (impl_isRight.j0 k (a0_0 == 5) a0_0 a0_1 a0_2 a1))))))=some r:=h;clear h
 by_cases c3 : a0_0=0
 ·
  rw [if_pos c3] at H
  have c3b0 : (a0_0 == 0)=true:=ya.mpr c3;have c3b1 : (a0_0 != 0)=false:=zX.mpr c3;clear c3;obtain rfl:=zU H
  go_enter Try.func54,Try.ntmps54
  go_wp2_with (first|((with_reducible refine zK (N:=2) rfl ?_);(try (refine yz (by rfl) ?_;dsimp only));refine zI ?hg (N:=2) ?hd (cs:=#[.int .i64 a0_0,.int .i64 a0_1,.string a0_2]) (t:=26) ?hr ?_;(case hd => rfl);(case hg => rfl);(case hr => first|(go_simp;done)|(go_simp;rfl));intro gb269 hg w4 hbox hb;have BK269:=zh (hbox);have GW269:=zh ((by rw [hg];exact (zB (by repeat (with_reducible first|exact HB.out|apply za|apply zb|apply zc))) : w.heap.size≤gb269));have GE269:=zh ((by rw [hg];exact (zB (by repeat (with_reducible first|exact HB.out|apply za|apply zb|apply zc))) : w.heap.size≤gb269));replace HB:=zh (zC (by repeat (with_reducible first|exact HB.out|apply za|apply zb|apply zc)) hb);clear hb hbox hg)|((with_reducible refine zK (N:=3) rfl ?_);(try (refine yz (by rfl) ?_;dsimp only));refine zI ?hg (N:=3) ?hd (cs:=#[.int .i64 a1]) (t:=3) ?hr ?_;(case hd => rfl);(case hg => rfl);(case hr => first|(go_simp;done)|(go_simp;rfl));intro gb270 hg w5 hbox hb;have BK270:=zh (hbox);have GW270:=zh ((by rw [hg];exact (zB (by repeat (with_reducible first|exact HB.out|apply za|apply zb|apply zc|refine zd ?_ GE269.out))) : w.heap.size≤gb270));have GE270:=zh ((by rw [hg];exact (zB (by repeat (with_reducible first|exact HB.out|apply za|apply zb|apply zc|refine zd ?_ GE269.out))) : w.heap.size≤gb270));replace HB:=zh (zC (by repeat (with_reducible first|exact HB.out|apply za|apply zb|apply zc|refine zd ?_ GE269.out)) hb);have NB269_270:=zh ((by rw [hg];exact yc (yi (g:=gb269) (o:=.cells #[.int .i64 a0_0,.int .i64 a0_1,.string a0_2] 26 (0,0)) (by (with_reducible repeat (first|refine ze ?_ _|refine zf ?_|refine zg ?_ _));exact BK269.out)) : gb269≠gb270));have NB270_269:=zh ((by rw [hg];exact yd (yi (g:=gb269) (o:=.cells #[.int .i64 a0_0,.int .i64 a0_1,.string a0_2] 26 (0,0)) (by (with_reducible repeat (first|refine ze ?_ _|refine zf ?_|refine zg ?_ _));exact BK269.out)) : gb270≠gb269));replace BK269:=zh (zD (g:=gb269) (o:=.cells #[.int .i64 a0_0,.int .i64 a0_1,.string a0_2] 26 (0,0)) (by (with_reducible repeat (first|refine ze ?_ _|refine zf ?_|refine zg ?_ _));exact BK269.out) hb);clear hb hbox hg;have hnb6:=NB269_270.out;have hnc6:=NB270_269.out;have hcz7_0 : w5.cell? ⟨gb269,0,none⟩=some (.int .i64 a0_0):=(zz BK269.out 0).trans rfl;have hcz7_1 : w5.cell? ⟨gb269,1,none⟩=some (.int .i64 a0_1):=(zz BK269.out 1).trans rfl;have hcz7_2 : w5.cell? ⟨gb269,2,none⟩=some (.string a0_2):=(zz BK269.out 2).trans rfl;have hfz7_0:=zA BK269.out 0;have hfz7_1:=zA BK269.out 1;have hfz7_2:=zA BK269.out 2))
  go_ret
  exact ⟨by first|rfl|(simp [yt,yu] <;> rfl)|(simp [*,yt,yu] <;> rfl),by repeat (with_reducible first|exact HB.out|apply za|apply zb|apply zc|refine zd ?_ GE269.out|refine zd ?_ GE270.out)⟩
 rw [if_neg c3] at H;have c3b0 : (a0_0 == 0)=false:=zY.mpr c3;have c3b1 : (a0_0 != 0)=true:=zZ.mpr c3
 by_cases c8 : a0_0=1
 ·
  rw [if_pos c8] at H
  have c8b0 : (a0_0 == 1)=true:=ya.mpr c8;have c8b1 : (a0_0 != 1)=false:=zX.mpr c8;clear c8;replace H:=zT.mp H;obtain ⟨t271,A90,H⟩:=H;replace H : (if t271=true then (some (a0_2.toList == ([] : List UInt8))) else (some false))=some r:=H;have A9:=zh A90;clear A90
  by_cases c10 : t271=true
  ·
   subst c10
   have H1 : (some (a0_2.toList == ([] : List UInt8)))=some r:=by rw [if_pos rfl] at H;exact H
   clear H;have H:=H1;clear H1;obtain rfl:=zU H
   go_enter Try.func54,Try.ntmps54
   go_wp2_with (first|((with_reducible refine zK (N:=2) rfl ?_);(try (refine yz (by rfl) ?_;dsimp only));refine zI ?hg (N:=2) ?hd (cs:=#[.int .i64 a0_0,.int .i64 a0_1,.string a0_2]) (t:=26) ?hr ?_;(case hd => rfl);(case hg => rfl);(case hr => first|(go_simp;done)|(go_simp;rfl));intro gb269 hg w11 hbox hb;have BK269:=zh (hbox);have GW269:=zh ((by rw [hg];exact (zB (by repeat (with_reducible first|exact HB.out|apply za|apply zb|apply zc))) : w.heap.size≤gb269));have GE269:=zh ((by rw [hg];exact (zB (by repeat (with_reducible first|exact HB.out|apply za|apply zb|apply zc))) : w.heap.size≤gb269));replace HB:=zh (zC (by repeat (with_reducible first|exact HB.out|apply za|apply zb|apply zc)) hb);clear hb hbox hg)|((with_reducible refine zK (N:=3) rfl ?_);(try (refine yz (by rfl) ?_;dsimp only));refine zI ?hg (N:=3) ?hd (cs:=#[.int .i64 a1]) (t:=3) ?hr ?_;(case hd => rfl);(case hg => rfl);(case hr => first|(go_simp;done)|(go_simp;rfl));intro gb270 hg w12 hbox hb;have BK270:=zh (hbox);have GW270:=zh ((by rw [hg];exact (zB (by repeat (with_reducible first|exact HB.out|apply za|apply zb|apply zc|refine zd ?_ GE269.out))) : w.heap.size≤gb270));have GE270:=zh ((by rw [hg];exact (zB (by repeat (with_reducible first|exact HB.out|apply za|apply zb|apply zc|refine zd ?_ GE269.out))) : w.heap.size≤gb270));replace HB:=zh (zC (by repeat (with_reducible first|exact HB.out|apply za|apply zb|apply zc|refine zd ?_ GE269.out)) hb);have NB269_270:=zh ((by rw [hg];exact yc (yi (g:=gb269) (o:=.cells #[.int .i64 a0_0,.int .i64 a0_1,.string a0_2] 26 (0,0)) (by (with_reducible repeat (first|refine ze ?_ _|refine zf ?_|refine zg ?_ _));exact BK269.out)) : gb269≠gb270));have NB270_269:=zh ((by rw [hg];exact yd (yi (g:=gb269) (o:=.cells #[.int .i64 a0_0,.int .i64 a0_1,.string a0_2] 26 (0,0)) (by (with_reducible repeat (first|refine ze ?_ _|refine zf ?_|refine zg ?_ _));exact BK269.out)) : gb270≠gb269));replace BK269:=zh (zD (g:=gb269) (o:=.cells #[.int .i64 a0_0,.int .i64 a0_1,.string a0_2] 26 (0,0)) (by (with_reducible repeat (first|refine ze ?_ _|refine zf ?_|refine zg ?_ _));exact BK269.out) hb);clear hb hbox hg;have hnb13:=NB269_270.out;have hnc13:=NB270_269.out;have hcz14_0 : w12.cell? ⟨gb269,0,none⟩=some (.int .i64 a0_0):=(zz BK269.out 0).trans rfl;have hcz14_1 : w12.cell? ⟨gb269,1,none⟩=some (.int .i64 a0_1):=(zz BK269.out 1).trans rfl;have hcz14_2 : w12.cell? ⟨gb269,2,none⟩=some (.string a0_2):=(zz BK269.out 2).trans rfl;have hfz14_0:=zA BK269.out 0;have hfz14_1:=zA BK269.out 1;have hfz14_2:=zA BK269.out 2)|((with_reducible refine zJ (f:=85) rfl ?_);refine yj (some 18) rfl rfl Try.func85 (by kernel_rfl) rfl #[.int .i64 a0_1,.int .i64 0,.int .i64 1] rfl (by (try simp only [zt,zu,zv]);first|done|rfl|(simp only [zw,zx];rfl)|(simp only [yr,ys,zV,zW];rfl)) ?_;(with_reducible refine (impl_inRange.calls  a0_1 0 1 true _ A9.out).mono ?_);rintro e w' ⟨rfl,⟨nd,rfl⟩⟩;refine ⟨_,rfl,?_⟩))
   go_ret
   exact ⟨by first|rfl|(simp [yt,yu] <;> rfl)|(simp [*,yt,yu] <;> rfl),by repeat (with_reducible first|exact HB.out|apply za|apply zb|apply zc|refine zd ?_ GE269.out|refine zd ?_ GE270.out)⟩
  replace c10:=yb.mpr c10;subst c10;have H1 : (some false)=some r:=by rw [if_neg (show ¬ (false=true) by decide)] at H;exact H
  clear H;have H:=H1;clear H1;obtain rfl:=zU H
  go_enter Try.func54,Try.ntmps54
  go_wp2_with (first|((with_reducible refine zK (N:=2) rfl ?_);(try (refine yz (by rfl) ?_;dsimp only));refine zI ?hg (N:=2) ?hd (cs:=#[.int .i64 a0_0,.int .i64 a0_1,.string a0_2]) (t:=26) ?hr ?_;(case hd => rfl);(case hg => rfl);(case hr => first|(go_simp;done)|(go_simp;rfl));intro gb269 hg w15 hbox hb;have BK269:=zh (hbox);have GW269:=zh ((by rw [hg];exact (zB (by repeat (with_reducible first|exact HB.out|apply za|apply zb|apply zc))) : w.heap.size≤gb269));have GE269:=zh ((by rw [hg];exact (zB (by repeat (with_reducible first|exact HB.out|apply za|apply zb|apply zc))) : w.heap.size≤gb269));replace HB:=zh (zC (by repeat (with_reducible first|exact HB.out|apply za|apply zb|apply zc)) hb);clear hb hbox hg)|((with_reducible refine zK (N:=3) rfl ?_);(try (refine yz (by rfl) ?_;dsimp only));refine zI ?hg (N:=3) ?hd (cs:=#[.int .i64 a1]) (t:=3) ?hr ?_;(case hd => rfl);(case hg => rfl);(case hr => first|(go_simp;done)|(go_simp;rfl));intro gb270 hg w16 hbox hb;have BK270:=zh (hbox);have GW270:=zh ((by rw [hg];exact (zB (by repeat (with_reducible first|exact HB.out|apply za|apply zb|apply zc|refine zd ?_ GE269.out))) : w.heap.size≤gb270));have GE270:=zh ((by rw [hg];exact (zB (by repeat (with_reducible first|exact HB.out|apply za|apply zb|apply zc|refine zd ?_ GE269.out))) : w.heap.size≤gb270));replace HB:=zh (zC (by repeat (with_reducible first|exact HB.out|apply za|apply zb|apply zc|refine zd ?_ GE269.out)) hb);have NB269_270:=zh ((by rw [hg];exact yc (yi (g:=gb269) (o:=.cells #[.int .i64 a0_0,.int .i64 a0_1,.string a0_2] 26 (0,0)) (by (with_reducible repeat (first|refine ze ?_ _|refine zf ?_|refine zg ?_ _));exact BK269.out)) : gb269≠gb270));have NB270_269:=zh ((by rw [hg];exact yd (yi (g:=gb269) (o:=.cells #[.int .i64 a0_0,.int .i64 a0_1,.string a0_2] 26 (0,0)) (by (with_reducible repeat (first|refine ze ?_ _|refine zf ?_|refine zg ?_ _));exact BK269.out)) : gb270≠gb269));replace BK269:=zh (zD (g:=gb269) (o:=.cells #[.int .i64 a0_0,.int .i64 a0_1,.string a0_2] 26 (0,0)) (by (with_reducible repeat (first|refine ze ?_ _|refine zf ?_|refine zg ?_ _));exact BK269.out) hb);clear hb hbox hg;have hnb17:=NB269_270.out;have hnc17:=NB270_269.out;have hcz18_0 : w16.cell? ⟨gb269,0,none⟩=some (.int .i64 a0_0):=(zz BK269.out 0).trans rfl;have hcz18_1 : w16.cell? ⟨gb269,1,none⟩=some (.int .i64 a0_1):=(zz BK269.out 1).trans rfl;have hcz18_2 : w16.cell? ⟨gb269,2,none⟩=some (.string a0_2):=(zz BK269.out 2).trans rfl;have hfz18_0:=zA BK269.out 0;have hfz18_1:=zA BK269.out 1;have hfz18_2:=zA BK269.out 2)|((with_reducible refine zJ (f:=85) rfl ?_);refine yj (some 18) rfl rfl Try.func85 (by kernel_rfl) rfl #[.int .i64 a0_1,.int .i64 0,.int .i64 1] rfl (by (try simp only [zt,zu,zv]);first|done|rfl|(simp only [zw,zx];rfl)|(simp only [yr,ys,zV,zW];rfl)) ?_;(with_reducible refine (impl_inRange.calls  a0_1 0 1 false _ A9.out).mono ?_);rintro e w' ⟨rfl,⟨nd,rfl⟩⟩;refine ⟨_,rfl,?_⟩))
  go_ret
  exact ⟨by first|rfl|(simp [yt,yu] <;> rfl)|(simp [*,yt,yu] <;> rfl),by repeat (with_reducible first|exact HB.out|apply za|apply zb|apply zc|refine zd ?_ GE269.out|refine zd ?_ GE270.out)⟩
 rw [if_neg c8] at H;have c8b0 : (a0_0 == 1)=false:=zY.mpr c8;have c8b1 : (a0_0 != 1)=true:=zZ.mpr c8
 by_cases c19 : a0_0=2
 ·
  rw [if_pos c19] at H
  have c19b0 : (a0_0 == 2)=true:=ya.mpr c19;have c19b1 : (a0_0 != 2)=false:=zX.mpr c19;clear c19;replace H:=zT.mp H;obtain ⟨t272,A200,H⟩:=H;replace H : (if t272=true then (some (a0_2.toList == ([] : List UInt8))) else (some false))=some r:=H;have A20:=zh A200;clear A200
  by_cases c21 : t272=true
  ·
   subst c21
   have H1 : (some (a0_2.toList == ([] : List UInt8)))=some r:=by rw [if_pos rfl] at H;exact H
   clear H;have H:=H1;clear H1;obtain rfl:=zU H
   go_enter Try.func54,Try.ntmps54
   go_wp2_with (first|((with_reducible refine zK (N:=2) rfl ?_);(try (refine yz (by rfl) ?_;dsimp only));refine zI ?hg (N:=2) ?hd (cs:=#[.int .i64 a0_0,.int .i64 a0_1,.string a0_2]) (t:=26) ?hr ?_;(case hd => rfl);(case hg => rfl);(case hr => first|(go_simp;done)|(go_simp;rfl));intro gb269 hg w22 hbox hb;have BK269:=zh (hbox);have GW269:=zh ((by rw [hg];exact (zB (by repeat (with_reducible first|exact HB.out|apply za|apply zb|apply zc))) : w.heap.size≤gb269));have GE269:=zh ((by rw [hg];exact (zB (by repeat (with_reducible first|exact HB.out|apply za|apply zb|apply zc))) : w.heap.size≤gb269));replace HB:=zh (zC (by repeat (with_reducible first|exact HB.out|apply za|apply zb|apply zc)) hb);clear hb hbox hg)|((with_reducible refine zK (N:=3) rfl ?_);(try (refine yz (by rfl) ?_;dsimp only));refine zI ?hg (N:=3) ?hd (cs:=#[.int .i64 a1]) (t:=3) ?hr ?_;(case hd => rfl);(case hg => rfl);(case hr => first|(go_simp;done)|(go_simp;rfl));intro gb270 hg w23 hbox hb;have BK270:=zh (hbox);have GW270:=zh ((by rw [hg];exact (zB (by repeat (with_reducible first|exact HB.out|apply za|apply zb|apply zc|refine zd ?_ GE269.out))) : w.heap.size≤gb270));have GE270:=zh ((by rw [hg];exact (zB (by repeat (with_reducible first|exact HB.out|apply za|apply zb|apply zc|refine zd ?_ GE269.out))) : w.heap.size≤gb270));replace HB:=zh (zC (by repeat (with_reducible first|exact HB.out|apply za|apply zb|apply zc|refine zd ?_ GE269.out)) hb);have NB269_270:=zh ((by rw [hg];exact yc (yi (g:=gb269) (o:=.cells #[.int .i64 a0_0,.int .i64 a0_1,.string a0_2] 26 (0,0)) (by (with_reducible repeat (first|refine ze ?_ _|refine zf ?_|refine zg ?_ _));exact BK269.out)) : gb269≠gb270));have NB270_269:=zh ((by rw [hg];exact yd (yi (g:=gb269) (o:=.cells #[.int .i64 a0_0,.int .i64 a0_1,.string a0_2] 26 (0,0)) (by (with_reducible repeat (first|refine ze ?_ _|refine zf ?_|refine zg ?_ _));exact BK269.out)) : gb270≠gb269));replace BK269:=zh (zD (g:=gb269) (o:=.cells #[.int .i64 a0_0,.int .i64 a0_1,.string a0_2] 26 (0,0)) (by (with_reducible repeat (first|refine ze ?_ _|refine zf ?_|refine zg ?_ _));exact BK269.out) hb);clear hb hbox hg;have hnb24:=NB269_270.out;have hnc24:=NB270_269.out;have hcz25_0 : w23.cell? ⟨gb269,0,none⟩=some (.int .i64 a0_0):=(zz BK269.out 0).trans rfl;have hcz25_1 : w23.cell? ⟨gb269,1,none⟩=some (.int .i64 a0_1):=(zz BK269.out 1).trans rfl;have hcz25_2 : w23.cell? ⟨gb269,2,none⟩=some (.string a0_2):=(zz BK269.out 2).trans rfl;have hfz25_0:=zA BK269.out 0;have hfz25_1:=zA BK269.out 1;have hfz25_2:=zA BK269.out 2)|((with_reducible refine zJ (f:=86) rfl ?_);refine yj (some 28) rfl rfl Try.func86 (by kernel_rfl) rfl #[.int .i64 a0_1] rfl (by (try simp only [zt,zu,zv]);first|done|rfl|(simp only [zw,zx];rfl)|(simp only [yr,ys,zV,zW];rfl)) ?_;(with_reducible refine (impl_isNumber.calls  a0_1 true _ A20.out).mono ?_);rintro e w' ⟨rfl,⟨nd,rfl⟩⟩;refine ⟨_,rfl,?_⟩))
   go_ret
   exact ⟨by first|rfl|(simp [yt,yu] <;> rfl)|(simp [*,yt,yu] <;> rfl),by repeat (with_reducible first|exact HB.out|apply za|apply zb|apply zc|refine zd ?_ GE269.out|refine zd ?_ GE270.out)⟩
  replace c21:=yb.mpr c21;subst c21;have H1 : (some false)=some r:=by rw [if_neg (show ¬ (false=true) by decide)] at H;exact H
  clear H;have H:=H1;clear H1;obtain rfl:=zU H
  go_enter Try.func54,Try.ntmps54
  go_wp2_with (first|((with_reducible refine zK (N:=2) rfl ?_);(try (refine yz (by rfl) ?_;dsimp only));refine zI ?hg (N:=2) ?hd (cs:=#[.int .i64 a0_0,.int .i64 a0_1,.string a0_2]) (t:=26) ?hr ?_;(case hd => rfl);(case hg => rfl);(case hr => first|(go_simp;done)|(go_simp;rfl));intro gb269 hg w26 hbox hb;have BK269:=zh (hbox);have GW269:=zh ((by rw [hg];exact (zB (by repeat (with_reducible first|exact HB.out|apply za|apply zb|apply zc))) : w.heap.size≤gb269));have GE269:=zh ((by rw [hg];exact (zB (by repeat (with_reducible first|exact HB.out|apply za|apply zb|apply zc))) : w.heap.size≤gb269));replace HB:=zh (zC (by repeat (with_reducible first|exact HB.out|apply za|apply zb|apply zc)) hb);clear hb hbox hg)|((with_reducible refine zK (N:=3) rfl ?_);(try (refine yz (by rfl) ?_;dsimp only));refine zI ?hg (N:=3) ?hd (cs:=#[.int .i64 a1]) (t:=3) ?hr ?_;(case hd => rfl);(case hg => rfl);(case hr => first|(go_simp;done)|(go_simp;rfl));intro gb270 hg w27 hbox hb;have BK270:=zh (hbox);have GW270:=zh ((by rw [hg];exact (zB (by repeat (with_reducible first|exact HB.out|apply za|apply zb|apply zc|refine zd ?_ GE269.out))) : w.heap.size≤gb270));have GE270:=zh ((by rw [hg];exact (zB (by repeat (with_reducible first|exact HB.out|apply za|apply zb|apply zc|refine zd ?_ GE269.out))) : w.heap.size≤gb270));replace HB:=zh (zC (by repeat (with_reducible first|exact HB.out|apply za|apply zb|apply zc|refine zd ?_ GE269.out)) hb);have NB269_270:=zh ((by rw [hg];exact yc (yi (g:=gb269) (o:=.cells #[.int .i64 a0_0,.int .i64 a0_1,.string a0_2] 26 (0,0)) (by (with_reducible repeat (first|refine ze ?_ _|refine zf ?_|refine zg ?_ _));exact BK269.out)) : gb269≠gb270));have NB270_269:=zh ((by rw [hg];exact yd (yi (g:=gb269) (o:=.cells #[.int .i64 a0_0,.int .i64 a0_1,.string a0_2] 26 (0,0)) (by (with_reducible repeat (first|refine ze ?_ _|refine zf ?_|refine zg ?_ _));exact BK269.out)) : gb270≠gb269));replace BK269:=zh (zD (g:=gb269) (o:=.cells #[.int .i64 a0_0,.int .i64 a0_1,.string a0_2] 26 (0,0)) (by (with_reducible repeat (first|refine ze ?_ _|refine zf ?_|refine zg ?_ _));exact BK269.out) hb);clear hb hbox hg;have hnb28:=NB269_270.out;have hnc28:=NB270_269.out;have hcz29_0 : w27.cell? ⟨gb269,0,none⟩=some (.int .i64 a0_0):=(zz BK269.out 0).trans rfl;have hcz29_1 : w27.cell? ⟨gb269,1,none⟩=some (.int .i64 a0_1):=(zz BK269.out 1).trans rfl;have hcz29_2 : w27.cell? ⟨gb269,2,none⟩=some (.string a0_2):=(zz BK269.out 2).trans rfl;have hfz29_0:=zA BK269.out 0;have hfz29_1:=zA BK269.out 1;have hfz29_2:=zA BK269.out 2)|((with_reducible refine zJ (f:=86) rfl ?_);refine yj (some 28) rfl rfl Try.func86 (by kernel_rfl) rfl #[.int .i64 a0_1] rfl (by (try simp only [zt,zu,zv]);first|done|rfl|(simp only [zw,zx];rfl)|(simp only [yr,ys,zV,zW];rfl)) ?_;(with_reducible refine (impl_isNumber.calls  a0_1 false _ A20.out).mono ?_);rintro e w' ⟨rfl,⟨nd,rfl⟩⟩;refine ⟨_,rfl,?_⟩))
  go_ret
  exact ⟨by first|rfl|(simp [yt,yu] <;> rfl)|(simp [*,yt,yu] <;> rfl),by repeat (with_reducible first|exact HB.out|apply za|apply zb|apply zc|refine zd ?_ GE269.out|refine zd ?_ GE270.out)⟩
 rw [if_neg c19] at H;have c19b0 : (a0_0 == 2)=false:=zY.mpr c19;have c19b1 : (a0_0 != 2)=true:=zZ.mpr c19
 by_cases c30 : a0_0=3
 ·
  rw [if_pos c30] at H
  have c30b0 : (a0_0 == 3)=true:=ya.mpr c30;have c30b1 : (a0_0 != 3)=false:=zX.mpr c30;clear c30
  by_cases c31 : a0_1=0
  ·
   rw [if_pos c31] at H
   have c31b0 : (a0_1 == 0)=true:=ya.mpr c31;have c31b1 : (a0_1 != 0)=false:=zX.mpr c31;clear c31;obtain rfl:=zU H
   go_enter Try.func54,Try.ntmps54
   go_wp2_with (first|((with_reducible refine zK (N:=2) rfl ?_);(try (refine yz (by rfl) ?_;dsimp only));refine zI ?hg (N:=2) ?hd (cs:=#[.int .i64 a0_0,.int .i64 a0_1,.string a0_2]) (t:=26) ?hr ?_;(case hd => rfl);(case hg => rfl);(case hr => first|(go_simp;done)|(go_simp;rfl));intro gb269 hg w32 hbox hb;have BK269:=zh (hbox);have GW269:=zh ((by rw [hg];exact (zB (by repeat (with_reducible first|exact HB.out|apply za|apply zb|apply zc))) : w.heap.size≤gb269));have GE269:=zh ((by rw [hg];exact (zB (by repeat (with_reducible first|exact HB.out|apply za|apply zb|apply zc))) : w.heap.size≤gb269));replace HB:=zh (zC (by repeat (with_reducible first|exact HB.out|apply za|apply zb|apply zc)) hb);clear hb hbox hg)|((with_reducible refine zK (N:=3) rfl ?_);(try (refine yz (by rfl) ?_;dsimp only));refine zI ?hg (N:=3) ?hd (cs:=#[.int .i64 a1]) (t:=3) ?hr ?_;(case hd => rfl);(case hg => rfl);(case hr => first|(go_simp;done)|(go_simp;rfl));intro gb270 hg w33 hbox hb;have BK270:=zh (hbox);have GW270:=zh ((by rw [hg];exact (zB (by repeat (with_reducible first|exact HB.out|apply za|apply zb|apply zc|refine zd ?_ GE269.out))) : w.heap.size≤gb270));have GE270:=zh ((by rw [hg];exact (zB (by repeat (with_reducible first|exact HB.out|apply za|apply zb|apply zc|refine zd ?_ GE269.out))) : w.heap.size≤gb270));replace HB:=zh (zC (by repeat (with_reducible first|exact HB.out|apply za|apply zb|apply zc|refine zd ?_ GE269.out)) hb);have NB269_270:=zh ((by rw [hg];exact yc (yi (g:=gb269) (o:=.cells #[.int .i64 a0_0,.int .i64 a0_1,.string a0_2] 26 (0,0)) (by (with_reducible repeat (first|refine ze ?_ _|refine zf ?_|refine zg ?_ _));exact BK269.out)) : gb269≠gb270));have NB270_269:=zh ((by rw [hg];exact yd (yi (g:=gb269) (o:=.cells #[.int .i64 a0_0,.int .i64 a0_1,.string a0_2] 26 (0,0)) (by (with_reducible repeat (first|refine ze ?_ _|refine zf ?_|refine zg ?_ _));exact BK269.out)) : gb270≠gb269));replace BK269:=zh (zD (g:=gb269) (o:=.cells #[.int .i64 a0_0,.int .i64 a0_1,.string a0_2] 26 (0,0)) (by (with_reducible repeat (first|refine ze ?_ _|refine zf ?_|refine zg ?_ _));exact BK269.out) hb);clear hb hbox hg;have hnb34:=NB269_270.out;have hnc34:=NB270_269.out;have hcz35_0 : w33.cell? ⟨gb269,0,none⟩=some (.int .i64 a0_0):=(zz BK269.out 0).trans rfl;have hcz35_1 : w33.cell? ⟨gb269,1,none⟩=some (.int .i64 a0_1):=(zz BK269.out 1).trans rfl;have hcz35_2 : w33.cell? ⟨gb269,2,none⟩=some (.string a0_2):=(zz BK269.out 2).trans rfl;have hfz35_0:=zA BK269.out 0;have hfz35_1:=zA BK269.out 1;have hfz35_2:=zA BK269.out 2))
   go_ret
   exact ⟨by first|rfl|(simp [yt,yu] <;> rfl)|(simp [*,yt,yu] <;> rfl),by repeat (with_reducible first|exact HB.out|apply za|apply zb|apply zc|refine zd ?_ GE269.out|refine zd ?_ GE270.out)⟩
  rw [if_neg c31] at H;have c31b0 : (a0_1 == 0)=false:=zY.mpr c31;have c31b1 : (a0_1 != 0)=true:=zZ.mpr c31;obtain rfl:=zU H
  go_enter Try.func54,Try.ntmps54
  go_wp2_with (first|((with_reducible refine zK (N:=2) rfl ?_);(try (refine yz (by rfl) ?_;dsimp only));refine zI ?hg (N:=2) ?hd (cs:=#[.int .i64 a0_0,.int .i64 a0_1,.string a0_2]) (t:=26) ?hr ?_;(case hd => rfl);(case hg => rfl);(case hr => first|(go_simp;done)|(go_simp;rfl));intro gb269 hg w36 hbox hb;have BK269:=zh (hbox);have GW269:=zh ((by rw [hg];exact (zB (by repeat (with_reducible first|exact HB.out|apply za|apply zb|apply zc))) : w.heap.size≤gb269));have GE269:=zh ((by rw [hg];exact (zB (by repeat (with_reducible first|exact HB.out|apply za|apply zb|apply zc))) : w.heap.size≤gb269));replace HB:=zh (zC (by repeat (with_reducible first|exact HB.out|apply za|apply zb|apply zc)) hb);clear hb hbox hg)|((with_reducible refine zK (N:=3) rfl ?_);(try (refine yz (by rfl) ?_;dsimp only));refine zI ?hg (N:=3) ?hd (cs:=#[.int .i64 a1]) (t:=3) ?hr ?_;(case hd => rfl);(case hg => rfl);(case hr => first|(go_simp;done)|(go_simp;rfl));intro gb270 hg w37 hbox hb;have BK270:=zh (hbox);have GW270:=zh ((by rw [hg];exact (zB (by repeat (with_reducible first|exact HB.out|apply za|apply zb|apply zc|refine zd ?_ GE269.out))) : w.heap.size≤gb270));have GE270:=zh ((by rw [hg];exact (zB (by repeat (with_reducible first|exact HB.out|apply za|apply zb|apply zc|refine zd ?_ GE269.out))) : w.heap.size≤gb270));replace HB:=zh (zC (by repeat (with_reducible first|exact HB.out|apply za|apply zb|apply zc|refine zd ?_ GE269.out)) hb);have NB269_270:=zh ((by rw [hg];exact yc (yi (g:=gb269) (o:=.cells #[.int .i64 a0_0,.int .i64 a0_1,.string a0_2] 26 (0,0)) (by (with_reducible repeat (first|refine ze ?_ _|refine zf ?_|refine zg ?_ _));exact BK269.out)) : gb269≠gb270));have NB270_269:=zh ((by rw [hg];exact yd (yi (g:=gb269) (o:=.cells #[.int .i64 a0_0,.int .i64 a0_1,.string a0_2] 26 (0,0)) (by (with_reducible repeat (first|refine ze ?_ _|refine zf ?_|refine zg ?_ _));exact BK269.out)) : gb270≠gb269));replace BK269:=zh (zD (g:=gb269) (o:=.cells #[.int .i64 a0_0,.int .i64 a0_1,.string a0_2] 26 (0,0)) (by (with_reducible repeat (first|refine ze ?_ _|refine zf ?_|refine zg ?_ _));exact BK269.out) hb);clear hb hbox hg;have hnb38:=NB269_270.out;have hnc38:=NB270_269.out;have hcz39_0 : w37.cell? ⟨gb269,0,none⟩=some (.int .i64 a0_0):=(zz BK269.out 0).trans rfl;have hcz39_1 : w37.cell? ⟨gb269,1,none⟩=some (.int .i64 a0_1):=(zz BK269.out 1).trans rfl;have hcz39_2 : w37.cell? ⟨gb269,2,none⟩=some (.string a0_2):=(zz BK269.out 2).trans rfl;have hfz39_0:=zA BK269.out 0;have hfz39_1:=zA BK269.out 1;have hfz39_2:=zA BK269.out 2))
  go_ret
  exact ⟨by first|rfl|(simp [yt,yu] <;> rfl)|(simp [*,yt,yu] <;> rfl),by repeat (with_reducible first|exact HB.out|apply za|apply zb|apply zc|refine zd ?_ GE269.out|refine zd ?_ GE270.out)⟩
 rw [if_neg c30] at H;have c30b0 : (a0_0 == 3)=false:=zY.mpr c30;have c30b1 : (a0_0 != 3)=true:=zZ.mpr c30;have HC40:=zh H;clear H
 go_enter Try.func54,Try.ntmps54
 go_upto_if 45 with (first|((with_reducible refine zK (N:=2) rfl ?_);(try (refine yz (by rfl) ?_;dsimp only));refine zI ?hg (N:=2) ?hd (cs:=#[.int .i64 a0_0,.int .i64 a0_1,.string a0_2]) (t:=26) ?hr ?_;(case hd => rfl);(case hg => rfl);(case hr => first|(go_simp;done)|(go_simp;rfl));intro gb269 hg w41 hbox hb;have BK269:=zh (hbox);have GW269:=zh ((by rw [hg];exact (zB (by repeat (with_reducible first|exact HB.out|apply za|apply zb|apply zc))) : w.heap.size≤gb269));have GE269:=zh ((by rw [hg];exact (zB (by repeat (with_reducible first|exact HB.out|apply za|apply zb|apply zc))) : w.heap.size≤gb269));replace HB:=zh (zC (by repeat (with_reducible first|exact HB.out|apply za|apply zb|apply zc)) hb);clear hb hbox hg)|((with_reducible refine zK (N:=3) rfl ?_);(try (refine yz (by rfl) ?_;dsimp only));refine zI ?hg (N:=3) ?hd (cs:=#[.int .i64 a1]) (t:=3) ?hr ?_;(case hd => rfl);(case hg => rfl);(case hr => first|(go_simp;done)|(go_simp;rfl));intro gb270 hg w42 hbox hb;have BK270:=zh (hbox);have GW270:=zh ((by rw [hg];exact (zB (by repeat (with_reducible first|exact HB.out|apply za|apply zb|apply zc|refine zd ?_ GE269.out))) : w.heap.size≤gb270));have GE270:=zh ((by rw [hg];exact (zB (by repeat (with_reducible first|exact HB.out|apply za|apply zb|apply zc|refine zd ?_ GE269.out))) : w.heap.size≤gb270));replace HB:=zh (zC (by repeat (with_reducible first|exact HB.out|apply za|apply zb|apply zc|refine zd ?_ GE269.out)) hb);have NB269_270:=zh ((by rw [hg];exact yc (yi (g:=gb269) (o:=.cells #[.int .i64 a0_0,.int .i64 a0_1,.string a0_2] 26 (0,0)) (by (with_reducible repeat (first|refine ze ?_ _|refine zf ?_|refine zg ?_ _));exact BK269.out)) : gb269≠gb270));have NB270_269:=zh ((by rw [hg];exact yd (yi (g:=gb269) (o:=.cells #[.int .i64 a0_0,.int .i64 a0_1,.string a0_2] 26 (0,0)) (by (with_reducible repeat (first|refine ze ?_ _|refine zf ?_|refine zg ?_ _));exact BK269.out)) : gb270≠gb269));replace BK269:=zh (zD (g:=gb269) (o:=.cells #[.int .i64 a0_0,.int .i64 a0_1,.string a0_2] 26 (0,0)) (by (with_reducible repeat (first|refine ze ?_ _|refine zf ?_|refine zg ?_ _));exact BK269.out) hb);clear hb hbox hg;have hnb43:=NB269_270.out;have hnc43:=NB270_269.out;have hcz44_0 : w42.cell? ⟨gb269,0,none⟩=some (.int .i64 a0_0):=(zz BK269.out 0).trans rfl;have hcz44_1 : w42.cell? ⟨gb269,1,none⟩=some (.int .i64 a0_1):=(zz BK269.out 1).trans rfl;have hcz44_2 : w42.cell? ⟨gb269,2,none⟩=some (.string a0_2):=(zz BK269.out 2).trans rfl;have hfz44_0:=zA BK269.out 0;have hfz44_1:=zA BK269.out 1;have hfz44_2:=zA BK269.out 2))
 (try simp only [Act.put,zi,zj,zk])
 go_cut [45] (fun v45 wc => ∃ (kq : Nat) (x45_39 : Bool),v45 = .bool x45_39∧Aside0 (impl_isRight.j0 kq x45_39 a0_0 a0_1 a0_2 a1=some r)∧Aside0 (kq≤k)∧Aside0 (wc.heap[gb269]? = some (.cells #[.int .i64 a0_0,.int .i64 a0_1,.string a0_2] 26 (0,0)))∧Aside0 (wc.heap[gb270]? = some (.cells #[.int .i64 a1] 3 (0,0)))∧Aside0 (Below w.heap.size w wc))
 case first =>
  have H:=HC40.out;clear HC40
  by_cases c45 : a0_0=4
  ·
   rw [if_pos c45] at H
   have c45b0 : (a0_0 == 4)=true:=ya.mpr c45;have c45b1 : (a0_0 != 4)=false:=zX.mpr c45;clear c45;(first|rw [c45b0]|(simp only [zG,zH];rw [c45b0])|skip);have H':=zh H;clear H
   go_wp2
   go_meet
   case rel => exact ⟨_,((a0_0 == 4)),(by first|rfl|(simp;done)|(simp [*];done)),H',⟨by first|omega|exact ye _⟩,⟨by (with_reducible repeat (first|refine ze ?_ _|refine zf ?_|refine zg ?_ _));exact BK269.out⟩,⟨by (with_reducible repeat (first|refine ze ?_ _|refine zf ?_|refine zg ?_ _));exact BK270.out⟩,⟨by repeat (with_reducible first|exact HB.out|apply za|apply zb|apply zc|refine zd ?_ GE269.out|refine zd ?_ GE270.out)⟩⟩
  rw [if_neg c45] at H;have c45b0 : (a0_0 == 4)=false:=zY.mpr c45;have c45b1 : (a0_0 != 4)=true:=zZ.mpr c45;(first|rw [c45b0]|(simp only [zG,zH];rw [c45b0])|skip);have H':=zh H;clear H
  go_wp2
  go_meet
  case rel => exact ⟨_,((a0_0 == 5)),(by first|rfl|(simp;done)|(simp [*];done)),H',⟨by first|omega|exact ye _⟩,⟨by (with_reducible repeat (first|refine ze ?_ _|refine zf ?_|refine zg ?_ _));exact BK269.out⟩,⟨by (with_reducible repeat (first|refine ze ?_ _|refine zf ?_|refine zg ?_ _));exact BK270.out⟩,⟨by repeat (with_reducible first|exact HB.out|apply za|apply zb|apply zc|refine zd ?_ GE269.out|refine zd ?_ GE270.out)⟩⟩
 case rest =>
  clear HC40
  try clear c1
  try clear c2
  try clear p2
  try clear c3
  try clear c3b0
  try clear c3b1
  try clear c4
  try clear c5
  try clear c6
  try clear c8
  try clear c8b0
  try clear c8b1
  try clear c10
  try clear c13
  try clear c17
  try clear c19
  try clear c19b0
  try clear c19b1
  try clear c21
  try clear c24
  try clear c28
  try clear c30
  try clear c30b0
  try clear c30b1
  try clear c31
  try clear c31b0
  try clear c31b1
  try clear c34
  try clear c38
  try clear c43
  try clear c45
  try clear c45b0
  try clear c45b1
  try clear hcz14_0
  try clear hcz14_1
  try clear hcz14_2
  try clear hcz18_0
  try clear hcz18_1
  try clear hcz18_2
  try clear hcz25_0
  try clear hcz25_1
  try clear hcz25_2
  try clear hcz29_0
  try clear hcz29_1
  try clear hcz29_2
  try clear hcz35_0
  try clear hcz35_1
  try clear hcz35_2
  try clear hcz39_0
  try clear hcz39_1
  try clear hcz39_2
  try clear hcz44_0
  try clear hcz44_1
  try clear hcz44_2
  try clear hcz7_0
  try clear hcz7_1
  try clear hcz7_2
  try clear hfz14_0
  try clear hfz14_1
  try clear hfz14_2
  try clear hfz18_0
  try clear hfz18_1
  try clear hfz18_2
  try clear hfz25_0
  try clear hfz25_1
  try clear hfz25_2
  try clear hfz29_0
  try clear hfz29_1
  try clear hfz29_2
  try clear hfz35_0
  try clear hfz35_1
  try clear hfz35_2
  try clear hfz39_0
  try clear hfz39_1
  try clear hfz39_2
  try clear hfz44_0
  try clear hfz44_1
  try clear hfz44_2
  try clear hfz7_0
  try clear hfz7_1
  try clear hfz7_2
  obtain ⟨kq,x45_39,rfl,HA,HJ39,BK269,BK270,HB⟩:=hcut
  cases kq with
  | zero => exact absurd HA.out (by simp [impl_isRight.j0])
  | succ kj39 =>
   have H:=HA.out;clear HA;simp only [impl_isRight.j0] at H
   by_cases c46 : x45_39=true
   ·
    subst c46
    have H1 : ((impl_inner.f kj39 a0_0 a0_1 a0_2).bind fun bt273 => (if a0_1=0 then (if (a0_2.size : Int)≤300 then (if a1 > 0 then (if bt273.2=true then ((impl_Value_at_isRight_1.f kj39 (impl_isRight.f kj39) bt273.1 a1).bind fun t277 => (some (!t277))) else (some false)) else (some false)) else (some false)) else (some false)))=some r:=by rw [if_pos rfl] at H;exact H
    clear H;have H:=H1;clear H1;replace H:=zT.mp H;obtain ⟨⟨t273,t276⟩,A470,H⟩:=H;replace H : (if a0_1=0 then (if (a0_2.size : Int)≤300 then (if a1 > 0 then (if t276=true then ((impl_Value_at_isRight_1.f kj39 (impl_isRight.f kj39) t273 a1).bind fun t277 => (some (!t277))) else (some false)) else (some false)) else (some false)) else (some false))=some r:=H;have A47:=zh A470;clear A470
    by_cases c48 : a0_1=0
    ·
     rw [if_pos c48] at H
     have c48b0 : (a0_1 == 0)=true:=ya.mpr c48;have c48b1 : (a0_1 != 0)=false:=zX.mpr c48;clear c48
     by_cases c49 : (a0_2.size : Int)≤300
     ·
      rw [if_pos c49] at H
      have c49b0 : decide ((a0_2.size : Int)≤300)=true:=decide_eq_true c49;have c49b1 : decide (a0_2.size≤300)=true:=decide_eq_true (by omega);clear c49
      by_cases c50 : a1 > 0
      ·
       rw [if_pos c50] at H
       have c50b0 : decide (0<a1)=true:=decide_eq_true c50;clear c50
       by_cases c51 : t276=true
       ·
        subst c51
        have H1 : ((impl_Value_at_isRight_1.f kj39 (impl_isRight.f kj39) t273 a1).bind fun t277 => (some (!t277)))=some r:=by rw [if_pos rfl] at H;exact H
        clear H;have H:=H1;clear H1;replace H:=zT.mp H;obtain ⟨t277,A520,H⟩:=H;replace H : (some (!t277))=some r:=H;have A52:=zh A520;clear A520;obtain rfl:=zU H;have hnb53:=NB269_270.out;have hnc53:=NB270_269.out;have hcz54_0 : wc.cell? ⟨gb269,0,none⟩=some (.int .i64 a0_0):=(zz BK269.out 0).trans rfl;have hcz54_1 : wc.cell? ⟨gb269,1,none⟩=some (.int .i64 a0_1):=(zz BK269.out 1).trans rfl;have hcz54_2 : wc.cell? ⟨gb269,2,none⟩=some (.string a0_2):=(zz BK269.out 2).trans rfl;have hfz54_0:=zA BK269.out 0;have hfz54_1:=zA BK269.out 1;have hfz54_2:=zA BK269.out 2
        go_wp2_with (first|((with_reducible refine zJ (f:=87) rfl ?_);refine yj (some 50) rfl rfl Try.func87 (by kernel_rfl) rfl #[.agg #[.int .i64 a0_0,.int .i64 a0_1,.string a0_2]] rfl (by (try simp only [zt,zu,zv]);first|done|rfl|(simp only [zw,zx];rfl)|(simp only [yr,ys,zV,zW];rfl)) ?_;(with_reducible refine (impl_inner.calls kj39  a0_0 a0_1 a0_2 t273 true _ A47.out).mono ?_);rintro e w55 ⟨v274,rfl,ho0,hb⟩;refine ⟨_,rfl,?_⟩;have HO275:=zh (yy (Kd.R_newB ho0 (g:=gb269) (o:=.cells #[.int .i64 a0_0,.int .i64 a0_1,.string a0_2] 26 (0,0)) (by (with_reducible repeat (first|refine ze ?_ _|refine zf ?_|refine zg ?_ _));exact BK269.out)) (zB (by repeat (with_reducible first|exact HB.out|apply za|apply zb|apply zc|refine zd ?_ GE269.out|refine zd ?_ GE270.out))));replace BK269:=zh (zD (g:=gb269) (o:=.cells #[.int .i64 a0_0,.int .i64 a0_1,.string a0_2] 26 (0,0)) (by (with_reducible repeat (first|refine ze ?_ _|refine zf ?_|refine zg ?_ _));exact BK269.out) hb);replace BK270:=zh (zD (g:=gb270) (o:=.cells #[.int .i64 a1] 3 (0,0)) (by (with_reducible repeat (first|refine ze ?_ _|refine zf ?_|refine zg ?_ _));exact BK270.out) hb);replace HB:=zh (zC (by repeat (with_reducible first|exact HB.out|apply za|apply zb|apply zc|refine zd ?_ GE269.out|refine zd ?_ GE270.out)) hb);(try clear hb);(try clear hb2);(try clear hk);(try clear hi);(try clear ho0);have hcz56_0 : w55.cell? ⟨gb269,0,none⟩=some (.int .i64 a0_0):=(zz BK269.out 0).trans rfl;have hcz56_1 : w55.cell? ⟨gb269,1,none⟩=some (.int .i64 a0_1):=(zz BK269.out 1).trans rfl;have hcz56_2 : w55.cell? ⟨gb269,2,none⟩=some (.string a0_2):=(zz BK269.out 2).trans rfl;have hfz56_0:=zA BK269.out 0;have hfz56_1:=zA BK269.out 1;have hfz56_2:=zA BK269.out 2;have hcz57_0 : w55.cell? ⟨gb270,0,none⟩=some (.int .i64 a1):=(zz BK270.out 0).trans rfl;have hfz57_0:=zA BK270.out 0;obtain ⟨Ao58,co58,eo58⟩:=yk HO275.out;subst eo58)|(go_at_call 88;(with_reducible refine (impl_Value_at_isRight_1.calls kj39 (impl_isRight.f kj39) (ih kj39 (by have:=HJ39.out;omega)) _ _ t273 gb270 a1 t277 _ ?side1 ?side2 ?side3 A52.out).mono ?_);(case side1 => repeat (first|exact (yh HO275.out).2.2|(with_reducible refine Kd.C_alloc ?_ _)|(with_reducible refine Kd.C_drewN ?_ _)|(with_reducible refine Kd.C_drew ?_)));(case side2 => exact (yh HO275.out).2.1);(case side3 => (with_reducible repeat (first|refine ze ?_ _|refine zf ?_|refine zg ?_ _));exact BK270.out);rintro e w59 ⟨rfl,hb⟩;replace HO275:=zh (yg (by (with_reducible repeat (first|apply zm|apply zn|apply zo));exact HO275.out) hb);replace BK269:=zh (zD (g:=gb269) (o:=.cells #[.int .i64 a0_0,.int .i64 a0_1,.string a0_2] 26 (0,0)) (by (with_reducible repeat (first|refine ze ?_ _|refine zf ?_|refine zg ?_ _));exact BK269.out) hb);replace BK270:=zh (zD (g:=gb270) (o:=.cells #[.int .i64 a1] 3 (0,0)) (by (with_reducible repeat (first|refine ze ?_ _|refine zf ?_|refine zg ?_ _));exact BK270.out) hb);replace HB:=zh (zC (by repeat (with_reducible first|exact HB.out|apply za|apply zb|apply zc|refine zd ?_ GE269.out|refine zd ?_ GE270.out)) hb);(try clear hb);(try clear hb2);(try clear hk);(try clear hi)))
        go_ret
        exact ⟨by first|rfl|(simp [yt,yu] <;> rfl)|(simp [*,yt,yu] <;> rfl),by repeat (with_reducible first|exact HB.out|apply za|apply zb|apply zc|refine zd ?_ GE269.out|refine zd ?_ GE270.out)⟩
       replace c51:=yb.mpr c51;subst c51;have H1 : (some false)=some r:=by rw [if_neg (show ¬ (false=true) by decide)] at H;exact H
       clear H;have H:=H1;clear H1;obtain rfl:=zU H;have hnb60:=NB269_270.out;have hnc60:=NB270_269.out;have hcz61_0 : wc.cell? ⟨gb269,0,none⟩=some (.int .i64 a0_0):=(zz BK269.out 0).trans rfl;have hcz61_1 : wc.cell? ⟨gb269,1,none⟩=some (.int .i64 a0_1):=(zz BK269.out 1).trans rfl;have hcz61_2 : wc.cell? ⟨gb269,2,none⟩=some (.string a0_2):=(zz BK269.out 2).trans rfl;have hfz61_0:=zA BK269.out 0;have hfz61_1:=zA BK269.out 1;have hfz61_2:=zA BK269.out 2
       go_wp2_with (first|((with_reducible refine zJ (f:=87) rfl ?_);refine yj (some 50) rfl rfl Try.func87 (by kernel_rfl) rfl #[.agg #[.int .i64 a0_0,.int .i64 a0_1,.string a0_2]] rfl (by (try simp only [zt,zu,zv]);first|done|rfl|(simp only [zw,zx];rfl)|(simp only [yr,ys,zV,zW];rfl)) ?_;(with_reducible refine (impl_inner.calls kj39  a0_0 a0_1 a0_2 t273 false _ A47.out).mono ?_);rintro e w62 ⟨v274,rfl,ho0,hb⟩;refine ⟨_,rfl,?_⟩;have HO275:=zh (yy (Kd.R_newB ho0 (g:=gb269) (o:=.cells #[.int .i64 a0_0,.int .i64 a0_1,.string a0_2] 26 (0,0)) (by (with_reducible repeat (first|refine ze ?_ _|refine zf ?_|refine zg ?_ _));exact BK269.out)) (zB (by repeat (with_reducible first|exact HB.out|apply za|apply zb|apply zc|refine zd ?_ GE269.out|refine zd ?_ GE270.out))));replace BK269:=zh (zD (g:=gb269) (o:=.cells #[.int .i64 a0_0,.int .i64 a0_1,.string a0_2] 26 (0,0)) (by (with_reducible repeat (first|refine ze ?_ _|refine zf ?_|refine zg ?_ _));exact BK269.out) hb);replace BK270:=zh (zD (g:=gb270) (o:=.cells #[.int .i64 a1] 3 (0,0)) (by (with_reducible repeat (first|refine ze ?_ _|refine zf ?_|refine zg ?_ _));exact BK270.out) hb);replace HB:=zh (zC (by repeat (with_reducible first|exact HB.out|apply za|apply zb|apply zc|refine zd ?_ GE269.out|refine zd ?_ GE270.out)) hb);(try clear hb);(try clear hb2);(try clear hk);(try clear hi);(try clear ho0);have hcz63_0 : w62.cell? ⟨gb269,0,none⟩=some (.int .i64 a0_0):=(zz BK269.out 0).trans rfl;have hcz63_1 : w62.cell? ⟨gb269,1,none⟩=some (.int .i64 a0_1):=(zz BK269.out 1).trans rfl;have hcz63_2 : w62.cell? ⟨gb269,2,none⟩=some (.string a0_2):=(zz BK269.out 2).trans rfl;have hfz63_0:=zA BK269.out 0;have hfz63_1:=zA BK269.out 1;have hfz63_2:=zA BK269.out 2;have hcz64_0 : w62.cell? ⟨gb270,0,none⟩=some (.int .i64 a1):=(zz BK270.out 0).trans rfl;have hfz64_0:=zA BK270.out 0))
       go_ret
       exact ⟨by first|rfl|(simp [yt,yu] <;> rfl)|(simp [*,yt,yu] <;> rfl),by repeat (with_reducible first|exact HB.out|apply za|apply zb|apply zc|refine zd ?_ GE269.out|refine zd ?_ GE270.out)⟩
      rw [if_neg c50] at H;have c50b0 : decide (0<a1)=false:=decide_eq_false c50;clear c50;obtain rfl:=zU H;have hnb65:=NB269_270.out;have hnc65:=NB270_269.out;have hcz66_0 : wc.cell? ⟨gb269,0,none⟩=some (.int .i64 a0_0):=(zz BK269.out 0).trans rfl;have hcz66_1 : wc.cell? ⟨gb269,1,none⟩=some (.int .i64 a0_1):=(zz BK269.out 1).trans rfl;have hcz66_2 : wc.cell? ⟨gb269,2,none⟩=some (.string a0_2):=(zz BK269.out 2).trans rfl;have hfz66_0:=zA BK269.out 0;have hfz66_1:=zA BK269.out 1;have hfz66_2:=zA BK269.out 2
      go_wp2_with (first|((with_reducible refine zJ (f:=87) rfl ?_);refine yj (some 50) rfl rfl Try.func87 (by kernel_rfl) rfl #[.agg #[.int .i64 a0_0,.int .i64 a0_1,.string a0_2]] rfl (by (try simp only [zt,zu,zv]);first|done|rfl|(simp only [zw,zx];rfl)|(simp only [yr,ys,zV,zW];rfl)) ?_;(with_reducible refine (impl_inner.calls kj39  a0_0 a0_1 a0_2 t273 t276 _ A47.out).mono ?_);rintro e w67 ⟨v274,rfl,ho0,hb⟩;refine ⟨_,rfl,?_⟩;have HO275:=zh (yy (Kd.R_newB ho0 (g:=gb269) (o:=.cells #[.int .i64 a0_0,.int .i64 a0_1,.string a0_2] 26 (0,0)) (by (with_reducible repeat (first|refine ze ?_ _|refine zf ?_|refine zg ?_ _));exact BK269.out)) (zB (by repeat (with_reducible first|exact HB.out|apply za|apply zb|apply zc|refine zd ?_ GE269.out|refine zd ?_ GE270.out))));replace BK269:=zh (zD (g:=gb269) (o:=.cells #[.int .i64 a0_0,.int .i64 a0_1,.string a0_2] 26 (0,0)) (by (with_reducible repeat (first|refine ze ?_ _|refine zf ?_|refine zg ?_ _));exact BK269.out) hb);replace BK270:=zh (zD (g:=gb270) (o:=.cells #[.int .i64 a1] 3 (0,0)) (by (with_reducible repeat (first|refine ze ?_ _|refine zf ?_|refine zg ?_ _));exact BK270.out) hb);replace HB:=zh (zC (by repeat (with_reducible first|exact HB.out|apply za|apply zb|apply zc|refine zd ?_ GE269.out|refine zd ?_ GE270.out)) hb);(try clear hb);(try clear hb2);(try clear hk);(try clear hi);(try clear ho0);have hcz68_0 : w67.cell? ⟨gb269,0,none⟩=some (.int .i64 a0_0):=(zz BK269.out 0).trans rfl;have hcz68_1 : w67.cell? ⟨gb269,1,none⟩=some (.int .i64 a0_1):=(zz BK269.out 1).trans rfl;have hcz68_2 : w67.cell? ⟨gb269,2,none⟩=some (.string a0_2):=(zz BK269.out 2).trans rfl;have hfz68_0:=zA BK269.out 0;have hfz68_1:=zA BK269.out 1;have hfz68_2:=zA BK269.out 2;have hcz69_0 : w67.cell? ⟨gb270,0,none⟩=some (.int .i64 a1):=(zz BK270.out 0).trans rfl;have hfz69_0:=zA BK270.out 0))
      go_ret
      exact ⟨by first|rfl|(simp [yt,yu] <;> rfl)|(simp [*,yt,yu] <;> rfl),by repeat (with_reducible first|exact HB.out|apply za|apply zb|apply zc|refine zd ?_ GE269.out|refine zd ?_ GE270.out)⟩
     rw [if_neg c49] at H;have c49b0 : decide ((a0_2.size : Int)≤300)=false:=decide_eq_false c49;have c49b1 : decide (a0_2.size≤300)=false:=decide_eq_false (by omega);clear c49;obtain rfl:=zU H;have hnb70:=NB269_270.out;have hnc70:=NB270_269.out;have hcz71_0 : wc.cell? ⟨gb269,0,none⟩=some (.int .i64 a0_0):=(zz BK269.out 0).trans rfl;have hcz71_1 : wc.cell? ⟨gb269,1,none⟩=some (.int .i64 a0_1):=(zz BK269.out 1).trans rfl;have hcz71_2 : wc.cell? ⟨gb269,2,none⟩=some (.string a0_2):=(zz BK269.out 2).trans rfl;have hfz71_0:=zA BK269.out 0;have hfz71_1:=zA BK269.out 1;have hfz71_2:=zA BK269.out 2
     go_wp2_with (first|((with_reducible refine zJ (f:=87) rfl ?_);refine yj (some 50) rfl rfl Try.func87 (by kernel_rfl) rfl #[.agg #[.int .i64 a0_0,.int .i64 a0_1,.string a0_2]] rfl (by (try simp only [zt,zu,zv]);first|done|rfl|(simp only [zw,zx];rfl)|(simp only [yr,ys,zV,zW];rfl)) ?_;(with_reducible refine (impl_inner.calls kj39  a0_0 a0_1 a0_2 t273 t276 _ A47.out).mono ?_);rintro e w72 ⟨v274,rfl,ho0,hb⟩;refine ⟨_,rfl,?_⟩;have HO275:=zh (yy (Kd.R_newB ho0 (g:=gb269) (o:=.cells #[.int .i64 a0_0,.int .i64 a0_1,.string a0_2] 26 (0,0)) (by (with_reducible repeat (first|refine ze ?_ _|refine zf ?_|refine zg ?_ _));exact BK269.out)) (zB (by repeat (with_reducible first|exact HB.out|apply za|apply zb|apply zc|refine zd ?_ GE269.out|refine zd ?_ GE270.out))));replace BK269:=zh (zD (g:=gb269) (o:=.cells #[.int .i64 a0_0,.int .i64 a0_1,.string a0_2] 26 (0,0)) (by (with_reducible repeat (first|refine ze ?_ _|refine zf ?_|refine zg ?_ _));exact BK269.out) hb);replace BK270:=zh (zD (g:=gb270) (o:=.cells #[.int .i64 a1] 3 (0,0)) (by (with_reducible repeat (first|refine ze ?_ _|refine zf ?_|refine zg ?_ _));exact BK270.out) hb);replace HB:=zh (zC (by repeat (with_reducible first|exact HB.out|apply za|apply zb|apply zc|refine zd ?_ GE269.out|refine zd ?_ GE270.out)) hb);(try clear hb);(try clear hb2);(try clear hk);(try clear hi);(try clear ho0);have hcz73_0 : w72.cell? ⟨gb269,0,none⟩=some (.int .i64 a0_0):=(zz BK269.out 0).trans rfl;have hcz73_1 : w72.cell? ⟨gb269,1,none⟩=some (.int .i64 a0_1):=(zz BK269.out 1).trans rfl;have hcz73_2 : w72.cell? ⟨gb269,2,none⟩=some (.string a0_2):=(zz BK269.out 2).trans rfl;have hfz73_0:=zA BK269.out 0;have hfz73_1:=zA BK269.out 1;have hfz73_2:=zA BK269.out 2))
     go_ret
     exact ⟨by first|rfl|(simp [yt,yu] <;> rfl)|(simp [*,yt,yu] <;> rfl),by repeat (with_reducible first|exact HB.out|apply za|apply zb|apply zc|refine zd ?_ GE269.out|refine zd ?_ GE270.out)⟩
    rw [if_neg c48] at H;have c48b0 : (a0_1 == 0)=false:=zY.mpr c48;have c48b1 : (a0_1 != 0)=true:=zZ.mpr c48;obtain rfl:=zU H;have hnb74:=NB269_270.out;have hnc74:=NB270_269.out;have hcz75_0 : wc.cell? ⟨gb269,0,none⟩=some (.int .i64 a0_0):=(zz BK269.out 0).trans rfl;have hcz75_1 : wc.cell? ⟨gb269,1,none⟩=some (.int .i64 a0_1):=(zz BK269.out 1).trans rfl;have hcz75_2 : wc.cell? ⟨gb269,2,none⟩=some (.string a0_2):=(zz BK269.out 2).trans rfl;have hfz75_0:=zA BK269.out 0;have hfz75_1:=zA BK269.out 1;have hfz75_2:=zA BK269.out 2
    go_wp2_with (first|((with_reducible refine zJ (f:=87) rfl ?_);refine yj (some 50) rfl rfl Try.func87 (by kernel_rfl) rfl #[.agg #[.int .i64 a0_0,.int .i64 a0_1,.string a0_2]] rfl (by (try simp only [zt,zu,zv]);first|done|rfl|(simp only [zw,zx];rfl)|(simp only [yr,ys,zV,zW];rfl)) ?_;(with_reducible refine (impl_inner.calls kj39  a0_0 a0_1 a0_2 t273 t276 _ A47.out).mono ?_);rintro e w76 ⟨v274,rfl,ho0,hb⟩;refine ⟨_,rfl,?_⟩;have HO275:=zh (yy (Kd.R_newB ho0 (g:=gb269) (o:=.cells #[.int .i64 a0_0,.int .i64 a0_1,.string a0_2] 26 (0,0)) (by (with_reducible repeat (first|refine ze ?_ _|refine zf ?_|refine zg ?_ _));exact BK269.out)) (zB (by repeat (with_reducible first|exact HB.out|apply za|apply zb|apply zc|refine zd ?_ GE269.out|refine zd ?_ GE270.out))));replace BK269:=zh (zD (g:=gb269) (o:=.cells #[.int .i64 a0_0,.int .i64 a0_1,.string a0_2] 26 (0,0)) (by (with_reducible repeat (first|refine ze ?_ _|refine zf ?_|refine zg ?_ _));exact BK269.out) hb);replace BK270:=zh (zD (g:=gb270) (o:=.cells #[.int .i64 a1] 3 (0,0)) (by (with_reducible repeat (first|refine ze ?_ _|refine zf ?_|refine zg ?_ _));exact BK270.out) hb);replace HB:=zh (zC (by repeat (with_reducible first|exact HB.out|apply za|apply zb|apply zc|refine zd ?_ GE269.out|refine zd ?_ GE270.out)) hb);(try clear hb);(try clear hb2);(try clear hk);(try clear hi);(try clear ho0);have hcz77_0 : w76.cell? ⟨gb269,0,none⟩=some (.int .i64 a0_0):=(zz BK269.out 0).trans rfl;have hcz77_1 : w76.cell? ⟨gb269,1,none⟩=some (.int .i64 a0_1):=(zz BK269.out 1).trans rfl;have hcz77_2 : w76.cell? ⟨gb269,2,none⟩=some (.string a0_2):=(zz BK269.out 2).trans rfl;have hfz77_0:=zA BK269.out 0;have hfz77_1:=zA BK269.out 1;have hfz77_2:=zA BK269.out 2))
    go_ret
    exact ⟨by first|rfl|(simp [yt,yu] <;> rfl)|(simp [*,yt,yu] <;> rfl),by repeat (with_reducible first|exact HB.out|apply za|apply zb|apply zc|refine zd ?_ GE269.out|refine zd ?_ GE270.out)⟩
   replace c46:=yb.mpr c46;subst c46;have H1 : (some false)=some r:=by rw [if_neg (show ¬ (false=true) by decide)] at H;exact H
   clear H;have H:=H1;clear H1;obtain rfl:=zU H
   go_wp2
   go_ret
   exact ⟨by first|rfl|(simp [yt,yu] <;> rfl)|(simp [*,yt,yu] <;> rfl),by repeat (with_reducible first|exact HB.out|apply za|apply zb|apply zc|refine zd ?_ GE269.out|refine zd ?_ GE270.out)⟩

end Go.Proofs.Ytpmeglcmhiihoaa.Q
end
section
namespace Go.Proofs.Ytpmeglcmhiihoaa.Q
open Go.RowKit Go.Proofs.YtpmeglcmhiihoaaW.PrintWords Go.Proofs.YtpmeglcmhiihoaaW.PrintLast Go.Proofs.YtpmeglcmhiihoaaW.PrintMore
attribute [local go_sem] max2_int min2_int max_two min_two max_three min_three max_four min_four max2_str min2_str str_geq str_gtr str_leq   -- for this text's walks alone
set_option linter.unusedVariables false
set_option linter.unusedSimpArgs false

def impl_ValueOK.f (k : Nat) (a0_0 : Int) (a0_1 : Int) (a0_2 : ByteArray) : Option (Bool):=(impl_isRight.f k a0_0 a0_1 a0_2 5).bind fun t279 => (some t279)
theorem impl_ValueOK.mono : ∀ a0 a1 a2 k,LeO (impl_ValueOK.f k a0 a1 a2) (impl_ValueOK.f (k + 1) a0 a1 a2):=by
 intro a0 a1 a2 k;unfold impl_ValueOK.f
 repeat' first|(with_reducible exact impl_isRight.mono _ _ _ _ _)|(with_reducible exact zQ _)|(with_reducible exact zN _)|(with_reducible refine zP ?_ ?_)|(with_reducible refine zO ?_ (fun _ => ?_))|refine zP ?_ ?_|refine zO ?_ (fun _ => ?_)
set_option maxHeartbeats 8000000 in
set_option maxRecDepth 100000 in
theorem impl_ValueOK.calls (k : Nat) (a0_0 : Int) (a0_1 : Int) (a0_2 : ByteArray) (r : Bool) (w : World) (h : impl_ValueOK.f k a0_0 a0_1 a0_2=some r) :
  Calls Try.prog 17 #[.agg #[.int .i64 a0_0,.int .i64 a0_1,.string a0_2]] w fun e w' => e = .returned (.bool r)∧Below w.heap.size w w':=by
 have hu26:=Try.underlying26;have HB:=zh (Below.refl w.heap.size w);have H : ((impl_isRight.f k a0_0 a0_1 a0_2 5).bind fun t279 => (some t279))=some r:=h;clear h;replace H:=zT.mp H;obtain ⟨t279,A20,H⟩:=H;replace H : (some t279)=some r:=H;have A2:=zh A20;clear A20;obtain rfl:=zU H
 go_enter Try.func17,Try.ntmps17
 go_wp2_with (first|((with_reducible refine zK (N:=1) rfl ?_);refine zI ?hg (N:=1) ?hd (cs:=#[.int .i64 a0_0,.int .i64 a0_1,.string a0_2]) (t:=26) ?hr ?_;(case hd => rfl);(case hg => rfl);(case hr => first|(go_simp;done)|(go_simp;rfl));intro gb278 hg w3 hbox hb;have BK278:=zh (hbox);have GW278:=zh ((by rw [hg];exact (zB (by repeat (with_reducible first|exact HB.out|apply za|apply zb|apply zc))) : w.heap.size≤gb278));have GE278:=zh ((by rw [hg];exact (zB (by repeat (with_reducible first|exact HB.out|apply za|apply zb|apply zc))) : w.heap.size≤gb278));replace HB:=zh (zC (by repeat (with_reducible first|exact HB.out|apply za|apply zb|apply zc)) hb);clear hb hbox hg;have hcz4_0 : w3.cell? ⟨gb278,0,none⟩=some (.int .i64 a0_0):=(zz BK278.out 0).trans rfl;have hcz4_1 : w3.cell? ⟨gb278,1,none⟩=some (.int .i64 a0_1):=(zz BK278.out 1).trans rfl;have hcz4_2 : w3.cell? ⟨gb278,2,none⟩=some (.string a0_2):=(zz BK278.out 2).trans rfl;have hfz4_0:=zA BK278.out 0;have hfz4_1:=zA BK278.out 1;have hfz4_2:=zA BK278.out 2)|((with_reducible refine zJ (f:=54) rfl ?_);refine yj (some 4) rfl rfl Try.func54 (by kernel_rfl) rfl #[.agg #[.int .i64 a0_0,.int .i64 a0_1,.string a0_2],.int .i64 5] rfl (by (try simp only [zt,zu,zv]);first|done|rfl|(simp only [zw,zx];rfl)|(simp only [yr,ys,zV,zW];rfl)) ?_;(with_reducible refine (impl_isRight.calls k  a0_0 a0_1 a0_2 5 t279 _ A2.out).mono ?_);rintro e w5 ⟨rfl,hb⟩;refine ⟨_,rfl,?_⟩;replace BK278:=zh (zD (g:=gb278) (o:=.cells #[.int .i64 a0_0,.int .i64 a0_1,.string a0_2] 26 (0,0)) (by (with_reducible repeat (first|refine ze ?_ _|refine zf ?_|refine zg ?_ _));exact BK278.out) hb);replace HB:=zh (zC (by repeat (with_reducible first|exact HB.out|apply za|apply zb|apply zc|refine zd ?_ GE278.out)) hb);(try clear hb);(try clear hb2);(try clear hk);(try clear hi)))
 go_ret
 exact ⟨by first|rfl|(simp [yt,yu] <;> rfl)|(simp [*,yt,yu] <;> rfl),by repeat (with_reducible first|exact HB.out|apply za|apply zb|apply zc|refine zd ?_ GE278.out)⟩

end Go.Proofs.Ytpmeglcmhiihoaa.Q
end
section
namespace Go.Proofs.Ytpmeglcmhiihoaa.Q
open Go.RowKit Go.Proofs.YtpmeglcmhiihoaaW.PrintWords Go.Proofs.YtpmeglcmhiihoaaW.PrintLast Go.Proofs.YtpmeglcmhiihoaaW.PrintMore
attribute [local go_sem] max2_int min2_int max_two min_two max_three min_three max_four min_four max2_str min2_str str_geq str_gtr str_leq   -- for this text's walks alone
set_option linter.unusedVariables false
set_option linter.unusedSimpArgs false

def impl_areRight_1.f (k : Nat) (a0_0 : Int) (a0_1 : Int) (a0_2 : ByteArray) : Option (Bool):=(impl_ValueOK.f k a0_0 a0_1 a0_2).bind fun t645 => (some (!t645))
theorem impl_areRight_1.mono : ∀ a0 a1 a2 k,LeO (impl_areRight_1.f k a0 a1 a2) (impl_areRight_1.f (k + 1) a0 a1 a2):=by
 intro a0 a1 a2 k;unfold impl_areRight_1.f
 repeat' first|(with_reducible exact impl_ValueOK.mono _ _ _ _)|(with_reducible exact zQ _)|(with_reducible exact zN _)|(with_reducible refine zP ?_ ?_)|(with_reducible refine zO ?_ (fun _ => ?_))|refine zP ?_ ?_|refine zO ?_ (fun _ => ?_)
set_option maxHeartbeats 8000000 in
set_option maxRecDepth 100000 in
theorem impl_areRight_1.calls (k : Nat) (a0_0 : Int) (a0_1 : Int) (a0_2 : ByteArray) (r : Bool) (w : World) (h : impl_areRight_1.f k a0_0 a0_1 a0_2=some r) :
  Calls Try.prog 96 #[.agg #[.int .i64 a0_0,.int .i64 a0_1,.string a0_2]] w fun e w' => e = .returned (.bool r)∧Below w.heap.size w w':=by
 have hu26:=Try.underlying26;have HB:=zh (Below.refl w.heap.size w);have H : ((impl_ValueOK.f k a0_0 a0_1 a0_2).bind fun t645 => (some (!t645)))=some r:=h;clear h;replace H:=zT.mp H;obtain ⟨t645,A20,H⟩:=H;replace H : (some (!t645))=some r:=H;have A2:=zh A20;clear A20;obtain rfl:=zU H
 go_enter Try.func96,Try.ntmps96
 go_wp2_with (first|((with_reducible refine zK (N:=1) rfl ?_);refine zI ?hg (N:=1) ?hd (cs:=#[.int .i64 a0_0,.int .i64 a0_1,.string a0_2]) (t:=26) ?hr ?_;(case hd => rfl);(case hg => rfl);(case hr => first|(go_simp;done)|(go_simp;rfl));intro gb644 hg w3 hbox hb;have BK644:=zh (hbox);have GW644:=zh ((by rw [hg];exact (zB (by repeat (with_reducible first|exact HB.out|apply za|apply zb|apply zc))) : w.heap.size≤gb644));have GE644:=zh ((by rw [hg];exact (zB (by repeat (with_reducible first|exact HB.out|apply za|apply zb|apply zc))) : w.heap.size≤gb644));replace HB:=zh (zC (by repeat (with_reducible first|exact HB.out|apply za|apply zb|apply zc)) hb);clear hb hbox hg;have hcz4_0 : w3.cell? ⟨gb644,0,none⟩=some (.int .i64 a0_0):=(zz BK644.out 0).trans rfl;have hcz4_1 : w3.cell? ⟨gb644,1,none⟩=some (.int .i64 a0_1):=(zz BK644.out 1).trans rfl;have hcz4_2 : w3.cell? ⟨gb644,2,none⟩=some (.string a0_2):=(zz BK644.out 2).trans rfl;have hfz4_0:=zA BK644.out 0;have hfz4_1:=zA BK644.out 1;have hfz4_2:=zA BK644.out 2)|((with_reducible refine zJ (f:=17) rfl ?_);refine yj (some 4) rfl rfl Try.func17 (by kernel_rfl) rfl #[.agg #[.int .i64 a0_0,.int .i64 a0_1,.string a0_2]] rfl (by (try simp only [zt,zu,zv]);first|done|rfl|(simp only [zw,zx];rfl)|(simp only [yr,ys,zV,zW];rfl)) ?_;(with_reducible refine (impl_ValueOK.calls k  a0_0 a0_1 a0_2 t645 _ A2.out).mono ?_);rintro e w5 ⟨rfl,hb⟩;refine ⟨_,rfl,?_⟩;replace BK644:=zh (zD (g:=gb644) (o:=.cells #[.int .i64 a0_0,.int .i64 a0_1,.string a0_2] 26 (0,0)) (by (with_reducible repeat (first|refine ze ?_ _|refine zf ?_|refine zg ?_ _));exact BK644.out) hb);replace HB:=zh (zC (by repeat (with_reducible first|exact HB.out|apply za|apply zb|apply zc|refine zd ?_ GE644.out)) hb);(try clear hb);(try clear hb2);(try clear hk);(try clear hi)))
 go_ret
 exact ⟨by first|rfl|(simp [yt,yu] <;> rfl)|(simp [*,yt,yu] <;> rfl),by repeat (with_reducible first|exact HB.out|apply za|apply zb|apply zc|refine zd ?_ GE644.out)⟩

end Go.Proofs.Ytpmeglcmhiihoaa.Q
end
section
namespace Go.Proofs.Ytpmeglcmhiihoaa.Q
open Go.RowKit Go.Proofs.YtpmeglcmhiihoaaW.PrintWords Go.Proofs.YtpmeglcmhiihoaaW.PrintLast Go.Proofs.YtpmeglcmhiihoaaW.PrintMore
attribute [local go_sem] max2_int min2_int max_two min_two max_three min_three max_four min_four max2_str min2_str str_geq str_gtr str_leq   -- for this text's walks alone
set_option linter.unusedVariables false
set_option linter.unusedSimpArgs false

def impl_Value_at_areRight_1_200003.l0 : Nat→List (S26)→Int→Int→Option (Int)
 | 0,_,_,_ => none
 | k + 1,x0,x7,x8 => if x8<x7 then (if 0≤x8 then (if x8<(x0.length : Int) then ((impl_areRight_1.f k ((rd_T26 x0 x8).f0) ((rd_T26 x0 x8).f1) ((rd_T26 x0 x8).f2)).bind fun t647 => (if t647=true then (some x8) else (impl_Value_at_areRight_1_200003.l0 k x0 x7 (wrap64 (x8 + 1))))) else (none)) else (none)) else (some (-1))
def impl_Value_at_areRight_1_200003.f (k : Nat) (l0 : List (S26))  : Option (Int):=impl_Value_at_areRight_1_200003.l0 k l0 (l0.length : Int) 0
theorem impl_Value_at_areRight_1_200003.mono_l : ∀ k,(∀ y0 y1 y2,LeO (impl_Value_at_areRight_1_200003.l0 k y0 y1 y2) (impl_Value_at_areRight_1_200003.l0 (k + 1) y0 y1 y2))
 | 0 => fun _ _ _ r h => by simp [impl_Value_at_areRight_1_200003.l0] at h
 | k + 1 => by
  have ih0:=impl_Value_at_areRight_1_200003.mono_l k;intro y0 y1 y2;unfold impl_Value_at_areRight_1_200003.l0
  repeat' first|(with_reducible exact ih0 _ _ _)|(with_reducible exact impl_areRight_1.mono _ _ _ _)|(with_reducible exact zQ _)|(with_reducible exact zN _)|(with_reducible refine zP ?_ ?_)|(with_reducible refine zO ?_ (fun _ => ?_))|refine zP ?_ ?_|refine zO ?_ (fun _ => ?_)
theorem impl_Value_at_areRight_1_200003.mono : ∀ a0 k,LeO (impl_Value_at_areRight_1_200003.f k a0) (impl_Value_at_areRight_1_200003.f (k + 1) a0):=by
 intro a0 k;have ih0:=impl_Value_at_areRight_1_200003.mono_l k;unfold impl_Value_at_areRight_1_200003.f
 repeat' first|(with_reducible exact ih0 _ _ _)|(with_reducible exact impl_areRight_1.mono _ _ _ _)|(with_reducible exact zQ _)|(with_reducible exact zN _)|(with_reducible refine zP ?_ ?_)|(with_reducible refine zO ?_ (fun _ => ?_))|refine zP ?_ ?_|refine zO ?_ (fun _ => ?_)
set_option maxHeartbeats 8000000 in
set_option maxRecDepth 100000 in
theorem impl_Value_at_areRight_1_200003.calls (k : Nat) (A0 : Option Addr) (c0 : Nat) (l0 : List (S26))  (r : Int) (w : World) (hr0 : Kd.C k26 w A0 l0.length l0) (hc0 : l0.length≤c0) (h : impl_Value_at_areRight_1_200003.f k l0=some r) :
  Calls Try.prog 113 #[.slice A0 l0.length c0,.func (.func 96) #[] #[]] w fun e w' => e = .returned (.int .i64 r)∧Below w.heap.size w w':=by
 have hu26:=Try.underlying26;have HR0:=zh hr0;have HC0:=zh hc0;clear hr0 hc0;have HB:=zh (Below.refl w.heap.size w);have H : (impl_Value_at_areRight_1_200003.l0 k l0 (l0.length : Int) 0)=some r:=h;clear h;have H':=zh H;clear H
 go_enter Try.func113,Try.ntmps113
 go_wp2
 go_loopg [8] k (fun kq v8 w' => ∃ (x8_1 : Int),v8 = .int .i64 x8_1∧Aside0 (impl_Value_at_areRight_1_200003.l0 kq l0 (l0.length : Int) x8_1=some r)∧Aside0 (kq≤k)∧Aside0 (Below w.heap.size w w'))
 case atStart => exact ⟨(0),(by first|rfl|(simp;done)|(simp [*];done)),H',⟨ye _⟩,⟨by repeat (with_reducible first|exact HB.out|apply za|apply zb|apply zc)⟩⟩
 case round =>
  clear H'
  try clear c1
  try clear p2
  obtain ⟨x8_1,rfl,HA,HK1,HB⟩:=hrel
  cases gk with
  | zero => exact absurd HA.out (by simp [impl_Value_at_areRight_1_200003.l0])
  | succ k1 =>
   have H:=HA.out;clear HA;simp only [impl_Value_at_areRight_1_200003.l0] at H
   by_cases c3 : x8_1<(l0.length : Int)
   ·
    rw [if_pos c3] at H
    have c3b0 : decide (x8_1<(l0.length : Int))=true:=decide_eq_true c3;clear c3
    by_cases c4 : 0≤x8_1
    ·
     rw [if_pos c4] at H
     have c4b0 : decide (0≤x8_1)=true:=decide_eq_true c4;clear c4
     by_cases c5 : x8_1<(l0.length : Int)
     ·
      rw [if_pos c5] at H
      have c5b0 : decide (x8_1<(l0.length : Int))=true:=decide_eq_true c5;clear c5;replace H:=zT.mp H;obtain ⟨t647,A60,H⟩:=H;replace H : (if t647=true then (some x8_1) else (impl_Value_at_areRight_1_200003.l0 k1 l0 (l0.length : Int) (wrap64 (x8_1 + 1))))=some r:=H;have A6:=zh A60;clear A60
      by_cases c7 : t647=true
      ·
       subst c7
       have H1 : (some x8_1)=some r:=by rw [if_pos rfl] at H;exact H
       clear H;have H:=H1;clear H1;obtain rfl:=zU H;have p646 : 0≤(x8_1 : Int):=zy (by first|(with_reducible assumption)|assumption);have q646 : x8_1<(l0.length : Int):=zy (by first|(with_reducible assumption)|assumption);obtain ⟨ad646,e646,hx646_0,hx646_1,hx646_2⟩:=at_T26 HR0.out x8_1 p646 q646
       cases e646
       replace hx646_0:=(HB.out.cell (zl w _ hx646_0)).trans hx646_0;replace hx646_1:=(HB.out.cell (zl w _ hx646_1)).trans hx646_1;replace hx646_2:=(HB.out.cell (zl w _ hx646_2)).trans hx646_2;replace p646:=eq_true p646;replace q646:=eq_true q646
       go_wp2_with (first|(go_at_call 96;(with_reducible refine (impl_areRight_1.calls k1  ((rd_T26 l0 x8_1).f0) ((rd_T26 l0 x8_1).f1) ((rd_T26 l0 x8_1).f2) true _ A6.out).mono ?_);rintro e w8 ⟨rfl,hb⟩;replace HB:=zh (zC (by repeat (with_reducible first|exact HB.out|apply za|apply zb|apply zc)) hb);(try clear hb);(try clear hb2);(try clear hk);(try clear hi)))
       go_ret
       exact ⟨by first|rfl|(simp [yt,yu] <;> rfl)|(simp [*,yt,yu] <;> rfl),by repeat (with_reducible first|exact HB.out|apply za|apply zb|apply zc)⟩
      replace c7:=yb.mpr c7;subst c7;have H1 : (impl_Value_at_areRight_1_200003.l0 k1 l0 (l0.length : Int) (wrap64 (x8_1 + 1)))=some r:=by rw [if_neg (show ¬ (false=true) by decide)] at H;exact H
      clear H;have H:=H1;clear H1;have H':=zh H;clear H;have p646 : 0≤(x8_1 : Int):=zy (by first|(with_reducible assumption)|assumption);have q646 : x8_1<(l0.length : Int):=zy (by first|(with_reducible assumption)|assumption);obtain ⟨ad646,e646,hx646_0,hx646_1,hx646_2⟩:=at_T26 HR0.out x8_1 p646 q646
      cases e646
      replace hx646_0:=(HB.out.cell (zl w _ hx646_0)).trans hx646_0;replace hx646_1:=(HB.out.cell (zl w _ hx646_1)).trans hx646_1;replace hx646_2:=(HB.out.cell (zl w _ hx646_2)).trans hx646_2;replace p646:=eq_true p646;replace q646:=eq_true q646
      go_wp2_with (first|(go_at_call 96;(with_reducible refine (impl_areRight_1.calls k1  ((rd_T26 l0 x8_1).f0) ((rd_T26 l0 x8_1).f1) ((rd_T26 l0 x8_1).f2) false _ A6.out).mono ?_);rintro e w9 ⟨rfl,hb⟩;replace HB:=zh (zC (by repeat (with_reducible first|exact HB.out|apply za|apply zb|apply zc)) hb);(try clear hb);(try clear hb2);(try clear hk);(try clear hi)))
      go_roundg k1
      case measure => have:=HK1.out;omega
      case rel => exact ⟨(wrap64 (x8_1 + 1)),(by first|rfl|(simp;done)|(simp [*];done)),H',⟨by have:=HK1.out;omega⟩,⟨by repeat (with_reducible first|exact HB.out|apply za|apply zb|apply zc)⟩⟩
     rw [if_neg c5] at H;exact absurd H (by simp)
    rw [if_neg c4] at H;exact absurd H (by simp)
   rw [if_neg c3] at H;have c3b0 : decide (x8_1<(l0.length : Int))=false:=decide_eq_false c3;clear c3;obtain rfl:=zU H
   go_wp2
   go_ret
   exact ⟨by first|rfl|(simp [yt,yu] <;> rfl)|(simp [*,yt,yu] <;> rfl),by repeat (with_reducible first|exact HB.out|apply za|apply zb|apply zc)⟩

end Go.Proofs.Ytpmeglcmhiihoaa.Q
end
section
namespace Go.Proofs.Ytpmeglcmhiihoaa.Q
open Go.RowKit Go.Proofs.YtpmeglcmhiihoaaW.PrintWords Go.Proofs.YtpmeglcmhiihoaaW.PrintLast Go.Proofs.YtpmeglcmhiihoaaW.PrintMore
attribute [local go_sem] max2_int min2_int max_two min_two max_three min_three max_four min_four max2_str min2_str str_geq str_gtr str_leq   -- for this text's walks alone
set_option linter.unusedVariables false
set_option linter.unusedSimpArgs false

def impl_Value_at_areRight_1.f (k : Nat) (l0 : List (S26))  : Option (Bool):=(impl_Value_at_areRight_1_200003.f k l0).bind fun t648 => (some (decide (t648 ≥ 0)))
theorem impl_Value_at_areRight_1.mono : ∀ a0 k,LeO (impl_Value_at_areRight_1.f k a0) (impl_Value_at_areRight_1.f (k + 1) a0):=by
 intro a0 k;unfold impl_Value_at_areRight_1.f
 repeat' first|(with_reducible exact impl_Value_at_areRight_1_200003.mono _ _)|(with_reducible exact zQ _)|(with_reducible exact zN _)|(with_reducible refine zP ?_ ?_)|(with_reducible refine zO ?_ (fun _ => ?_))|refine zP ?_ ?_|refine zO ?_ (fun _ => ?_)
set_option maxHeartbeats 8000000 in
set_option maxRecDepth 100000 in
theorem impl_Value_at_areRight_1.calls (k : Nat) (A0 : Option Addr) (c0 : Nat) (l0 : List (S26))  (r : Bool) (w : World) (hr0 : Kd.C k26 w A0 l0.length l0) (hc0 : l0.length≤c0) (h : impl_Value_at_areRight_1.f k l0=some r) :
  Calls Try.prog 88 #[.slice A0 l0.length c0,.func (.func 96) #[] #[]] w fun e w' => e = .returned (.bool r)∧Below w.heap.size w w':=by
 have HR0:=zh hr0;have HC0:=zh hc0;clear hr0 hc0;have HB:=zh (Below.refl w.heap.size w);have H : ((impl_Value_at_areRight_1_200003.f k l0).bind fun t648 => (some (decide (t648 ≥ 0))))=some r:=h;clear h;replace H:=zT.mp H;obtain ⟨t648,A30,H⟩:=H;replace H : (some (decide (t648 ≥ 0)))=some r:=H;have A3:=zh A30;clear A30;obtain rfl:=zU H
 go_enter Try.func88,Try.ntmps88
 go_wp2_with (first|((with_reducible refine zJ (f:=113) rfl ?_);refine yj (some 7) rfl rfl Try.func113 (by kernel_rfl) rfl #[.slice A0 l0.length c0,.func (.func 96) #[] #[]] rfl (by (try simp only [zt,zu,zv]);first|done|rfl|(simp only [zw,zx];rfl)|(simp only [yr,ys,zV,zW];rfl)) ?_;(with_reducible refine (impl_Value_at_areRight_1_200003.calls k  _ _ l0  t648 _ ?side1 ?side2 A3.out).mono ?_);(case side1 => repeat (first|exact HR0.out|(with_reducible refine Kd.C_alloc ?_ _)|(with_reducible refine Kd.C_drewN ?_ _)|(with_reducible refine Kd.C_drew ?_)));(case side2 => exact HC0.out);rintro e w4 ⟨rfl,hb⟩;refine ⟨_,rfl,?_⟩;replace HB:=zh (zC (by repeat (with_reducible first|exact HB.out|apply za|apply zb|apply zc)) hb);(try clear hb);(try clear hb2);(try clear hk);(try clear hi)))
 go_ret
 exact ⟨by first|rfl|(simp [yt,yu] <;> rfl)|(simp [*,yt,yu] <;> rfl),by repeat (with_reducible first|exact HB.out|apply za|apply zb|apply zc)⟩

end Go.Proofs.Ytpmeglcmhiihoaa.Q
end
section
namespace Go.Proofs.Ytpmeglcmhiihoaa.Q
open Go.RowKit Go.Proofs.YtpmeglcmhiihoaaW.PrintWords Go.Proofs.YtpmeglcmhiihoaaW.PrintLast Go.Proofs.YtpmeglcmhiihoaaW.PrintMore
attribute [local go_sem] max2_int min2_int max_two min_two max_three min_three max_four min_four max2_str min2_str str_geq str_gtr str_leq   -- for this text's walks alone
set_option linter.unusedVariables false
set_option linter.unusedSimpArgs false

def impl_areRight.f (k : Nat) (l0 : List (S26)) : Option (Bool):=(impl_Value_at_areRight_1.f k l0).bind fun t649 => (some (!t649))
theorem impl_areRight.mono : ∀ a0 k,LeO (impl_areRight.f k a0) (impl_areRight.f (k + 1) a0):=by
 intro a0 k;unfold impl_areRight.f
 repeat' first|(with_reducible exact impl_Value_at_areRight_1.mono _ _)|(with_reducible exact zQ _)|(with_reducible exact zN _)|(with_reducible refine zP ?_ ?_)|(with_reducible refine zO ?_ (fun _ => ?_))|refine zP ?_ ?_|refine zO ?_ (fun _ => ?_)
set_option maxHeartbeats 8000000 in
set_option maxRecDepth 100000 in
theorem impl_areRight.calls (k : Nat) (A0 : Option Addr) (c0 : Nat) (l0 : List (S26)) (r : Bool) (w : World) (hr0 : Kd.C k26 w A0 l0.length l0) (hc0 : l0.length≤c0) (h : impl_areRight.f k l0=some r) :
  Calls Try.prog 68 #[.slice A0 l0.length c0] w fun e w' => e = .returned (.bool r)∧Below w.heap.size w w':=by
 have HR0:=zh hr0;have HC0:=zh hc0;clear hr0 hc0;have HB:=zh (Below.refl w.heap.size w);have H : ((impl_Value_at_areRight_1.f k l0).bind fun t649 => (some (!t649)))=some r:=h;clear h;replace H:=zT.mp H;obtain ⟨t649,A20,H⟩:=H;replace H : (some (!t649))=some r:=H;have A2:=zh A20;clear A20;obtain rfl:=zU H
 go_enter Try.func68,Try.ntmps68
 go_wp2_with (first|((with_reducible refine zJ (f:=88) rfl ?_);refine yj (some 4) rfl rfl Try.func88 (by kernel_rfl) rfl #[.slice A0 l0.length c0,.func (.func 96) #[] #[]] rfl (by (try simp only [zt,zu,zv]);first|done|rfl|(simp only [zw,zx];rfl)|(simp only [yr,ys,zV,zW];rfl)) ?_;(with_reducible refine (impl_Value_at_areRight_1.calls k  _ _ l0  t649 _ ?side1 ?side2 A2.out).mono ?_);(case side1 => repeat (first|exact HR0.out|(with_reducible refine Kd.C_alloc ?_ _)|(with_reducible refine Kd.C_drewN ?_ _)|(with_reducible refine Kd.C_drew ?_)));(case side2 => exact HC0.out);rintro e w3 ⟨rfl,hb⟩;refine ⟨_,rfl,?_⟩;replace HB:=zh (zC (by repeat (with_reducible first|exact HB.out|apply za|apply zb|apply zc)) hb);(try clear hb);(try clear hb2);(try clear hk);(try clear hi)))
 go_ret
 exact ⟨by first|rfl|(simp [yt,yu] <;> rfl)|(simp [*,yt,yu] <;> rfl),by repeat (with_reducible first|exact HB.out|apply za|apply zb|apply zc)⟩

end Go.Proofs.Ytpmeglcmhiihoaa.Q
end
section
namespace Go.Proofs.Ytpmeglcmhiihoaa.Q
open Go.RowKit Go.Proofs.YtpmeglcmhiihoaaW.PrintWords Go.Proofs.YtpmeglcmhiihoaaW.PrintLast Go.Proofs.YtpmeglcmhiihoaaW.PrintMore
attribute [local go_sem] max2_int min2_int max_two min_two max_three min_three max_four min_four max2_str min2_str str_geq str_gtr str_leq   -- for this text's walks alone
set_option linter.unusedVariables false
set_option linter.unusedSimpArgs false

def strings_Compare.f (a0 : ByteArray) (a1 : ByteArray) : Option (Int):=some (Lib.compareBytes a0.data.toList a1.data.toList)
set_option maxHeartbeats 1000000 in
set_option maxRecDepth 100000 in
theorem strings_Compare.inner (a b : ByteArray) (w : World) :
  Calls Try.prog 117 #[.string a,.string b] w fun e w' => e = .returned (.int .i64 (Lib.compareBytes a.data.toList b.data.toList))∧w' = w:=by
 go_enter Try.func117,Try.ntmps117
 go_wp2
 rw [run_callFunc_extern Try.func131 (by kernel_rfl) (by kernel_rfl) (by kernel_rfl) (e:=Extern.BytealgCompare.compare) (by kernel_rfl),Lib.run_compareString];simp only [Result.andThen];rw [Oper.upon_value]
 go_wp2
 go_ret
 exact ⟨rfl,rfl⟩
set_option maxHeartbeats 1000000 in
theorem strings_Compare.calls (a0 : ByteArray) (a1 : ByteArray) (r : Int) (w : World) (h : strings_Compare.f a0 a1=some r) :
  Calls Try.prog 102 #[.string a0,.string a1] w fun e w' => e = .returned (.int .i64 r)∧Drawn0 w w':=by
 have h' : (some (Lib.compareBytes a0.data.toList a1.data.toList))=some r:=h;obtain rfl:=zU h';clear h h'
 go_enter Try.func102,Try.ntmps102
 go_wp2_with (go_at_call 117;refine (strings_Compare.inner _ _ _).mono ?_;rintro e w' ⟨rfl,rfl⟩)
 go_ret
 exact ⟨rfl,yp _⟩

end Go.Proofs.Ytpmeglcmhiihoaa.Q
end
section
namespace Go.Proofs.Ytpmeglcmhiihoaa.Q
open Go.RowKit Go.Proofs.YtpmeglcmhiihoaaW.PrintWords Go.Proofs.YtpmeglcmhiihoaaW.PrintLast Go.Proofs.YtpmeglcmhiihoaaW.PrintMore
attribute [local go_sem] max2_int min2_int max_two min_two max_three min_three max_four min_four max2_str min2_str str_geq str_gtr str_leq   -- for this text's walks alone
set_option linter.unusedVariables false
set_option linter.unusedSimpArgs false

def cmp_Or_int.l0 : Nat→Int→List Int→Int→Int→Option (Int)
 | 0,_,_,_,_ => none
 | k + 1,x3,x6,x7,x8 => if x8<x7 then (if 0≤x8 then (if x8<(x6.length : Int) then (if (rd x6 x8)=x3 then (cmp_Or_int.l0 k x3 x6 x7 (wrap64 (x8 + 1))) else (some (rd x6 x8))) else (none)) else (none)) else (some x3)
def cmp_Or_int.f (k : Nat) (l0 : List Int) : Option (Int):=cmp_Or_int.l0 k 0 l0 (l0.length : Int) 0
theorem cmp_Or_int.mono_l : ∀ k,(∀ y0 y1 y2 y3,LeO (cmp_Or_int.l0 k y0 y1 y2 y3) (cmp_Or_int.l0 (k + 1) y0 y1 y2 y3))
 | 0 => fun _ _ _ _ r h => by simp [cmp_Or_int.l0] at h
 | k + 1 => by
  have ih0:=cmp_Or_int.mono_l k;intro y0 y1 y2 y3;unfold cmp_Or_int.l0
  repeat' first|(with_reducible exact ih0 _ _ _ _)|(with_reducible exact zQ _)|(with_reducible exact zN _)|(with_reducible refine zP ?_ ?_)|(with_reducible refine zO ?_ (fun _ => ?_))|refine zP ?_ ?_|refine zO ?_ (fun _ => ?_)
theorem cmp_Or_int.mono : ∀ a0 k,LeO (cmp_Or_int.f k a0) (cmp_Or_int.f (k + 1) a0):=by
 intro a0 k;have ih0:=cmp_Or_int.mono_l k;unfold cmp_Or_int.f
 repeat' first|(with_reducible exact ih0 _ _ _ _)|(with_reducible exact zQ _)|(with_reducible exact zN _)|(with_reducible refine zP ?_ ?_)|(with_reducible refine zO ?_ (fun _ => ?_))|refine zP ?_ ?_|refine zO ?_ (fun _ => ?_)
set_option maxHeartbeats 8000000 in
set_option maxRecDepth 100000 in
theorem cmp_Or_int.calls (k : Nat) (A0 : Option Addr) (c0 : Nat) (l0 : List Int) (r : Int) (w : World) (hr0 : Kd.C (Kd.int .i64) w A0 l0.length l0) (hc0 : l0.length≤c0) (h : cmp_Or_int.f k l0=some r) :
  Calls Try.prog 97 #[.slice A0 l0.length c0] w fun e w' => e = .returned (.int .i64 r)∧Drawn0 w w':=by
 have HR0:=zh hr0;have HC0:=zh hc0;clear hr0 hc0;have H : (cmp_Or_int.l0 k 0 l0 (l0.length : Int) 0)=some r:=h;clear h;have H':=zh H;clear H
 go_enter Try.func97,Try.ntmps97
 go_wp2
 go_loopg [8] k (fun kq v8 w' => ∃ (x8_1 : Int),v8 = .int .i64 x8_1∧Aside0 (cmp_Or_int.l0 kq 0 l0 (l0.length : Int) x8_1=some r)∧Aside0 (kq≤k)∧Drawn0 w w')
 case atStart => exact ⟨(0),(by first|rfl|(simp;done)|(simp [*];done)),H',⟨ye _⟩,by repeat (first|exact yp _|apply yq)⟩
 case round =>
  clear H';obtain ⟨x8_1,rfl,HA,HK1,⟨m1,rfl⟩⟩:=hrel
  cases gk with
  | zero => exact absurd HA.out (by simp [cmp_Or_int.l0])
  | succ k1 =>
   have H:=HA.out;clear HA;simp only [cmp_Or_int.l0] at H
   by_cases c2 : x8_1<(l0.length : Int)
   ·
    rw [if_pos c2] at H
    have c2b0 : decide (x8_1<(l0.length : Int))=true:=decide_eq_true c2;clear c2
    by_cases c3 : 0≤x8_1
    ·
     rw [if_pos c3] at H
     have c3b0 : decide (0≤x8_1)=true:=decide_eq_true c3;clear c3
     by_cases c4 : x8_1<(l0.length : Int)
     ·
      rw [if_pos c4] at H
      have c4b0 : decide (x8_1<(l0.length : Int))=true:=decide_eq_true c4;clear c4
      by_cases c5 : (rd l0 x8_1)=0
      ·
       rw [if_pos c5] at H
       have c5b0 : ((rd l0 x8_1) == 0)=true:=ya.mpr c5;have c5b1 : ((rd l0 x8_1) != 0)=false:=zX.mpr c5;clear c5;have H':=zh H;clear H;have p650 : 0≤(x8_1 : Int):=zy (by first|(with_reducible assumption)|assumption);have q650 : x8_1<(l0.length : Int):=zy (by first|(with_reducible assumption)|assumption);obtain ⟨ad650,e650,hx650_0⟩:=Kd.at_int HR0.out x8_1 p650 q650
       cases e650
       replace p650:=eq_true p650;replace q650:=eq_true q650
       go_wp2
       go_roundg k1
       case measure => have:=HK1.out;omega
       case rel => exact ⟨(wrap64 (x8_1 + 1)),(by first|rfl|(simp;done)|(simp [*];done)),H',⟨by have:=HK1.out;omega⟩,by repeat (first|exact yp _|apply yq)⟩
      rw [if_neg c5] at H;have c5b0 : ((rd l0 x8_1) == 0)=false:=zY.mpr c5;have c5b1 : ((rd l0 x8_1) != 0)=true:=zZ.mpr c5;obtain rfl:=zU H;have p650 : 0≤(x8_1 : Int):=zy (by first|(with_reducible assumption)|assumption);have q650 : x8_1<(l0.length : Int):=zy (by first|(with_reducible assumption)|assumption);obtain ⟨ad650,e650,hx650_0⟩:=Kd.at_int HR0.out x8_1 p650 q650
      cases e650
      replace p650:=eq_true p650;replace q650:=eq_true q650
      go_wp2
      go_ret
      exact ⟨by first|rfl|(simp;done)|(simp [*];done),by repeat (first|exact yp _|apply yq)⟩
     rw [if_neg c4] at H;exact absurd H (by simp)
    rw [if_neg c3] at H;exact absurd H (by simp)
   rw [if_neg c2] at H;have c2b0 : decide (x8_1<(l0.length : Int))=false:=decide_eq_false c2;clear c2;obtain rfl:=zU H
   go_wp2
   go_ret
   exact ⟨by first|rfl|(simp;done)|(simp [*];done),by repeat (first|exact yp _|apply yq)⟩

end Go.Proofs.Ytpmeglcmhiihoaa.Q
end
section
namespace Go.Proofs.Ytpmeglcmhiihoaa.Q
open Go.RowKit Go.Proofs.YtpmeglcmhiihoaaW.PrintWords Go.Proofs.YtpmeglcmhiihoaaW.PrintLast Go.Proofs.YtpmeglcmhiihoaaW.PrintMore
attribute [local go_sem] max2_int min2_int max_two min_two max_three min_three max_four min_four max2_str min2_str str_geq str_gtr str_leq   -- for this text's walks alone
set_option linter.unusedVariables false
set_option linter.unusedSimpArgs false

def impl_orderFields.f (k : Nat) (G : Int→Int→ByteArray→Int→Int→ByteArray→Option (Int)) (a0_0 : ByteArray) (a0_1 : Int) (a0_2 : Int) (a0_3 : ByteArray) (a1_0 : ByteArray) (a1_1 : Int) (a1_2 : Int) (a1_3 : ByteArray) : Option (Int):=(strings_Compare.f a0_0 a1_0).bind fun t655 => ((G a0_1 a0_2 a0_3 a1_1 a1_2 a1_3).bind fun t656 => ((cmp_Or_int.f k (([t655,t656] : List Int))).bind fun t660 => (some t660)))
theorem impl_orderFields.mono : ∀ (G G' : Int→Int→ByteArray→Int→Int→ByteArray→Option (Int)) (hG : ∀ y0 y1 y2 y3 y4 y5,LeO (G y0 y1 y2 y3 y4 y5) (G' y0 y1 y2 y3 y4 y5)),∀ a0 a1 a2 a3 a4 a5 a6 a7 k,LeO (impl_orderFields.f k G a0 a1 a2 a3 a4 a5 a6 a7) (impl_orderFields.f (k + 1) G' a0 a1 a2 a3 a4 a5 a6 a7):=by
 intro G G' hG a0 a1 a2 a3 a4 a5 a6 a7 k;unfold impl_orderFields.f
 repeat' first|(with_reducible exact hG _ _ _ _ _ _)|(with_reducible exact cmp_Or_int.mono _ _)|(with_reducible exact zQ _)|(with_reducible exact zN _)|(with_reducible refine zP ?_ ?_)|(with_reducible refine zO ?_ (fun _ => ?_))|refine zP ?_ ?_|refine zO ?_ (fun _ => ?_)
def impl_orderFields.T1 : Bool×List (List Nat×List Nat):=(true,[([],[]),([0],[0]),([],[]),([2],[2]),([1,3],[1,3]),([],[]),([5],[5]),([],[]),([7],[7]),([6,8,4],[6,8]),([4,9],[4,9]),([10,9],[10]),([11,11,0,1,2,3,4,5,6,7,8,9,10,11],[11])])
def impl_orderFields.B1 : List Nat:=[0,1,0,4,15,0,32,0,128,511,1023,2047,4095]
theorem impl_orderFields.tab1 : rtab .any (opsOf Try.f101 1)=impl_orderFields.T1:=by kernel_rfl
theorem impl_orderFields.bits1 : waitsOk impl_orderFields.T1.2 impl_orderFields.B1=true:=by kernel_rfl
set_option maxHeartbeats 8000000 in
set_option maxRecDepth 100000 in
theorem impl_orderFields.calls (k : Nat) (G : Int→Int→ByteArray→Int→Int→ByteArray→Option (Int)) (hG : ∀ (a0_0 : Int) (a0_1 : Int) (a0_2 : ByteArray) (a1_0 : Int) (a1_1 : Int) (a1_2 : ByteArray) (r : Int) (w : World) (h : G a0_0 a0_1 a0_2 a1_0 a1_1 a1_2=some r),Calls Try.prog 69 #[.agg #[.int .i64 a0_0,.int .i64 a0_1,.string a0_2],.agg #[.int .i64 a1_0,.int .i64 a1_1,.string a1_2]] w fun e w' => e = .returned (.int .i64 r)∧Below w.heap.size w w') (a0_0 : ByteArray) (a0_1 : Int) (a0_2 : Int) (a0_3 : ByteArray) (a1_0 : ByteArray) (a1_1 : Int) (a1_2 : Int) (a1_3 : ByteArray) (r : Int) (w : World) (h : impl_orderFields.f k G a0_0 a0_1 a0_2 a0_3 a1_0 a1_1 a1_2 a1_3=some r) :
  Calls Try.prog 101 #[.agg #[.string a0_0,.int .i64 a0_1,.int .i64 a0_2,.string a0_3],.agg #[.string a1_0,.int .i64 a1_1,.int .i64 a1_2,.string a1_3]] w fun e w' => e = .returned (.int .i64 r)∧Below w.heap.size w w':=by
 have hu68:=Try.underlying68;have hu26:=Try.underlying26;have HB:=zh (Below.refl w.heap.size w);have H : ((strings_Compare.f a0_0 a1_0).bind fun t655 => ((G a0_1 a0_2 a0_3 a1_1 a1_2 a1_3).bind fun t656 => ((cmp_Or_int.f k (([t655,t656] : List Int))).bind fun t660 => (some t660))))=some r:=h;clear h;replace H:=zT.mp H;obtain ⟨t655,A30,H⟩:=H;replace H : ((G a0_1 a0_2 a0_3 a1_1 a1_2 a1_3).bind fun t656 => ((cmp_Or_int.f k (([t655,t656] : List Int))).bind fun t660 => (some t660)))=some r:=H;have A3:=zh A30;clear A30;replace H:=zT.mp H;obtain ⟨t656,A40,H⟩:=H;replace H : ((cmp_Or_int.f k (([t655,t656] : List Int))).bind fun t660 => (some t660))=some r:=H;have A4:=zh A40;clear A40;obtain ⟨y657,hy657⟩ : ∃ y_ : List Int,y_=(([t655,t656] : List Int)):=⟨_,rfl⟩;replace H : ((cmp_Or_int.f k y657).bind fun t660 => (some t660))=some r:=by first|(rw [hy657];with_reducible exact H)|(have H2_:=(Option.bind_some _ _).symm.trans H;rw [hy657];with_reducible exact H2_)|(have H2_:=(Option.bind_some _ _).symm.trans H;with_reducible exact H2_)|with_reducible exact H|(rw [hy657];exact H)|exact H
 have Ny657:=zh hy657;clear hy657;replace H:=zT.mp H;obtain ⟨t660,A50,H⟩:=H;replace H : (some t660)=some r:=H;have A5:=zh A50;clear A50;obtain rfl:=zU H
 go_enter Try.func101,Try.ntmps101
 try go_wp2_with (first|((with_reducible refine zK (N:=2) rfl ?_);refine zI ?hg (N:=2) ?hd (cs:=#[.string a0_0,.int .i64 a0_1,.int .i64 a0_2,.string a0_3]) (t:=68) ?hr ?_;(case hd => rfl);(case hg => rfl);(case hr => first|(go_simp;done)|(go_simp;rfl));intro gb653 hg w6 hbox hb;have BK653:=zh (hbox);have GW653:=zh ((by rw [hg];exact (zB (by repeat (with_reducible first|exact HB.out|apply za|apply zb|apply zc))) : w.heap.size≤gb653));have GE653:=zh ((by rw [hg];exact (zB (by repeat (with_reducible first|exact HB.out|apply za|apply zb|apply zc))) : w.heap.size≤gb653));replace HB:=zh (zC (by repeat (with_reducible first|exact HB.out|apply za|apply zb|apply zc)) hb);clear hb hbox hg)|((with_reducible refine zK (N:=3) rfl ?_);refine zI ?hg (N:=3) ?hd (cs:=#[.string a1_0,.int .i64 a1_1,.int .i64 a1_2,.string a1_3]) (t:=68) ?hr ?_;(case hd => rfl);(case hg => rfl);(case hr => first|(go_simp;done)|(go_simp;rfl));intro gb654 hg w7 hbox hb;have BK654:=zh (hbox);have GW654:=zh ((by rw [hg];exact (zB (by repeat (with_reducible first|exact HB.out|apply za|apply zb|apply zc|refine zd ?_ GE653.out))) : w.heap.size≤gb654));have GE654:=zh ((by rw [hg];exact (zB (by repeat (with_reducible first|exact HB.out|apply za|apply zb|apply zc|refine zd ?_ GE653.out))) : w.heap.size≤gb654));replace HB:=zh (zC (by repeat (with_reducible first|exact HB.out|apply za|apply zb|apply zc|refine zd ?_ GE653.out)) hb);have NB653_654:=zh ((by rw [hg];exact yc (yi (g:=gb653) (o:=.cells #[.string a0_0,.int .i64 a0_1,.int .i64 a0_2,.string a0_3] 68 (0,0)) (by (with_reducible repeat (first|refine ze ?_ _|refine zf ?_|refine zg ?_ _));exact BK653.out)) : gb653≠gb654));have NB654_653:=zh ((by rw [hg];exact yd (yi (g:=gb653) (o:=.cells #[.string a0_0,.int .i64 a0_1,.int .i64 a0_2,.string a0_3] 68 (0,0)) (by (with_reducible repeat (first|refine ze ?_ _|refine zf ?_|refine zg ?_ _));exact BK653.out)) : gb654≠gb653));replace BK653:=zh (zD (g:=gb653) (o:=.cells #[.string a0_0,.int .i64 a0_1,.int .i64 a0_2,.string a0_3] 68 (0,0)) (by (with_reducible repeat (first|refine ze ?_ _|refine zf ?_|refine zg ?_ _));exact BK653.out) hb);clear hb hbox hg))
 replace BK653:=zh (zf BK653.out);replace BK654:=zh (zf BK654.out);replace HB:=zh (zc HB.out);refine start_ (n:=13) (S:=fun w' => w'.cell? ⟨gb653,0,none⟩=some (.string a0_0)∧w'.cell? ⟨gb653,1,none⟩=some (.int .i64 a0_1)∧w'.cell? ⟨gb653,2,none⟩=some (.int .i64 a0_2)∧w'.cell? ⟨gb653,3,none⟩=some (.string a0_3)∧w'.cell? ⟨gb654,0,none⟩=some (.string a1_0)∧w'.cell? ⟨gb654,1,none⟩=some (.int .i64 a1_1)∧w'.cell? ⟨gb654,2,none⟩=some (.int .i64 a1_2)∧w'.cell? ⟨gb654,3,none⟩=some (.string a1_3)) (ds:=[]) (bm_ 0 13) (by kernel_rfl) rfl rfl ⟨(zz BK653.out 0).trans rfl,(zz BK653.out 1).trans rfl,(zz BK653.out 2).trans rfl,(zz BK653.out 3).trans rfl,(zz BK654.out 0).trans rfl,(zz BK654.out 1).trans rfl,(zz BK654.out 2).trans rfl,(zz BK654.out 3).trans rfl⟩ (fun hHeld => ?_);refine with_tabW impl_orderFields.tab1 impl_orderFields.bits1 (fun HT_ HW_ => ?_);generalize w7.drew=w8 at BK653 BK654 HB hHeld ⊢;refine pure_ (i:=0) (N:=some 5) (v:=?_) (a':=?_) (bm_ 1 13) rfl rfl (any_of HT_.out (by kernel_rfl)) (fun _ _ _ h => h) (Or.inl ⟨by rfl,?_⟩) ?_ ?_;rotate_left
 ·
  intro w'
  go_simp
  with_reducible rfl
 rotate_left
 ·
  simp only [Act.put,zi,zj,zk,zG,zH]
  rfl
 refine pure_ (i:=2) (N:=some 7) (v:=?_) (a':=?_) #[true,false,true,false,false,false,false,false,false,false,false,false,false] rfl rfl (any_of HT_.out (by kernel_rfl)) (fun _ _ _ h => h) (Or.inl ⟨by rfl,?_⟩) ?_ ?_;rotate_left
 ·
  intro w'
  go_simp
  with_reducible rfl
 rotate_left
 ·
  simp only [Act.put,zi,zj,zk,zG,zH]
  rfl
 refine pure_ (i:=5) (N:=some 10) (v:=?_) (a':=?_) #[true,false,true,false,false,true,false,false,false,false,false,false,false] rfl rfl (any_of HT_.out (by kernel_rfl)) (fun _ _ _ h => h) (Or.inl ⟨by rfl,?_⟩) ?_ ?_;rotate_left
 ·
  intro w'
  go_simp
  with_reducible rfl
 rotate_left
 ·
  simp only [Act.put,zi,zj,zk,zG,zH]
  rfl
 refine pure_ (i:=7) (N:=some 12) (v:=?_) (a':=?_) #[true,false,true,false,false,true,false,true,false,false,false,false,false] rfl rfl (any_of HT_.out (by kernel_rfl)) (fun _ _ _ h => h) (Or.inl ⟨by rfl,?_⟩) ?_ ?_;rotate_left
 ·
  intro w'
  go_simp
  with_reducible rfl
 rotate_left
 ·
  simp only [Act.put,zi,zj,zk,zG,zH]
  rfl
 refine take_ (i:=1) (N:=some 6) (v:=?_) (a':=?_) #[true,true,true,false,false,true,false,true,false,false,false,false,false] rfl rfl (yo HT_.out HW_.out (by kernel_rfl)) (fun _ _ _ h => h) (Or.inl ⟨by rfl,?_⟩) hHeld ?_ ?_;rotate_left
 ·
  rintro w' ⟨s0,s1,s2,s3,s4,s5,s6,s7⟩
  go_simp
  with_reducible rfl
 rotate_left
 ·
  simp only [Act.put,zi,zj,zk,zG,zH]
  rfl
 refine take_ (i:=3) (N:=some 8) (v:=?_) (a':=?_) #[true,true,true,true,false,true,false,true,false,false,false,false,false] rfl rfl (yo HT_.out HW_.out (by kernel_rfl)) (fun _ _ _ h => h) (Or.inl ⟨by rfl,?_⟩) hHeld ?_ ?_;rotate_left
 ·
  rintro w' ⟨s0,s1,s2,s3,s4,s5,s6,s7⟩
  go_simp
  with_reducible rfl
 rotate_left
 ·
  simp only [Act.put,zi,zj,zk,zG,zH]
  rfl
 refine take_ (i:=6) (N:=some 11) (v:=?_) (a':=?_) #[true,true,true,true,false,true,true,true,false,false,false,false,false] rfl rfl (yo HT_.out HW_.out (by kernel_rfl)) (fun _ _ _ h => h) (Or.inl ⟨by rfl,?_⟩) hHeld ?_ ?_;rotate_left
 ·
  rintro w' ⟨s0,s1,s2,s3,s4,s5,s6,s7⟩
  go_simp
  with_reducible rfl
 rotate_left
 ·
  simp only [Act.put,zi,zj,zk,zG,zH]
  rfl
 refine take_ (i:=8) (N:=some 13) (v:=?_) (a':=?_) #[true,true,true,true,false,true,true,true,true,false,false,false,false] rfl rfl (yo HT_.out HW_.out (by kernel_rfl)) (fun _ _ _ h => h) (Or.inl ⟨by rfl,?_⟩) hHeld ?_ ?_;rotate_left
 ·
  rintro w' ⟨s0,s1,s2,s3,s4,s5,s6,s7⟩
  go_simp
  with_reducible rfl
 rotate_left
 ·
  simp only [Act.put,zi,zj,zk,zG,zH]
  rfl
 refine one_ (i:=4) (N:=some 9) (bm_ 9 13) rfl rfl (one_of HT_.out (by kernel_rfl)) (by decide) (fun K hK => ?_);refine goes_ Try.func102 (by kernel_rfl) rfl #[.string a0_0,.string a1_0] (by rfl) rfl rfl (by (try simp only [zt,zu,zv]);first|done|rfl|(simp only [zw,zx];rfl)|(simp only [yr,ys,zV,zW];rfl)) ?_
 with_reducible refine (strings_Compare.calls  a0_0 a1_0 t655 _ A3.out).mono ?_
 rintro e w' ⟨rfl,⟨nd,rfl⟩⟩;refine ⟨_,rfl,?_⟩;refine hK.out _ _ ⟨(zz BK653.out 0).trans rfl,(zz BK653.out 1).trans rfl,(zz BK653.out 2).trans rfl,(zz BK653.out 3).trans rfl,(zz BK654.out 0).trans rfl,(zz BK654.out 1).trans rfl,(zz BK654.out 2).trans rfl,(zz BK654.out 3).trans rfl⟩ (fun hHeld => ?_);clear hK K;refine norm_ (a':=?_) ?_ ?_;rotate_left
 ·
  show Act.put _ (some 9) _=_
  simp only [Act.put,zi,zj,zk,zG,zH]
  rfl
 refine one_ (i:=9) (N:=some 14) (bm_ 10 13) rfl rfl (one_of HT_.out (by kernel_rfl)) (by decide) (fun K hK => ?_);refine goes_ Try.func69 (by kernel_rfl) rfl #[.agg #[.int .i64 a0_1,.int .i64 a0_2,.string a0_3],.agg #[.int .i64 a1_1,.int .i64 a1_2,.string a1_3]] (by rfl) rfl rfl (by (try simp only [zt,zu,zv]);first|done|rfl|(simp only [zw,zx];rfl)|(simp only [yr,ys,zV,zW];rfl)) ?_
 with_reducible refine (hG a0_1 a0_2 a0_3 a1_1 a1_2 a1_3 t656 _ A4.out).mono ?_
 rintro e w9 ⟨rfl,hb⟩;refine ⟨_,rfl,?_⟩;replace BK653:=zh (zD (g:=gb653) (o:=.cells #[.string a0_0,.int .i64 a0_1,.int .i64 a0_2,.string a0_3] 68 (0,0)) (by (with_reducible repeat (first|refine ze ?_ _|refine zf ?_|refine zg ?_ _));exact BK653.out) hb);replace BK654:=zh (zD (g:=gb654) (o:=.cells #[.string a1_0,.int .i64 a1_1,.int .i64 a1_2,.string a1_3] 68 (0,0)) (by (with_reducible repeat (first|refine ze ?_ _|refine zf ?_|refine zg ?_ _));exact BK654.out) hb);replace HB:=zh (zC (by repeat (with_reducible first|exact HB.out|apply za|apply zb|apply zc|refine zd ?_ GE653.out|refine zd ?_ GE654.out)) hb);(try clear hb);(try clear hb2);(try clear hk);(try clear hi);refine hK.out _ _ ⟨(zz BK653.out 0).trans rfl,(zz BK653.out 1).trans rfl,(zz BK653.out 2).trans rfl,(zz BK653.out 3).trans rfl,(zz BK654.out 0).trans rfl,(zz BK654.out 1).trans rfl,(zz BK654.out 2).trans rfl,(zz BK654.out 3).trans rfl⟩ (fun hHeld => ?_);clear hK K;refine norm_ (a':=?_) ?_ ?_;rotate_left
 ·
  show Act.put _ (some 14) _=_
  simp only [Act.put,zi,zj,zk,zG,zH]
  rfl
 refine one_ (i:=10) (N:=some 15) (bm_ 11 13) rfl rfl (one_of HT_.out (by kernel_rfl)) (by decide) (fun K hK => ?_);refine Kd.R_lit_step (Kd.int .i64) _ 3 ?hg (N:=15) ?hd (xs:=([t655,t656] : List Int)) (inner:=[.int .i64 t655,.int .i64 t656]) (ok:=fun _ => True) (okp:=fun _ => True) ?hr ?hp (fun _ hk => hk) trivial (Below.refl _ _) (ye _) (by simp) ?_;(case hd => rfl);(case hg => rfl);(case hr => first|(go_simp;done)|(go_simp;rfl));(case hp => exact (Reps.one (show Kd.M (Kd.int .i64) _ _ _ t655 [.int .i64 t655] from rfl) (Reps.one (show Kd.M (Kd.int .i64) _ _ _ t656 [.int .i64 t656] from rfl) (Reps.none _ _))));intro v658 w10 ho11 hb hg_ hnew_;clear hg_ hnew_;(first|rw [← Ny657.out] at ho11|(simp only [Int.reduceToNat] at ho11;rw [← Ny657.out] at ho11));have HO659:=zh (yy ho11 (zB (by repeat (with_reducible first|exact HB.out|apply za|apply zb|apply zc|refine zd ?_ GE653.out|refine zd ?_ GE654.out))));replace BK653:=zh (zD (g:=gb653) (o:=.cells #[.string a0_0,.int .i64 a0_1,.int .i64 a0_2,.string a0_3] 68 (0,0)) (by (with_reducible repeat (first|refine ze ?_ _|refine zf ?_|refine zg ?_ _));exact BK653.out) hb);replace BK654:=zh (zD (g:=gb654) (o:=.cells #[.string a1_0,.int .i64 a1_1,.int .i64 a1_2,.string a1_3] 68 (0,0)) (by (with_reducible repeat (first|refine ze ?_ _|refine zf ?_|refine zg ?_ _));exact BK654.out) hb);replace HB:=zh (zC (by repeat (with_reducible first|exact HB.out|apply za|apply zb|apply zc|refine zd ?_ GE653.out|refine zd ?_ GE654.out)) hb);clear hb ho11;obtain ⟨Ao12,co12,eo12⟩:=yk HO659.out;(first|subst eo12|(injection eo12 with f1_ f2_ f3_;have f4_:=f1_.symm;have f5_:=f3_.symm;clear f1_ f2_ f3_;subst f4_;subst f5_));refine hK.out _ _ ⟨(zz BK653.out 0).trans rfl,(zz BK653.out 1).trans rfl,(zz BK653.out 2).trans rfl,(zz BK653.out 3).trans rfl,(zz BK654.out 0).trans rfl,(zz BK654.out 1).trans rfl,(zz BK654.out 2).trans rfl,(zz BK654.out 3).trans rfl⟩ (fun hHeld => ?_);clear hK K;refine norm_ (a':=?_) ?_ ?_;rotate_left
 ·
  show Act.put _ (some 15) _=_
  simp only [Act.put,zi,zj,zk,zG,zH]
  rfl
 refine one_ (i:=11) (N:=some 16) (bm_ 12 13) rfl rfl (one_of HT_.out (by kernel_rfl)) (by decide) (fun K hK => ?_);refine goes_ Try.func97 (by kernel_rfl) rfl #[.slice Ao12 y657.length co12] (by rfl) rfl rfl (by (try simp only [zt,zu,zv]);first|done|rfl|(simp only [zw,zx];rfl)|(simp only [yr,ys,zV,zW];rfl)) ?_
 with_reducible refine (cmp_Or_int.calls k  _ _ y657 t660 _ ?side1 ?side2 A5.out).mono ?_
 (case side1 => repeat (first|exact (yh HO659.out).2.2|(with_reducible refine Kd.C_alloc ?_ _)|(with_reducible refine Kd.C_drewN ?_ _)|(with_reducible refine Kd.C_drew ?_)))
 (case side2 => exact (yh HO659.out).2.1)
 rintro e w' ⟨rfl,⟨nd,rfl⟩⟩;refine ⟨_,rfl,?_⟩;refine hK.out _ _ ⟨(zz BK653.out 0).trans rfl,(zz BK653.out 1).trans rfl,(zz BK653.out 2).trans rfl,(zz BK653.out 3).trans rfl,(zz BK654.out 0).trans rfl,(zz BK654.out 1).trans rfl,(zz BK654.out 2).trans rfl,(zz BK654.out 3).trans rfl⟩ (fun hHeld => ?_);clear hK K;refine norm_ (a':=?_) ?_ ?_;rotate_left
 ·
  show Act.put _ (some 16) _=_
  simp only [Act.put,zi,zj,zk,zG,zH]
  rfl
 refine pure_ (i:=12) (N:=some 4) (v:=?_) (a':=?_) (bm_ 13 13) rfl rfl (any_of HT_.out (by kernel_rfl)) (fun _ _ _ h => h) (Or.inl ⟨by rfl,?_⟩) ?_ ?_;rotate_left
 ·
  intro w'
  go_simp
  with_reducible rfl
 rotate_left
 ·
  simp only [Act.put,zi,zj,zk,zG,zH]
  rfl
 refine done_ (done_of HT_.out (by kernel_rfl)) ?_
 try go_wp2
 go_ret
 exact ⟨by first|rfl|(simp [yt,yu] <;> rfl)|(simp [*,yt,yu] <;> rfl),by repeat (with_reducible first|exact HB.out|apply za|apply zb|apply zc|refine zd ?_ GE653.out|refine zd ?_ GE654.out)⟩

end Go.Proofs.Ytpmeglcmhiihoaa.Q
end
section
namespace Go.Proofs.Ytpmeglcmhiihoaa.Q
open Go.RowKit Go.Proofs.YtpmeglcmhiihoaaW.PrintWords Go.Proofs.YtpmeglcmhiihoaaW.PrintLast Go.Proofs.YtpmeglcmhiihoaaW.PrintMore
attribute [local go_sem] max2_int min2_int max_two min_two max_three min_three max_four min_four max2_str min2_str str_geq str_gtr str_leq   -- for this text's walks alone
set_option linter.unusedVariables false
set_option linter.unusedSimpArgs false

def impl_Field_at_orderFields.l0 (G : Int→Int→ByteArray→Int→Int→ByteArray→Option (Int)) : Nat→List (S68)→List (S68)→List (S68)→Int→Int→Option (Int)
 | 0,_,_,_,_,_ => none
 | k + 1,x0,x1,x11,x12,x13 => if x13<x12 then (if 0≤x13 then (if x13<(x11.length : Int) then (if x13 ≥ (x1.length : Int) then (some 1) else (if x13<(x1.length : Int) then ((impl_orderFields.f k G ((rd_T68 x11 x13).f0) ((rd_T68 x11 x13).f1.f0) ((rd_T68 x11 x13).f1.f1) ((rd_T68 x11 x13).f1.f2) ((rd_T68 x1 x13).f0) ((rd_T68 x1 x13).f1.f0) ((rd_T68 x1 x13).f1.f1) ((rd_T68 x1 x13).f1.f2)).bind fun t665 => (if t665=0 then (impl_Field_at_orderFields.l0 G k x0 x1 x11 x12 (wrap64 (x13 + 1))) else (some t665))) else (none))) else (none)) else (none)) else (if (x0.length : Int)<(x1.length : Int) then (some (-1)) else (some 0))
def impl_Field_at_orderFields.f (k : Nat) (G : Int→Int→ByteArray→Int→Int→ByteArray→Option (Int)) (l0 : List (S68)) (l1 : List (S68))  : Option (Int):=impl_Field_at_orderFields.l0 G k l0 l1 l0 (l0.length : Int) 0
theorem impl_Field_at_orderFields.mono_l : ∀ (G G' : Int→Int→ByteArray→Int→Int→ByteArray→Option (Int)) (hG : ∀ y0 y1 y2 y3 y4 y5,LeO (G y0 y1 y2 y3 y4 y5) (G' y0 y1 y2 y3 y4 y5)),∀ k,(∀ y0 y1 y2 y3 y4,LeO (impl_Field_at_orderFields.l0 G k y0 y1 y2 y3 y4) (impl_Field_at_orderFields.l0 G' (k + 1) y0 y1 y2 y3 y4))
 | G,G',hG,0 => fun _ _ _ _ _ r h => by simp [impl_Field_at_orderFields.l0] at h
 | G,G',hG,k + 1 => by
  have ih0:=impl_Field_at_orderFields.mono_l G G' hG k;intro y0 y1 y2 y3 y4;unfold impl_Field_at_orderFields.l0
  repeat' first|(with_reducible exact ih0 _ _ _ _ _)|(with_reducible exact hG _ _ _ _ _ _)|(with_reducible exact impl_orderFields.mono _ _ hG _ _ _ _ _ _ _ _ _)|(with_reducible exact zQ _)|(with_reducible exact zN _)|(with_reducible refine zP ?_ ?_)|(with_reducible refine zO ?_ (fun _ => ?_))|refine zP ?_ ?_|refine zO ?_ (fun _ => ?_)
theorem impl_Field_at_orderFields.mono : ∀ (G G' : Int→Int→ByteArray→Int→Int→ByteArray→Option (Int)) (hG : ∀ y0 y1 y2 y3 y4 y5,LeO (G y0 y1 y2 y3 y4 y5) (G' y0 y1 y2 y3 y4 y5)),∀ a0 a1 k,LeO (impl_Field_at_orderFields.f k G a0 a1) (impl_Field_at_orderFields.f (k + 1) G' a0 a1):=by
 intro G G' hG a0 a1 k;have ih0:=impl_Field_at_orderFields.mono_l G G' hG k;unfold impl_Field_at_orderFields.f
 repeat' first|(with_reducible exact ih0 _ _ _ _ _)|(with_reducible exact hG _ _ _ _ _ _)|(with_reducible exact impl_orderFields.mono _ _ hG _ _ _ _ _ _ _ _ _)|(with_reducible exact zQ _)|(with_reducible exact zN _)|(with_reducible refine zP ?_ ?_)|(with_reducible refine zO ?_ (fun _ => ?_))|refine zP ?_ ?_|refine zO ?_ (fun _ => ?_)
set_option maxHeartbeats 8000000 in
set_option maxRecDepth 100000 in
theorem impl_Field_at_orderFields.calls (k : Nat) (G : Int→Int→ByteArray→Int→Int→ByteArray→Option (Int)) (hG : ∀ (a0_0 : Int) (a0_1 : Int) (a0_2 : ByteArray) (a1_0 : Int) (a1_1 : Int) (a1_2 : ByteArray) (r : Int) (w : World) (h : G a0_0 a0_1 a0_2 a1_0 a1_1 a1_2=some r),Calls Try.prog 69 #[.agg #[.int .i64 a0_0,.int .i64 a0_1,.string a0_2],.agg #[.int .i64 a1_0,.int .i64 a1_1,.string a1_2]] w fun e w' => e = .returned (.int .i64 r)∧Below w.heap.size w w') (A0 : Option Addr) (c0 : Nat) (l0 : List (S68)) (A1 : Option Addr) (c1 : Nat) (l1 : List (S68))  (r : Int) (w : World) (hr0 : Kd.C k68 w A0 l0.length l0) (hc0 : l0.length≤c0) (hr1 : Kd.C k68 w A1 l1.length l1) (hc1 : l1.length≤c1) (h : impl_Field_at_orderFields.f k G l0 l1=some r) :
  Calls Try.prog 100 #[.slice A0 l0.length c0,.slice A1 l1.length c1,.func (.func 101) #[] #[]] w fun e w' => e = .returned (.int .i64 r)∧Below w.heap.size w w':=by
 have hu68:=Try.underlying68;have HR0:=zh hr0;have HC0:=zh hc0;clear hr0 hc0;have HR1:=zh hr1;have HC1:=zh hc1;clear hr1 hc1;have HB:=zh (Below.refl w.heap.size w);have H : (impl_Field_at_orderFields.l0 G k l0 l1 l0 (l0.length : Int) 0)=some r:=h;clear h;have H':=zh H;clear H
 go_enter Try.func100,Try.ntmps100
 go_wp2
 go_loopg [13] k (fun kq v13 w' => ∃ (x13_1 : Int),v13 = .int .i64 x13_1∧Aside0 (impl_Field_at_orderFields.l0 G kq l0 l1 l0 (l0.length : Int) x13_1=some r)∧Aside0 (kq≤k)∧Aside0 (Below w.heap.size w w'))
 case atStart => exact ⟨(0),(by first|rfl|(simp;done)|(simp [*];done)),H',⟨ye _⟩,⟨by repeat (with_reducible first|exact HB.out|apply za|apply zb|apply zc)⟩⟩
 case round =>
  clear H'
  try clear c1
  try clear p2
  obtain ⟨x13_1,rfl,HA,HK1,HB⟩:=hrel
  cases gk with
  | zero => exact absurd HA.out (by simp [impl_Field_at_orderFields.l0])
  | succ k1 =>
   have H:=HA.out;clear HA;simp only [impl_Field_at_orderFields.l0] at H
   by_cases c4 : x13_1<(l0.length : Int)
   ·
    rw [if_pos c4] at H
    have c4b0 : decide (x13_1<(l0.length : Int))=true:=decide_eq_true c4;clear c4
    by_cases c5 : 0≤x13_1
    ·
     rw [if_pos c5] at H
     have c5b0 : decide (0≤x13_1)=true:=decide_eq_true c5;clear c5
     by_cases c6 : x13_1<(l0.length : Int)
     ·
      rw [if_pos c6] at H
      have c6b0 : decide (x13_1<(l0.length : Int))=true:=decide_eq_true c6;clear c6
      by_cases c7 : x13_1 ≥ (l1.length : Int)
      ·
       rw [if_pos c7] at H
       have c7b0 : decide ((l1.length : Int)≤x13_1)=true:=decide_eq_true c7;clear c7;obtain rfl:=zU H;have p661 : 0≤(x13_1 : Int):=zy (by first|(with_reducible assumption)|assumption);have q661 : x13_1<(l0.length : Int):=zy (by first|(with_reducible assumption)|assumption);obtain ⟨ad661,e661,hx661_0,hx661_1,hx661_2,hx661_3⟩:=at_T68 HR0.out x13_1 p661 q661
       cases e661
       replace hx661_0:=(HB.out.cell (zl w _ hx661_0)).trans hx661_0;replace hx661_1:=(HB.out.cell (zl w _ hx661_1)).trans hx661_1;replace hx661_2:=(HB.out.cell (zl w _ hx661_2)).trans hx661_2;replace hx661_3:=(HB.out.cell (zl w _ hx661_3)).trans hx661_3;replace p661:=eq_true p661;replace q661:=eq_true q661
       go_wp2_with (first|((with_reducible refine zK (N:=8) rfl ?_);refine zI ?hg (N:=8) ?hd (cs:=#[.string (⟨#[]⟩ : ByteArray),.int .i64 0,.int .i64 0,.string (⟨#[]⟩ : ByteArray)]) (t:=68) ?hr ?_;(case hd => rfl);(case hg => rfl);(case hr => first|(go_simp;done)|(go_simp;rfl));intro gb662 hg w8 hbox hb;have BK662:=zh (hbox);have GW662:=zh ((by rw [hg];exact (zB (by repeat (with_reducible first|exact HB.out|apply za|apply zb|apply zc))) : w.heap.size≤gb662));have GE662:=zh ((by rw [hg];exact (zB (by repeat (with_reducible first|exact HB.out|apply za|apply zb|apply zc))) : w.heap.size≤gb662));replace HB:=zh (zC (by repeat (with_reducible first|exact HB.out|apply za|apply zb|apply zc)) hb);clear hb hbox hg;have hcz9_0 : w8.cell? ⟨gb662,0,none⟩=some (.string (⟨#[]⟩ : ByteArray)):=(zz BK662.out 0).trans rfl;have hcz9_1 : w8.cell? ⟨gb662,1,none⟩=some (.int .i64 0):=(zz BK662.out 1).trans rfl;have hcz9_2 : w8.cell? ⟨gb662,2,none⟩=some (.int .i64 0):=(zz BK662.out 2).trans rfl;have hcz9_3 : w8.cell? ⟨gb662,3,none⟩=some (.string (⟨#[]⟩ : ByteArray)):=(zz BK662.out 3).trans rfl;have hfz9_0:=zA BK662.out 0;have hfz9_1:=zA BK662.out 1;have hfz9_2:=zA BK662.out 2;have hfz9_3:=zA BK662.out 3))
       go_ret
       exact ⟨by first|rfl|(simp [yt,yu] <;> rfl)|(simp [*,yt,yu] <;> rfl),by repeat (with_reducible first|exact HB.out|apply za|apply zb|apply zc|refine zd ?_ GE662.out)⟩
      rw [if_neg c7] at H;have c7b0 : decide ((l1.length : Int)≤x13_1)=false:=decide_eq_false c7;clear c7
      by_cases c10 : x13_1<(l1.length : Int)
      ·
       rw [if_pos c10] at H
       have c10b0 : decide (x13_1<(l1.length : Int))=true:=decide_eq_true c10;clear c10;replace H:=zT.mp H;obtain ⟨t665,A110,H⟩:=H;replace H : (if t665=0 then (impl_Field_at_orderFields.l0 G k1 l0 l1 l0 (l0.length : Int) (wrap64 (x13_1 + 1))) else (some t665))=some r:=H;have A11:=zh A110;clear A110
       by_cases c12 : t665=0
       ·
        rw [if_pos c12] at H
        have c12b0 : (t665 == 0)=true:=ya.mpr c12;have c12b1 : (t665 != 0)=false:=zX.mpr c12;clear c12;have H':=zh H;clear H;have p661 : 0≤(x13_1 : Int):=zy (by first|(with_reducible assumption)|assumption);have q661 : x13_1<(l0.length : Int):=zy (by first|(with_reducible assumption)|assumption);obtain ⟨ad661,e661,hx661_0,hx661_1,hx661_2,hx661_3⟩:=at_T68 HR0.out x13_1 p661 q661
        cases e661
        replace hx661_0:=(HB.out.cell (zl w _ hx661_0)).trans hx661_0;replace hx661_1:=(HB.out.cell (zl w _ hx661_1)).trans hx661_1;replace hx661_2:=(HB.out.cell (zl w _ hx661_2)).trans hx661_2;replace hx661_3:=(HB.out.cell (zl w _ hx661_3)).trans hx661_3;replace p661:=eq_true p661;replace q661:=eq_true q661
        go_wp2_with (first|((with_reducible refine zK (N:=8) rfl ?_);refine zI ?hg (N:=8) ?hd (cs:=#[.string (⟨#[]⟩ : ByteArray),.int .i64 0,.int .i64 0,.string (⟨#[]⟩ : ByteArray)]) (t:=68) ?hr ?_;(case hd => rfl);(case hg => rfl);(case hr => first|(go_simp;done)|(go_simp;rfl));intro gb662 hg w13 hbox hb;have BK662:=zh (hbox);have GW662:=zh ((by rw [hg];exact (zB (by repeat (with_reducible first|exact HB.out|apply za|apply zb|apply zc))) : w.heap.size≤gb662));have GE662:=zh ((by rw [hg];exact (zB (by repeat (with_reducible first|exact HB.out|apply za|apply zb|apply zc))) : w.heap.size≤gb662));replace HB:=zh (zC (by repeat (with_reducible first|exact HB.out|apply za|apply zb|apply zc)) hb);clear hb hbox hg;have hcz14_0 : w13.cell? ⟨gb662,0,none⟩=some (.string (⟨#[]⟩ : ByteArray)):=(zz BK662.out 0).trans rfl;have hcz14_1 : w13.cell? ⟨gb662,1,none⟩=some (.int .i64 0):=(zz BK662.out 1).trans rfl;have hcz14_2 : w13.cell? ⟨gb662,2,none⟩=some (.int .i64 0):=(zz BK662.out 2).trans rfl;have hcz14_3 : w13.cell? ⟨gb662,3,none⟩=some (.string (⟨#[]⟩ : ByteArray)):=(zz BK662.out 3).trans rfl;have hfz14_0:=zA BK662.out 0;have hfz14_1:=zA BK662.out 1;have hfz14_2:=zA BK662.out 2;have hfz14_3:=zA BK662.out 3;have p663 : 0≤(x13_1 : Int):=zy (by first|(with_reducible assumption)|assumption);have q663 : x13_1<(l1.length : Int):=zy (by first|(with_reducible assumption)|assumption);obtain ⟨ad663,e663,hx663_0,hx663_1,hx663_2,hx663_3⟩:=at_T68 HR1.out x13_1 p663 q663;cases e663;have hn663_0 : ad663.block≠gb662:=yc (Nat.lt_of_lt_of_le (by have:=zl _ _ hx663_0;first|rwa [zF] at this|exact this) GW662.out);have hn663_1 : ad663.block≠gb662:=yc (Nat.lt_of_lt_of_le (by have:=zl _ _ hx663_0;first|rwa [zF] at this|exact this) GW662.out);have hn663_2 : ad663.block≠gb662:=yc (Nat.lt_of_lt_of_le (by have:=zl _ _ hx663_0;first|rwa [zF] at this|exact this) GW662.out);have hn663_3 : ad663.block≠gb662:=yc (Nat.lt_of_lt_of_le (by have:=zl _ _ hx663_0;first|rwa [zF] at this|exact this) GW662.out);replace hx663_0:=(HB.out.cell (zl w _ hx663_0)).trans hx663_0;replace hx663_1:=(HB.out.cell (zl w _ hx663_1)).trans hx663_1;replace hx663_2:=(HB.out.cell (zl w _ hx663_2)).trans hx663_2;replace hx663_3:=(HB.out.cell (zl w _ hx663_3)).trans hx663_3;replace hx663_0:=(zR (p:=⟨gb662,0,none⟩) (by first|(rw [zF];exact hn663_0)|(show (Addr.add _ _).block≠_;rw [zF];exact hn663_0)|exact hn663_0) (.string ((rd_T68 l0 x13_1).f0))).trans hx663_0;replace hx663_1:=(zR (p:=⟨gb662,0,none⟩) (by first|(rw [zF];exact hn663_0)|(show (Addr.add _ _).block≠_;rw [zF];exact hn663_0)|exact hn663_0) (.string ((rd_T68 l0 x13_1).f0))).trans hx663_1;replace hx663_2:=(zR (p:=⟨gb662,0,none⟩) (by first|(rw [zF];exact hn663_0)|(show (Addr.add _ _).block≠_;rw [zF];exact hn663_0)|exact hn663_0) (.string ((rd_T68 l0 x13_1).f0))).trans hx663_2;replace hx663_3:=(zR (p:=⟨gb662,0,none⟩) (by first|(rw [zF];exact hn663_0)|(show (Addr.add _ _).block≠_;rw [zF];exact hn663_0)|exact hn663_0) (.string ((rd_T68 l0 x13_1).f0))).trans hx663_3;replace hx663_0:=(zR (p:=⟨gb662,1,none⟩) (by first|(rw [zF];exact hn663_1)|(show (Addr.add _ _).block≠_;rw [zF];exact hn663_1)|exact hn663_1) (.int .i64 ((rd_T68 l0 x13_1).f1.f0))).trans hx663_0;replace hx663_1:=(zR (p:=⟨gb662,1,none⟩) (by first|(rw [zF];exact hn663_1)|(show (Addr.add _ _).block≠_;rw [zF];exact hn663_1)|exact hn663_1) (.int .i64 ((rd_T68 l0 x13_1).f1.f0))).trans hx663_1;replace hx663_2:=(zR (p:=⟨gb662,1,none⟩) (by first|(rw [zF];exact hn663_1)|(show (Addr.add _ _).block≠_;rw [zF];exact hn663_1)|exact hn663_1) (.int .i64 ((rd_T68 l0 x13_1).f1.f0))).trans hx663_2;replace hx663_3:=(zR (p:=⟨gb662,1,none⟩) (by first|(rw [zF];exact hn663_1)|(show (Addr.add _ _).block≠_;rw [zF];exact hn663_1)|exact hn663_1) (.int .i64 ((rd_T68 l0 x13_1).f1.f0))).trans hx663_3;replace hx663_0:=(zR (p:=⟨gb662,2,none⟩) (by first|(rw [zF];exact hn663_2)|(show (Addr.add _ _).block≠_;rw [zF];exact hn663_2)|exact hn663_2) (.int .i64 ((rd_T68 l0 x13_1).f1.f1))).trans hx663_0;replace hx663_1:=(zR (p:=⟨gb662,2,none⟩) (by first|(rw [zF];exact hn663_2)|(show (Addr.add _ _).block≠_;rw [zF];exact hn663_2)|exact hn663_2) (.int .i64 ((rd_T68 l0 x13_1).f1.f1))).trans hx663_1;replace hx663_2:=(zR (p:=⟨gb662,2,none⟩) (by first|(rw [zF];exact hn663_2)|(show (Addr.add _ _).block≠_;rw [zF];exact hn663_2)|exact hn663_2) (.int .i64 ((rd_T68 l0 x13_1).f1.f1))).trans hx663_2;replace hx663_3:=(zR (p:=⟨gb662,2,none⟩) (by first|(rw [zF];exact hn663_2)|(show (Addr.add _ _).block≠_;rw [zF];exact hn663_2)|exact hn663_2) (.int .i64 ((rd_T68 l0 x13_1).f1.f1))).trans hx663_3;replace hx663_0:=(zR (p:=⟨gb662,3,none⟩) (by first|(rw [zF];exact hn663_3)|(show (Addr.add _ _).block≠_;rw [zF];exact hn663_3)|exact hn663_3) (.string ((rd_T68 l0 x13_1).f1.f2))).trans hx663_0;replace hx663_1:=(zR (p:=⟨gb662,3,none⟩) (by first|(rw [zF];exact hn663_3)|(show (Addr.add _ _).block≠_;rw [zF];exact hn663_3)|exact hn663_3) (.string ((rd_T68 l0 x13_1).f1.f2))).trans hx663_1;replace hx663_2:=(zR (p:=⟨gb662,3,none⟩) (by first|(rw [zF];exact hn663_3)|(show (Addr.add _ _).block≠_;rw [zF];exact hn663_3)|exact hn663_3) (.string ((rd_T68 l0 x13_1).f1.f2))).trans hx663_2;replace hx663_3:=(zR (p:=⟨gb662,3,none⟩) (by first|(rw [zF];exact hn663_3)|(show (Addr.add _ _).block≠_;rw [zF];exact hn663_3)|exact hn663_3) (.string ((rd_T68 l0 x13_1).f1.f2))).trans hx663_3;clear hn663_0 hn663_1 hn663_2 hn663_3;replace p663:=eq_true p663;replace q663:=eq_true q663)|((with_reducible refine zK (N:=9) rfl ?_);refine zI ?hg (N:=9) ?hd (cs:=#[.string (⟨#[]⟩ : ByteArray),.int .i64 0,.int .i64 0,.string (⟨#[]⟩ : ByteArray)]) (t:=68) ?hr ?_;(case hd => rfl);(case hg => rfl);(case hr => first|(go_simp;done)|(go_simp;rfl));intro gb664 hg w15 hbox hb;have BK664:=zh (hbox);have GW664:=zh ((by rw [hg];exact (zB (by repeat (with_reducible first|exact HB.out|apply za|apply zb|apply zc|refine zd ?_ GE662.out))) : w.heap.size≤gb664));have GE664:=zh ((by rw [hg];exact (zB (by repeat (with_reducible first|exact HB.out|apply za|apply zb|apply zc|refine zd ?_ GE662.out))) : w.heap.size≤gb664));replace HB:=zh (zC (by repeat (with_reducible first|exact HB.out|apply za|apply zb|apply zc|refine zd ?_ GE662.out)) hb);have NB662_664:=zh ((by rw [hg];exact yc (yi (g:=gb662) (o:=.cells #[.string ((rd_T68 l0 x13_1).f0),.int .i64 ((rd_T68 l0 x13_1).f1.f0),.int .i64 ((rd_T68 l0 x13_1).f1.f1),.string ((rd_T68 l0 x13_1).f1.f2)] 68 (0,0)) (by (with_reducible repeat (first|refine ze ?_ _|refine zf ?_|refine zg ?_ _));refine zL (cs:=#[.string ((rd_T68 l0 x13_1).f0),.int .i64 ((rd_T68 l0 x13_1).f1.f0),.int .i64 ((rd_T68 l0 x13_1).f1.f1),.string (⟨#[]⟩ : ByteArray)]) ?_ 3 _ rfl;(with_reducible repeat (first|refine ze ?_ _|refine zf ?_|refine zg ?_ _));refine zL (cs:=#[.string ((rd_T68 l0 x13_1).f0),.int .i64 ((rd_T68 l0 x13_1).f1.f0),.int .i64 0,.string (⟨#[]⟩ : ByteArray)]) ?_ 2 _ rfl;(with_reducible repeat (first|refine ze ?_ _|refine zf ?_|refine zg ?_ _));refine zL (cs:=#[.string ((rd_T68 l0 x13_1).f0),.int .i64 0,.int .i64 0,.string (⟨#[]⟩ : ByteArray)]) ?_ 1 _ rfl;(with_reducible repeat (first|refine ze ?_ _|refine zf ?_|refine zg ?_ _));refine zL (cs:=#[.string (⟨#[]⟩ : ByteArray),.int .i64 0,.int .i64 0,.string (⟨#[]⟩ : ByteArray)]) ?_ 0 _ rfl;(with_reducible repeat (first|refine ze ?_ _|refine zf ?_|refine zg ?_ _));exact BK662.out)) : gb662≠gb664));have NB664_662:=zh ((by rw [hg];exact yd (yi (g:=gb662) (o:=.cells #[.string ((rd_T68 l0 x13_1).f0),.int .i64 ((rd_T68 l0 x13_1).f1.f0),.int .i64 ((rd_T68 l0 x13_1).f1.f1),.string ((rd_T68 l0 x13_1).f1.f2)] 68 (0,0)) (by (with_reducible repeat (first|refine ze ?_ _|refine zf ?_|refine zg ?_ _));refine zL (cs:=#[.string ((rd_T68 l0 x13_1).f0),.int .i64 ((rd_T68 l0 x13_1).f1.f0),.int .i64 ((rd_T68 l0 x13_1).f1.f1),.string (⟨#[]⟩ : ByteArray)]) ?_ 3 _ rfl;(with_reducible repeat (first|refine ze ?_ _|refine zf ?_|refine zg ?_ _));refine zL (cs:=#[.string ((rd_T68 l0 x13_1).f0),.int .i64 ((rd_T68 l0 x13_1).f1.f0),.int .i64 0,.string (⟨#[]⟩ : ByteArray)]) ?_ 2 _ rfl;(with_reducible repeat (first|refine ze ?_ _|refine zf ?_|refine zg ?_ _));refine zL (cs:=#[.string ((rd_T68 l0 x13_1).f0),.int .i64 0,.int .i64 0,.string (⟨#[]⟩ : ByteArray)]) ?_ 1 _ rfl;(with_reducible repeat (first|refine ze ?_ _|refine zf ?_|refine zg ?_ _));refine zL (cs:=#[.string (⟨#[]⟩ : ByteArray),.int .i64 0,.int .i64 0,.string (⟨#[]⟩ : ByteArray)]) ?_ 0 _ rfl;(with_reducible repeat (first|refine ze ?_ _|refine zf ?_|refine zg ?_ _));exact BK662.out)) : gb664≠gb662));replace BK662:=zh (zD (g:=gb662) (o:=.cells #[.string ((rd_T68 l0 x13_1).f0),.int .i64 ((rd_T68 l0 x13_1).f1.f0),.int .i64 ((rd_T68 l0 x13_1).f1.f1),.string ((rd_T68 l0 x13_1).f1.f2)] 68 (0,0)) (by (with_reducible repeat (first|refine ze ?_ _|refine zf ?_|refine zg ?_ _));refine zL (cs:=#[.string ((rd_T68 l0 x13_1).f0),.int .i64 ((rd_T68 l0 x13_1).f1.f0),.int .i64 ((rd_T68 l0 x13_1).f1.f1),.string (⟨#[]⟩ : ByteArray)]) ?_ 3 _ rfl;(with_reducible repeat (first|refine ze ?_ _|refine zf ?_|refine zg ?_ _));refine zL (cs:=#[.string ((rd_T68 l0 x13_1).f0),.int .i64 ((rd_T68 l0 x13_1).f1.f0),.int .i64 0,.string (⟨#[]⟩ : ByteArray)]) ?_ 2 _ rfl;(with_reducible repeat (first|refine ze ?_ _|refine zf ?_|refine zg ?_ _));refine zL (cs:=#[.string ((rd_T68 l0 x13_1).f0),.int .i64 0,.int .i64 0,.string (⟨#[]⟩ : ByteArray)]) ?_ 1 _ rfl;(with_reducible repeat (first|refine ze ?_ _|refine zf ?_|refine zg ?_ _));refine zL (cs:=#[.string (⟨#[]⟩ : ByteArray),.int .i64 0,.int .i64 0,.string (⟨#[]⟩ : ByteArray)]) ?_ 0 _ rfl;(with_reducible repeat (first|refine ze ?_ _|refine zf ?_|refine zg ?_ _));exact BK662.out) hb);clear hb hbox hg;have hnb16:=NB664_662.out;have hnc16:=NB662_664.out;have hcz17_0 : w15.cell? ⟨gb664,0,none⟩=some (.string (⟨#[]⟩ : ByteArray)):=(zz BK664.out 0).trans rfl;have hcz17_1 : w15.cell? ⟨gb664,1,none⟩=some (.int .i64 0):=(zz BK664.out 1).trans rfl;have hcz17_2 : w15.cell? ⟨gb664,2,none⟩=some (.int .i64 0):=(zz BK664.out 2).trans rfl;have hcz17_3 : w15.cell? ⟨gb664,3,none⟩=some (.string (⟨#[]⟩ : ByteArray)):=(zz BK664.out 3).trans rfl;have hfz17_0:=zA BK664.out 0;have hfz17_1:=zA BK664.out 1;have hfz17_2:=zA BK664.out 2;have hfz17_3:=zA BK664.out 3;have hcz18_0 : w15.cell? ⟨gb662,0,none⟩=some (.string ((rd_T68 l0 x13_1).f0)):=(zz BK662.out 0).trans rfl;have hcz18_1 : w15.cell? ⟨gb662,1,none⟩=some (.int .i64 ((rd_T68 l0 x13_1).f1.f0)):=(zz BK662.out 1).trans rfl;have hcz18_2 : w15.cell? ⟨gb662,2,none⟩=some (.int .i64 ((rd_T68 l0 x13_1).f1.f1)):=(zz BK662.out 2).trans rfl;have hcz18_3 : w15.cell? ⟨gb662,3,none⟩=some (.string ((rd_T68 l0 x13_1).f1.f2)):=(zz BK662.out 3).trans rfl;have hfz18_0:=zA BK662.out 0;have hfz18_1:=zA BK662.out 1;have hfz18_2:=zA BK662.out 2;have hfz18_3:=zA BK662.out 3)|(go_at_call 101;(with_reducible refine (impl_orderFields.calls k1 G hG ((rd_T68 l0 x13_1).f0) ((rd_T68 l0 x13_1).f1.f0) ((rd_T68 l0 x13_1).f1.f1) ((rd_T68 l0 x13_1).f1.f2) ((rd_T68 l1 x13_1).f0) ((rd_T68 l1 x13_1).f1.f0) ((rd_T68 l1 x13_1).f1.f1) ((rd_T68 l1 x13_1).f1.f2) t665 _ A11.out).mono ?_);rintro e w19 ⟨rfl,hb⟩;replace BK662:=zh (zD (g:=gb662) (o:=.cells #[.string ((rd_T68 l0 x13_1).f0),.int .i64 ((rd_T68 l0 x13_1).f1.f0),.int .i64 ((rd_T68 l0 x13_1).f1.f1),.string ((rd_T68 l0 x13_1).f1.f2)] 68 (0,0)) (by (with_reducible repeat (first|refine ze ?_ _|refine zf ?_|refine zg ?_ _));refine zS ?_ NB662_664.out _;(with_reducible repeat (first|refine ze ?_ _|refine zf ?_|refine zg ?_ _));refine zS ?_ NB662_664.out _;(with_reducible repeat (first|refine ze ?_ _|refine zf ?_|refine zg ?_ _));refine zS ?_ NB662_664.out _;(with_reducible repeat (first|refine ze ?_ _|refine zf ?_|refine zg ?_ _));refine zS ?_ NB662_664.out _;(with_reducible repeat (first|refine ze ?_ _|refine zf ?_|refine zg ?_ _));exact BK662.out) hb);replace BK664:=zh (zD (g:=gb664) (o:=.cells #[.string ((rd_T68 l1 x13_1).f0),.int .i64 ((rd_T68 l1 x13_1).f1.f0),.int .i64 ((rd_T68 l1 x13_1).f1.f1),.string ((rd_T68 l1 x13_1).f1.f2)] 68 (0,0)) (by (with_reducible repeat (first|refine ze ?_ _|refine zf ?_|refine zg ?_ _));refine zL (cs:=#[.string ((rd_T68 l1 x13_1).f0),.int .i64 ((rd_T68 l1 x13_1).f1.f0),.int .i64 ((rd_T68 l1 x13_1).f1.f1),.string (⟨#[]⟩ : ByteArray)]) ?_ 3 _ rfl;(with_reducible repeat (first|refine ze ?_ _|refine zf ?_|refine zg ?_ _));refine zL (cs:=#[.string ((rd_T68 l1 x13_1).f0),.int .i64 ((rd_T68 l1 x13_1).f1.f0),.int .i64 0,.string (⟨#[]⟩ : ByteArray)]) ?_ 2 _ rfl;(with_reducible repeat (first|refine ze ?_ _|refine zf ?_|refine zg ?_ _));refine zL (cs:=#[.string ((rd_T68 l1 x13_1).f0),.int .i64 0,.int .i64 0,.string (⟨#[]⟩ : ByteArray)]) ?_ 1 _ rfl;(with_reducible repeat (first|refine ze ?_ _|refine zf ?_|refine zg ?_ _));refine zL (cs:=#[.string (⟨#[]⟩ : ByteArray),.int .i64 0,.int .i64 0,.string (⟨#[]⟩ : ByteArray)]) ?_ 0 _ rfl;(with_reducible repeat (first|refine ze ?_ _|refine zf ?_|refine zg ?_ _));exact BK664.out) hb);replace HB:=zh (zC (by repeat (with_reducible first|exact HB.out|apply za|apply zb|apply zc|refine zd ?_ GE662.out|refine zd ?_ GE664.out)) hb);(try clear hb);(try clear hb2);(try clear hk);(try clear hi)))
        go_roundg k1
        case measure => have:=HK1.out;omega
        case rel => exact ⟨(wrap64 (x13_1 + 1)),(by first|rfl|(simp;done)|(simp [*];done)),H',⟨by have:=HK1.out;omega⟩,⟨by repeat (with_reducible first|exact HB.out|apply za|apply zb|apply zc|refine zd ?_ GE662.out|refine zd ?_ GE664.out)⟩⟩
       rw [if_neg c12] at H;have c12b0 : (t665 == 0)=false:=zY.mpr c12;have c12b1 : (t665 != 0)=true:=zZ.mpr c12;obtain rfl:=zU H;have p661 : 0≤(x13_1 : Int):=zy (by first|(with_reducible assumption)|assumption);have q661 : x13_1<(l0.length : Int):=zy (by first|(with_reducible assumption)|assumption);obtain ⟨ad661,e661,hx661_0,hx661_1,hx661_2,hx661_3⟩:=at_T68 HR0.out x13_1 p661 q661
       cases e661
       replace hx661_0:=(HB.out.cell (zl w _ hx661_0)).trans hx661_0;replace hx661_1:=(HB.out.cell (zl w _ hx661_1)).trans hx661_1;replace hx661_2:=(HB.out.cell (zl w _ hx661_2)).trans hx661_2;replace hx661_3:=(HB.out.cell (zl w _ hx661_3)).trans hx661_3;replace p661:=eq_true p661;replace q661:=eq_true q661
       go_wp2_with (first|((with_reducible refine zK (N:=8) rfl ?_);refine zI ?hg (N:=8) ?hd (cs:=#[.string (⟨#[]⟩ : ByteArray),.int .i64 0,.int .i64 0,.string (⟨#[]⟩ : ByteArray)]) (t:=68) ?hr ?_;(case hd => rfl);(case hg => rfl);(case hr => first|(go_simp;done)|(go_simp;rfl));intro gb662 hg w20 hbox hb;have BK662:=zh (hbox);have GW662:=zh ((by rw [hg];exact (zB (by repeat (with_reducible first|exact HB.out|apply za|apply zb|apply zc))) : w.heap.size≤gb662));have GE662:=zh ((by rw [hg];exact (zB (by repeat (with_reducible first|exact HB.out|apply za|apply zb|apply zc))) : w.heap.size≤gb662));replace HB:=zh (zC (by repeat (with_reducible first|exact HB.out|apply za|apply zb|apply zc)) hb);clear hb hbox hg;have hcz21_0 : w20.cell? ⟨gb662,0,none⟩=some (.string (⟨#[]⟩ : ByteArray)):=(zz BK662.out 0).trans rfl;have hcz21_1 : w20.cell? ⟨gb662,1,none⟩=some (.int .i64 0):=(zz BK662.out 1).trans rfl;have hcz21_2 : w20.cell? ⟨gb662,2,none⟩=some (.int .i64 0):=(zz BK662.out 2).trans rfl;have hcz21_3 : w20.cell? ⟨gb662,3,none⟩=some (.string (⟨#[]⟩ : ByteArray)):=(zz BK662.out 3).trans rfl;have hfz21_0:=zA BK662.out 0;have hfz21_1:=zA BK662.out 1;have hfz21_2:=zA BK662.out 2;have hfz21_3:=zA BK662.out 3;have p663 : 0≤(x13_1 : Int):=zy (by first|(with_reducible assumption)|assumption);have q663 : x13_1<(l1.length : Int):=zy (by first|(with_reducible assumption)|assumption);obtain ⟨ad663,e663,hx663_0,hx663_1,hx663_2,hx663_3⟩:=at_T68 HR1.out x13_1 p663 q663;cases e663;have hn663_0 : ad663.block≠gb662:=yc (Nat.lt_of_lt_of_le (by have:=zl _ _ hx663_0;first|rwa [zF] at this|exact this) GW662.out);have hn663_1 : ad663.block≠gb662:=yc (Nat.lt_of_lt_of_le (by have:=zl _ _ hx663_0;first|rwa [zF] at this|exact this) GW662.out);have hn663_2 : ad663.block≠gb662:=yc (Nat.lt_of_lt_of_le (by have:=zl _ _ hx663_0;first|rwa [zF] at this|exact this) GW662.out);have hn663_3 : ad663.block≠gb662:=yc (Nat.lt_of_lt_of_le (by have:=zl _ _ hx663_0;first|rwa [zF] at this|exact this) GW662.out);replace hx663_0:=(HB.out.cell (zl w _ hx663_0)).trans hx663_0;replace hx663_1:=(HB.out.cell (zl w _ hx663_1)).trans hx663_1;replace hx663_2:=(HB.out.cell (zl w _ hx663_2)).trans hx663_2;replace hx663_3:=(HB.out.cell (zl w _ hx663_3)).trans hx663_3;replace hx663_0:=(zR (p:=⟨gb662,0,none⟩) (by first|(rw [zF];exact hn663_0)|(show (Addr.add _ _).block≠_;rw [zF];exact hn663_0)|exact hn663_0) (.string ((rd_T68 l0 x13_1).f0))).trans hx663_0;replace hx663_1:=(zR (p:=⟨gb662,0,none⟩) (by first|(rw [zF];exact hn663_0)|(show (Addr.add _ _).block≠_;rw [zF];exact hn663_0)|exact hn663_0) (.string ((rd_T68 l0 x13_1).f0))).trans hx663_1;replace hx663_2:=(zR (p:=⟨gb662,0,none⟩) (by first|(rw [zF];exact hn663_0)|(show (Addr.add _ _).block≠_;rw [zF];exact hn663_0)|exact hn663_0) (.string ((rd_T68 l0 x13_1).f0))).trans hx663_2;replace hx663_3:=(zR (p:=⟨gb662,0,none⟩) (by first|(rw [zF];exact hn663_0)|(show (Addr.add _ _).block≠_;rw [zF];exact hn663_0)|exact hn663_0) (.string ((rd_T68 l0 x13_1).f0))).trans hx663_3;replace hx663_0:=(zR (p:=⟨gb662,1,none⟩) (by first|(rw [zF];exact hn663_1)|(show (Addr.add _ _).block≠_;rw [zF];exact hn663_1)|exact hn663_1) (.int .i64 ((rd_T68 l0 x13_1).f1.f0))).trans hx663_0;replace hx663_1:=(zR (p:=⟨gb662,1,none⟩) (by first|(rw [zF];exact hn663_1)|(show (Addr.add _ _).block≠_;rw [zF];exact hn663_1)|exact hn663_1) (.int .i64 ((rd_T68 l0 x13_1).f1.f0))).trans hx663_1;replace hx663_2:=(zR (p:=⟨gb662,1,none⟩) (by first|(rw [zF];exact hn663_1)|(show (Addr.add _ _).block≠_;rw [zF];exact hn663_1)|exact hn663_1) (.int .i64 ((rd_T68 l0 x13_1).f1.f0))).trans hx663_2;replace hx663_3:=(zR (p:=⟨gb662,1,none⟩) (by first|(rw [zF];exact hn663_1)|(show (Addr.add _ _).block≠_;rw [zF];exact hn663_1)|exact hn663_1) (.int .i64 ((rd_T68 l0 x13_1).f1.f0))).trans hx663_3;replace hx663_0:=(zR (p:=⟨gb662,2,none⟩) (by first|(rw [zF];exact hn663_2)|(show (Addr.add _ _).block≠_;rw [zF];exact hn663_2)|exact hn663_2) (.int .i64 ((rd_T68 l0 x13_1).f1.f1))).trans hx663_0;replace hx663_1:=(zR (p:=⟨gb662,2,none⟩) (by first|(rw [zF];exact hn663_2)|(show (Addr.add _ _).block≠_;rw [zF];exact hn663_2)|exact hn663_2) (.int .i64 ((rd_T68 l0 x13_1).f1.f1))).trans hx663_1;replace hx663_2:=(zR (p:=⟨gb662,2,none⟩) (by first|(rw [zF];exact hn663_2)|(show (Addr.add _ _).block≠_;rw [zF];exact hn663_2)|exact hn663_2) (.int .i64 ((rd_T68 l0 x13_1).f1.f1))).trans hx663_2;replace hx663_3:=(zR (p:=⟨gb662,2,none⟩) (by first|(rw [zF];exact hn663_2)|(show (Addr.add _ _).block≠_;rw [zF];exact hn663_2)|exact hn663_2) (.int .i64 ((rd_T68 l0 x13_1).f1.f1))).trans hx663_3;replace hx663_0:=(zR (p:=⟨gb662,3,none⟩) (by first|(rw [zF];exact hn663_3)|(show (Addr.add _ _).block≠_;rw [zF];exact hn663_3)|exact hn663_3) (.string ((rd_T68 l0 x13_1).f1.f2))).trans hx663_0;replace hx663_1:=(zR (p:=⟨gb662,3,none⟩) (by first|(rw [zF];exact hn663_3)|(show (Addr.add _ _).block≠_;rw [zF];exact hn663_3)|exact hn663_3) (.string ((rd_T68 l0 x13_1).f1.f2))).trans hx663_1;replace hx663_2:=(zR (p:=⟨gb662,3,none⟩) (by first|(rw [zF];exact hn663_3)|(show (Addr.add _ _).block≠_;rw [zF];exact hn663_3)|exact hn663_3) (.string ((rd_T68 l0 x13_1).f1.f2))).trans hx663_2;replace hx663_3:=(zR (p:=⟨gb662,3,none⟩) (by first|(rw [zF];exact hn663_3)|(show (Addr.add _ _).block≠_;rw [zF];exact hn663_3)|exact hn663_3) (.string ((rd_T68 l0 x13_1).f1.f2))).trans hx663_3;clear hn663_0 hn663_1 hn663_2 hn663_3;replace p663:=eq_true p663;replace q663:=eq_true q663)|((with_reducible refine zK (N:=9) rfl ?_);refine zI ?hg (N:=9) ?hd (cs:=#[.string (⟨#[]⟩ : ByteArray),.int .i64 0,.int .i64 0,.string (⟨#[]⟩ : ByteArray)]) (t:=68) ?hr ?_;(case hd => rfl);(case hg => rfl);(case hr => first|(go_simp;done)|(go_simp;rfl));intro gb664 hg w22 hbox hb;have BK664:=zh (hbox);have GW664:=zh ((by rw [hg];exact (zB (by repeat (with_reducible first|exact HB.out|apply za|apply zb|apply zc|refine zd ?_ GE662.out))) : w.heap.size≤gb664));have GE664:=zh ((by rw [hg];exact (zB (by repeat (with_reducible first|exact HB.out|apply za|apply zb|apply zc|refine zd ?_ GE662.out))) : w.heap.size≤gb664));replace HB:=zh (zC (by repeat (with_reducible first|exact HB.out|apply za|apply zb|apply zc|refine zd ?_ GE662.out)) hb);have NB662_664:=zh ((by rw [hg];exact yc (yi (g:=gb662) (o:=.cells #[.string ((rd_T68 l0 x13_1).f0),.int .i64 ((rd_T68 l0 x13_1).f1.f0),.int .i64 ((rd_T68 l0 x13_1).f1.f1),.string ((rd_T68 l0 x13_1).f1.f2)] 68 (0,0)) (by (with_reducible repeat (first|refine ze ?_ _|refine zf ?_|refine zg ?_ _));refine zL (cs:=#[.string ((rd_T68 l0 x13_1).f0),.int .i64 ((rd_T68 l0 x13_1).f1.f0),.int .i64 ((rd_T68 l0 x13_1).f1.f1),.string (⟨#[]⟩ : ByteArray)]) ?_ 3 _ rfl;(with_reducible repeat (first|refine ze ?_ _|refine zf ?_|refine zg ?_ _));refine zL (cs:=#[.string ((rd_T68 l0 x13_1).f0),.int .i64 ((rd_T68 l0 x13_1).f1.f0),.int .i64 0,.string (⟨#[]⟩ : ByteArray)]) ?_ 2 _ rfl;(with_reducible repeat (first|refine ze ?_ _|refine zf ?_|refine zg ?_ _));refine zL (cs:=#[.string ((rd_T68 l0 x13_1).f0),.int .i64 0,.int .i64 0,.string (⟨#[]⟩ : ByteArray)]) ?_ 1 _ rfl;(with_reducible repeat (first|refine ze ?_ _|refine zf ?_|refine zg ?_ _));refine zL (cs:=#[.string (⟨#[]⟩ : ByteArray),.int .i64 0,.int .i64 0,.string (⟨#[]⟩ : ByteArray)]) ?_ 0 _ rfl;(with_reducible repeat (first|refine ze ?_ _|refine zf ?_|refine zg ?_ _));exact BK662.out)) : gb662≠gb664));have NB664_662:=zh ((by rw [hg];exact yd (yi (g:=gb662) (o:=.cells #[.string ((rd_T68 l0 x13_1).f0),.int .i64 ((rd_T68 l0 x13_1).f1.f0),.int .i64 ((rd_T68 l0 x13_1).f1.f1),.string ((rd_T68 l0 x13_1).f1.f2)] 68 (0,0)) (by (with_reducible repeat (first|refine ze ?_ _|refine zf ?_|refine zg ?_ _));refine zL (cs:=#[.string ((rd_T68 l0 x13_1).f0),.int .i64 ((rd_T68 l0 x13_1).f1.f0),.int .i64 ((rd_T68 l0 x13_1).f1.f1),.string (⟨#[]⟩ : ByteArray)]) ?_ 3 _ rfl;(with_reducible repeat (first|refine ze ?_ _|refine zf ?_|refine zg ?_ _));refine zL (cs:=#[.string ((rd_T68 l0 x13_1).f0),.int .i64 ((rd_T68 l0 x13_1).f1.f0),.int .i64 0,.string (⟨#[]⟩ : ByteArray)]) ?_ 2 _ rfl;(with_reducible repeat (first|refine ze ?_ _|refine zf ?_|refine zg ?_ _));refine zL (cs:=#[.string ((rd_T68 l0 x13_1).f0),.int .i64 0,.int .i64 0,.string (⟨#[]⟩ : ByteArray)]) ?_ 1 _ rfl;(with_reducible repeat (first|refine ze ?_ _|refine zf ?_|refine zg ?_ _));refine zL (cs:=#[.string (⟨#[]⟩ : ByteArray),.int .i64 0,.int .i64 0,.string (⟨#[]⟩ : ByteArray)]) ?_ 0 _ rfl;(with_reducible repeat (first|refine ze ?_ _|refine zf ?_|refine zg ?_ _));exact BK662.out)) : gb664≠gb662));replace BK662:=zh (zD (g:=gb662) (o:=.cells #[.string ((rd_T68 l0 x13_1).f0),.int .i64 ((rd_T68 l0 x13_1).f1.f0),.int .i64 ((rd_T68 l0 x13_1).f1.f1),.string ((rd_T68 l0 x13_1).f1.f2)] 68 (0,0)) (by (with_reducible repeat (first|refine ze ?_ _|refine zf ?_|refine zg ?_ _));refine zL (cs:=#[.string ((rd_T68 l0 x13_1).f0),.int .i64 ((rd_T68 l0 x13_1).f1.f0),.int .i64 ((rd_T68 l0 x13_1).f1.f1),.string (⟨#[]⟩ : ByteArray)]) ?_ 3 _ rfl;(with_reducible repeat (first|refine ze ?_ _|refine zf ?_|refine zg ?_ _));refine zL (cs:=#[.string ((rd_T68 l0 x13_1).f0),.int .i64 ((rd_T68 l0 x13_1).f1.f0),.int .i64 0,.string (⟨#[]⟩ : ByteArray)]) ?_ 2 _ rfl;(with_reducible repeat (first|refine ze ?_ _|refine zf ?_|refine zg ?_ _));refine zL (cs:=#[.string ((rd_T68 l0 x13_1).f0),.int .i64 0,.int .i64 0,.string (⟨#[]⟩ : ByteArray)]) ?_ 1 _ rfl;(with_reducible repeat (first|refine ze ?_ _|refine zf ?_|refine zg ?_ _));refine zL (cs:=#[.string (⟨#[]⟩ : ByteArray),.int .i64 0,.int .i64 0,.string (⟨#[]⟩ : ByteArray)]) ?_ 0 _ rfl;(with_reducible repeat (first|refine ze ?_ _|refine zf ?_|refine zg ?_ _));exact BK662.out) hb);clear hb hbox hg;have hnb23:=NB664_662.out;have hnc23:=NB662_664.out;have hcz24_0 : w22.cell? ⟨gb664,0,none⟩=some (.string (⟨#[]⟩ : ByteArray)):=(zz BK664.out 0).trans rfl;have hcz24_1 : w22.cell? ⟨gb664,1,none⟩=some (.int .i64 0):=(zz BK664.out 1).trans rfl;have hcz24_2 : w22.cell? ⟨gb664,2,none⟩=some (.int .i64 0):=(zz BK664.out 2).trans rfl;have hcz24_3 : w22.cell? ⟨gb664,3,none⟩=some (.string (⟨#[]⟩ : ByteArray)):=(zz BK664.out 3).trans rfl;have hfz24_0:=zA BK664.out 0;have hfz24_1:=zA BK664.out 1;have hfz24_2:=zA BK664.out 2;have hfz24_3:=zA BK664.out 3;have hcz25_0 : w22.cell? ⟨gb662,0,none⟩=some (.string ((rd_T68 l0 x13_1).f0)):=(zz BK662.out 0).trans rfl;have hcz25_1 : w22.cell? ⟨gb662,1,none⟩=some (.int .i64 ((rd_T68 l0 x13_1).f1.f0)):=(zz BK662.out 1).trans rfl;have hcz25_2 : w22.cell? ⟨gb662,2,none⟩=some (.int .i64 ((rd_T68 l0 x13_1).f1.f1)):=(zz BK662.out 2).trans rfl;have hcz25_3 : w22.cell? ⟨gb662,3,none⟩=some (.string ((rd_T68 l0 x13_1).f1.f2)):=(zz BK662.out 3).trans rfl;have hfz25_0:=zA BK662.out 0;have hfz25_1:=zA BK662.out 1;have hfz25_2:=zA BK662.out 2;have hfz25_3:=zA BK662.out 3)|(go_at_call 101;(with_reducible refine (impl_orderFields.calls k1 G hG ((rd_T68 l0 x13_1).f0) ((rd_T68 l0 x13_1).f1.f0) ((rd_T68 l0 x13_1).f1.f1) ((rd_T68 l0 x13_1).f1.f2) ((rd_T68 l1 x13_1).f0) ((rd_T68 l1 x13_1).f1.f0) ((rd_T68 l1 x13_1).f1.f1) ((rd_T68 l1 x13_1).f1.f2) t665 _ A11.out).mono ?_);rintro e w26 ⟨rfl,hb⟩;replace BK662:=zh (zD (g:=gb662) (o:=.cells #[.string ((rd_T68 l0 x13_1).f0),.int .i64 ((rd_T68 l0 x13_1).f1.f0),.int .i64 ((rd_T68 l0 x13_1).f1.f1),.string ((rd_T68 l0 x13_1).f1.f2)] 68 (0,0)) (by (with_reducible repeat (first|refine ze ?_ _|refine zf ?_|refine zg ?_ _));refine zS ?_ NB662_664.out _;(with_reducible repeat (first|refine ze ?_ _|refine zf ?_|refine zg ?_ _));refine zS ?_ NB662_664.out _;(with_reducible repeat (first|refine ze ?_ _|refine zf ?_|refine zg ?_ _));refine zS ?_ NB662_664.out _;(with_reducible repeat (first|refine ze ?_ _|refine zf ?_|refine zg ?_ _));refine zS ?_ NB662_664.out _;(with_reducible repeat (first|refine ze ?_ _|refine zf ?_|refine zg ?_ _));exact BK662.out) hb);replace BK664:=zh (zD (g:=gb664) (o:=.cells #[.string ((rd_T68 l1 x13_1).f0),.int .i64 ((rd_T68 l1 x13_1).f1.f0),.int .i64 ((rd_T68 l1 x13_1).f1.f1),.string ((rd_T68 l1 x13_1).f1.f2)] 68 (0,0)) (by (with_reducible repeat (first|refine ze ?_ _|refine zf ?_|refine zg ?_ _));refine zL (cs:=#[.string ((rd_T68 l1 x13_1).f0),.int .i64 ((rd_T68 l1 x13_1).f1.f0),.int .i64 ((rd_T68 l1 x13_1).f1.f1),.string (⟨#[]⟩ : ByteArray)]) ?_ 3 _ rfl;(with_reducible repeat (first|refine ze ?_ _|refine zf ?_|refine zg ?_ _));refine zL (cs:=#[.string ((rd_T68 l1 x13_1).f0),.int .i64 ((rd_T68 l1 x13_1).f1.f0),.int .i64 0,.string (⟨#[]⟩ : ByteArray)]) ?_ 2 _ rfl;(with_reducible repeat (first|refine ze ?_ _|refine zf ?_|refine zg ?_ _));refine zL (cs:=#[.string ((rd_T68 l1 x13_1).f0),.int .i64 0,.int .i64 0,.string (⟨#[]⟩ : ByteArray)]) ?_ 1 _ rfl;(with_reducible repeat (first|refine ze ?_ _|refine zf ?_|refine zg ?_ _));refine zL (cs:=#[.string (⟨#[]⟩ : ByteArray),.int .i64 0,.int .i64 0,.string (⟨#[]⟩ : ByteArray)]) ?_ 0 _ rfl;(with_reducible repeat (first|refine ze ?_ _|refine zf ?_|refine zg ?_ _));exact BK664.out) hb);replace HB:=zh (zC (by repeat (with_reducible first|exact HB.out|apply za|apply zb|apply zc|refine zd ?_ GE662.out|refine zd ?_ GE664.out)) hb);(try clear hb);(try clear hb2);(try clear hk);(try clear hi)))
       go_ret
       exact ⟨by first|rfl|(simp [yt,yu] <;> rfl)|(simp [*,yt,yu] <;> rfl),by repeat (with_reducible first|exact HB.out|apply za|apply zb|apply zc|refine zd ?_ GE662.out|refine zd ?_ GE664.out)⟩
      rw [if_neg c10] at H;exact absurd H (by simp)
     rw [if_neg c6] at H;exact absurd H (by simp)
    rw [if_neg c5] at H;exact absurd H (by simp)
   rw [if_neg c4] at H;have c4b0 : decide (x13_1<(l0.length : Int))=false:=decide_eq_false c4;clear c4
   by_cases c27 : (l0.length : Int)<(l1.length : Int)
   ·
    rw [if_pos c27] at H
    have c27b0 : decide ((l0.length : Int)<(l1.length : Int))=true:=decide_eq_true c27;have c27b1 : decide (l0.length<l1.length)=true:=decide_eq_true (zV.mp c27);clear c27;obtain rfl:=zU H
    go_wp2
    go_ret
    exact ⟨by first|rfl|(simp [yt,yu] <;> rfl)|(simp [*,yt,yu] <;> rfl),by repeat (with_reducible first|exact HB.out|apply za|apply zb|apply zc)⟩
   rw [if_neg c27] at H;have c27b0 : decide ((l0.length : Int)<(l1.length : Int))=false:=decide_eq_false c27;have c27b1 : decide (l0.length<l1.length)=false:=decide_eq_false (fun h => c27 (zV.mpr h));clear c27;obtain rfl:=zU H
   go_wp2
   go_ret
   exact ⟨by first|rfl|(simp [yt,yu] <;> rfl)|(simp [*,yt,yu] <;> rfl),by repeat (with_reducible first|exact HB.out|apply za|apply zb|apply zc)⟩

end Go.Proofs.Ytpmeglcmhiihoaa.Q
end
section
namespace Go.Proofs.Ytpmeglcmhiihoaa.Q
open Go.RowKit Go.Proofs.YtpmeglcmhiihoaaW.PrintWords Go.Proofs.YtpmeglcmhiihoaaW.PrintLast Go.Proofs.YtpmeglcmhiihoaaW.PrintMore
attribute [local go_sem] max2_int min2_int max_two min_two max_three min_three max_four min_four max2_str min2_str str_geq str_gtr str_leq   -- for this text's walks alone
set_option linter.unusedVariables false
set_option linter.unusedSimpArgs false

def cmp_isNaN_int.f (a0 : Int) : Option (Bool):=some (a0 != a0)
set_option maxHeartbeats 8000000 in
set_option maxRecDepth 100000 in
theorem cmp_isNaN_int.calls (a0 : Int) (r : Bool) (w : World) (h : cmp_isNaN_int.f a0=some r) :
  Calls Try.prog 116 #[.int .i64 a0] w fun e w' => e = .returned (.bool r)∧Drawn0 w w':=by
 have H : (some (a0 != a0))=some r:=h;clear h;obtain rfl:=zU H
 go_enter Try.func116,Try.ntmps116
 go_wp2
 go_ret
 exact ⟨by first|rfl|(simp;done)|(simp [*];done),by repeat (first|exact yp _|apply yq)⟩

end Go.Proofs.Ytpmeglcmhiihoaa.Q
end
section
namespace Go.Proofs.Ytpmeglcmhiihoaa.Q
open Go.RowKit Go.Proofs.YtpmeglcmhiihoaaW.PrintWords Go.Proofs.YtpmeglcmhiihoaaW.PrintLast Go.Proofs.YtpmeglcmhiihoaaW.PrintMore
attribute [local go_sem] max2_int min2_int max_two min_two max_three min_three max_four min_four max2_str min2_str str_geq str_gtr str_leq   -- for this text's walks alone
set_option linter.unusedVariables false
set_option linter.unusedSimpArgs false

def cmp_Compare_int.f (a0 : Int) (a1 : Int) : Option (Int):=(cmp_isNaN_int.f a0).bind fun t651 => ((cmp_isNaN_int.f a1).bind fun t652 => (if t651=true then (if t652=true then (some 0) else (some (-1))) else (if t652=true then (some 1) else (if a0<a1 then (some (-1)) else (if a0 > a1 then (some 1) else (some 0))))))
set_option maxHeartbeats 8000000 in
set_option maxRecDepth 100000 in
theorem cmp_Compare_int.calls (a0 : Int) (a1 : Int) (r : Int) (w : World) (h : cmp_Compare_int.f a0 a1=some r) :
  Calls Try.prog 98 #[.int .i64 a0,.int .i64 a1] w fun e w' => e = .returned (.int .i64 r)∧Drawn0 w w':=by
 have H : ((cmp_isNaN_int.f a0).bind fun t651 => ((cmp_isNaN_int.f a1).bind fun t652 => (if t651=true then (if t652=true then (some 0) else (some (-1))) else (if t652=true then (some 1) else (if a0<a1 then (some (-1)) else (if a0 > a1 then (some 1) else (some 0)))))))=some r:=h;clear h;replace H:=zT.mp H;obtain ⟨t651,A30,H⟩:=H;replace H : ((cmp_isNaN_int.f a1).bind fun t652 => (if t651=true then (if t652=true then (some 0) else (some (-1))) else (if t652=true then (some 1) else (if a0<a1 then (some (-1)) else (if a0 > a1 then (some 1) else (some 0))))))=some r:=H;have A3:=zh A30;clear A30;replace H:=zT.mp H;obtain ⟨t652,A40,H⟩:=H;replace H : (if t651=true then (if t652=true then (some 0) else (some (-1))) else (if t652=true then (some 1) else (if a0<a1 then (some (-1)) else (if a0 > a1 then (some 1) else (some 0)))))=some r:=H;have A4:=zh A40;clear A40
 by_cases c5 : t651=true
 ·
  subst c5
  have H1 : (if t652=true then (some 0) else (some (-1)))=some r:=by rw [if_pos rfl] at H;exact H
  clear H;have H:=H1;clear H1
  by_cases c6 : t652=true
  ·
   subst c6
   have H1 : (some 0)=some r:=by rw [if_pos rfl] at H;exact H
   clear H;have H:=H1;clear H1;obtain rfl:=zU H
   go_enter Try.func98,Try.ntmps98
   go_wp2_with (first|((with_reducible refine zJ (f:=116) rfl ?_);refine yj (some 8) rfl rfl Try.func116 (by kernel_rfl) rfl #[.int .i64 a0] rfl (by (try simp only [zt,zu,zv]);first|done|rfl|(simp only [zw,zx];rfl)|(simp only [yr,ys,zV,zW];rfl)) ?_;(with_reducible refine (cmp_isNaN_int.calls  a0 true _ A3.out).mono ?_);rintro e w' ⟨rfl,⟨nd,rfl⟩⟩;refine ⟨_,rfl,?_⟩)|((with_reducible refine zJ (f:=116) rfl ?_);refine yj (some 10) rfl rfl Try.func116 (by kernel_rfl) rfl #[.int .i64 a1] rfl (by (try simp only [zt,zu,zv]);first|done|rfl|(simp only [zw,zx];rfl)|(simp only [yr,ys,zV,zW];rfl)) ?_;(with_reducible refine (cmp_isNaN_int.calls  a1 true _ A4.out).mono ?_);rintro e w' ⟨rfl,⟨nd,rfl⟩⟩;refine ⟨_,rfl,?_⟩))
   go_ret
   exact ⟨by first|rfl|(simp;done)|(simp [*];done),by repeat (first|exact yp _|apply yq)⟩
  replace c6:=yb.mpr c6;subst c6;have H1 : (some (-1))=some r:=by rw [if_neg (show ¬ (false=true) by decide)] at H;exact H
  clear H;have H:=H1;clear H1;obtain rfl:=zU H
  go_enter Try.func98,Try.ntmps98
  go_wp2_with (first|((with_reducible refine zJ (f:=116) rfl ?_);refine yj (some 8) rfl rfl Try.func116 (by kernel_rfl) rfl #[.int .i64 a0] rfl (by (try simp only [zt,zu,zv]);first|done|rfl|(simp only [zw,zx];rfl)|(simp only [yr,ys,zV,zW];rfl)) ?_;(with_reducible refine (cmp_isNaN_int.calls  a0 true _ A3.out).mono ?_);rintro e w' ⟨rfl,⟨nd,rfl⟩⟩;refine ⟨_,rfl,?_⟩)|((with_reducible refine zJ (f:=116) rfl ?_);refine yj (some 10) rfl rfl Try.func116 (by kernel_rfl) rfl #[.int .i64 a1] rfl (by (try simp only [zt,zu,zv]);first|done|rfl|(simp only [zw,zx];rfl)|(simp only [yr,ys,zV,zW];rfl)) ?_;(with_reducible refine (cmp_isNaN_int.calls  a1 false _ A4.out).mono ?_);rintro e w' ⟨rfl,⟨nd,rfl⟩⟩;refine ⟨_,rfl,?_⟩))
  go_ret
  exact ⟨by first|rfl|(simp;done)|(simp [*];done),by repeat (first|exact yp _|apply yq)⟩
 replace c5:=yb.mpr c5;subst c5;have H1 : (if t652=true then (some 1) else (if a0<a1 then (some (-1)) else (if a0 > a1 then (some 1) else (some 0))))=some r:=by rw [if_neg (show ¬ (false=true) by decide)] at H;exact H
 clear H;have H:=H1;clear H1
 by_cases c7 : t652=true
 ·
  subst c7
  have H1 : (some 1)=some r:=by rw [if_pos rfl] at H;exact H
  clear H;have H:=H1;clear H1;obtain rfl:=zU H
  go_enter Try.func98,Try.ntmps98
  go_wp2_with (first|((with_reducible refine zJ (f:=116) rfl ?_);refine yj (some 8) rfl rfl Try.func116 (by kernel_rfl) rfl #[.int .i64 a0] rfl (by (try simp only [zt,zu,zv]);first|done|rfl|(simp only [zw,zx];rfl)|(simp only [yr,ys,zV,zW];rfl)) ?_;(with_reducible refine (cmp_isNaN_int.calls  a0 false _ A3.out).mono ?_);rintro e w' ⟨rfl,⟨nd,rfl⟩⟩;refine ⟨_,rfl,?_⟩)|((with_reducible refine zJ (f:=116) rfl ?_);refine yj (some 10) rfl rfl Try.func116 (by kernel_rfl) rfl #[.int .i64 a1] rfl (by (try simp only [zt,zu,zv]);first|done|rfl|(simp only [zw,zx];rfl)|(simp only [yr,ys,zV,zW];rfl)) ?_;(with_reducible refine (cmp_isNaN_int.calls  a1 true _ A4.out).mono ?_);rintro e w' ⟨rfl,⟨nd,rfl⟩⟩;refine ⟨_,rfl,?_⟩))
  go_ret
  exact ⟨by first|rfl|(simp;done)|(simp [*];done),by repeat (first|exact yp _|apply yq)⟩
 replace c7:=yb.mpr c7;subst c7;have H1 : (if a0<a1 then (some (-1)) else (if a0 > a1 then (some 1) else (some 0)))=some r:=by rw [if_neg (show ¬ (false=true) by decide)] at H;exact H
 clear H;have H:=H1;clear H1
 by_cases c8 : a0<a1
 ·
  rw [if_pos c8] at H
  have c8b0 : decide (a0<a1)=true:=decide_eq_true c8;clear c8;obtain rfl:=zU H
  go_enter Try.func98,Try.ntmps98
  go_wp2_with (first|((with_reducible refine zJ (f:=116) rfl ?_);refine yj (some 8) rfl rfl Try.func116 (by kernel_rfl) rfl #[.int .i64 a0] rfl (by (try simp only [zt,zu,zv]);first|done|rfl|(simp only [zw,zx];rfl)|(simp only [yr,ys,zV,zW];rfl)) ?_;(with_reducible refine (cmp_isNaN_int.calls  a0 false _ A3.out).mono ?_);rintro e w' ⟨rfl,⟨nd,rfl⟩⟩;refine ⟨_,rfl,?_⟩)|((with_reducible refine zJ (f:=116) rfl ?_);refine yj (some 10) rfl rfl Try.func116 (by kernel_rfl) rfl #[.int .i64 a1] rfl (by (try simp only [zt,zu,zv]);first|done|rfl|(simp only [zw,zx];rfl)|(simp only [yr,ys,zV,zW];rfl)) ?_;(with_reducible refine (cmp_isNaN_int.calls  a1 false _ A4.out).mono ?_);rintro e w' ⟨rfl,⟨nd,rfl⟩⟩;refine ⟨_,rfl,?_⟩))
  go_ret
  exact ⟨by first|rfl|(simp;done)|(simp [*];done),by repeat (first|exact yp _|apply yq)⟩
 rw [if_neg c8] at H;have c8b0 : decide (a0<a1)=false:=decide_eq_false c8;clear c8
 by_cases c9 : a0 > a1
 ·
  rw [if_pos c9] at H
  have c9b0 : decide (a1<a0)=true:=decide_eq_true c9;clear c9;obtain rfl:=zU H
  go_enter Try.func98,Try.ntmps98
  go_wp2_with (first|((with_reducible refine zJ (f:=116) rfl ?_);refine yj (some 8) rfl rfl Try.func116 (by kernel_rfl) rfl #[.int .i64 a0] rfl (by (try simp only [zt,zu,zv]);first|done|rfl|(simp only [zw,zx];rfl)|(simp only [yr,ys,zV,zW];rfl)) ?_;(with_reducible refine (cmp_isNaN_int.calls  a0 false _ A3.out).mono ?_);rintro e w' ⟨rfl,⟨nd,rfl⟩⟩;refine ⟨_,rfl,?_⟩)|((with_reducible refine zJ (f:=116) rfl ?_);refine yj (some 10) rfl rfl Try.func116 (by kernel_rfl) rfl #[.int .i64 a1] rfl (by (try simp only [zt,zu,zv]);first|done|rfl|(simp only [zw,zx];rfl)|(simp only [yr,ys,zV,zW];rfl)) ?_;(with_reducible refine (cmp_isNaN_int.calls  a1 false _ A4.out).mono ?_);rintro e w' ⟨rfl,⟨nd,rfl⟩⟩;refine ⟨_,rfl,?_⟩))
  go_ret
  exact ⟨by first|rfl|(simp;done)|(simp [*];done),by repeat (first|exact yp _|apply yq)⟩
 rw [if_neg c9] at H;have c9b0 : decide (a1<a0)=false:=decide_eq_false c9;clear c9;obtain rfl:=zU H
 go_enter Try.func98,Try.ntmps98
 go_wp2_with (first|((with_reducible refine zJ (f:=116) rfl ?_);refine yj (some 8) rfl rfl Try.func116 (by kernel_rfl) rfl #[.int .i64 a0] rfl (by (try simp only [zt,zu,zv]);first|done|rfl|(simp only [zw,zx];rfl)|(simp only [yr,ys,zV,zW];rfl)) ?_;(with_reducible refine (cmp_isNaN_int.calls  a0 false _ A3.out).mono ?_);rintro e w' ⟨rfl,⟨nd,rfl⟩⟩;refine ⟨_,rfl,?_⟩)|((with_reducible refine zJ (f:=116) rfl ?_);refine yj (some 10) rfl rfl Try.func116 (by kernel_rfl) rfl #[.int .i64 a1] rfl (by (try simp only [zt,zu,zv]);first|done|rfl|(simp only [zw,zx];rfl)|(simp only [yr,ys,zV,zW];rfl)) ?_;(with_reducible refine (cmp_isNaN_int.calls  a1 false _ A4.out).mono ?_);rintro e w' ⟨rfl,⟨nd,rfl⟩⟩;refine ⟨_,rfl,?_⟩))
 go_ret
 exact ⟨by first|rfl|(simp;done)|(simp [*];done),by repeat (first|exact yp _|apply yq)⟩

end Go.Proofs.Ytpmeglcmhiihoaa.Q
end
section
namespace Go.Proofs.Ytpmeglcmhiihoaa.Q
open Go.RowKit Go.Proofs.YtpmeglcmhiihoaaW.PrintWords Go.Proofs.YtpmeglcmhiihoaaW.PrintLast Go.Proofs.YtpmeglcmhiihoaaW.PrintMore
attribute [local go_sem] max2_int min2_int max_two min_two max_three min_three max_four min_four max2_str min2_str str_geq str_gtr str_leq   -- for this text's walks alone
set_option linter.unusedVariables false
set_option linter.unusedSimpArgs false

def impl_Value_at_order.l0 (G : Int→Int→ByteArray→Int→Int→ByteArray→Option (Int)) : Nat→List (S26)→List (S26)→List (S26)→Int→Int→Option (Int)
 | 0,_,_,_,_,_ => none
 | k + 1,x0,x1,x11,x12,x13 => if x13<x12 then (if 0≤x13 then (if x13<(x11.length : Int) then (if x13 ≥ (x1.length : Int) then (some 1) else (if x13<(x1.length : Int) then ((G ((rd_T26 x11 x13).f0) ((rd_T26 x11 x13).f1) ((rd_T26 x11 x13).f2) ((rd_T26 x1 x13).f0) ((rd_T26 x1 x13).f1) ((rd_T26 x1 x13).f2)).bind fun t665 => (if t665=0 then (impl_Value_at_order.l0 G k x0 x1 x11 x12 (wrap64 (x13 + 1))) else (some t665))) else (none))) else (none)) else (none)) else (if (x0.length : Int)<(x1.length : Int) then (some (-1)) else (some 0))
def impl_Value_at_order.f (k : Nat) (G : Int→Int→ByteArray→Int→Int→ByteArray→Option (Int)) (l0 : List (S26)) (l1 : List (S26))  : Option (Int):=impl_Value_at_order.l0 G k l0 l1 l0 (l0.length : Int) 0
theorem impl_Value_at_order.mono_l : ∀ (G G' : Int→Int→ByteArray→Int→Int→ByteArray→Option (Int)) (hG : ∀ y0 y1 y2 y3 y4 y5,LeO (G y0 y1 y2 y3 y4 y5) (G' y0 y1 y2 y3 y4 y5)),∀ k,(∀ y0 y1 y2 y3 y4,LeO (impl_Value_at_order.l0 G k y0 y1 y2 y3 y4) (impl_Value_at_order.l0 G' (k + 1) y0 y1 y2 y3 y4))
 | G,G',hG,0 => fun _ _ _ _ _ r h => by simp [impl_Value_at_order.l0] at h
 | G,G',hG,k + 1 => by
  have ih0:=impl_Value_at_order.mono_l G G' hG k;intro y0 y1 y2 y3 y4;unfold impl_Value_at_order.l0
  repeat' first|(with_reducible exact ih0 _ _ _ _ _)|(with_reducible exact hG _ _ _ _ _ _)|(with_reducible exact zQ _)|(with_reducible exact zN _)|(with_reducible refine zP ?_ ?_)|(with_reducible refine zO ?_ (fun _ => ?_))|refine zP ?_ ?_|refine zO ?_ (fun _ => ?_)
theorem impl_Value_at_order.mono : ∀ (G G' : Int→Int→ByteArray→Int→Int→ByteArray→Option (Int)) (hG : ∀ y0 y1 y2 y3 y4 y5,LeO (G y0 y1 y2 y3 y4 y5) (G' y0 y1 y2 y3 y4 y5)),∀ a0 a1 k,LeO (impl_Value_at_order.f k G a0 a1) (impl_Value_at_order.f (k + 1) G' a0 a1):=by
 intro G G' hG a0 a1 k;have ih0:=impl_Value_at_order.mono_l G G' hG k;unfold impl_Value_at_order.f
 repeat' first|(with_reducible exact ih0 _ _ _ _ _)|(with_reducible exact hG _ _ _ _ _ _)|(with_reducible exact zQ _)|(with_reducible exact zN _)|(with_reducible refine zP ?_ ?_)|(with_reducible refine zO ?_ (fun _ => ?_))|refine zP ?_ ?_|refine zO ?_ (fun _ => ?_)
set_option maxHeartbeats 8000000 in
set_option maxRecDepth 100000 in
theorem impl_Value_at_order.calls (k : Nat) (G : Int→Int→ByteArray→Int→Int→ByteArray→Option (Int)) (hG : ∀ (a0_0 : Int) (a0_1 : Int) (a0_2 : ByteArray) (a1_0 : Int) (a1_1 : Int) (a1_2 : ByteArray) (r : Int) (w : World) (h : G a0_0 a0_1 a0_2 a1_0 a1_1 a1_2=some r),Calls Try.prog 69 #[.agg #[.int .i64 a0_0,.int .i64 a0_1,.string a0_2],.agg #[.int .i64 a1_0,.int .i64 a1_1,.string a1_2]] w fun e w' => e = .returned (.int .i64 r)∧Below w.heap.size w w') (A0 : Option Addr) (c0 : Nat) (l0 : List (S26)) (A1 : Option Addr) (c1 : Nat) (l1 : List (S26))  (r : Int) (w : World) (hr0 : Kd.C k26 w A0 l0.length l0) (hc0 : l0.length≤c0) (hr1 : Kd.C k26 w A1 l1.length l1) (hc1 : l1.length≤c1) (h : impl_Value_at_order.f k G l0 l1=some r) :
  Calls Try.prog 99 #[.slice A0 l0.length c0,.slice A1 l1.length c1,.func (.func 69) #[] #[]] w fun e w' => e = .returned (.int .i64 r)∧Below w.heap.size w w':=by
 have hu26:=Try.underlying26;have HR0:=zh hr0;have HC0:=zh hc0;clear hr0 hc0;have HR1:=zh hr1;have HC1:=zh hc1;clear hr1 hc1;have HB:=zh (Below.refl w.heap.size w);have H : (impl_Value_at_order.l0 G k l0 l1 l0 (l0.length : Int) 0)=some r:=h;clear h;have H':=zh H;clear H
 go_enter Try.func99,Try.ntmps99
 go_wp2
 go_loopg [13] k (fun kq v13 w' => ∃ (x13_1 : Int),v13 = .int .i64 x13_1∧Aside0 (impl_Value_at_order.l0 G kq l0 l1 l0 (l0.length : Int) x13_1=some r)∧Aside0 (kq≤k)∧Aside0 (Below w.heap.size w w'))
 case atStart => exact ⟨(0),(by first|rfl|(simp;done)|(simp [*];done)),H',⟨ye _⟩,⟨by repeat (with_reducible first|exact HB.out|apply za|apply zb|apply zc)⟩⟩
 case round =>
  clear H'
  try clear c1
  try clear p2
  obtain ⟨x13_1,rfl,HA,HK1,HB⟩:=hrel
  cases gk with
  | zero => exact absurd HA.out (by simp [impl_Value_at_order.l0])
  | succ k1 =>
   have H:=HA.out;clear HA;simp only [impl_Value_at_order.l0] at H
   by_cases c4 : x13_1<(l0.length : Int)
   ·
    rw [if_pos c4] at H
    have c4b0 : decide (x13_1<(l0.length : Int))=true:=decide_eq_true c4;clear c4
    by_cases c5 : 0≤x13_1
    ·
     rw [if_pos c5] at H
     have c5b0 : decide (0≤x13_1)=true:=decide_eq_true c5;clear c5
     by_cases c6 : x13_1<(l0.length : Int)
     ·
      rw [if_pos c6] at H
      have c6b0 : decide (x13_1<(l0.length : Int))=true:=decide_eq_true c6;clear c6
      by_cases c7 : x13_1 ≥ (l1.length : Int)
      ·
       rw [if_pos c7] at H
       have c7b0 : decide ((l1.length : Int)≤x13_1)=true:=decide_eq_true c7;clear c7;obtain rfl:=zU H;have p661 : 0≤(x13_1 : Int):=zy (by first|(with_reducible assumption)|assumption);have q661 : x13_1<(l0.length : Int):=zy (by first|(with_reducible assumption)|assumption);obtain ⟨ad661,e661,hx661_0,hx661_1,hx661_2⟩:=at_T26 HR0.out x13_1 p661 q661
       cases e661
       replace hx661_0:=(HB.out.cell (zl w _ hx661_0)).trans hx661_0;replace hx661_1:=(HB.out.cell (zl w _ hx661_1)).trans hx661_1;replace hx661_2:=(HB.out.cell (zl w _ hx661_2)).trans hx661_2;replace p661:=eq_true p661;replace q661:=eq_true q661
       go_wp2_with (first|((with_reducible refine zK (N:=8) rfl ?_);refine zI ?hg (N:=8) ?hd (cs:=#[.int .i64 0,.int .i64 0,.string (⟨#[]⟩ : ByteArray)]) (t:=26) ?hr ?_;(case hd => rfl);(case hg => rfl);(case hr => first|(go_simp;done)|(go_simp;rfl));intro gb662 hg w8 hbox hb;have BK662:=zh (hbox);have GW662:=zh ((by rw [hg];exact (zB (by repeat (with_reducible first|exact HB.out|apply za|apply zb|apply zc))) : w.heap.size≤gb662));have GE662:=zh ((by rw [hg];exact (zB (by repeat (with_reducible first|exact HB.out|apply za|apply zb|apply zc))) : w.heap.size≤gb662));replace HB:=zh (zC (by repeat (with_reducible first|exact HB.out|apply za|apply zb|apply zc)) hb);clear hb hbox hg;have hcz9_0 : w8.cell? ⟨gb662,0,none⟩=some (.int .i64 0):=(zz BK662.out 0).trans rfl;have hcz9_1 : w8.cell? ⟨gb662,1,none⟩=some (.int .i64 0):=(zz BK662.out 1).trans rfl;have hcz9_2 : w8.cell? ⟨gb662,2,none⟩=some (.string (⟨#[]⟩ : ByteArray)):=(zz BK662.out 2).trans rfl;have hfz9_0:=zA BK662.out 0;have hfz9_1:=zA BK662.out 1;have hfz9_2:=zA BK662.out 2))
       go_ret
       exact ⟨by first|rfl|(simp [yt,yu] <;> rfl)|(simp [*,yt,yu] <;> rfl),by repeat (with_reducible first|exact HB.out|apply za|apply zb|apply zc|refine zd ?_ GE662.out)⟩
      rw [if_neg c7] at H;have c7b0 : decide ((l1.length : Int)≤x13_1)=false:=decide_eq_false c7;clear c7
      by_cases c10 : x13_1<(l1.length : Int)
      ·
       rw [if_pos c10] at H
       have c10b0 : decide (x13_1<(l1.length : Int))=true:=decide_eq_true c10;clear c10;replace H:=zT.mp H;obtain ⟨t665,A110,H⟩:=H;replace H : (if t665=0 then (impl_Value_at_order.l0 G k1 l0 l1 l0 (l0.length : Int) (wrap64 (x13_1 + 1))) else (some t665))=some r:=H;have A11:=zh A110;clear A110
       by_cases c12 : t665=0
       ·
        rw [if_pos c12] at H
        have c12b0 : (t665 == 0)=true:=ya.mpr c12;have c12b1 : (t665 != 0)=false:=zX.mpr c12;clear c12;have H':=zh H;clear H;have p661 : 0≤(x13_1 : Int):=zy (by first|(with_reducible assumption)|assumption);have q661 : x13_1<(l0.length : Int):=zy (by first|(with_reducible assumption)|assumption);obtain ⟨ad661,e661,hx661_0,hx661_1,hx661_2⟩:=at_T26 HR0.out x13_1 p661 q661
        cases e661
        replace hx661_0:=(HB.out.cell (zl w _ hx661_0)).trans hx661_0;replace hx661_1:=(HB.out.cell (zl w _ hx661_1)).trans hx661_1;replace hx661_2:=(HB.out.cell (zl w _ hx661_2)).trans hx661_2;replace p661:=eq_true p661;replace q661:=eq_true q661
        go_wp2_with (first|((with_reducible refine zK (N:=8) rfl ?_);refine zI ?hg (N:=8) ?hd (cs:=#[.int .i64 0,.int .i64 0,.string (⟨#[]⟩ : ByteArray)]) (t:=26) ?hr ?_;(case hd => rfl);(case hg => rfl);(case hr => first|(go_simp;done)|(go_simp;rfl));intro gb662 hg w13 hbox hb;have BK662:=zh (hbox);have GW662:=zh ((by rw [hg];exact (zB (by repeat (with_reducible first|exact HB.out|apply za|apply zb|apply zc))) : w.heap.size≤gb662));have GE662:=zh ((by rw [hg];exact (zB (by repeat (with_reducible first|exact HB.out|apply za|apply zb|apply zc))) : w.heap.size≤gb662));replace HB:=zh (zC (by repeat (with_reducible first|exact HB.out|apply za|apply zb|apply zc)) hb);clear hb hbox hg;have hcz14_0 : w13.cell? ⟨gb662,0,none⟩=some (.int .i64 0):=(zz BK662.out 0).trans rfl;have hcz14_1 : w13.cell? ⟨gb662,1,none⟩=some (.int .i64 0):=(zz BK662.out 1).trans rfl;have hcz14_2 : w13.cell? ⟨gb662,2,none⟩=some (.string (⟨#[]⟩ : ByteArray)):=(zz BK662.out 2).trans rfl;have hfz14_0:=zA BK662.out 0;have hfz14_1:=zA BK662.out 1;have hfz14_2:=zA BK662.out 2;have p663 : 0≤(x13_1 : Int):=zy (by first|(with_reducible assumption)|assumption);have q663 : x13_1<(l1.length : Int):=zy (by first|(with_reducible assumption)|assumption);obtain ⟨ad663,e663,hx663_0,hx663_1,hx663_2⟩:=at_T26 HR1.out x13_1 p663 q663;cases e663;have hn663_0 : ad663.block≠gb662:=yc (Nat.lt_of_lt_of_le (by have:=zl _ _ hx663_0;first|rwa [zF] at this|exact this) GW662.out);have hn663_1 : ad663.block≠gb662:=yc (Nat.lt_of_lt_of_le (by have:=zl _ _ hx663_0;first|rwa [zF] at this|exact this) GW662.out);have hn663_2 : ad663.block≠gb662:=yc (Nat.lt_of_lt_of_le (by have:=zl _ _ hx663_0;first|rwa [zF] at this|exact this) GW662.out);replace hx663_0:=(HB.out.cell (zl w _ hx663_0)).trans hx663_0;replace hx663_1:=(HB.out.cell (zl w _ hx663_1)).trans hx663_1;replace hx663_2:=(HB.out.cell (zl w _ hx663_2)).trans hx663_2;replace hx663_0:=(zR (p:=⟨gb662,0,none⟩) (by first|(rw [zF];exact hn663_0)|(show (Addr.add _ _).block≠_;rw [zF];exact hn663_0)|exact hn663_0) (.int .i64 ((rd_T26 l0 x13_1).f0))).trans hx663_0;replace hx663_1:=(zR (p:=⟨gb662,0,none⟩) (by first|(rw [zF];exact hn663_0)|(show (Addr.add _ _).block≠_;rw [zF];exact hn663_0)|exact hn663_0) (.int .i64 ((rd_T26 l0 x13_1).f0))).trans hx663_1;replace hx663_2:=(zR (p:=⟨gb662,0,none⟩) (by first|(rw [zF];exact hn663_0)|(show (Addr.add _ _).block≠_;rw [zF];exact hn663_0)|exact hn663_0) (.int .i64 ((rd_T26 l0 x13_1).f0))).trans hx663_2;replace hx663_0:=(zR (p:=⟨gb662,1,none⟩) (by first|(rw [zF];exact hn663_1)|(show (Addr.add _ _).block≠_;rw [zF];exact hn663_1)|exact hn663_1) (.int .i64 ((rd_T26 l0 x13_1).f1))).trans hx663_0;replace hx663_1:=(zR (p:=⟨gb662,1,none⟩) (by first|(rw [zF];exact hn663_1)|(show (Addr.add _ _).block≠_;rw [zF];exact hn663_1)|exact hn663_1) (.int .i64 ((rd_T26 l0 x13_1).f1))).trans hx663_1;replace hx663_2:=(zR (p:=⟨gb662,1,none⟩) (by first|(rw [zF];exact hn663_1)|(show (Addr.add _ _).block≠_;rw [zF];exact hn663_1)|exact hn663_1) (.int .i64 ((rd_T26 l0 x13_1).f1))).trans hx663_2;replace hx663_0:=(zR (p:=⟨gb662,2,none⟩) (by first|(rw [zF];exact hn663_2)|(show (Addr.add _ _).block≠_;rw [zF];exact hn663_2)|exact hn663_2) (.string ((rd_T26 l0 x13_1).f2))).trans hx663_0;replace hx663_1:=(zR (p:=⟨gb662,2,none⟩) (by first|(rw [zF];exact hn663_2)|(show (Addr.add _ _).block≠_;rw [zF];exact hn663_2)|exact hn663_2) (.string ((rd_T26 l0 x13_1).f2))).trans hx663_1;replace hx663_2:=(zR (p:=⟨gb662,2,none⟩) (by first|(rw [zF];exact hn663_2)|(show (Addr.add _ _).block≠_;rw [zF];exact hn663_2)|exact hn663_2) (.string ((rd_T26 l0 x13_1).f2))).trans hx663_2;clear hn663_0 hn663_1 hn663_2;replace p663:=eq_true p663;replace q663:=eq_true q663)|((with_reducible refine zK (N:=9) rfl ?_);refine zI ?hg (N:=9) ?hd (cs:=#[.int .i64 0,.int .i64 0,.string (⟨#[]⟩ : ByteArray)]) (t:=26) ?hr ?_;(case hd => rfl);(case hg => rfl);(case hr => first|(go_simp;done)|(go_simp;rfl));intro gb664 hg w15 hbox hb;have BK664:=zh (hbox);have GW664:=zh ((by rw [hg];exact (zB (by repeat (with_reducible first|exact HB.out|apply za|apply zb|apply zc|refine zd ?_ GE662.out))) : w.heap.size≤gb664));have GE664:=zh ((by rw [hg];exact (zB (by repeat (with_reducible first|exact HB.out|apply za|apply zb|apply zc|refine zd ?_ GE662.out))) : w.heap.size≤gb664));replace HB:=zh (zC (by repeat (with_reducible first|exact HB.out|apply za|apply zb|apply zc|refine zd ?_ GE662.out)) hb);have NB662_664:=zh ((by rw [hg];exact yc (yi (g:=gb662) (o:=.cells #[.int .i64 ((rd_T26 l0 x13_1).f0),.int .i64 ((rd_T26 l0 x13_1).f1),.string ((rd_T26 l0 x13_1).f2)] 26 (0,0)) (by (with_reducible repeat (first|refine ze ?_ _|refine zf ?_|refine zg ?_ _));refine zL (cs:=#[.int .i64 ((rd_T26 l0 x13_1).f0),.int .i64 ((rd_T26 l0 x13_1).f1),.string (⟨#[]⟩ : ByteArray)]) ?_ 2 _ rfl;(with_reducible repeat (first|refine ze ?_ _|refine zf ?_|refine zg ?_ _));refine zL (cs:=#[.int .i64 ((rd_T26 l0 x13_1).f0),.int .i64 0,.string (⟨#[]⟩ : ByteArray)]) ?_ 1 _ rfl;(with_reducible repeat (first|refine ze ?_ _|refine zf ?_|refine zg ?_ _));refine zL (cs:=#[.int .i64 0,.int .i64 0,.string (⟨#[]⟩ : ByteArray)]) ?_ 0 _ rfl;(with_reducible repeat (first|refine ze ?_ _|refine zf ?_|refine zg ?_ _));exact BK662.out)) : gb662≠gb664));have NB664_662:=zh ((by rw [hg];exact yd (yi (g:=gb662) (o:=.cells #[.int .i64 ((rd_T26 l0 x13_1).f0),.int .i64 ((rd_T26 l0 x13_1).f1),.string ((rd_T26 l0 x13_1).f2)] 26 (0,0)) (by (with_reducible repeat (first|refine ze ?_ _|refine zf ?_|refine zg ?_ _));refine zL (cs:=#[.int .i64 ((rd_T26 l0 x13_1).f0),.int .i64 ((rd_T26 l0 x13_1).f1),.string (⟨#[]⟩ : ByteArray)]) ?_ 2 _ rfl;(with_reducible repeat (first|refine ze ?_ _|refine zf ?_|refine zg ?_ _));refine zL (cs:=#[.int .i64 ((rd_T26 l0 x13_1).f0),.int .i64 0,.string (⟨#[]⟩ : ByteArray)]) ?_ 1 _ rfl;(with_reducible repeat (first|refine ze ?_ _|refine zf ?_|refine zg ?_ _));refine zL (cs:=#[.int .i64 0,.int .i64 0,.string (⟨#[]⟩ : ByteArray)]) ?_ 0 _ rfl;(with_reducible repeat (first|refine ze ?_ _|refine zf ?_|refine zg ?_ _));exact BK662.out)) : gb664≠gb662));replace BK662:=zh (zD (g:=gb662) (o:=.cells #[.int .i64 ((rd_T26 l0 x13_1).f0),.int .i64 ((rd_T26 l0 x13_1).f1),.string ((rd_T26 l0 x13_1).f2)] 26 (0,0)) (by (with_reducible repeat (first|refine ze ?_ _|refine zf ?_|refine zg ?_ _));refine zL (cs:=#[.int .i64 ((rd_T26 l0 x13_1).f0),.int .i64 ((rd_T26 l0 x13_1).f1),.string (⟨#[]⟩ : ByteArray)]) ?_ 2 _ rfl;(with_reducible repeat (first|refine ze ?_ _|refine zf ?_|refine zg ?_ _));refine zL (cs:=#[.int .i64 ((rd_T26 l0 x13_1).f0),.int .i64 0,.string (⟨#[]⟩ : ByteArray)]) ?_ 1 _ rfl;(with_reducible repeat (first|refine ze ?_ _|refine zf ?_|refine zg ?_ _));refine zL (cs:=#[.int .i64 0,.int .i64 0,.string (⟨#[]⟩ : ByteArray)]) ?_ 0 _ rfl;(with_reducible repeat (first|refine ze ?_ _|refine zf ?_|refine zg ?_ _));exact BK662.out) hb);clear hb hbox hg;have hnb16:=NB664_662.out;have hnc16:=NB662_664.out;have hcz17_0 : w15.cell? ⟨gb664,0,none⟩=some (.int .i64 0):=(zz BK664.out 0).trans rfl;have hcz17_1 : w15.cell? ⟨gb664,1,none⟩=some (.int .i64 0):=(zz BK664.out 1).trans rfl;have hcz17_2 : w15.cell? ⟨gb664,2,none⟩=some (.string (⟨#[]⟩ : ByteArray)):=(zz BK664.out 2).trans rfl;have hfz17_0:=zA BK664.out 0;have hfz17_1:=zA BK664.out 1;have hfz17_2:=zA BK664.out 2;have hcz18_0 : w15.cell? ⟨gb662,0,none⟩=some (.int .i64 ((rd_T26 l0 x13_1).f0)):=(zz BK662.out 0).trans rfl;have hcz18_1 : w15.cell? ⟨gb662,1,none⟩=some (.int .i64 ((rd_T26 l0 x13_1).f1)):=(zz BK662.out 1).trans rfl;have hcz18_2 : w15.cell? ⟨gb662,2,none⟩=some (.string ((rd_T26 l0 x13_1).f2)):=(zz BK662.out 2).trans rfl;have hfz18_0:=zA BK662.out 0;have hfz18_1:=zA BK662.out 1;have hfz18_2:=zA BK662.out 2)|(go_at_call 69;(with_reducible refine (hG ((rd_T26 l0 x13_1).f0) ((rd_T26 l0 x13_1).f1) ((rd_T26 l0 x13_1).f2) ((rd_T26 l1 x13_1).f0) ((rd_T26 l1 x13_1).f1) ((rd_T26 l1 x13_1).f2) t665 _ A11.out).mono ?_);rintro e w19 ⟨rfl,hb⟩;replace BK662:=zh (zD (g:=gb662) (o:=.cells #[.int .i64 ((rd_T26 l0 x13_1).f0),.int .i64 ((rd_T26 l0 x13_1).f1),.string ((rd_T26 l0 x13_1).f2)] 26 (0,0)) (by (with_reducible repeat (first|refine ze ?_ _|refine zf ?_|refine zg ?_ _));refine zS ?_ NB662_664.out _;(with_reducible repeat (first|refine ze ?_ _|refine zf ?_|refine zg ?_ _));refine zS ?_ NB662_664.out _;(with_reducible repeat (first|refine ze ?_ _|refine zf ?_|refine zg ?_ _));refine zS ?_ NB662_664.out _;(with_reducible repeat (first|refine ze ?_ _|refine zf ?_|refine zg ?_ _));exact BK662.out) hb);replace BK664:=zh (zD (g:=gb664) (o:=.cells #[.int .i64 ((rd_T26 l1 x13_1).f0),.int .i64 ((rd_T26 l1 x13_1).f1),.string ((rd_T26 l1 x13_1).f2)] 26 (0,0)) (by (with_reducible repeat (first|refine ze ?_ _|refine zf ?_|refine zg ?_ _));refine zL (cs:=#[.int .i64 ((rd_T26 l1 x13_1).f0),.int .i64 ((rd_T26 l1 x13_1).f1),.string (⟨#[]⟩ : ByteArray)]) ?_ 2 _ rfl;(with_reducible repeat (first|refine ze ?_ _|refine zf ?_|refine zg ?_ _));refine zL (cs:=#[.int .i64 ((rd_T26 l1 x13_1).f0),.int .i64 0,.string (⟨#[]⟩ : ByteArray)]) ?_ 1 _ rfl;(with_reducible repeat (first|refine ze ?_ _|refine zf ?_|refine zg ?_ _));refine zL (cs:=#[.int .i64 0,.int .i64 0,.string (⟨#[]⟩ : ByteArray)]) ?_ 0 _ rfl;(with_reducible repeat (first|refine ze ?_ _|refine zf ?_|refine zg ?_ _));exact BK664.out) hb);replace HB:=zh (zC (by repeat (with_reducible first|exact HB.out|apply za|apply zb|apply zc|refine zd ?_ GE662.out|refine zd ?_ GE664.out)) hb);(try clear hb);(try clear hb2);(try clear hk);(try clear hi)))
        go_roundg k1
        case measure => have:=HK1.out;omega
        case rel => exact ⟨(wrap64 (x13_1 + 1)),(by first|rfl|(simp;done)|(simp [*];done)),H',⟨by have:=HK1.out;omega⟩,⟨by repeat (with_reducible first|exact HB.out|apply za|apply zb|apply zc|refine zd ?_ GE662.out|refine zd ?_ GE664.out)⟩⟩
       rw [if_neg c12] at H;have c12b0 : (t665 == 0)=false:=zY.mpr c12;have c12b1 : (t665 != 0)=true:=zZ.mpr c12;obtain rfl:=zU H;have p661 : 0≤(x13_1 : Int):=zy (by first|(with_reducible assumption)|assumption);have q661 : x13_1<(l0.length : Int):=zy (by first|(with_reducible assumption)|assumption);obtain ⟨ad661,e661,hx661_0,hx661_1,hx661_2⟩:=at_T26 HR0.out x13_1 p661 q661
       cases e661
       replace hx661_0:=(HB.out.cell (zl w _ hx661_0)).trans hx661_0;replace hx661_1:=(HB.out.cell (zl w _ hx661_1)).trans hx661_1;replace hx661_2:=(HB.out.cell (zl w _ hx661_2)).trans hx661_2;replace p661:=eq_true p661;replace q661:=eq_true q661
       go_wp2_with (first|((with_reducible refine zK (N:=8) rfl ?_);refine zI ?hg (N:=8) ?hd (cs:=#[.int .i64 0,.int .i64 0,.string (⟨#[]⟩ : ByteArray)]) (t:=26) ?hr ?_;(case hd => rfl);(case hg => rfl);(case hr => first|(go_simp;done)|(go_simp;rfl));intro gb662 hg w20 hbox hb;have BK662:=zh (hbox);have GW662:=zh ((by rw [hg];exact (zB (by repeat (with_reducible first|exact HB.out|apply za|apply zb|apply zc))) : w.heap.size≤gb662));have GE662:=zh ((by rw [hg];exact (zB (by repeat (with_reducible first|exact HB.out|apply za|apply zb|apply zc))) : w.heap.size≤gb662));replace HB:=zh (zC (by repeat (with_reducible first|exact HB.out|apply za|apply zb|apply zc)) hb);clear hb hbox hg;have hcz21_0 : w20.cell? ⟨gb662,0,none⟩=some (.int .i64 0):=(zz BK662.out 0).trans rfl;have hcz21_1 : w20.cell? ⟨gb662,1,none⟩=some (.int .i64 0):=(zz BK662.out 1).trans rfl;have hcz21_2 : w20.cell? ⟨gb662,2,none⟩=some (.string (⟨#[]⟩ : ByteArray)):=(zz BK662.out 2).trans rfl;have hfz21_0:=zA BK662.out 0;have hfz21_1:=zA BK662.out 1;have hfz21_2:=zA BK662.out 2;have p663 : 0≤(x13_1 : Int):=zy (by first|(with_reducible assumption)|assumption);have q663 : x13_1<(l1.length : Int):=zy (by first|(with_reducible assumption)|assumption);obtain ⟨ad663,e663,hx663_0,hx663_1,hx663_2⟩:=at_T26 HR1.out x13_1 p663 q663;cases e663;have hn663_0 : ad663.block≠gb662:=yc (Nat.lt_of_lt_of_le (by have:=zl _ _ hx663_0;first|rwa [zF] at this|exact this) GW662.out);have hn663_1 : ad663.block≠gb662:=yc (Nat.lt_of_lt_of_le (by have:=zl _ _ hx663_0;first|rwa [zF] at this|exact this) GW662.out);have hn663_2 : ad663.block≠gb662:=yc (Nat.lt_of_lt_of_le (by have:=zl _ _ hx663_0;first|rwa [zF] at this|exact this) GW662.out);replace hx663_0:=(HB.out.cell (zl w _ hx663_0)).trans hx663_0;replace hx663_1:=(HB.out.cell (zl w _ hx663_1)).trans hx663_1;replace hx663_2:=(HB.out.cell (zl w _ hx663_2)).trans hx663_2;replace hx663_0:=(zR (p:=⟨gb662,0,none⟩) (by first|(rw [zF];exact hn663_0)|(show (Addr.add _ _).block≠_;rw [zF];exact hn663_0)|exact hn663_0) (.int .i64 ((rd_T26 l0 x13_1).f0))).trans hx663_0;replace hx663_1:=(zR (p:=⟨gb662,0,none⟩) (by first|(rw [zF];exact hn663_0)|(show (Addr.add _ _).block≠_;rw [zF];exact hn663_0)|exact hn663_0) (.int .i64 ((rd_T26 l0 x13_1).f0))).trans hx663_1;replace hx663_2:=(zR (p:=⟨gb662,0,none⟩) (by first|(rw [zF];exact hn663_0)|(show (Addr.add _ _).block≠_;rw [zF];exact hn663_0)|exact hn663_0) (.int .i64 ((rd_T26 l0 x13_1).f0))).trans hx663_2;replace hx663_0:=(zR (p:=⟨gb662,1,none⟩) (by first|(rw [zF];exact hn663_1)|(show (Addr.add _ _).block≠_;rw [zF];exact hn663_1)|exact hn663_1) (.int .i64 ((rd_T26 l0 x13_1).f1))).trans hx663_0;replace hx663_1:=(zR (p:=⟨gb662,1,none⟩) (by first|(rw [zF];exact hn663_1)|(show (Addr.add _ _).block≠_;rw [zF];exact hn663_1)|exact hn663_1) (.int .i64 ((rd_T26 l0 x13_1).f1))).trans hx663_1;replace hx663_2:=(zR (p:=⟨gb662,1,none⟩) (by first|(rw [zF];exact hn663_1)|(show (Addr.add _ _).block≠_;rw [zF];exact hn663_1)|exact hn663_1) (.int .i64 ((rd_T26 l0 x13_1).f1))).trans hx663_2;replace hx663_0:=(zR (p:=⟨gb662,2,none⟩) (by first|(rw [zF];exact hn663_2)|(show (Addr.add _ _).block≠_;rw [zF];exact hn663_2)|exact hn663_2) (.string ((rd_T26 l0 x13_1).f2))).trans hx663_0;replace hx663_1:=(zR (p:=⟨gb662,2,none⟩) (by first|(rw [zF];exact hn663_2)|(show (Addr.add _ _).block≠_;rw [zF];exact hn663_2)|exact hn663_2) (.string ((rd_T26 l0 x13_1).f2))).trans hx663_1;replace hx663_2:=(zR (p:=⟨gb662,2,none⟩) (by first|(rw [zF];exact hn663_2)|(show (Addr.add _ _).block≠_;rw [zF];exact hn663_2)|exact hn663_2) (.string ((rd_T26 l0 x13_1).f2))).trans hx663_2;clear hn663_0 hn663_1 hn663_2;replace p663:=eq_true p663;replace q663:=eq_true q663)|((with_reducible refine zK (N:=9) rfl ?_);refine zI ?hg (N:=9) ?hd (cs:=#[.int .i64 0,.int .i64 0,.string (⟨#[]⟩ : ByteArray)]) (t:=26) ?hr ?_;(case hd => rfl);(case hg => rfl);(case hr => first|(go_simp;done)|(go_simp;rfl));intro gb664 hg w22 hbox hb;have BK664:=zh (hbox);have GW664:=zh ((by rw [hg];exact (zB (by repeat (with_reducible first|exact HB.out|apply za|apply zb|apply zc|refine zd ?_ GE662.out))) : w.heap.size≤gb664));have GE664:=zh ((by rw [hg];exact (zB (by repeat (with_reducible first|exact HB.out|apply za|apply zb|apply zc|refine zd ?_ GE662.out))) : w.heap.size≤gb664));replace HB:=zh (zC (by repeat (with_reducible first|exact HB.out|apply za|apply zb|apply zc|refine zd ?_ GE662.out)) hb);have NB662_664:=zh ((by rw [hg];exact yc (yi (g:=gb662) (o:=.cells #[.int .i64 ((rd_T26 l0 x13_1).f0),.int .i64 ((rd_T26 l0 x13_1).f1),.string ((rd_T26 l0 x13_1).f2)] 26 (0,0)) (by (with_reducible repeat (first|refine ze ?_ _|refine zf ?_|refine zg ?_ _));refine zL (cs:=#[.int .i64 ((rd_T26 l0 x13_1).f0),.int .i64 ((rd_T26 l0 x13_1).f1),.string (⟨#[]⟩ : ByteArray)]) ?_ 2 _ rfl;(with_reducible repeat (first|refine ze ?_ _|refine zf ?_|refine zg ?_ _));refine zL (cs:=#[.int .i64 ((rd_T26 l0 x13_1).f0),.int .i64 0,.string (⟨#[]⟩ : ByteArray)]) ?_ 1 _ rfl;(with_reducible repeat (first|refine ze ?_ _|refine zf ?_|refine zg ?_ _));refine zL (cs:=#[.int .i64 0,.int .i64 0,.string (⟨#[]⟩ : ByteArray)]) ?_ 0 _ rfl;(with_reducible repeat (first|refine ze ?_ _|refine zf ?_|refine zg ?_ _));exact BK662.out)) : gb662≠gb664));have NB664_662:=zh ((by rw [hg];exact yd (yi (g:=gb662) (o:=.cells #[.int .i64 ((rd_T26 l0 x13_1).f0),.int .i64 ((rd_T26 l0 x13_1).f1),.string ((rd_T26 l0 x13_1).f2)] 26 (0,0)) (by (with_reducible repeat (first|refine ze ?_ _|refine zf ?_|refine zg ?_ _));refine zL (cs:=#[.int .i64 ((rd_T26 l0 x13_1).f0),.int .i64 ((rd_T26 l0 x13_1).f1),.string (⟨#[]⟩ : ByteArray)]) ?_ 2 _ rfl;(with_reducible repeat (first|refine ze ?_ _|refine zf ?_|refine zg ?_ _));refine zL (cs:=#[.int .i64 ((rd_T26 l0 x13_1).f0),.int .i64 0,.string (⟨#[]⟩ : ByteArray)]) ?_ 1 _ rfl;(with_reducible repeat (first|refine ze ?_ _|refine zf ?_|refine zg ?_ _));refine zL (cs:=#[.int .i64 0,.int .i64 0,.string (⟨#[]⟩ : ByteArray)]) ?_ 0 _ rfl;(with_reducible repeat (first|refine ze ?_ _|refine zf ?_|refine zg ?_ _));exact BK662.out)) : gb664≠gb662));replace BK662:=zh (zD (g:=gb662) (o:=.cells #[.int .i64 ((rd_T26 l0 x13_1).f0),.int .i64 ((rd_T26 l0 x13_1).f1),.string ((rd_T26 l0 x13_1).f2)] 26 (0,0)) (by (with_reducible repeat (first|refine ze ?_ _|refine zf ?_|refine zg ?_ _));refine zL (cs:=#[.int .i64 ((rd_T26 l0 x13_1).f0),.int .i64 ((rd_T26 l0 x13_1).f1),.string (⟨#[]⟩ : ByteArray)]) ?_ 2 _ rfl;(with_reducible repeat (first|refine ze ?_ _|refine zf ?_|refine zg ?_ _));refine zL (cs:=#[.int .i64 ((rd_T26 l0 x13_1).f0),.int .i64 0,.string (⟨#[]⟩ : ByteArray)]) ?_ 1 _ rfl;(with_reducible repeat (first|refine ze ?_ _|refine zf ?_|refine zg ?_ _));refine zL (cs:=#[.int .i64 0,.int .i64 0,.string (⟨#[]⟩ : ByteArray)]) ?_ 0 _ rfl;(with_reducible repeat (first|refine ze ?_ _|refine zf ?_|refine zg ?_ _));exact BK662.out) hb);clear hb hbox hg;have hnb23:=NB664_662.out;have hnc23:=NB662_664.out;have hcz24_0 : w22.cell? ⟨gb664,0,none⟩=some (.int .i64 0):=(zz BK664.out 0).trans rfl;have hcz24_1 : w22.cell? ⟨gb664,1,none⟩=some (.int .i64 0):=(zz BK664.out 1).trans rfl;have hcz24_2 : w22.cell? ⟨gb664,2,none⟩=some (.string (⟨#[]⟩ : ByteArray)):=(zz BK664.out 2).trans rfl;have hfz24_0:=zA BK664.out 0;have hfz24_1:=zA BK664.out 1;have hfz24_2:=zA BK664.out 2;have hcz25_0 : w22.cell? ⟨gb662,0,none⟩=some (.int .i64 ((rd_T26 l0 x13_1).f0)):=(zz BK662.out 0).trans rfl;have hcz25_1 : w22.cell? ⟨gb662,1,none⟩=some (.int .i64 ((rd_T26 l0 x13_1).f1)):=(zz BK662.out 1).trans rfl;have hcz25_2 : w22.cell? ⟨gb662,2,none⟩=some (.string ((rd_T26 l0 x13_1).f2)):=(zz BK662.out 2).trans rfl;have hfz25_0:=zA BK662.out 0;have hfz25_1:=zA BK662.out 1;have hfz25_2:=zA BK662.out 2)|(go_at_call 69;(with_reducible refine (hG ((rd_T26 l0 x13_1).f0) ((rd_T26 l0 x13_1).f1) ((rd_T26 l0 x13_1).f2) ((rd_T26 l1 x13_1).f0) ((rd_T26 l1 x13_1).f1) ((rd_T26 l1 x13_1).f2) t665 _ A11.out).mono ?_);rintro e w26 ⟨rfl,hb⟩;replace BK662:=zh (zD (g:=gb662) (o:=.cells #[.int .i64 ((rd_T26 l0 x13_1).f0),.int .i64 ((rd_T26 l0 x13_1).f1),.string ((rd_T26 l0 x13_1).f2)] 26 (0,0)) (by (with_reducible repeat (first|refine ze ?_ _|refine zf ?_|refine zg ?_ _));refine zS ?_ NB662_664.out _;(with_reducible repeat (first|refine ze ?_ _|refine zf ?_|refine zg ?_ _));refine zS ?_ NB662_664.out _;(with_reducible repeat (first|refine ze ?_ _|refine zf ?_|refine zg ?_ _));refine zS ?_ NB662_664.out _;(with_reducible repeat (first|refine ze ?_ _|refine zf ?_|refine zg ?_ _));exact BK662.out) hb);replace BK664:=zh (zD (g:=gb664) (o:=.cells #[.int .i64 ((rd_T26 l1 x13_1).f0),.int .i64 ((rd_T26 l1 x13_1).f1),.string ((rd_T26 l1 x13_1).f2)] 26 (0,0)) (by (with_reducible repeat (first|refine ze ?_ _|refine zf ?_|refine zg ?_ _));refine zL (cs:=#[.int .i64 ((rd_T26 l1 x13_1).f0),.int .i64 ((rd_T26 l1 x13_1).f1),.string (⟨#[]⟩ : ByteArray)]) ?_ 2 _ rfl;(with_reducible repeat (first|refine ze ?_ _|refine zf ?_|refine zg ?_ _));refine zL (cs:=#[.int .i64 ((rd_T26 l1 x13_1).f0),.int .i64 0,.string (⟨#[]⟩ : ByteArray)]) ?_ 1 _ rfl;(with_reducible repeat (first|refine ze ?_ _|refine zf ?_|refine zg ?_ _));refine zL (cs:=#[.int .i64 0,.int .i64 0,.string (⟨#[]⟩ : ByteArray)]) ?_ 0 _ rfl;(with_reducible repeat (first|refine ze ?_ _|refine zf ?_|refine zg ?_ _));exact BK664.out) hb);replace HB:=zh (zC (by repeat (with_reducible first|exact HB.out|apply za|apply zb|apply zc|refine zd ?_ GE662.out|refine zd ?_ GE664.out)) hb);(try clear hb);(try clear hb2);(try clear hk);(try clear hi)))
       go_ret
       exact ⟨by first|rfl|(simp [yt,yu] <;> rfl)|(simp [*,yt,yu] <;> rfl),by repeat (with_reducible first|exact HB.out|apply za|apply zb|apply zc|refine zd ?_ GE662.out|refine zd ?_ GE664.out)⟩
      rw [if_neg c10] at H;exact absurd H (by simp)
     rw [if_neg c6] at H;exact absurd H (by simp)
    rw [if_neg c5] at H;exact absurd H (by simp)
   rw [if_neg c4] at H;have c4b0 : decide (x13_1<(l0.length : Int))=false:=decide_eq_false c4;clear c4
   by_cases c27 : (l0.length : Int)<(l1.length : Int)
   ·
    rw [if_pos c27] at H
    have c27b0 : decide ((l0.length : Int)<(l1.length : Int))=true:=decide_eq_true c27;have c27b1 : decide (l0.length<l1.length)=true:=decide_eq_true (zV.mp c27);clear c27;obtain rfl:=zU H
    go_wp2
    go_ret
    exact ⟨by first|rfl|(simp [yt,yu] <;> rfl)|(simp [*,yt,yu] <;> rfl),by repeat (with_reducible first|exact HB.out|apply za|apply zb|apply zc)⟩
   rw [if_neg c27] at H;have c27b0 : decide ((l0.length : Int)<(l1.length : Int))=false:=decide_eq_false c27;have c27b1 : decide (l0.length<l1.length)=false:=decide_eq_false (fun h => c27 (zV.mpr h));clear c27;obtain rfl:=zU H
   go_wp2
   go_ret
   exact ⟨by first|rfl|(simp [yt,yu] <;> rfl)|(simp [*,yt,yu] <;> rfl),by repeat (with_reducible first|exact HB.out|apply za|apply zb|apply zc)⟩

end Go.Proofs.Ytpmeglcmhiihoaa.Q
end
section
namespace Go.Proofs.Ytpmeglcmhiihoaa.Q
open Go.RowKit Go.Proofs.YtpmeglcmhiihoaaW.PrintWords Go.Proofs.YtpmeglcmhiihoaaW.PrintLast Go.Proofs.YtpmeglcmhiihoaaW.PrintMore
attribute [local go_sem] max2_int min2_int max_two min_two max_three min_three max_four min_four max2_str min2_str str_geq str_gtr str_leq   -- for this text's walks alone
set_option linter.unusedVariables false
set_option linter.unusedSimpArgs false

def impl_order.f : Nat→Int→Int→ByteArray→Int→Int→ByteArray→Option (Int)
 | 0,_,_,_,_,_,_ => none
 | k + 1,a0_0,a0_1,a0_2,a1_0,a1_1,a1_2 => (cmp_Compare_int.f a0_0 a1_0).bind fun t668 => ((cmp_Compare_int.f a0_1 a1_1).bind fun t669 => ((cmp_Or_int.f k (([t668,t669] : List Int))).bind fun t673 => (if t673=0 then (if a0_0=4 then ((impl_items.f k a0_0 a0_1 a0_2).bind fun bt674 => ((impl_items.f k a1_0 a1_1 a1_2).bind fun bt678 => ((impl_Value_at_order.f k (impl_order.f k) bt674.1 bt678.1).bind fun t682 => (some t682)))) else (if a0_0=5 then ((impl_fields.f k a0_0 a0_1 a0_2).bind fun bt683 => ((impl_fields.f k a1_0 a1_1 a1_2).bind fun bt687 => ((impl_Field_at_orderFields.f k (impl_order.f k) bt683.1 bt687.1).bind fun t691 => (some t691)))) else ((strings_Compare.f a0_2 a1_2).bind fun t692 => (some t692)))) else (some t673))))
theorem impl_order.mono_l : ∀ k,(∀ y0 y1 y2 y3 y4 y5,LeO (impl_order.f k y0 y1 y2 y3 y4 y5) (impl_order.f (k + 1) y0 y1 y2 y3 y4 y5))
 | 0 => fun _ _ _ _ _ _ r h => by simp [impl_order.f] at h
 | k + 1 => by
  have ih0:=impl_order.mono_l k;intro y0 y1 y2 y3 y4 y5;unfold impl_order.f
  repeat' first|(with_reducible exact ih0 _ _ _ _ _ _)|(with_reducible exact impl_items.mono _ _ _ _)|(with_reducible exact impl_fields.mono _ _ _ _)|(with_reducible exact cmp_Or_int.mono _ _)|(with_reducible exact impl_Value_at_order.mono _ _ ih0 _ _ _)|(with_reducible exact impl_Field_at_orderFields.mono _ _ ih0 _ _ _)|(with_reducible exact zQ _)|(with_reducible exact zN _)|(with_reducible refine zP ?_ ?_)|(with_reducible refine zO ?_ (fun _ => ?_))|refine zP ?_ ?_|refine zO ?_ (fun _ => ?_)
theorem impl_order.mono : ∀ a0 a1 a2 a3 a4 a5 k,LeO (impl_order.f k a0 a1 a2 a3 a4 a5) (impl_order.f (k + 1) a0 a1 a2 a3 a4 a5):=by
 intro a0 a1 a2 a3 a4 a5 k;have ih0:=impl_order.mono_l k;exact ih0 a0 a1 a2 a3 a4 a5
def impl_order.T1 : Bool×List (List Nat×List Nat):=(true,[([],[]),([0],[0]),([],[]),([2],[2]),([1,3],[1,3]),([],[]),([5],[5]),([],[]),([7],[7]),([6,8,4],[6,8]),([4,9],[4,9]),([10,9],[10]),([11,11,0,1,2,3,4,5,6,7,8,9,10,11],[11])])
def impl_order.B1 : List Nat:=[0,1,0,4,15,0,32,0,128,511,1023,2047,4095]
theorem impl_order.tab1 : rtab .any (opsOf Try.f69 1)=impl_order.T1:=by kernel_rfl
theorem impl_order.bits1 : waitsOk impl_order.T1.2 impl_order.B1=true:=by kernel_rfl
set_option maxHeartbeats 8000000 in
set_option maxRecDepth 100000 in
theorem impl_order.calls (k : Nat) : ∀ (a0_0 : Int) (a0_1 : Int) (a0_2 : ByteArray) (a1_0 : Int) (a1_1 : Int) (a1_2 : ByteArray) (r : Int) (w : World) (h : impl_order.f k a0_0 a0_1 a0_2 a1_0 a1_1 a1_2=some r),
  Calls Try.prog 69 #[.agg #[.int .i64 a0_0,.int .i64 a0_1,.string a0_2],.agg #[.int .i64 a1_0,.int .i64 a1_1,.string a1_2]] w fun e w' => e = .returned (.int .i64 r)∧Below w.heap.size w w':=by
 induction k using Nat.strongRecOn with
 | _ k ih =>
 intro a0_0 a0_1 a0_2 a1_0 a1_1 a1_2 r w h
 cases k with
 | zero => exact absurd h (by simp [impl_order.f])
 | succ k =>
 simp only [impl_order.f] at h;have hu26:=Try.underlying26;have HB:=zh (Below.refl w.heap.size w);have H : ((cmp_Compare_int.f a0_0 a1_0).bind fun t668 => ((cmp_Compare_int.f a0_1 a1_1).bind fun t669 => ((cmp_Or_int.f k (([t668,t669] : List Int))).bind fun t673 => (if t673=0 then (if a0_0=4 then ((impl_items.f k a0_0 a0_1 a0_2).bind fun bt674 => ((impl_items.f k a1_0 a1_1 a1_2).bind fun bt678 => ((impl_Value_at_order.f k (impl_order.f k) bt674.1 bt678.1).bind fun t682 => (some t682)))) else (if a0_0=5 then ((impl_fields.f k a0_0 a0_1 a0_2).bind fun bt683 => ((impl_fields.f k a1_0 a1_1 a1_2).bind fun bt687 => ((impl_Field_at_orderFields.f k (impl_order.f k) bt683.1 bt687.1).bind fun t691 => (some t691)))) else ((strings_Compare.f a0_2 a1_2).bind fun t692 => (some t692)))) else (some t673)))))=some r:=h;clear h;replace H:=zT.mp H;obtain ⟨t668,A30,H⟩:=H;replace H : ((cmp_Compare_int.f a0_1 a1_1).bind fun t669 => ((cmp_Or_int.f k (([t668,t669] : List Int))).bind fun t673 => (if t673=0 then (if a0_0=4 then ((impl_items.f k a0_0 a0_1 a0_2).bind fun bt674 => ((impl_items.f k a1_0 a1_1 a1_2).bind fun bt678 => ((impl_Value_at_order.f k (impl_order.f k) bt674.1 bt678.1).bind fun t682 => (some t682)))) else (if a0_0=5 then ((impl_fields.f k a0_0 a0_1 a0_2).bind fun bt683 => ((impl_fields.f k a1_0 a1_1 a1_2).bind fun bt687 => ((impl_Field_at_orderFields.f k (impl_order.f k) bt683.1 bt687.1).bind fun t691 => (some t691)))) else ((strings_Compare.f a0_2 a1_2).bind fun t692 => (some t692)))) else (some t673))))=some r:=H;have A3:=zh A30;clear A30;replace H:=zT.mp H;obtain ⟨t669,A40,H⟩:=H;replace H : ((cmp_Or_int.f k (([t668,t669] : List Int))).bind fun t673 => (if t673=0 then (if a0_0=4 then ((impl_items.f k a0_0 a0_1 a0_2).bind fun bt674 => ((impl_items.f k a1_0 a1_1 a1_2).bind fun bt678 => ((impl_Value_at_order.f k (impl_order.f k) bt674.1 bt678.1).bind fun t682 => (some t682)))) else (if a0_0=5 then ((impl_fields.f k a0_0 a0_1 a0_2).bind fun bt683 => ((impl_fields.f k a1_0 a1_1 a1_2).bind fun bt687 => ((impl_Field_at_orderFields.f k (impl_order.f k) bt683.1 bt687.1).bind fun t691 => (some t691)))) else ((strings_Compare.f a0_2 a1_2).bind fun t692 => (some t692)))) else (some t673)))=some r:=H;have A4:=zh A40;clear A40;obtain ⟨y670,hy670⟩ : ∃ y_ : List Int,y_=(([t668,t669] : List Int)):=⟨_,rfl⟩;replace H : ((cmp_Or_int.f k y670).bind fun t673 => (if t673=0 then (if a0_0=4 then ((impl_items.f k a0_0 a0_1 a0_2).bind fun bt674 => ((impl_items.f k a1_0 a1_1 a1_2).bind fun bt678 => ((impl_Value_at_order.f k (impl_order.f k) bt674.1 bt678.1).bind fun t682 => (some t682)))) else (if a0_0=5 then ((impl_fields.f k a0_0 a0_1 a0_2).bind fun bt683 => ((impl_fields.f k a1_0 a1_1 a1_2).bind fun bt687 => ((impl_Field_at_orderFields.f k (impl_order.f k) bt683.1 bt687.1).bind fun t691 => (some t691)))) else ((strings_Compare.f a0_2 a1_2).bind fun t692 => (some t692)))) else (some t673)))=some r:=by first|(rw [hy670];with_reducible exact H)|(have H2_:=(Option.bind_some _ _).symm.trans H;rw [hy670];with_reducible exact H2_)|(have H2_:=(Option.bind_some _ _).symm.trans H;with_reducible exact H2_)|with_reducible exact H|(rw [hy670];exact H)|exact H
 have Ny670:=zh hy670;clear hy670;replace H:=zT.mp H;obtain ⟨t673,A50,H⟩:=H;replace H : (if t673=0 then (if a0_0=4 then ((impl_items.f k a0_0 a0_1 a0_2).bind fun bt674 => ((impl_items.f k a1_0 a1_1 a1_2).bind fun bt678 => ((impl_Value_at_order.f k (impl_order.f k) bt674.1 bt678.1).bind fun t682 => (some t682)))) else (if a0_0=5 then ((impl_fields.f k a0_0 a0_1 a0_2).bind fun bt683 => ((impl_fields.f k a1_0 a1_1 a1_2).bind fun bt687 => ((impl_Field_at_orderFields.f k (impl_order.f k) bt683.1 bt687.1).bind fun t691 => (some t691)))) else ((strings_Compare.f a0_2 a1_2).bind fun t692 => (some t692)))) else (some t673))=some r:=H;have A5:=zh A50;clear A50
 by_cases c6 : t673=0
 ·
  rw [if_pos c6] at H
  have c6b0 : (t673 == 0)=true:=ya.mpr c6;have c6b1 : (t673 != 0)=false:=zX.mpr c6;clear c6
  by_cases c7 : a0_0=4
  ·
   rw [if_pos c7] at H
   have c7b0 : (a0_0 == 4)=true:=ya.mpr c7;have c7b1 : (a0_0 != 4)=false:=zX.mpr c7;clear c7;replace H:=zT.mp H;obtain ⟨⟨t674,t677⟩,A80,H⟩:=H;replace H : ((impl_items.f k a1_0 a1_1 a1_2).bind fun bt678 => ((impl_Value_at_order.f k (impl_order.f k) t674 bt678.1).bind fun t682 => (some t682)))=some r:=H;have A8:=zh A80;clear A80;replace H:=zT.mp H;obtain ⟨⟨t678,t681⟩,A90,H⟩:=H;replace H : ((impl_Value_at_order.f k (impl_order.f k) t674 t678).bind fun t682 => (some t682))=some r:=H;have A9:=zh A90;clear A90;replace H:=zT.mp H;obtain ⟨t682,A100,H⟩:=H;replace H : (some t682)=some r:=H;have A10:=zh A100;clear A100;obtain rfl:=zU H
   go_enter Try.func69,Try.ntmps69
   try go_wp2_with (first|((with_reducible refine zK (N:=2) rfl ?_);refine zI ?hg (N:=2) ?hd (cs:=#[.int .i64 a0_0,.int .i64 a0_1,.string a0_2]) (t:=26) ?hr ?_;(case hd => rfl);(case hg => rfl);(case hr => first|(go_simp;done)|(go_simp;rfl));intro gb666 hg w11 hbox hb;have BK666:=zh (hbox);have GW666:=zh ((by rw [hg];exact (zB (by repeat (with_reducible first|exact HB.out|apply za|apply zb|apply zc))) : w.heap.size≤gb666));have GE666:=zh ((by rw [hg];exact (zB (by repeat (with_reducible first|exact HB.out|apply za|apply zb|apply zc))) : w.heap.size≤gb666));replace HB:=zh (zC (by repeat (with_reducible first|exact HB.out|apply za|apply zb|apply zc)) hb);clear hb hbox hg)|((with_reducible refine zK (N:=3) rfl ?_);refine zI ?hg (N:=3) ?hd (cs:=#[.int .i64 a1_0,.int .i64 a1_1,.string a1_2]) (t:=26) ?hr ?_;(case hd => rfl);(case hg => rfl);(case hr => first|(go_simp;done)|(go_simp;rfl));intro gb667 hg w12 hbox hb;have BK667:=zh (hbox);have GW667:=zh ((by rw [hg];exact (zB (by repeat (with_reducible first|exact HB.out|apply za|apply zb|apply zc|refine zd ?_ GE666.out))) : w.heap.size≤gb667));have GE667:=zh ((by rw [hg];exact (zB (by repeat (with_reducible first|exact HB.out|apply za|apply zb|apply zc|refine zd ?_ GE666.out))) : w.heap.size≤gb667));replace HB:=zh (zC (by repeat (with_reducible first|exact HB.out|apply za|apply zb|apply zc|refine zd ?_ GE666.out)) hb);have NB666_667:=zh ((by rw [hg];exact yc (yi (g:=gb666) (o:=.cells #[.int .i64 a0_0,.int .i64 a0_1,.string a0_2] 26 (0,0)) (by (with_reducible repeat (first|refine ze ?_ _|refine zf ?_|refine zg ?_ _));exact BK666.out)) : gb666≠gb667));have NB667_666:=zh ((by rw [hg];exact yd (yi (g:=gb666) (o:=.cells #[.int .i64 a0_0,.int .i64 a0_1,.string a0_2] 26 (0,0)) (by (with_reducible repeat (first|refine ze ?_ _|refine zf ?_|refine zg ?_ _));exact BK666.out)) : gb667≠gb666));replace BK666:=zh (zD (g:=gb666) (o:=.cells #[.int .i64 a0_0,.int .i64 a0_1,.string a0_2] 26 (0,0)) (by (with_reducible repeat (first|refine ze ?_ _|refine zf ?_|refine zg ?_ _));exact BK666.out) hb);clear hb hbox hg))
   replace BK666:=zh (zf BK666.out);replace BK667:=zh (zf BK667.out);replace HB:=zh (zc HB.out);refine start_ (n:=13) (S:=fun w' => w'.cell? ⟨gb666,0,none⟩=some (.int .i64 a0_0)∧w'.cell? ⟨gb666,1,none⟩=some (.int .i64 a0_1)∧w'.cell? ⟨gb666,2,none⟩=some (.string a0_2)∧w'.cell? ⟨gb667,0,none⟩=some (.int .i64 a1_0)∧w'.cell? ⟨gb667,1,none⟩=some (.int .i64 a1_1)∧w'.cell? ⟨gb667,2,none⟩=some (.string a1_2)) (ds:=[]) (bm_ 0 13) (by kernel_rfl) rfl rfl ⟨(zz BK666.out 0).trans rfl,(zz BK666.out 1).trans rfl,(zz BK666.out 2).trans rfl,(zz BK667.out 0).trans rfl,(zz BK667.out 1).trans rfl,(zz BK667.out 2).trans rfl⟩ (fun hHeld => ?_);refine with_tabW impl_order.tab1 impl_order.bits1 (fun HT_ HW_ => ?_);generalize w12.drew=w13 at BK666 BK667 HB hHeld ⊢;refine pure_ (i:=0) (N:=some 14) (v:=?_) (a':=?_) (bm_ 1 13) rfl rfl (any_of HT_.out (by kernel_rfl)) (fun _ _ _ h => h) (Or.inl ⟨by rfl,?_⟩) ?_ ?_;rotate_left
   ·
    intro w'
    go_simp
    with_reducible rfl
   rotate_left
   ·
    simp only [Act.put,zi,zj,zk,zG,zH]
    rfl
   refine pure_ (i:=2) (N:=some 16) (v:=?_) (a':=?_) #[true,false,true,false,false,false,false,false,false,false,false,false,false] rfl rfl (any_of HT_.out (by kernel_rfl)) (fun _ _ _ h => h) (Or.inl ⟨by rfl,?_⟩) ?_ ?_;rotate_left
   ·
    intro w'
    go_simp
    with_reducible rfl
   rotate_left
   ·
    simp only [Act.put,zi,zj,zk,zG,zH]
    rfl
   refine pure_ (i:=5) (N:=some 19) (v:=?_) (a':=?_) #[true,false,true,false,false,true,false,false,false,false,false,false,false] rfl rfl (any_of HT_.out (by kernel_rfl)) (fun _ _ _ h => h) (Or.inl ⟨by rfl,?_⟩) ?_ ?_;rotate_left
   ·
    intro w'
    go_simp
    with_reducible rfl
   rotate_left
   ·
    simp only [Act.put,zi,zj,zk,zG,zH]
    rfl
   refine pure_ (i:=7) (N:=some 21) (v:=?_) (a':=?_) #[true,false,true,false,false,true,false,true,false,false,false,false,false] rfl rfl (any_of HT_.out (by kernel_rfl)) (fun _ _ _ h => h) (Or.inl ⟨by rfl,?_⟩) ?_ ?_;rotate_left
   ·
    intro w'
    go_simp
    with_reducible rfl
   rotate_left
   ·
    simp only [Act.put,zi,zj,zk,zG,zH]
    rfl
   refine take_ (i:=1) (N:=some 15) (v:=?_) (a':=?_) #[true,true,true,false,false,true,false,true,false,false,false,false,false] rfl rfl (yo HT_.out HW_.out (by kernel_rfl)) (fun _ _ _ h => h) (Or.inl ⟨by rfl,?_⟩) hHeld ?_ ?_;rotate_left
   ·
    rintro w' ⟨s0,s1,s2,s3,s4,s5⟩
    go_simp
    with_reducible rfl
   rotate_left
   ·
    simp only [Act.put,zi,zj,zk,zG,zH]
    rfl
   refine take_ (i:=3) (N:=some 17) (v:=?_) (a':=?_) #[true,true,true,true,false,true,false,true,false,false,false,false,false] rfl rfl (yo HT_.out HW_.out (by kernel_rfl)) (fun _ _ _ h => h) (Or.inl ⟨by rfl,?_⟩) hHeld ?_ ?_;rotate_left
   ·
    rintro w' ⟨s0,s1,s2,s3,s4,s5⟩
    go_simp
    with_reducible rfl
   rotate_left
   ·
    simp only [Act.put,zi,zj,zk,zG,zH]
    rfl
   refine take_ (i:=6) (N:=some 20) (v:=?_) (a':=?_) #[true,true,true,true,false,true,true,true,false,false,false,false,false] rfl rfl (yo HT_.out HW_.out (by kernel_rfl)) (fun _ _ _ h => h) (Or.inl ⟨by rfl,?_⟩) hHeld ?_ ?_;rotate_left
   ·
    rintro w' ⟨s0,s1,s2,s3,s4,s5⟩
    go_simp
    with_reducible rfl
   rotate_left
   ·
    simp only [Act.put,zi,zj,zk,zG,zH]
    rfl
   refine take_ (i:=8) (N:=some 22) (v:=?_) (a':=?_) #[true,true,true,true,false,true,true,true,true,false,false,false,false] rfl rfl (yo HT_.out HW_.out (by kernel_rfl)) (fun _ _ _ h => h) (Or.inl ⟨by rfl,?_⟩) hHeld ?_ ?_;rotate_left
   ·
    rintro w' ⟨s0,s1,s2,s3,s4,s5⟩
    go_simp
    with_reducible rfl
   rotate_left
   ·
    simp only [Act.put,zi,zj,zk,zG,zH]
    rfl
   refine one_ (i:=4) (N:=some 18) (bm_ 9 13) rfl rfl (one_of HT_.out (by kernel_rfl)) (by decide) (fun K hK => ?_);refine goes_ Try.func98 (by kernel_rfl) rfl #[.int .i64 a0_0,.int .i64 a1_0] (by rfl) rfl rfl (by (try simp only [zt,zu,zv]);first|done|rfl|(simp only [zw,zx];rfl)|(simp only [yr,ys,zV,zW];rfl)) ?_
   with_reducible refine (cmp_Compare_int.calls  a0_0 a1_0 t668 _ A3.out).mono ?_
   rintro e w' ⟨rfl,⟨nd,rfl⟩⟩;refine ⟨_,rfl,?_⟩;refine hK.out _ _ ⟨(zz BK666.out 0).trans rfl,(zz BK666.out 1).trans rfl,(zz BK666.out 2).trans rfl,(zz BK667.out 0).trans rfl,(zz BK667.out 1).trans rfl,(zz BK667.out 2).trans rfl⟩ (fun hHeld => ?_);clear hK K;refine norm_ (a':=?_) ?_ ?_;rotate_left
   ·
    show Act.put _ (some 18) _=_
    simp only [Act.put,zi,zj,zk,zG,zH]
    rfl
   refine one_ (i:=9) (N:=some 23) (bm_ 10 13) rfl rfl (one_of HT_.out (by kernel_rfl)) (by decide) (fun K hK => ?_);refine goes_ Try.func98 (by kernel_rfl) rfl #[.int .i64 a0_1,.int .i64 a1_1] (by rfl) rfl rfl (by (try simp only [zt,zu,zv]);first|done|rfl|(simp only [zw,zx];rfl)|(simp only [yr,ys,zV,zW];rfl)) ?_
   with_reducible refine (cmp_Compare_int.calls  a0_1 a1_1 t669 _ A4.out).mono ?_
   rintro e w' ⟨rfl,⟨nd,rfl⟩⟩;refine ⟨_,rfl,?_⟩;refine hK.out _ _ ⟨(zz BK666.out 0).trans rfl,(zz BK666.out 1).trans rfl,(zz BK666.out 2).trans rfl,(zz BK667.out 0).trans rfl,(zz BK667.out 1).trans rfl,(zz BK667.out 2).trans rfl⟩ (fun hHeld => ?_);clear hK K;refine norm_ (a':=?_) ?_ ?_;rotate_left
   ·
    show Act.put _ (some 23) _=_
    simp only [Act.put,zi,zj,zk,zG,zH]
    rfl
   refine one_ (i:=10) (N:=some 24) (bm_ 11 13) rfl rfl (one_of HT_.out (by kernel_rfl)) (by decide) (fun K hK => ?_);refine Kd.R_lit_step (Kd.int .i64) _ 3 ?hg (N:=24) ?hd (xs:=([t668,t669] : List Int)) (inner:=[.int .i64 t668,.int .i64 t669]) (ok:=fun _ => True) (okp:=fun _ => True) ?hr ?hp (fun _ hk => hk) trivial (Below.refl _ _) (ye _) (by simp) ?_;(case hd => rfl);(case hg => rfl);(case hr => first|(go_simp;done)|(go_simp;rfl));(case hp => exact (Reps.one (show Kd.M (Kd.int .i64) _ _ _ t668 [.int .i64 t668] from rfl) (Reps.one (show Kd.M (Kd.int .i64) _ _ _ t669 [.int .i64 t669] from rfl) (Reps.none _ _))));intro v671 w14 ho15 hb hg_ hnew_;clear hg_ hnew_;(first|rw [← Ny670.out] at ho15|(simp only [Int.reduceToNat] at ho15;rw [← Ny670.out] at ho15));have HO672:=zh (yy ho15 (zB (by repeat (with_reducible first|exact HB.out|apply za|apply zb|apply zc|refine zd ?_ GE666.out|refine zd ?_ GE667.out))));replace BK666:=zh (zD (g:=gb666) (o:=.cells #[.int .i64 a0_0,.int .i64 a0_1,.string a0_2] 26 (0,0)) (by (with_reducible repeat (first|refine ze ?_ _|refine zf ?_|refine zg ?_ _));exact BK666.out) hb);replace BK667:=zh (zD (g:=gb667) (o:=.cells #[.int .i64 a1_0,.int .i64 a1_1,.string a1_2] 26 (0,0)) (by (with_reducible repeat (first|refine ze ?_ _|refine zf ?_|refine zg ?_ _));exact BK667.out) hb);replace HB:=zh (zC (by repeat (with_reducible first|exact HB.out|apply za|apply zb|apply zc|refine zd ?_ GE666.out|refine zd ?_ GE667.out)) hb);clear hb ho15;obtain ⟨Ao16,co16,eo16⟩:=yk HO672.out;(first|subst eo16|(injection eo16 with f1_ f2_ f3_;have f4_:=f1_.symm;have f5_:=f3_.symm;clear f1_ f2_ f3_;subst f4_;subst f5_));refine hK.out _ _ ⟨(zz BK666.out 0).trans rfl,(zz BK666.out 1).trans rfl,(zz BK666.out 2).trans rfl,(zz BK667.out 0).trans rfl,(zz BK667.out 1).trans rfl,(zz BK667.out 2).trans rfl⟩ (fun hHeld => ?_);clear hK K;refine norm_ (a':=?_) ?_ ?_;rotate_left
   ·
    show Act.put _ (some 24) _=_
    simp only [Act.put,zi,zj,zk,zG,zH]
    rfl
   refine one_ (i:=11) (N:=some 25) (bm_ 12 13) rfl rfl (one_of HT_.out (by kernel_rfl)) (by decide) (fun K hK => ?_);refine goes_ Try.func97 (by kernel_rfl) rfl #[.slice Ao16 y670.length co16] (by rfl) rfl rfl (by (try simp only [zt,zu,zv]);first|done|rfl|(simp only [zw,zx];rfl)|(simp only [yr,ys,zV,zW];rfl)) ?_
   with_reducible refine (cmp_Or_int.calls k  _ _ y670 t673 _ ?side1 ?side2 A5.out).mono ?_
   (case side1 => repeat (first|exact (yh HO672.out).2.2|(with_reducible refine Kd.C_alloc ?_ _)|(with_reducible refine Kd.C_drewN ?_ _)|(with_reducible refine Kd.C_drew ?_)))
   (case side2 => exact (yh HO672.out).2.1)
   rintro e w' ⟨rfl,⟨nd,rfl⟩⟩;refine ⟨_,rfl,?_⟩;refine hK.out _ _ ⟨(zz BK666.out 0).trans rfl,(zz BK666.out 1).trans rfl,(zz BK666.out 2).trans rfl,(zz BK667.out 0).trans rfl,(zz BK667.out 1).trans rfl,(zz BK667.out 2).trans rfl⟩ (fun hHeld => ?_);clear hK K;refine norm_ (a':=?_) ?_ ?_;rotate_left
   ·
    show Act.put _ (some 25) _=_
    simp only [Act.put,zi,zj,zk,zG,zH]
    rfl
   refine pure_ (i:=12) (N:=some 5) (v:=?_) (a':=?_) (bm_ 13 13) rfl rfl (any_of HT_.out (by kernel_rfl)) (fun _ _ _ h => h) (Or.inl ⟨by rfl,?_⟩) ?_ ?_;rotate_left
   ·
    intro w'
    go_simp
    with_reducible rfl
   rotate_left
   ·
    simp only [Act.put,zi,zj,zk,zG,zH]
    rfl
   refine done_ (done_of HT_.out (by kernel_rfl)) ?_;have hnb17:=NB666_667.out;have hnc17:=NB667_666.out;have hcz18_0 : w14.cell? ⟨gb666,0,none⟩=some (.int .i64 a0_0):=(zz BK666.out 0).trans rfl;have hcz18_1 : w14.cell? ⟨gb666,1,none⟩=some (.int .i64 a0_1):=(zz BK666.out 1).trans rfl;have hcz18_2 : w14.cell? ⟨gb666,2,none⟩=some (.string a0_2):=(zz BK666.out 2).trans rfl;have hfz18_0:=zA BK666.out 0;have hfz18_1:=zA BK666.out 1;have hfz18_2:=zA BK666.out 2
   try go_wp2_with (first|((with_reducible refine zJ (f:=62) rfl ?_);refine yj (some 35) rfl rfl Try.func62 (by kernel_rfl) rfl #[.agg #[.int .i64 a0_0,.int .i64 a0_1,.string a0_2]] rfl (by (try simp only [zt,zu,zv]);first|done|rfl|(simp only [zw,zx];rfl)|(simp only [yr,ys,zV,zW];rfl)) ?_;(with_reducible refine (impl_items.calls k  a0_0 a0_1 a0_2 t674 t677 _ A8.out).mono ?_);rintro e w19 ⟨v675,rfl,ho0,hb⟩;refine ⟨_,rfl,?_⟩;replace HO672:=zh (yg (by (with_reducible repeat (first|apply zm|apply zn|apply zo));exact HO672.out) hb);have HO676:=zh (yy (Kd.R_newB (Kd.R_newB ho0 (g:=gb666) (o:=.cells #[.int .i64 a0_0,.int .i64 a0_1,.string a0_2] 26 (0,0)) (by (with_reducible repeat (first|refine ze ?_ _|refine zf ?_|refine zg ?_ _));exact BK666.out)) (g:=gb667) (o:=.cells #[.int .i64 a1_0,.int .i64 a1_1,.string a1_2] 26 (0,0)) (by (with_reducible repeat (first|refine ze ?_ _|refine zf ?_|refine zg ?_ _));exact BK667.out)) (zB (by repeat (with_reducible first|exact HB.out|apply za|apply zb|apply zc|refine zd ?_ GE666.out|refine zd ?_ GE667.out))));replace BK666:=zh (zD (g:=gb666) (o:=.cells #[.int .i64 a0_0,.int .i64 a0_1,.string a0_2] 26 (0,0)) (by (with_reducible repeat (first|refine ze ?_ _|refine zf ?_|refine zg ?_ _));exact BK666.out) hb);replace BK667:=zh (zD (g:=gb667) (o:=.cells #[.int .i64 a1_0,.int .i64 a1_1,.string a1_2] 26 (0,0)) (by (with_reducible repeat (first|refine ze ?_ _|refine zf ?_|refine zg ?_ _));exact BK667.out) hb);replace HB:=zh (zC (by repeat (with_reducible first|exact HB.out|apply za|apply zb|apply zc|refine zd ?_ GE666.out|refine zd ?_ GE667.out)) hb);(try clear hb);(try clear hb2);(try clear hk);(try clear hi);(try clear ho0);have hcz20_0 : w19.cell? ⟨gb667,0,none⟩=some (.int .i64 a1_0):=(zz BK667.out 0).trans rfl;have hcz20_1 : w19.cell? ⟨gb667,1,none⟩=some (.int .i64 a1_1):=(zz BK667.out 1).trans rfl;have hcz20_2 : w19.cell? ⟨gb667,2,none⟩=some (.string a1_2):=(zz BK667.out 2).trans rfl;have hfz20_0:=zA BK667.out 0;have hfz20_1:=zA BK667.out 1;have hfz20_2:=zA BK667.out 2)|((with_reducible refine zJ (f:=62) rfl ?_);refine yj (some 40) rfl rfl Try.func62 (by kernel_rfl) rfl #[.agg #[.int .i64 a1_0,.int .i64 a1_1,.string a1_2]] rfl (by (try simp only [zt,zu,zv]);first|done|rfl|(simp only [zw,zx];rfl)|(simp only [yr,ys,zV,zW];rfl)) ?_;(with_reducible refine (impl_items.calls k  a1_0 a1_1 a1_2 t678 t681 _ A9.out).mono ?_);rintro e w21 ⟨v679,rfl,ho0,hb⟩;refine ⟨_,rfl,?_⟩;replace HO672:=zh (yg (by (with_reducible repeat (first|apply zm|apply zn|apply zo));exact HO672.out) hb);have HO680:=zh (yy (Kd.R_newB (Kd.R_newB (Kd.R_new' ho0 (Kd.R_lt (by (with_reducible repeat (first|apply zm|apply zn|apply zo));exact HO676.out))) (g:=gb666) (o:=.cells #[.int .i64 a0_0,.int .i64 a0_1,.string a0_2] 26 (0,0)) (by (with_reducible repeat (first|refine ze ?_ _|refine zf ?_|refine zg ?_ _));exact BK666.out)) (g:=gb667) (o:=.cells #[.int .i64 a1_0,.int .i64 a1_1,.string a1_2] 26 (0,0)) (by (with_reducible repeat (first|refine ze ?_ _|refine zf ?_|refine zg ?_ _));exact BK667.out)) (zB (by repeat (with_reducible first|exact HB.out|apply za|apply zb|apply zc|refine zd ?_ GE666.out|refine zd ?_ GE667.out))));replace HO676:=zh (Kd.R_elder' (by (with_reducible repeat (first|apply zm|apply zn|apply zo));exact HO676.out) (Kd.R_base ho0) hb);replace BK666:=zh (zD (g:=gb666) (o:=.cells #[.int .i64 a0_0,.int .i64 a0_1,.string a0_2] 26 (0,0)) (by (with_reducible repeat (first|refine ze ?_ _|refine zf ?_|refine zg ?_ _));exact BK666.out) hb);replace BK667:=zh (zD (g:=gb667) (o:=.cells #[.int .i64 a1_0,.int .i64 a1_1,.string a1_2] 26 (0,0)) (by (with_reducible repeat (first|refine ze ?_ _|refine zf ?_|refine zg ?_ _));exact BK667.out) hb);replace HB:=zh (zC (by repeat (with_reducible first|exact HB.out|apply za|apply zb|apply zc|refine zd ?_ GE666.out|refine zd ?_ GE667.out)) hb);(try clear hb);(try clear hb2);(try clear hk);(try clear hi);(try clear ho0);obtain ⟨Ao22,co22,eo22⟩:=yk HO676.out;subst eo22;obtain ⟨Ao23,co23,eo23⟩:=yk HO680.out;subst eo23)|((with_reducible refine zJ (f:=99) rfl ?_);refine yj (some 45) rfl rfl Try.func99 (by kernel_rfl) rfl #[.slice Ao22 t674.length co22,.slice Ao23 t678.length co23,.func (.func 69) #[] #[]] rfl (by (try simp only [zt,zu,zv]);first|done|rfl|(simp only [zw,zx];rfl)|(simp only [yr,ys,zV,zW];rfl)) ?_;(with_reducible refine (impl_Value_at_order.calls k (impl_order.f k) (ih k (by omega)) _ _ t674 _ _ t678  t682 _ ?side1 ?side2 ?side3 ?side4 A10.out).mono ?_);(case side1 => repeat (first|exact (yh HO676.out).2.2|(with_reducible refine Kd.C_alloc ?_ _)|(with_reducible refine Kd.C_drewN ?_ _)|(with_reducible refine Kd.C_drew ?_)));(case side2 => exact (yh HO676.out).2.1);(case side3 => repeat (first|exact (yh HO680.out).2.2|(with_reducible refine Kd.C_alloc ?_ _)|(with_reducible refine Kd.C_drewN ?_ _)|(with_reducible refine Kd.C_drew ?_)));(case side4 => exact (yh HO680.out).2.1);rintro e w24 ⟨rfl,hb⟩;refine ⟨_,rfl,?_⟩;replace HO672:=zh (yg (by (with_reducible repeat (first|apply zm|apply zn|apply zo));exact HO672.out) hb);replace HO676:=zh (yg (by (with_reducible repeat (first|apply zm|apply zn|apply zo));exact HO676.out) hb);replace HO680:=zh (yg (by (with_reducible repeat (first|apply zm|apply zn|apply zo));exact HO680.out) hb);replace BK666:=zh (zD (g:=gb666) (o:=.cells #[.int .i64 a0_0,.int .i64 a0_1,.string a0_2] 26 (0,0)) (by (with_reducible repeat (first|refine ze ?_ _|refine zf ?_|refine zg ?_ _));exact BK666.out) hb);replace BK667:=zh (zD (g:=gb667) (o:=.cells #[.int .i64 a1_0,.int .i64 a1_1,.string a1_2] 26 (0,0)) (by (with_reducible repeat (first|refine ze ?_ _|refine zf ?_|refine zg ?_ _));exact BK667.out) hb);replace HB:=zh (zC (by repeat (with_reducible first|exact HB.out|apply za|apply zb|apply zc|refine zd ?_ GE666.out|refine zd ?_ GE667.out)) hb);(try clear hb);(try clear hb2);(try clear hk);(try clear hi)))
   go_ret
   exact ⟨by first|rfl|(simp [yt,yu] <;> rfl)|(simp [*,yt,yu] <;> rfl),by repeat (with_reducible first|exact HB.out|apply za|apply zb|apply zc|refine zd ?_ GE666.out|refine zd ?_ GE667.out)⟩
  rw [if_neg c7] at H;have c7b0 : (a0_0 == 4)=false:=zY.mpr c7;have c7b1 : (a0_0 != 4)=true:=zZ.mpr c7
  by_cases c25 : a0_0=5
  ·
   rw [if_pos c25] at H
   have c25b0 : (a0_0 == 5)=true:=ya.mpr c25;have c25b1 : (a0_0 != 5)=false:=zX.mpr c25;clear c25;replace H:=zT.mp H;obtain ⟨⟨t683,t686⟩,A260,H⟩:=H;replace H : ((impl_fields.f k a1_0 a1_1 a1_2).bind fun bt687 => ((impl_Field_at_orderFields.f k (impl_order.f k) t683 bt687.1).bind fun t691 => (some t691)))=some r:=H;have A26:=zh A260;clear A260;replace H:=zT.mp H;obtain ⟨⟨t687,t690⟩,A270,H⟩:=H;replace H : ((impl_Field_at_orderFields.f k (impl_order.f k) t683 t687).bind fun t691 => (some t691))=some r:=H;have A27:=zh A270;clear A270;replace H:=zT.mp H;obtain ⟨t691,A280,H⟩:=H;replace H : (some t691)=some r:=H;have A28:=zh A280;clear A280;obtain rfl:=zU H
   go_enter Try.func69,Try.ntmps69
   try go_wp2_with (first|((with_reducible refine zK (N:=2) rfl ?_);refine zI ?hg (N:=2) ?hd (cs:=#[.int .i64 a0_0,.int .i64 a0_1,.string a0_2]) (t:=26) ?hr ?_;(case hd => rfl);(case hg => rfl);(case hr => first|(go_simp;done)|(go_simp;rfl));intro gb666 hg w29 hbox hb;have BK666:=zh (hbox);have GW666:=zh ((by rw [hg];exact (zB (by repeat (with_reducible first|exact HB.out|apply za|apply zb|apply zc))) : w.heap.size≤gb666));have GE666:=zh ((by rw [hg];exact (zB (by repeat (with_reducible first|exact HB.out|apply za|apply zb|apply zc))) : w.heap.size≤gb666));replace HB:=zh (zC (by repeat (with_reducible first|exact HB.out|apply za|apply zb|apply zc)) hb);clear hb hbox hg)|((with_reducible refine zK (N:=3) rfl ?_);refine zI ?hg (N:=3) ?hd (cs:=#[.int .i64 a1_0,.int .i64 a1_1,.string a1_2]) (t:=26) ?hr ?_;(case hd => rfl);(case hg => rfl);(case hr => first|(go_simp;done)|(go_simp;rfl));intro gb667 hg w30 hbox hb;have BK667:=zh (hbox);have GW667:=zh ((by rw [hg];exact (zB (by repeat (with_reducible first|exact HB.out|apply za|apply zb|apply zc|refine zd ?_ GE666.out))) : w.heap.size≤gb667));have GE667:=zh ((by rw [hg];exact (zB (by repeat (with_reducible first|exact HB.out|apply za|apply zb|apply zc|refine zd ?_ GE666.out))) : w.heap.size≤gb667));replace HB:=zh (zC (by repeat (with_reducible first|exact HB.out|apply za|apply zb|apply zc|refine zd ?_ GE666.out)) hb);have NB666_667:=zh ((by rw [hg];exact yc (yi (g:=gb666) (o:=.cells #[.int .i64 a0_0,.int .i64 a0_1,.string a0_2] 26 (0,0)) (by (with_reducible repeat (first|refine ze ?_ _|refine zf ?_|refine zg ?_ _));exact BK666.out)) : gb666≠gb667));have NB667_666:=zh ((by rw [hg];exact yd (yi (g:=gb666) (o:=.cells #[.int .i64 a0_0,.int .i64 a0_1,.string a0_2] 26 (0,0)) (by (with_reducible repeat (first|refine ze ?_ _|refine zf ?_|refine zg ?_ _));exact BK666.out)) : gb667≠gb666));replace BK666:=zh (zD (g:=gb666) (o:=.cells #[.int .i64 a0_0,.int .i64 a0_1,.string a0_2] 26 (0,0)) (by (with_reducible repeat (first|refine ze ?_ _|refine zf ?_|refine zg ?_ _));exact BK666.out) hb);clear hb hbox hg))
   replace BK666:=zh (zf BK666.out);replace BK667:=zh (zf BK667.out);replace HB:=zh (zc HB.out);refine start_ (n:=13) (S:=fun w' => w'.cell? ⟨gb666,0,none⟩=some (.int .i64 a0_0)∧w'.cell? ⟨gb666,1,none⟩=some (.int .i64 a0_1)∧w'.cell? ⟨gb666,2,none⟩=some (.string a0_2)∧w'.cell? ⟨gb667,0,none⟩=some (.int .i64 a1_0)∧w'.cell? ⟨gb667,1,none⟩=some (.int .i64 a1_1)∧w'.cell? ⟨gb667,2,none⟩=some (.string a1_2)) (ds:=[]) (bm_ 0 13) (by kernel_rfl) rfl rfl ⟨(zz BK666.out 0).trans rfl,(zz BK666.out 1).trans rfl,(zz BK666.out 2).trans rfl,(zz BK667.out 0).trans rfl,(zz BK667.out 1).trans rfl,(zz BK667.out 2).trans rfl⟩ (fun hHeld => ?_);refine with_tabW impl_order.tab1 impl_order.bits1 (fun HT_ HW_ => ?_);generalize w30.drew=w31 at BK666 BK667 HB hHeld ⊢;refine pure_ (i:=0) (N:=some 14) (v:=?_) (a':=?_) (bm_ 1 13) rfl rfl (any_of HT_.out (by kernel_rfl)) (fun _ _ _ h => h) (Or.inl ⟨by rfl,?_⟩) ?_ ?_;rotate_left
   ·
    intro w'
    go_simp
    with_reducible rfl
   rotate_left
   ·
    simp only [Act.put,zi,zj,zk,zG,zH]
    rfl
   refine pure_ (i:=2) (N:=some 16) (v:=?_) (a':=?_) #[true,false,true,false,false,false,false,false,false,false,false,false,false] rfl rfl (any_of HT_.out (by kernel_rfl)) (fun _ _ _ h => h) (Or.inl ⟨by rfl,?_⟩) ?_ ?_;rotate_left
   ·
    intro w'
    go_simp
    with_reducible rfl
   rotate_left
   ·
    simp only [Act.put,zi,zj,zk,zG,zH]
    rfl
   refine pure_ (i:=5) (N:=some 19) (v:=?_) (a':=?_) #[true,false,true,false,false,true,false,false,false,false,false,false,false] rfl rfl (any_of HT_.out (by kernel_rfl)) (fun _ _ _ h => h) (Or.inl ⟨by rfl,?_⟩) ?_ ?_;rotate_left
   ·
    intro w'
    go_simp
    with_reducible rfl
   rotate_left
   ·
    simp only [Act.put,zi,zj,zk,zG,zH]
    rfl
   refine pure_ (i:=7) (N:=some 21) (v:=?_) (a':=?_) #[true,false,true,false,false,true,false,true,false,false,false,false,false] rfl rfl (any_of HT_.out (by kernel_rfl)) (fun _ _ _ h => h) (Or.inl ⟨by rfl,?_⟩) ?_ ?_;rotate_left
   ·
    intro w'
    go_simp
    with_reducible rfl
   rotate_left
   ·
    simp only [Act.put,zi,zj,zk,zG,zH]
    rfl
   refine take_ (i:=1) (N:=some 15) (v:=?_) (a':=?_) #[true,true,true,false,false,true,false,true,false,false,false,false,false] rfl rfl (yo HT_.out HW_.out (by kernel_rfl)) (fun _ _ _ h => h) (Or.inl ⟨by rfl,?_⟩) hHeld ?_ ?_;rotate_left
   ·
    rintro w' ⟨s0,s1,s2,s3,s4,s5⟩
    go_simp
    with_reducible rfl
   rotate_left
   ·
    simp only [Act.put,zi,zj,zk,zG,zH]
    rfl
   refine take_ (i:=3) (N:=some 17) (v:=?_) (a':=?_) #[true,true,true,true,false,true,false,true,false,false,false,false,false] rfl rfl (yo HT_.out HW_.out (by kernel_rfl)) (fun _ _ _ h => h) (Or.inl ⟨by rfl,?_⟩) hHeld ?_ ?_;rotate_left
   ·
    rintro w' ⟨s0,s1,s2,s3,s4,s5⟩
    go_simp
    with_reducible rfl
   rotate_left
   ·
    simp only [Act.put,zi,zj,zk,zG,zH]
    rfl
   refine take_ (i:=6) (N:=some 20) (v:=?_) (a':=?_) #[true,true,true,true,false,true,true,true,false,false,false,false,false] rfl rfl (yo HT_.out HW_.out (by kernel_rfl)) (fun _ _ _ h => h) (Or.inl ⟨by rfl,?_⟩) hHeld ?_ ?_;rotate_left
   ·
    rintro w' ⟨s0,s1,s2,s3,s4,s5⟩
    go_simp
    with_reducible rfl
   rotate_left
   ·
    simp only [Act.put,zi,zj,zk,zG,zH]
    rfl
   refine take_ (i:=8) (N:=some 22) (v:=?_) (a':=?_) #[true,true,true,true,false,true,true,true,true,false,false,false,false] rfl rfl (yo HT_.out HW_.out (by kernel_rfl)) (fun _ _ _ h => h) (Or.inl ⟨by rfl,?_⟩) hHeld ?_ ?_;rotate_left
   ·
    rintro w' ⟨s0,s1,s2,s3,s4,s5⟩
    go_simp
    with_reducible rfl
   rotate_left
   ·
    simp only [Act.put,zi,zj,zk,zG,zH]
    rfl
   refine one_ (i:=4) (N:=some 18) (bm_ 9 13) rfl rfl (one_of HT_.out (by kernel_rfl)) (by decide) (fun K hK => ?_);refine goes_ Try.func98 (by kernel_rfl) rfl #[.int .i64 a0_0,.int .i64 a1_0] (by rfl) rfl rfl (by (try simp only [zt,zu,zv]);first|done|rfl|(simp only [zw,zx];rfl)|(simp only [yr,ys,zV,zW];rfl)) ?_
   with_reducible refine (cmp_Compare_int.calls  a0_0 a1_0 t668 _ A3.out).mono ?_
   rintro e w' ⟨rfl,⟨nd,rfl⟩⟩;refine ⟨_,rfl,?_⟩;refine hK.out _ _ ⟨(zz BK666.out 0).trans rfl,(zz BK666.out 1).trans rfl,(zz BK666.out 2).trans rfl,(zz BK667.out 0).trans rfl,(zz BK667.out 1).trans rfl,(zz BK667.out 2).trans rfl⟩ (fun hHeld => ?_);clear hK K;refine norm_ (a':=?_) ?_ ?_;rotate_left
   ·
    show Act.put _ (some 18) _=_
    simp only [Act.put,zi,zj,zk,zG,zH]
    rfl
   refine one_ (i:=9) (N:=some 23) (bm_ 10 13) rfl rfl (one_of HT_.out (by kernel_rfl)) (by decide) (fun K hK => ?_);refine goes_ Try.func98 (by kernel_rfl) rfl #[.int .i64 a0_1,.int .i64 a1_1] (by rfl) rfl rfl (by (try simp only [zt,zu,zv]);first|done|rfl|(simp only [zw,zx];rfl)|(simp only [yr,ys,zV,zW];rfl)) ?_
   with_reducible refine (cmp_Compare_int.calls  a0_1 a1_1 t669 _ A4.out).mono ?_
   rintro e w' ⟨rfl,⟨nd,rfl⟩⟩;refine ⟨_,rfl,?_⟩;refine hK.out _ _ ⟨(zz BK666.out 0).trans rfl,(zz BK666.out 1).trans rfl,(zz BK666.out 2).trans rfl,(zz BK667.out 0).trans rfl,(zz BK667.out 1).trans rfl,(zz BK667.out 2).trans rfl⟩ (fun hHeld => ?_);clear hK K;refine norm_ (a':=?_) ?_ ?_;rotate_left
   ·
    show Act.put _ (some 23) _=_
    simp only [Act.put,zi,zj,zk,zG,zH]
    rfl
   refine one_ (i:=10) (N:=some 24) (bm_ 11 13) rfl rfl (one_of HT_.out (by kernel_rfl)) (by decide) (fun K hK => ?_);refine Kd.R_lit_step (Kd.int .i64) _ 3 ?hg (N:=24) ?hd (xs:=([t668,t669] : List Int)) (inner:=[.int .i64 t668,.int .i64 t669]) (ok:=fun _ => True) (okp:=fun _ => True) ?hr ?hp (fun _ hk => hk) trivial (Below.refl _ _) (ye _) (by simp) ?_;(case hd => rfl);(case hg => rfl);(case hr => first|(go_simp;done)|(go_simp;rfl));(case hp => exact (Reps.one (show Kd.M (Kd.int .i64) _ _ _ t668 [.int .i64 t668] from rfl) (Reps.one (show Kd.M (Kd.int .i64) _ _ _ t669 [.int .i64 t669] from rfl) (Reps.none _ _))));intro v671 w32 ho33 hb hg_ hnew_;clear hg_ hnew_;(first|rw [← Ny670.out] at ho33|(simp only [Int.reduceToNat] at ho33;rw [← Ny670.out] at ho33));have HO672:=zh (yy ho33 (zB (by repeat (with_reducible first|exact HB.out|apply za|apply zb|apply zc|refine zd ?_ GE666.out|refine zd ?_ GE667.out))));replace BK666:=zh (zD (g:=gb666) (o:=.cells #[.int .i64 a0_0,.int .i64 a0_1,.string a0_2] 26 (0,0)) (by (with_reducible repeat (first|refine ze ?_ _|refine zf ?_|refine zg ?_ _));exact BK666.out) hb);replace BK667:=zh (zD (g:=gb667) (o:=.cells #[.int .i64 a1_0,.int .i64 a1_1,.string a1_2] 26 (0,0)) (by (with_reducible repeat (first|refine ze ?_ _|refine zf ?_|refine zg ?_ _));exact BK667.out) hb);replace HB:=zh (zC (by repeat (with_reducible first|exact HB.out|apply za|apply zb|apply zc|refine zd ?_ GE666.out|refine zd ?_ GE667.out)) hb);clear hb ho33;obtain ⟨Ao34,co34,eo34⟩:=yk HO672.out;(first|subst eo34|(injection eo34 with f1_ f2_ f3_;have f4_:=f1_.symm;have f5_:=f3_.symm;clear f1_ f2_ f3_;subst f4_;subst f5_));refine hK.out _ _ ⟨(zz BK666.out 0).trans rfl,(zz BK666.out 1).trans rfl,(zz BK666.out 2).trans rfl,(zz BK667.out 0).trans rfl,(zz BK667.out 1).trans rfl,(zz BK667.out 2).trans rfl⟩ (fun hHeld => ?_);clear hK K;refine norm_ (a':=?_) ?_ ?_;rotate_left
   ·
    show Act.put _ (some 24) _=_
    simp only [Act.put,zi,zj,zk,zG,zH]
    rfl
   refine one_ (i:=11) (N:=some 25) (bm_ 12 13) rfl rfl (one_of HT_.out (by kernel_rfl)) (by decide) (fun K hK => ?_);refine goes_ Try.func97 (by kernel_rfl) rfl #[.slice Ao34 y670.length co34] (by rfl) rfl rfl (by (try simp only [zt,zu,zv]);first|done|rfl|(simp only [zw,zx];rfl)|(simp only [yr,ys,zV,zW];rfl)) ?_
   with_reducible refine (cmp_Or_int.calls k  _ _ y670 t673 _ ?side1 ?side2 A5.out).mono ?_
   (case side1 => repeat (first|exact (yh HO672.out).2.2|(with_reducible refine Kd.C_alloc ?_ _)|(with_reducible refine Kd.C_drewN ?_ _)|(with_reducible refine Kd.C_drew ?_)))
   (case side2 => exact (yh HO672.out).2.1)
   rintro e w' ⟨rfl,⟨nd,rfl⟩⟩;refine ⟨_,rfl,?_⟩;refine hK.out _ _ ⟨(zz BK666.out 0).trans rfl,(zz BK666.out 1).trans rfl,(zz BK666.out 2).trans rfl,(zz BK667.out 0).trans rfl,(zz BK667.out 1).trans rfl,(zz BK667.out 2).trans rfl⟩ (fun hHeld => ?_);clear hK K;refine norm_ (a':=?_) ?_ ?_;rotate_left
   ·
    show Act.put _ (some 25) _=_
    simp only [Act.put,zi,zj,zk,zG,zH]
    rfl
   refine pure_ (i:=12) (N:=some 5) (v:=?_) (a':=?_) (bm_ 13 13) rfl rfl (any_of HT_.out (by kernel_rfl)) (fun _ _ _ h => h) (Or.inl ⟨by rfl,?_⟩) ?_ ?_;rotate_left
   ·
    intro w'
    go_simp
    with_reducible rfl
   rotate_left
   ·
    simp only [Act.put,zi,zj,zk,zG,zH]
    rfl
   refine done_ (done_of HT_.out (by kernel_rfl)) ?_;have hnb35:=NB666_667.out;have hnc35:=NB667_666.out;have hcz36_0 : w32.cell? ⟨gb666,0,none⟩=some (.int .i64 a0_0):=(zz BK666.out 0).trans rfl;have hcz36_1 : w32.cell? ⟨gb666,1,none⟩=some (.int .i64 a0_1):=(zz BK666.out 1).trans rfl;have hcz36_2 : w32.cell? ⟨gb666,2,none⟩=some (.string a0_2):=(zz BK666.out 2).trans rfl;have hfz36_0:=zA BK666.out 0;have hfz36_1:=zA BK666.out 1;have hfz36_2:=zA BK666.out 2
   try go_wp2_with (first|((with_reducible refine zJ (f:=65) rfl ?_);refine yj (some 50) rfl rfl Try.func65 (by kernel_rfl) rfl #[.agg #[.int .i64 a0_0,.int .i64 a0_1,.string a0_2]] rfl (by (try simp only [zt,zu,zv]);first|done|rfl|(simp only [zw,zx];rfl)|(simp only [yr,ys,zV,zW];rfl)) ?_;(with_reducible refine (impl_fields.calls k  a0_0 a0_1 a0_2 t683 t686 _ A26.out).mono ?_);rintro e w37 ⟨v684,rfl,ho0,hb⟩;refine ⟨_,rfl,?_⟩;replace HO672:=zh (yg (by (with_reducible repeat (first|apply zm|apply zn|apply zo));exact HO672.out) hb);have HO685:=zh (yy ho0 (zB (by repeat (with_reducible first|exact HB.out|apply za|apply zb|apply zc|refine zd ?_ GE666.out|refine zd ?_ GE667.out))));replace BK666:=zh (zD (g:=gb666) (o:=.cells #[.int .i64 a0_0,.int .i64 a0_1,.string a0_2] 26 (0,0)) (by (with_reducible repeat (first|refine ze ?_ _|refine zf ?_|refine zg ?_ _));exact BK666.out) hb);replace BK667:=zh (zD (g:=gb667) (o:=.cells #[.int .i64 a1_0,.int .i64 a1_1,.string a1_2] 26 (0,0)) (by (with_reducible repeat (first|refine ze ?_ _|refine zf ?_|refine zg ?_ _));exact BK667.out) hb);replace HB:=zh (zC (by repeat (with_reducible first|exact HB.out|apply za|apply zb|apply zc|refine zd ?_ GE666.out|refine zd ?_ GE667.out)) hb);(try clear hb);(try clear hb2);(try clear hk);(try clear hi);(try clear ho0);have hcz38_0 : w37.cell? ⟨gb667,0,none⟩=some (.int .i64 a1_0):=(zz BK667.out 0).trans rfl;have hcz38_1 : w37.cell? ⟨gb667,1,none⟩=some (.int .i64 a1_1):=(zz BK667.out 1).trans rfl;have hcz38_2 : w37.cell? ⟨gb667,2,none⟩=some (.string a1_2):=(zz BK667.out 2).trans rfl;have hfz38_0:=zA BK667.out 0;have hfz38_1:=zA BK667.out 1;have hfz38_2:=zA BK667.out 2)|((with_reducible refine zJ (f:=65) rfl ?_);refine yj (some 55) rfl rfl Try.func65 (by kernel_rfl) rfl #[.agg #[.int .i64 a1_0,.int .i64 a1_1,.string a1_2]] rfl (by (try simp only [zt,zu,zv]);first|done|rfl|(simp only [zw,zx];rfl)|(simp only [yr,ys,zV,zW];rfl)) ?_;(with_reducible refine (impl_fields.calls k  a1_0 a1_1 a1_2 t687 t690 _ A27.out).mono ?_);rintro e w39 ⟨v688,rfl,ho0,hb⟩;refine ⟨_,rfl,?_⟩;replace HO672:=zh (yg (by (with_reducible repeat (first|apply zm|apply zn|apply zo));exact HO672.out) hb);have HO689:=zh (yy (Kd.R_new' ho0 (Kd.R_lt (by (with_reducible repeat (first|apply zm|apply zn|apply zo));exact HO685.out))) (zB (by repeat (with_reducible first|exact HB.out|apply za|apply zb|apply zc|refine zd ?_ GE666.out|refine zd ?_ GE667.out))));replace HO685:=zh (Kd.R_elder' (by (with_reducible repeat (first|apply zm|apply zn|apply zo));exact HO685.out) (Kd.R_base ho0) hb);replace BK666:=zh (zD (g:=gb666) (o:=.cells #[.int .i64 a0_0,.int .i64 a0_1,.string a0_2] 26 (0,0)) (by (with_reducible repeat (first|refine ze ?_ _|refine zf ?_|refine zg ?_ _));exact BK666.out) hb);replace BK667:=zh (zD (g:=gb667) (o:=.cells #[.int .i64 a1_0,.int .i64 a1_1,.string a1_2] 26 (0,0)) (by (with_reducible repeat (first|refine ze ?_ _|refine zf ?_|refine zg ?_ _));exact BK667.out) hb);replace HB:=zh (zC (by repeat (with_reducible first|exact HB.out|apply za|apply zb|apply zc|refine zd ?_ GE666.out|refine zd ?_ GE667.out)) hb);(try clear hb);(try clear hb2);(try clear hk);(try clear hi);(try clear ho0);obtain ⟨Ao40,co40,eo40⟩:=yk HO685.out;subst eo40;obtain ⟨Ao41,co41,eo41⟩:=yk HO689.out;subst eo41)|((with_reducible refine zJ (f:=100) rfl ?_);refine yj (some 60) rfl rfl Try.func100 (by kernel_rfl) rfl #[.slice Ao40 t683.length co40,.slice Ao41 t687.length co41,.func (.func 101) #[] #[]] rfl (by (try simp only [zt,zu,zv]);first|done|rfl|(simp only [zw,zx];rfl)|(simp only [yr,ys,zV,zW];rfl)) ?_;(with_reducible refine (impl_Field_at_orderFields.calls k (impl_order.f k) (ih k (by omega)) _ _ t683 _ _ t687  t691 _ ?side1 ?side2 ?side3 ?side4 A28.out).mono ?_);(case side1 => repeat (first|exact (yh HO685.out).2.2|(with_reducible refine Kd.C_alloc ?_ _)|(with_reducible refine Kd.C_drewN ?_ _)|(with_reducible refine Kd.C_drew ?_)));(case side2 => exact (yh HO685.out).2.1);(case side3 => repeat (first|exact (yh HO689.out).2.2|(with_reducible refine Kd.C_alloc ?_ _)|(with_reducible refine Kd.C_drewN ?_ _)|(with_reducible refine Kd.C_drew ?_)));(case side4 => exact (yh HO689.out).2.1);rintro e w42 ⟨rfl,hb⟩;refine ⟨_,rfl,?_⟩;replace HO672:=zh (yg (by (with_reducible repeat (first|apply zm|apply zn|apply zo));exact HO672.out) hb);replace HO685:=zh (yg (by (with_reducible repeat (first|apply zm|apply zn|apply zo));exact HO685.out) hb);replace HO689:=zh (yg (by (with_reducible repeat (first|apply zm|apply zn|apply zo));exact HO689.out) hb);replace BK666:=zh (zD (g:=gb666) (o:=.cells #[.int .i64 a0_0,.int .i64 a0_1,.string a0_2] 26 (0,0)) (by (with_reducible repeat (first|refine ze ?_ _|refine zf ?_|refine zg ?_ _));exact BK666.out) hb);replace BK667:=zh (zD (g:=gb667) (o:=.cells #[.int .i64 a1_0,.int .i64 a1_1,.string a1_2] 26 (0,0)) (by (with_reducible repeat (first|refine ze ?_ _|refine zf ?_|refine zg ?_ _));exact BK667.out) hb);replace HB:=zh (zC (by repeat (with_reducible first|exact HB.out|apply za|apply zb|apply zc|refine zd ?_ GE666.out|refine zd ?_ GE667.out)) hb);(try clear hb);(try clear hb2);(try clear hk);(try clear hi)))
   go_ret
   exact ⟨by first|rfl|(simp [yt,yu] <;> rfl)|(simp [*,yt,yu] <;> rfl),by repeat (with_reducible first|exact HB.out|apply za|apply zb|apply zc|refine zd ?_ GE666.out|refine zd ?_ GE667.out)⟩
  rw [if_neg c25] at H;have c25b0 : (a0_0 == 5)=false:=zY.mpr c25;have c25b1 : (a0_0 != 5)=true:=zZ.mpr c25;replace H:=zT.mp H;obtain ⟨t692,A430,H⟩:=H;replace H : (some t692)=some r:=H;have A43:=zh A430;clear A430;obtain rfl:=zU H
  go_enter Try.func69,Try.ntmps69
  try go_wp2_with (first|((with_reducible refine zK (N:=2) rfl ?_);refine zI ?hg (N:=2) ?hd (cs:=#[.int .i64 a0_0,.int .i64 a0_1,.string a0_2]) (t:=26) ?hr ?_;(case hd => rfl);(case hg => rfl);(case hr => first|(go_simp;done)|(go_simp;rfl));intro gb666 hg w44 hbox hb;have BK666:=zh (hbox);have GW666:=zh ((by rw [hg];exact (zB (by repeat (with_reducible first|exact HB.out|apply za|apply zb|apply zc))) : w.heap.size≤gb666));have GE666:=zh ((by rw [hg];exact (zB (by repeat (with_reducible first|exact HB.out|apply za|apply zb|apply zc))) : w.heap.size≤gb666));replace HB:=zh (zC (by repeat (with_reducible first|exact HB.out|apply za|apply zb|apply zc)) hb);clear hb hbox hg)|((with_reducible refine zK (N:=3) rfl ?_);refine zI ?hg (N:=3) ?hd (cs:=#[.int .i64 a1_0,.int .i64 a1_1,.string a1_2]) (t:=26) ?hr ?_;(case hd => rfl);(case hg => rfl);(case hr => first|(go_simp;done)|(go_simp;rfl));intro gb667 hg w45 hbox hb;have BK667:=zh (hbox);have GW667:=zh ((by rw [hg];exact (zB (by repeat (with_reducible first|exact HB.out|apply za|apply zb|apply zc|refine zd ?_ GE666.out))) : w.heap.size≤gb667));have GE667:=zh ((by rw [hg];exact (zB (by repeat (with_reducible first|exact HB.out|apply za|apply zb|apply zc|refine zd ?_ GE666.out))) : w.heap.size≤gb667));replace HB:=zh (zC (by repeat (with_reducible first|exact HB.out|apply za|apply zb|apply zc|refine zd ?_ GE666.out)) hb);have NB666_667:=zh ((by rw [hg];exact yc (yi (g:=gb666) (o:=.cells #[.int .i64 a0_0,.int .i64 a0_1,.string a0_2] 26 (0,0)) (by (with_reducible repeat (first|refine ze ?_ _|refine zf ?_|refine zg ?_ _));exact BK666.out)) : gb666≠gb667));have NB667_666:=zh ((by rw [hg];exact yd (yi (g:=gb666) (o:=.cells #[.int .i64 a0_0,.int .i64 a0_1,.string a0_2] 26 (0,0)) (by (with_reducible repeat (first|refine ze ?_ _|refine zf ?_|refine zg ?_ _));exact BK666.out)) : gb667≠gb666));replace BK666:=zh (zD (g:=gb666) (o:=.cells #[.int .i64 a0_0,.int .i64 a0_1,.string a0_2] 26 (0,0)) (by (with_reducible repeat (first|refine ze ?_ _|refine zf ?_|refine zg ?_ _));exact BK666.out) hb);clear hb hbox hg))
  replace BK666:=zh (zf BK666.out);replace BK667:=zh (zf BK667.out);replace HB:=zh (zc HB.out);refine start_ (n:=13) (S:=fun w' => w'.cell? ⟨gb666,0,none⟩=some (.int .i64 a0_0)∧w'.cell? ⟨gb666,1,none⟩=some (.int .i64 a0_1)∧w'.cell? ⟨gb666,2,none⟩=some (.string a0_2)∧w'.cell? ⟨gb667,0,none⟩=some (.int .i64 a1_0)∧w'.cell? ⟨gb667,1,none⟩=some (.int .i64 a1_1)∧w'.cell? ⟨gb667,2,none⟩=some (.string a1_2)) (ds:=[]) (bm_ 0 13) (by kernel_rfl) rfl rfl ⟨(zz BK666.out 0).trans rfl,(zz BK666.out 1).trans rfl,(zz BK666.out 2).trans rfl,(zz BK667.out 0).trans rfl,(zz BK667.out 1).trans rfl,(zz BK667.out 2).trans rfl⟩ (fun hHeld => ?_);refine with_tabW impl_order.tab1 impl_order.bits1 (fun HT_ HW_ => ?_);generalize w45.drew=w46 at BK666 BK667 HB hHeld ⊢;refine pure_ (i:=0) (N:=some 14) (v:=?_) (a':=?_) (bm_ 1 13) rfl rfl (any_of HT_.out (by kernel_rfl)) (fun _ _ _ h => h) (Or.inl ⟨by rfl,?_⟩) ?_ ?_;rotate_left
  ·
   intro w'
   go_simp
   with_reducible rfl
  rotate_left
  ·
   simp only [Act.put,zi,zj,zk,zG,zH]
   rfl
  refine pure_ (i:=2) (N:=some 16) (v:=?_) (a':=?_) #[true,false,true,false,false,false,false,false,false,false,false,false,false] rfl rfl (any_of HT_.out (by kernel_rfl)) (fun _ _ _ h => h) (Or.inl ⟨by rfl,?_⟩) ?_ ?_;rotate_left
  ·
   intro w'
   go_simp
   with_reducible rfl
  rotate_left
  ·
   simp only [Act.put,zi,zj,zk,zG,zH]
   rfl
  refine pure_ (i:=5) (N:=some 19) (v:=?_) (a':=?_) #[true,false,true,false,false,true,false,false,false,false,false,false,false] rfl rfl (any_of HT_.out (by kernel_rfl)) (fun _ _ _ h => h) (Or.inl ⟨by rfl,?_⟩) ?_ ?_;rotate_left
  ·
   intro w'
   go_simp
   with_reducible rfl
  rotate_left
  ·
   simp only [Act.put,zi,zj,zk,zG,zH]
   rfl
  refine pure_ (i:=7) (N:=some 21) (v:=?_) (a':=?_) #[true,false,true,false,false,true,false,true,false,false,false,false,false] rfl rfl (any_of HT_.out (by kernel_rfl)) (fun _ _ _ h => h) (Or.inl ⟨by rfl,?_⟩) ?_ ?_;rotate_left
  ·
   intro w'
   go_simp
   with_reducible rfl
  rotate_left
  ·
   simp only [Act.put,zi,zj,zk,zG,zH]
   rfl
  refine take_ (i:=1) (N:=some 15) (v:=?_) (a':=?_) #[true,true,true,false,false,true,false,true,false,false,false,false,false] rfl rfl (yo HT_.out HW_.out (by kernel_rfl)) (fun _ _ _ h => h) (Or.inl ⟨by rfl,?_⟩) hHeld ?_ ?_;rotate_left
  ·
   rintro w' ⟨s0,s1,s2,s3,s4,s5⟩
   go_simp
   with_reducible rfl
  rotate_left
  ·
   simp only [Act.put,zi,zj,zk,zG,zH]
   rfl
  refine take_ (i:=3) (N:=some 17) (v:=?_) (a':=?_) #[true,true,true,true,false,true,false,true,false,false,false,false,false] rfl rfl (yo HT_.out HW_.out (by kernel_rfl)) (fun _ _ _ h => h) (Or.inl ⟨by rfl,?_⟩) hHeld ?_ ?_;rotate_left
  ·
   rintro w' ⟨s0,s1,s2,s3,s4,s5⟩
   go_simp
   with_reducible rfl
  rotate_left
  ·
   simp only [Act.put,zi,zj,zk,zG,zH]
   rfl
  refine take_ (i:=6) (N:=some 20) (v:=?_) (a':=?_) #[true,true,true,true,false,true,true,true,false,false,false,false,false] rfl rfl (yo HT_.out HW_.out (by kernel_rfl)) (fun _ _ _ h => h) (Or.inl ⟨by rfl,?_⟩) hHeld ?_ ?_;rotate_left
  ·
   rintro w' ⟨s0,s1,s2,s3,s4,s5⟩
   go_simp
   with_reducible rfl
  rotate_left
  ·
   simp only [Act.put,zi,zj,zk,zG,zH]
   rfl
  refine take_ (i:=8) (N:=some 22) (v:=?_) (a':=?_) #[true,true,true,true,false,true,true,true,true,false,false,false,false] rfl rfl (yo HT_.out HW_.out (by kernel_rfl)) (fun _ _ _ h => h) (Or.inl ⟨by rfl,?_⟩) hHeld ?_ ?_;rotate_left
  ·
   rintro w' ⟨s0,s1,s2,s3,s4,s5⟩
   go_simp
   with_reducible rfl
  rotate_left
  ·
   simp only [Act.put,zi,zj,zk,zG,zH]
   rfl
  refine one_ (i:=4) (N:=some 18) (bm_ 9 13) rfl rfl (one_of HT_.out (by kernel_rfl)) (by decide) (fun K hK => ?_);refine goes_ Try.func98 (by kernel_rfl) rfl #[.int .i64 a0_0,.int .i64 a1_0] (by rfl) rfl rfl (by (try simp only [zt,zu,zv]);first|done|rfl|(simp only [zw,zx];rfl)|(simp only [yr,ys,zV,zW];rfl)) ?_
  with_reducible refine (cmp_Compare_int.calls  a0_0 a1_0 t668 _ A3.out).mono ?_
  rintro e w' ⟨rfl,⟨nd,rfl⟩⟩;refine ⟨_,rfl,?_⟩;refine hK.out _ _ ⟨(zz BK666.out 0).trans rfl,(zz BK666.out 1).trans rfl,(zz BK666.out 2).trans rfl,(zz BK667.out 0).trans rfl,(zz BK667.out 1).trans rfl,(zz BK667.out 2).trans rfl⟩ (fun hHeld => ?_);clear hK K;refine norm_ (a':=?_) ?_ ?_;rotate_left
  ·
   show Act.put _ (some 18) _=_
   simp only [Act.put,zi,zj,zk,zG,zH]
   rfl
  refine one_ (i:=9) (N:=some 23) (bm_ 10 13) rfl rfl (one_of HT_.out (by kernel_rfl)) (by decide) (fun K hK => ?_);refine goes_ Try.func98 (by kernel_rfl) rfl #[.int .i64 a0_1,.int .i64 a1_1] (by rfl) rfl rfl (by (try simp only [zt,zu,zv]);first|done|rfl|(simp only [zw,zx];rfl)|(simp only [yr,ys,zV,zW];rfl)) ?_
  with_reducible refine (cmp_Compare_int.calls  a0_1 a1_1 t669 _ A4.out).mono ?_
  rintro e w' ⟨rfl,⟨nd,rfl⟩⟩;refine ⟨_,rfl,?_⟩;refine hK.out _ _ ⟨(zz BK666.out 0).trans rfl,(zz BK666.out 1).trans rfl,(zz BK666.out 2).trans rfl,(zz BK667.out 0).trans rfl,(zz BK667.out 1).trans rfl,(zz BK667.out 2).trans rfl⟩ (fun hHeld => ?_);clear hK K;refine norm_ (a':=?_) ?_ ?_;rotate_left
  ·
   show Act.put _ (some 23) _=_
   simp only [Act.put,zi,zj,zk,zG,zH]
   rfl
  refine one_ (i:=10) (N:=some 24) (bm_ 11 13) rfl rfl (one_of HT_.out (by kernel_rfl)) (by decide) (fun K hK => ?_);refine Kd.R_lit_step (Kd.int .i64) _ 3 ?hg (N:=24) ?hd (xs:=([t668,t669] : List Int)) (inner:=[.int .i64 t668,.int .i64 t669]) (ok:=fun _ => True) (okp:=fun _ => True) ?hr ?hp (fun _ hk => hk) trivial (Below.refl _ _) (ye _) (by simp) ?_;(case hd => rfl);(case hg => rfl);(case hr => first|(go_simp;done)|(go_simp;rfl));(case hp => exact (Reps.one (show Kd.M (Kd.int .i64) _ _ _ t668 [.int .i64 t668] from rfl) (Reps.one (show Kd.M (Kd.int .i64) _ _ _ t669 [.int .i64 t669] from rfl) (Reps.none _ _))));intro v671 w47 ho48 hb hg_ hnew_;clear hg_ hnew_;(first|rw [← Ny670.out] at ho48|(simp only [Int.reduceToNat] at ho48;rw [← Ny670.out] at ho48));have HO672:=zh (yy ho48 (zB (by repeat (with_reducible first|exact HB.out|apply za|apply zb|apply zc|refine zd ?_ GE666.out|refine zd ?_ GE667.out))));replace BK666:=zh (zD (g:=gb666) (o:=.cells #[.int .i64 a0_0,.int .i64 a0_1,.string a0_2] 26 (0,0)) (by (with_reducible repeat (first|refine ze ?_ _|refine zf ?_|refine zg ?_ _));exact BK666.out) hb);replace BK667:=zh (zD (g:=gb667) (o:=.cells #[.int .i64 a1_0,.int .i64 a1_1,.string a1_2] 26 (0,0)) (by (with_reducible repeat (first|refine ze ?_ _|refine zf ?_|refine zg ?_ _));exact BK667.out) hb);replace HB:=zh (zC (by repeat (with_reducible first|exact HB.out|apply za|apply zb|apply zc|refine zd ?_ GE666.out|refine zd ?_ GE667.out)) hb);clear hb ho48;obtain ⟨Ao49,co49,eo49⟩:=yk HO672.out;(first|subst eo49|(injection eo49 with f1_ f2_ f3_;have f4_:=f1_.symm;have f5_:=f3_.symm;clear f1_ f2_ f3_;subst f4_;subst f5_));refine hK.out _ _ ⟨(zz BK666.out 0).trans rfl,(zz BK666.out 1).trans rfl,(zz BK666.out 2).trans rfl,(zz BK667.out 0).trans rfl,(zz BK667.out 1).trans rfl,(zz BK667.out 2).trans rfl⟩ (fun hHeld => ?_);clear hK K;refine norm_ (a':=?_) ?_ ?_;rotate_left
  ·
   show Act.put _ (some 24) _=_
   simp only [Act.put,zi,zj,zk,zG,zH]
   rfl
  refine one_ (i:=11) (N:=some 25) (bm_ 12 13) rfl rfl (one_of HT_.out (by kernel_rfl)) (by decide) (fun K hK => ?_);refine goes_ Try.func97 (by kernel_rfl) rfl #[.slice Ao49 y670.length co49] (by rfl) rfl rfl (by (try simp only [zt,zu,zv]);first|done|rfl|(simp only [zw,zx];rfl)|(simp only [yr,ys,zV,zW];rfl)) ?_
  with_reducible refine (cmp_Or_int.calls k  _ _ y670 t673 _ ?side1 ?side2 A5.out).mono ?_
  (case side1 => repeat (first|exact (yh HO672.out).2.2|(with_reducible refine Kd.C_alloc ?_ _)|(with_reducible refine Kd.C_drewN ?_ _)|(with_reducible refine Kd.C_drew ?_)))
  (case side2 => exact (yh HO672.out).2.1)
  rintro e w' ⟨rfl,⟨nd,rfl⟩⟩;refine ⟨_,rfl,?_⟩;refine hK.out _ _ ⟨(zz BK666.out 0).trans rfl,(zz BK666.out 1).trans rfl,(zz BK666.out 2).trans rfl,(zz BK667.out 0).trans rfl,(zz BK667.out 1).trans rfl,(zz BK667.out 2).trans rfl⟩ (fun hHeld => ?_);clear hK K;refine norm_ (a':=?_) ?_ ?_;rotate_left
  ·
   show Act.put _ (some 25) _=_
   simp only [Act.put,zi,zj,zk,zG,zH]
   rfl
  refine pure_ (i:=12) (N:=some 5) (v:=?_) (a':=?_) (bm_ 13 13) rfl rfl (any_of HT_.out (by kernel_rfl)) (fun _ _ _ h => h) (Or.inl ⟨by rfl,?_⟩) ?_ ?_;rotate_left
  ·
   intro w'
   go_simp
   with_reducible rfl
  rotate_left
  ·
   simp only [Act.put,zi,zj,zk,zG,zH]
   rfl
  refine done_ (done_of HT_.out (by kernel_rfl)) ?_;have hnb50:=NB666_667.out;have hnc50:=NB667_666.out;have hcz51_0 : w47.cell? ⟨gb666,0,none⟩=some (.int .i64 a0_0):=(zz BK666.out 0).trans rfl;have hcz51_1 : w47.cell? ⟨gb666,1,none⟩=some (.int .i64 a0_1):=(zz BK666.out 1).trans rfl;have hcz51_2 : w47.cell? ⟨gb666,2,none⟩=some (.string a0_2):=(zz BK666.out 2).trans rfl;have hfz51_0:=zA BK666.out 0;have hfz51_1:=zA BK666.out 1;have hfz51_2:=zA BK666.out 2;have hcz52_0 : w47.cell? ⟨gb667,0,none⟩=some (.int .i64 a1_0):=(zz BK667.out 0).trans rfl;have hcz52_1 : w47.cell? ⟨gb667,1,none⟩=some (.int .i64 a1_1):=(zz BK667.out 1).trans rfl;have hcz52_2 : w47.cell? ⟨gb667,2,none⟩=some (.string a1_2):=(zz BK667.out 2).trans rfl;have hfz52_0:=zA BK667.out 0;have hfz52_1:=zA BK667.out 1;have hfz52_2:=zA BK667.out 2
  try go_wp2_with (first|((with_reducible refine zJ (f:=102) rfl ?_);refine yj (some 65) rfl rfl Try.func102 (by kernel_rfl) rfl #[.string a0_2,.string a1_2] rfl (by (try simp only [zt,zu,zv]);first|done|rfl|(simp only [zw,zx];rfl)|(simp only [yr,ys,zV,zW];rfl)) ?_;(with_reducible refine (strings_Compare.calls  a0_2 a1_2 t692 _ A43.out).mono ?_);rintro e w' ⟨rfl,⟨nd,rfl⟩⟩;refine ⟨_,rfl,?_⟩))
  go_ret
  exact ⟨by first|rfl|(simp [yt,yu] <;> rfl)|(simp [*,yt,yu] <;> rfl),by repeat (with_reducible first|exact HB.out|apply za|apply zb|apply zc|refine zd ?_ GE666.out|refine zd ?_ GE667.out)⟩
 rw [if_neg c6] at H;have c6b0 : (t673 == 0)=false:=zY.mpr c6;have c6b1 : (t673 != 0)=true:=zZ.mpr c6;obtain rfl:=zU H
 go_enter Try.func69,Try.ntmps69
 try go_wp2_with (first|((with_reducible refine zK (N:=2) rfl ?_);refine zI ?hg (N:=2) ?hd (cs:=#[.int .i64 a0_0,.int .i64 a0_1,.string a0_2]) (t:=26) ?hr ?_;(case hd => rfl);(case hg => rfl);(case hr => first|(go_simp;done)|(go_simp;rfl));intro gb666 hg w53 hbox hb;have BK666:=zh (hbox);have GW666:=zh ((by rw [hg];exact (zB (by repeat (with_reducible first|exact HB.out|apply za|apply zb|apply zc))) : w.heap.size≤gb666));have GE666:=zh ((by rw [hg];exact (zB (by repeat (with_reducible first|exact HB.out|apply za|apply zb|apply zc))) : w.heap.size≤gb666));replace HB:=zh (zC (by repeat (with_reducible first|exact HB.out|apply za|apply zb|apply zc)) hb);clear hb hbox hg)|((with_reducible refine zK (N:=3) rfl ?_);refine zI ?hg (N:=3) ?hd (cs:=#[.int .i64 a1_0,.int .i64 a1_1,.string a1_2]) (t:=26) ?hr ?_;(case hd => rfl);(case hg => rfl);(case hr => first|(go_simp;done)|(go_simp;rfl));intro gb667 hg w54 hbox hb;have BK667:=zh (hbox);have GW667:=zh ((by rw [hg];exact (zB (by repeat (with_reducible first|exact HB.out|apply za|apply zb|apply zc|refine zd ?_ GE666.out))) : w.heap.size≤gb667));have GE667:=zh ((by rw [hg];exact (zB (by repeat (with_reducible first|exact HB.out|apply za|apply zb|apply zc|refine zd ?_ GE666.out))) : w.heap.size≤gb667));replace HB:=zh (zC (by repeat (with_reducible first|exact HB.out|apply za|apply zb|apply zc|refine zd ?_ GE666.out)) hb);have NB666_667:=zh ((by rw [hg];exact yc (yi (g:=gb666) (o:=.cells #[.int .i64 a0_0,.int .i64 a0_1,.string a0_2] 26 (0,0)) (by (with_reducible repeat (first|refine ze ?_ _|refine zf ?_|refine zg ?_ _));exact BK666.out)) : gb666≠gb667));have NB667_666:=zh ((by rw [hg];exact yd (yi (g:=gb666) (o:=.cells #[.int .i64 a0_0,.int .i64 a0_1,.string a0_2] 26 (0,0)) (by (with_reducible repeat (first|refine ze ?_ _|refine zf ?_|refine zg ?_ _));exact BK666.out)) : gb667≠gb666));replace BK666:=zh (zD (g:=gb666) (o:=.cells #[.int .i64 a0_0,.int .i64 a0_1,.string a0_2] 26 (0,0)) (by (with_reducible repeat (first|refine ze ?_ _|refine zf ?_|refine zg ?_ _));exact BK666.out) hb);clear hb hbox hg))
 replace BK666:=zh (zf BK666.out);replace BK667:=zh (zf BK667.out);replace HB:=zh (zc HB.out);refine start_ (n:=13) (S:=fun w' => w'.cell? ⟨gb666,0,none⟩=some (.int .i64 a0_0)∧w'.cell? ⟨gb666,1,none⟩=some (.int .i64 a0_1)∧w'.cell? ⟨gb666,2,none⟩=some (.string a0_2)∧w'.cell? ⟨gb667,0,none⟩=some (.int .i64 a1_0)∧w'.cell? ⟨gb667,1,none⟩=some (.int .i64 a1_1)∧w'.cell? ⟨gb667,2,none⟩=some (.string a1_2)) (ds:=[]) (bm_ 0 13) (by kernel_rfl) rfl rfl ⟨(zz BK666.out 0).trans rfl,(zz BK666.out 1).trans rfl,(zz BK666.out 2).trans rfl,(zz BK667.out 0).trans rfl,(zz BK667.out 1).trans rfl,(zz BK667.out 2).trans rfl⟩ (fun hHeld => ?_);refine with_tabW impl_order.tab1 impl_order.bits1 (fun HT_ HW_ => ?_);generalize w54.drew=w55 at BK666 BK667 HB hHeld ⊢;refine pure_ (i:=0) (N:=some 14) (v:=?_) (a':=?_) (bm_ 1 13) rfl rfl (any_of HT_.out (by kernel_rfl)) (fun _ _ _ h => h) (Or.inl ⟨by rfl,?_⟩) ?_ ?_;rotate_left
 ·
  intro w'
  go_simp
  with_reducible rfl
 rotate_left
 ·
  simp only [Act.put,zi,zj,zk,zG,zH]
  rfl
 refine pure_ (i:=2) (N:=some 16) (v:=?_) (a':=?_) #[true,false,true,false,false,false,false,false,false,false,false,false,false] rfl rfl (any_of HT_.out (by kernel_rfl)) (fun _ _ _ h => h) (Or.inl ⟨by rfl,?_⟩) ?_ ?_;rotate_left
 ·
  intro w'
  go_simp
  with_reducible rfl
 rotate_left
 ·
  simp only [Act.put,zi,zj,zk,zG,zH]
  rfl
 refine pure_ (i:=5) (N:=some 19) (v:=?_) (a':=?_) #[true,false,true,false,false,true,false,false,false,false,false,false,false] rfl rfl (any_of HT_.out (by kernel_rfl)) (fun _ _ _ h => h) (Or.inl ⟨by rfl,?_⟩) ?_ ?_;rotate_left
 ·
  intro w'
  go_simp
  with_reducible rfl
 rotate_left
 ·
  simp only [Act.put,zi,zj,zk,zG,zH]
  rfl
 refine pure_ (i:=7) (N:=some 21) (v:=?_) (a':=?_) #[true,false,true,false,false,true,false,true,false,false,false,false,false] rfl rfl (any_of HT_.out (by kernel_rfl)) (fun _ _ _ h => h) (Or.inl ⟨by rfl,?_⟩) ?_ ?_;rotate_left
 ·
  intro w'
  go_simp
  with_reducible rfl
 rotate_left
 ·
  simp only [Act.put,zi,zj,zk,zG,zH]
  rfl
 refine take_ (i:=1) (N:=some 15) (v:=?_) (a':=?_) #[true,true,true,false,false,true,false,true,false,false,false,false,false] rfl rfl (yo HT_.out HW_.out (by kernel_rfl)) (fun _ _ _ h => h) (Or.inl ⟨by rfl,?_⟩) hHeld ?_ ?_;rotate_left
 ·
  rintro w' ⟨s0,s1,s2,s3,s4,s5⟩
  go_simp
  with_reducible rfl
 rotate_left
 ·
  simp only [Act.put,zi,zj,zk,zG,zH]
  rfl
 refine take_ (i:=3) (N:=some 17) (v:=?_) (a':=?_) #[true,true,true,true,false,true,false,true,false,false,false,false,false] rfl rfl (yo HT_.out HW_.out (by kernel_rfl)) (fun _ _ _ h => h) (Or.inl ⟨by rfl,?_⟩) hHeld ?_ ?_;rotate_left
 ·
  rintro w' ⟨s0,s1,s2,s3,s4,s5⟩
  go_simp
  with_reducible rfl
 rotate_left
 ·
  simp only [Act.put,zi,zj,zk,zG,zH]
  rfl
 refine take_ (i:=6) (N:=some 20) (v:=?_) (a':=?_) #[true,true,true,true,false,true,true,true,false,false,false,false,false] rfl rfl (yo HT_.out HW_.out (by kernel_rfl)) (fun _ _ _ h => h) (Or.inl ⟨by rfl,?_⟩) hHeld ?_ ?_;rotate_left
 ·
  rintro w' ⟨s0,s1,s2,s3,s4,s5⟩
  go_simp
  with_reducible rfl
 rotate_left
 ·
  simp only [Act.put,zi,zj,zk,zG,zH]
  rfl
 refine take_ (i:=8) (N:=some 22) (v:=?_) (a':=?_) #[true,true,true,true,false,true,true,true,true,false,false,false,false] rfl rfl (yo HT_.out HW_.out (by kernel_rfl)) (fun _ _ _ h => h) (Or.inl ⟨by rfl,?_⟩) hHeld ?_ ?_;rotate_left
 ·
  rintro w' ⟨s0,s1,s2,s3,s4,s5⟩
  go_simp
  with_reducible rfl
 rotate_left
 ·
  simp only [Act.put,zi,zj,zk,zG,zH]
  rfl
 refine one_ (i:=4) (N:=some 18) (bm_ 9 13) rfl rfl (one_of HT_.out (by kernel_rfl)) (by decide) (fun K hK => ?_);refine goes_ Try.func98 (by kernel_rfl) rfl #[.int .i64 a0_0,.int .i64 a1_0] (by rfl) rfl rfl (by (try simp only [zt,zu,zv]);first|done|rfl|(simp only [zw,zx];rfl)|(simp only [yr,ys,zV,zW];rfl)) ?_
 with_reducible refine (cmp_Compare_int.calls  a0_0 a1_0 t668 _ A3.out).mono ?_
 rintro e w' ⟨rfl,⟨nd,rfl⟩⟩;refine ⟨_,rfl,?_⟩;refine hK.out _ _ ⟨(zz BK666.out 0).trans rfl,(zz BK666.out 1).trans rfl,(zz BK666.out 2).trans rfl,(zz BK667.out 0).trans rfl,(zz BK667.out 1).trans rfl,(zz BK667.out 2).trans rfl⟩ (fun hHeld => ?_);clear hK K;refine norm_ (a':=?_) ?_ ?_;rotate_left
 ·
  show Act.put _ (some 18) _=_
  simp only [Act.put,zi,zj,zk,zG,zH]
  rfl
 refine one_ (i:=9) (N:=some 23) (bm_ 10 13) rfl rfl (one_of HT_.out (by kernel_rfl)) (by decide) (fun K hK => ?_);refine goes_ Try.func98 (by kernel_rfl) rfl #[.int .i64 a0_1,.int .i64 a1_1] (by rfl) rfl rfl (by (try simp only [zt,zu,zv]);first|done|rfl|(simp only [zw,zx];rfl)|(simp only [yr,ys,zV,zW];rfl)) ?_
 with_reducible refine (cmp_Compare_int.calls  a0_1 a1_1 t669 _ A4.out).mono ?_
 rintro e w' ⟨rfl,⟨nd,rfl⟩⟩;refine ⟨_,rfl,?_⟩;refine hK.out _ _ ⟨(zz BK666.out 0).trans rfl,(zz BK666.out 1).trans rfl,(zz BK666.out 2).trans rfl,(zz BK667.out 0).trans rfl,(zz BK667.out 1).trans rfl,(zz BK667.out 2).trans rfl⟩ (fun hHeld => ?_);clear hK K;refine norm_ (a':=?_) ?_ ?_;rotate_left
 ·
  show Act.put _ (some 23) _=_
  simp only [Act.put,zi,zj,zk,zG,zH]
  rfl
 refine one_ (i:=10) (N:=some 24) (bm_ 11 13) rfl rfl (one_of HT_.out (by kernel_rfl)) (by decide) (fun K hK => ?_);refine Kd.R_lit_step (Kd.int .i64) _ 3 ?hg (N:=24) ?hd (xs:=([t668,t669] : List Int)) (inner:=[.int .i64 t668,.int .i64 t669]) (ok:=fun _ => True) (okp:=fun _ => True) ?hr ?hp (fun _ hk => hk) trivial (Below.refl _ _) (ye _) (by simp) ?_;(case hd => rfl);(case hg => rfl);(case hr => first|(go_simp;done)|(go_simp;rfl));(case hp => exact (Reps.one (show Kd.M (Kd.int .i64) _ _ _ t668 [.int .i64 t668] from rfl) (Reps.one (show Kd.M (Kd.int .i64) _ _ _ t669 [.int .i64 t669] from rfl) (Reps.none _ _))));intro v671 w56 ho57 hb hg_ hnew_;clear hg_ hnew_;(first|rw [← Ny670.out] at ho57|(simp only [Int.reduceToNat] at ho57;rw [← Ny670.out] at ho57));have HO672:=zh (yy ho57 (zB (by repeat (with_reducible first|exact HB.out|apply za|apply zb|apply zc|refine zd ?_ GE666.out|refine zd ?_ GE667.out))));replace BK666:=zh (zD (g:=gb666) (o:=.cells #[.int .i64 a0_0,.int .i64 a0_1,.string a0_2] 26 (0,0)) (by (with_reducible repeat (first|refine ze ?_ _|refine zf ?_|refine zg ?_ _));exact BK666.out) hb);replace BK667:=zh (zD (g:=gb667) (o:=.cells #[.int .i64 a1_0,.int .i64 a1_1,.string a1_2] 26 (0,0)) (by (with_reducible repeat (first|refine ze ?_ _|refine zf ?_|refine zg ?_ _));exact BK667.out) hb);replace HB:=zh (zC (by repeat (with_reducible first|exact HB.out|apply za|apply zb|apply zc|refine zd ?_ GE666.out|refine zd ?_ GE667.out)) hb);clear hb ho57;obtain ⟨Ao58,co58,eo58⟩:=yk HO672.out;(first|subst eo58|(injection eo58 with f1_ f2_ f3_;have f4_:=f1_.symm;have f5_:=f3_.symm;clear f1_ f2_ f3_;subst f4_;subst f5_));refine hK.out _ _ ⟨(zz BK666.out 0).trans rfl,(zz BK666.out 1).trans rfl,(zz BK666.out 2).trans rfl,(zz BK667.out 0).trans rfl,(zz BK667.out 1).trans rfl,(zz BK667.out 2).trans rfl⟩ (fun hHeld => ?_);clear hK K;refine norm_ (a':=?_) ?_ ?_;rotate_left
 ·
  show Act.put _ (some 24) _=_
  simp only [Act.put,zi,zj,zk,zG,zH]
  rfl
 refine one_ (i:=11) (N:=some 25) (bm_ 12 13) rfl rfl (one_of HT_.out (by kernel_rfl)) (by decide) (fun K hK => ?_);refine goes_ Try.func97 (by kernel_rfl) rfl #[.slice Ao58 y670.length co58] (by rfl) rfl rfl (by (try simp only [zt,zu,zv]);first|done|rfl|(simp only [zw,zx];rfl)|(simp only [yr,ys,zV,zW];rfl)) ?_
 with_reducible refine (cmp_Or_int.calls k  _ _ y670 t673 _ ?side1 ?side2 A5.out).mono ?_
 (case side1 => repeat (first|exact (yh HO672.out).2.2|(with_reducible refine Kd.C_alloc ?_ _)|(with_reducible refine Kd.C_drewN ?_ _)|(with_reducible refine Kd.C_drew ?_)))
 (case side2 => exact (yh HO672.out).2.1)
 rintro e w' ⟨rfl,⟨nd,rfl⟩⟩;refine ⟨_,rfl,?_⟩;refine hK.out _ _ ⟨(zz BK666.out 0).trans rfl,(zz BK666.out 1).trans rfl,(zz BK666.out 2).trans rfl,(zz BK667.out 0).trans rfl,(zz BK667.out 1).trans rfl,(zz BK667.out 2).trans rfl⟩ (fun hHeld => ?_);clear hK K;refine norm_ (a':=?_) ?_ ?_;rotate_left
 ·
  show Act.put _ (some 25) _=_
  simp only [Act.put,zi,zj,zk,zG,zH]
  rfl
 refine pure_ (i:=12) (N:=some 5) (v:=?_) (a':=?_) (bm_ 13 13) rfl rfl (any_of HT_.out (by kernel_rfl)) (fun _ _ _ h => h) (Or.inl ⟨by rfl,?_⟩) ?_ ?_;rotate_left
 ·
  intro w'
  go_simp
  with_reducible rfl
 rotate_left
 ·
  simp only [Act.put,zi,zj,zk,zG,zH]
  rfl
 refine done_ (done_of HT_.out (by kernel_rfl)) ?_
 try go_wp2
 go_ret
 exact ⟨by first|rfl|(simp [yt,yu] <;> rfl)|(simp [*,yt,yu] <;> rfl),by repeat (with_reducible first|exact HB.out|apply za|apply zb|apply zc|refine zd ?_ GE666.out|refine zd ?_ GE667.out)⟩

end Go.Proofs.Ytpmeglcmhiihoaa.Q
end
section
namespace Go.Proofs.Ytpmeglcmhiihoaa.Q
open Go.RowKit Go.Proofs.YtpmeglcmhiihoaaW.PrintWords Go.Proofs.YtpmeglcmhiihoaaW.PrintLast Go.Proofs.YtpmeglcmhiihoaaW.PrintMore
attribute [local go_sem] max2_int min2_int max_two min_two max_three min_three max_four min_four max2_str min2_str str_geq str_gtr str_leq   -- for this text's walks alone
set_option linter.unusedVariables false
set_option linter.unusedSimpArgs false

def impl_OrderValues.f (k : Nat) (a0_0 : Int) (a0_1 : Int) (a0_2 : ByteArray) (a1_0 : Int) (a1_1 : Int) (a1_2 : ByteArray) : Option (Int×Int):=(impl_areRight.f k (([(⟨a0_0,a0_1,a0_2⟩ : S26),(⟨a1_0,a1_1,a1_2⟩ : S26)] : List (S26)))).bind fun t698 => (if t698=true then ((impl_order.f k a0_0 a0_1 a0_2 a1_0 a1_1 a1_2).bind fun t699 => (some (t699,0))) else (some (0,1)))
theorem impl_OrderValues.mono : ∀ a0 a1 a2 a3 a4 a5 k,LeO (impl_OrderValues.f k a0 a1 a2 a3 a4 a5) (impl_OrderValues.f (k + 1) a0 a1 a2 a3 a4 a5):=by
 intro a0 a1 a2 a3 a4 a5 k;unfold impl_OrderValues.f
 repeat' first|(with_reducible exact impl_areRight.mono _ _)|(with_reducible exact impl_order.mono _ _ _ _ _ _ _)|(with_reducible exact zQ _)|(with_reducible exact zN _)|(with_reducible refine zP ?_ ?_)|(with_reducible refine zO ?_ (fun _ => ?_))|refine zP ?_ ?_|refine zO ?_ (fun _ => ?_)
set_option maxHeartbeats 8000000 in
set_option maxRecDepth 100000 in
theorem impl_OrderValues.calls (k : Nat) (a0_0 : Int) (a0_1 : Int) (a0_2 : ByteArray) (a1_0 : Int) (a1_1 : Int) (a1_2 : ByteArray) (r1 : Int) (r2 : Int) (w : World) (h : impl_OrderValues.f k a0_0 a0_1 a0_2 a1_0 a1_1 a1_2=some (r1,r2)) :
  Calls Try.prog 40 #[.agg #[.int .i64 a0_0,.int .i64 a0_1,.string a0_2],.agg #[.int .i64 a1_0,.int .i64 a1_1,.string a1_2]] w fun e w' => e = .returned (.tuple #[.int .i64 r1,.int .i64 r2])∧Below w.heap.size w w':=by
 have hu26:=Try.underlying26;have HB:=zh (Below.refl w.heap.size w);have H : ((impl_areRight.f k (([(⟨a0_0,a0_1,a0_2⟩ : S26),(⟨a1_0,a1_1,a1_2⟩ : S26)] : List (S26)))).bind fun t698 => (if t698=true then ((impl_order.f k a0_0 a0_1 a0_2 a1_0 a1_1 a1_2).bind fun t699 => (some (t699,0))) else (some (0,1))))=some (r1,r2):=h;clear h;obtain ⟨y695,hy695⟩ : ∃ y_ : List (S26),y_=(([(⟨a0_0,a0_1,a0_2⟩ : S26),(⟨a1_0,a1_1,a1_2⟩ : S26)] : List (S26))):=⟨_,rfl⟩;replace H : ((impl_areRight.f k y695).bind fun t698 => (if t698=true then ((impl_order.f k a0_0 a0_1 a0_2 a1_0 a1_1 a1_2).bind fun t699 => (some (t699,0))) else (some (0,1))))=some (r1,r2):=by first|(rw [hy695];with_reducible exact H)|(have H2_:=(Option.bind_some _ _).symm.trans H;rw [hy695];with_reducible exact H2_)|(have H2_:=(Option.bind_some _ _).symm.trans H;with_reducible exact H2_)|with_reducible exact H|(rw [hy695];exact H)|exact H
 have Ny695:=zh hy695;clear hy695;replace H:=zT.mp H;obtain ⟨t698,A30,H⟩:=H;replace H : (if t698=true then ((impl_order.f k a0_0 a0_1 a0_2 a1_0 a1_1 a1_2).bind fun t699 => (some (t699,0))) else (some (0,1)))=some (r1,r2):=H;have A3:=zh A30;clear A30
 by_cases c4 : t698=true
 ·
  subst c4
  have H1 : ((impl_order.f k a0_0 a0_1 a0_2 a1_0 a1_1 a1_2).bind fun t699 => (some (t699,0)))=some (r1,r2):=by rw [if_pos rfl] at H;exact H
  clear H;have H:=H1;clear H1;replace H:=zT.mp H;obtain ⟨t699,A50,H⟩:=H;replace H : (some (t699,0))=some (r1,r2):=H;have A5:=zh A50;clear A50;simp only [Option.some.injEq,Prod.mk.injEq] at H;obtain ⟨rfl,rfl⟩:=H
  go_enter Try.func40,Try.ntmps40
  go_wp2_with (first|((with_reducible refine zK (N:=2) rfl ?_);refine zI ?hg (N:=2) ?hd (cs:=#[.int .i64 a0_0,.int .i64 a0_1,.string a0_2]) (t:=26) ?hr ?_;(case hd => rfl);(case hg => rfl);(case hr => first|(go_simp;done)|(go_simp;rfl));intro gb693 hg w6 hbox hb;have BK693:=zh (hbox);have GW693:=zh ((by rw [hg];exact (zB (by repeat (with_reducible first|exact HB.out|apply za|apply zb|apply zc))) : w.heap.size≤gb693));have GE693:=zh ((by rw [hg];exact (zB (by repeat (with_reducible first|exact HB.out|apply za|apply zb|apply zc))) : w.heap.size≤gb693));replace HB:=zh (zC (by repeat (with_reducible first|exact HB.out|apply za|apply zb|apply zc)) hb);clear hb hbox hg)|((with_reducible refine zK (N:=3) rfl ?_);refine zI ?hg (N:=3) ?hd (cs:=#[.int .i64 a1_0,.int .i64 a1_1,.string a1_2]) (t:=26) ?hr ?_;(case hd => rfl);(case hg => rfl);(case hr => first|(go_simp;done)|(go_simp;rfl));intro gb694 hg w7 hbox hb;have BK694:=zh (hbox);have GW694:=zh ((by rw [hg];exact (zB (by repeat (with_reducible first|exact HB.out|apply za|apply zb|apply zc|refine zd ?_ GE693.out))) : w.heap.size≤gb694));have GE694:=zh ((by rw [hg];exact (zB (by repeat (with_reducible first|exact HB.out|apply za|apply zb|apply zc|refine zd ?_ GE693.out))) : w.heap.size≤gb694));replace HB:=zh (zC (by repeat (with_reducible first|exact HB.out|apply za|apply zb|apply zc|refine zd ?_ GE693.out)) hb);have NB693_694:=zh ((by rw [hg];exact yc (yi (g:=gb693) (o:=.cells #[.int .i64 a0_0,.int .i64 a0_1,.string a0_2] 26 (0,0)) (by (with_reducible repeat (first|refine ze ?_ _|refine zf ?_|refine zg ?_ _));exact BK693.out)) : gb693≠gb694));have NB694_693:=zh ((by rw [hg];exact yd (yi (g:=gb693) (o:=.cells #[.int .i64 a0_0,.int .i64 a0_1,.string a0_2] 26 (0,0)) (by (with_reducible repeat (first|refine ze ?_ _|refine zf ?_|refine zg ?_ _));exact BK693.out)) : gb694≠gb693));replace BK693:=zh (zD (g:=gb693) (o:=.cells #[.int .i64 a0_0,.int .i64 a0_1,.string a0_2] 26 (0,0)) (by (with_reducible repeat (first|refine ze ?_ _|refine zf ?_|refine zg ?_ _));exact BK693.out) hb);clear hb hbox hg;have hnb8:=NB693_694.out;have hnc8:=NB694_693.out;have hcz9_0 : w7.cell? ⟨gb693,0,none⟩=some (.int .i64 a0_0):=(zz BK693.out 0).trans rfl;have hcz9_1 : w7.cell? ⟨gb693,1,none⟩=some (.int .i64 a0_1):=(zz BK693.out 1).trans rfl;have hcz9_2 : w7.cell? ⟨gb693,2,none⟩=some (.string a0_2):=(zz BK693.out 2).trans rfl;have hfz9_0:=zA BK693.out 0;have hfz9_1:=zA BK693.out 1;have hfz9_2:=zA BK693.out 2;have hcz10_0 : w7.cell? ⟨gb694,0,none⟩=some (.int .i64 a1_0):=(zz BK694.out 0).trans rfl;have hcz10_1 : w7.cell? ⟨gb694,1,none⟩=some (.int .i64 a1_1):=(zz BK694.out 1).trans rfl;have hcz10_2 : w7.cell? ⟨gb694,2,none⟩=some (.string a1_2):=(zz BK694.out 2).trans rfl;have hfz10_0:=zA BK694.out 0;have hfz10_1:=zA BK694.out 1;have hfz10_2:=zA BK694.out 2)|((with_reducible refine zK (N:=8) rfl ?_);refine Kd.R_lit k26 _ 26 ?hg (N:=8) ?hd (xs:=([(⟨a0_0,a0_1,a0_2⟩ : S26),(⟨a1_0,a1_1,a1_2⟩ : S26)] : List (S26))) (inner:=[.int .i64 a0_0,.int .i64 a0_1,.string a0_2,.int .i64 a1_0,.int .i64 a1_1,.string a1_2]) (ok:=fun _ => True) (okp:=fun _ => True) ?hr ?hp (fun _ hk => hk) trivial (Below.refl _ _) (ye _) (by simp) ?_;(case hd => rfl);(case hg => rfl);(case hr => first|(go_simp;done)|(go_simp;rfl));(case hp => exact (Reps.c3 (show Kd.M k26 _ _ _ (⟨a0_0,a0_1,a0_2⟩ : S26) [.int .i64 a0_0,.int .i64 a0_1,.string a0_2] from (k26_mkM _ _ _ (⟨a0_0,a0_1,a0_2⟩ : S26) )) (Reps.c3 (show Kd.M k26 _ _ _ (⟨a1_0,a1_1,a1_2⟩ : S26) [.int .i64 a1_0,.int .i64 a1_1,.string a1_2] from (k26_mkM _ _ _ (⟨a1_0,a1_1,a1_2⟩ : S26) )) (Reps.none _ _))));intro v696 w11 ho12 hb hg_ hnew_;clear hg_ hnew_;(first|rw [← Ny695.out] at ho12|(simp only [Int.reduceToNat] at ho12;rw [← Ny695.out] at ho12));have HO697:=zh (yy (Kd.R_newB (Kd.R_newB ho12 (g:=gb693) (o:=.cells #[.int .i64 a0_0,.int .i64 a0_1,.string a0_2] 26 (0,0)) (by (with_reducible repeat (first|refine ze ?_ _|refine zf ?_|refine zg ?_ _));exact BK693.out)) (g:=gb694) (o:=.cells #[.int .i64 a1_0,.int .i64 a1_1,.string a1_2] 26 (0,0)) (by (with_reducible repeat (first|refine ze ?_ _|refine zf ?_|refine zg ?_ _));exact BK694.out)) (zB (by repeat (with_reducible first|exact HB.out|apply za|apply zb|apply zc|refine zd ?_ GE693.out|refine zd ?_ GE694.out))));replace BK693:=zh (zD (g:=gb693) (o:=.cells #[.int .i64 a0_0,.int .i64 a0_1,.string a0_2] 26 (0,0)) (by (with_reducible repeat (first|refine ze ?_ _|refine zf ?_|refine zg ?_ _));exact BK693.out) hb);replace BK694:=zh (zD (g:=gb694) (o:=.cells #[.int .i64 a1_0,.int .i64 a1_1,.string a1_2] 26 (0,0)) (by (with_reducible repeat (first|refine ze ?_ _|refine zf ?_|refine zg ?_ _));exact BK694.out) hb);replace HB:=zh (zC (by repeat (with_reducible first|exact HB.out|apply za|apply zb|apply zc|refine zd ?_ GE693.out|refine zd ?_ GE694.out)) hb);clear hb ho12;obtain ⟨Ao13,co13,eo13⟩:=yk HO697.out;subst eo13)|((with_reducible refine zJ (f:=68) rfl ?_);refine yj (some 9) rfl rfl Try.func68 (by kernel_rfl) rfl #[.slice Ao13 y695.length co13] rfl (by (try simp only [zt,zu,zv]);first|done|rfl|(simp only [zw,zx];rfl)|(simp only [yr,ys,zV,zW];rfl)) ?_;(with_reducible refine (impl_areRight.calls k  _ _ y695 true _ ?side1 ?side2 A3.out).mono ?_);(case side1 => repeat (first|exact (yh HO697.out).2.2|(with_reducible refine Kd.C_alloc ?_ _)|(with_reducible refine Kd.C_drewN ?_ _)|(with_reducible refine Kd.C_drew ?_)));(case side2 => exact (yh HO697.out).2.1);rintro e w14 ⟨rfl,hb⟩;refine ⟨_,rfl,?_⟩;replace HO697:=zh (yg (by (with_reducible repeat (first|apply zm|apply zn|apply zo));exact HO697.out) hb);replace BK693:=zh (zD (g:=gb693) (o:=.cells #[.int .i64 a0_0,.int .i64 a0_1,.string a0_2] 26 (0,0)) (by (with_reducible repeat (first|refine ze ?_ _|refine zf ?_|refine zg ?_ _));exact BK693.out) hb);replace BK694:=zh (zD (g:=gb694) (o:=.cells #[.int .i64 a1_0,.int .i64 a1_1,.string a1_2] 26 (0,0)) (by (with_reducible repeat (first|refine ze ?_ _|refine zf ?_|refine zg ?_ _));exact BK694.out) hb);replace HB:=zh (zC (by repeat (with_reducible first|exact HB.out|apply za|apply zb|apply zc|refine zd ?_ GE693.out|refine zd ?_ GE694.out)) hb);(try clear hb);(try clear hb2);(try clear hk);(try clear hi);have hcz15_0 : w14.cell? ⟨gb693,0,none⟩=some (.int .i64 a0_0):=(zz BK693.out 0).trans rfl;have hcz15_1 : w14.cell? ⟨gb693,1,none⟩=some (.int .i64 a0_1):=(zz BK693.out 1).trans rfl;have hcz15_2 : w14.cell? ⟨gb693,2,none⟩=some (.string a0_2):=(zz BK693.out 2).trans rfl;have hfz15_0:=zA BK693.out 0;have hfz15_1:=zA BK693.out 1;have hfz15_2:=zA BK693.out 2;have hcz16_0 : w14.cell? ⟨gb694,0,none⟩=some (.int .i64 a1_0):=(zz BK694.out 0).trans rfl;have hcz16_1 : w14.cell? ⟨gb694,1,none⟩=some (.int .i64 a1_1):=(zz BK694.out 1).trans rfl;have hcz16_2 : w14.cell? ⟨gb694,2,none⟩=some (.string a1_2):=(zz BK694.out 2).trans rfl;have hfz16_0:=zA BK694.out 0;have hfz16_1:=zA BK694.out 1;have hfz16_2:=zA BK694.out 2)|((with_reducible refine zJ (f:=69) rfl ?_);refine yj (some 13) rfl rfl Try.func69 (by kernel_rfl) rfl #[.agg #[.int .i64 a0_0,.int .i64 a0_1,.string a0_2],.agg #[.int .i64 a1_0,.int .i64 a1_1,.string a1_2]] rfl (by (try simp only [zt,zu,zv]);first|done|rfl|(simp only [zw,zx];rfl)|(simp only [yr,ys,zV,zW];rfl)) ?_;(with_reducible refine (impl_order.calls k  a0_0 a0_1 a0_2 a1_0 a1_1 a1_2 t699 _ A5.out).mono ?_);rintro e w17 ⟨rfl,hb⟩;refine ⟨_,rfl,?_⟩;replace HO697:=zh (yg (by (with_reducible repeat (first|apply zm|apply zn|apply zo));exact HO697.out) hb);replace BK693:=zh (zD (g:=gb693) (o:=.cells #[.int .i64 a0_0,.int .i64 a0_1,.string a0_2] 26 (0,0)) (by (with_reducible repeat (first|refine ze ?_ _|refine zf ?_|refine zg ?_ _));exact BK693.out) hb);replace BK694:=zh (zD (g:=gb694) (o:=.cells #[.int .i64 a1_0,.int .i64 a1_1,.string a1_2] 26 (0,0)) (by (with_reducible repeat (first|refine ze ?_ _|refine zf ?_|refine zg ?_ _));exact BK694.out) hb);replace HB:=zh (zC (by repeat (with_reducible first|exact HB.out|apply za|apply zb|apply zc|refine zd ?_ GE693.out|refine zd ?_ GE694.out)) hb);(try clear hb);(try clear hb2);(try clear hk);(try clear hi)))
  go_ret2
  exact ⟨by first|rfl|(simp [yt,yu] <;> rfl)|(simp [*,yt,yu] <;> rfl),by repeat (with_reducible first|exact HB.out|apply za|apply zb|apply zc|refine zd ?_ GE693.out|refine zd ?_ GE694.out)⟩
 replace c4:=yb.mpr c4;subst c4;have H1 : (some (0,1))=some (r1,r2):=by rw [if_neg (show ¬ (false=true) by decide)] at H;exact H
 clear H;have H:=H1;clear H1;simp only [Option.some.injEq,Prod.mk.injEq] at H;obtain ⟨rfl,rfl⟩:=H
 go_enter Try.func40,Try.ntmps40
 go_wp2_with (first|((with_reducible refine zK (N:=2) rfl ?_);refine zI ?hg (N:=2) ?hd (cs:=#[.int .i64 a0_0,.int .i64 a0_1,.string a0_2]) (t:=26) ?hr ?_;(case hd => rfl);(case hg => rfl);(case hr => first|(go_simp;done)|(go_simp;rfl));intro gb693 hg w18 hbox hb;have BK693:=zh (hbox);have GW693:=zh ((by rw [hg];exact (zB (by repeat (with_reducible first|exact HB.out|apply za|apply zb|apply zc))) : w.heap.size≤gb693));have GE693:=zh ((by rw [hg];exact (zB (by repeat (with_reducible first|exact HB.out|apply za|apply zb|apply zc))) : w.heap.size≤gb693));replace HB:=zh (zC (by repeat (with_reducible first|exact HB.out|apply za|apply zb|apply zc)) hb);clear hb hbox hg)|((with_reducible refine zK (N:=3) rfl ?_);refine zI ?hg (N:=3) ?hd (cs:=#[.int .i64 a1_0,.int .i64 a1_1,.string a1_2]) (t:=26) ?hr ?_;(case hd => rfl);(case hg => rfl);(case hr => first|(go_simp;done)|(go_simp;rfl));intro gb694 hg w19 hbox hb;have BK694:=zh (hbox);have GW694:=zh ((by rw [hg];exact (zB (by repeat (with_reducible first|exact HB.out|apply za|apply zb|apply zc|refine zd ?_ GE693.out))) : w.heap.size≤gb694));have GE694:=zh ((by rw [hg];exact (zB (by repeat (with_reducible first|exact HB.out|apply za|apply zb|apply zc|refine zd ?_ GE693.out))) : w.heap.size≤gb694));replace HB:=zh (zC (by repeat (with_reducible first|exact HB.out|apply za|apply zb|apply zc|refine zd ?_ GE693.out)) hb);have NB693_694:=zh ((by rw [hg];exact yc (yi (g:=gb693) (o:=.cells #[.int .i64 a0_0,.int .i64 a0_1,.string a0_2] 26 (0,0)) (by (with_reducible repeat (first|refine ze ?_ _|refine zf ?_|refine zg ?_ _));exact BK693.out)) : gb693≠gb694));have NB694_693:=zh ((by rw [hg];exact yd (yi (g:=gb693) (o:=.cells #[.int .i64 a0_0,.int .i64 a0_1,.string a0_2] 26 (0,0)) (by (with_reducible repeat (first|refine ze ?_ _|refine zf ?_|refine zg ?_ _));exact BK693.out)) : gb694≠gb693));replace BK693:=zh (zD (g:=gb693) (o:=.cells #[.int .i64 a0_0,.int .i64 a0_1,.string a0_2] 26 (0,0)) (by (with_reducible repeat (first|refine ze ?_ _|refine zf ?_|refine zg ?_ _));exact BK693.out) hb);clear hb hbox hg;have hnb20:=NB693_694.out;have hnc20:=NB694_693.out;have hcz21_0 : w19.cell? ⟨gb693,0,none⟩=some (.int .i64 a0_0):=(zz BK693.out 0).trans rfl;have hcz21_1 : w19.cell? ⟨gb693,1,none⟩=some (.int .i64 a0_1):=(zz BK693.out 1).trans rfl;have hcz21_2 : w19.cell? ⟨gb693,2,none⟩=some (.string a0_2):=(zz BK693.out 2).trans rfl;have hfz21_0:=zA BK693.out 0;have hfz21_1:=zA BK693.out 1;have hfz21_2:=zA BK693.out 2;have hcz22_0 : w19.cell? ⟨gb694,0,none⟩=some (.int .i64 a1_0):=(zz BK694.out 0).trans rfl;have hcz22_1 : w19.cell? ⟨gb694,1,none⟩=some (.int .i64 a1_1):=(zz BK694.out 1).trans rfl;have hcz22_2 : w19.cell? ⟨gb694,2,none⟩=some (.string a1_2):=(zz BK694.out 2).trans rfl;have hfz22_0:=zA BK694.out 0;have hfz22_1:=zA BK694.out 1;have hfz22_2:=zA BK694.out 2)|((with_reducible refine zK (N:=8) rfl ?_);refine Kd.R_lit k26 _ 26 ?hg (N:=8) ?hd (xs:=([(⟨a0_0,a0_1,a0_2⟩ : S26),(⟨a1_0,a1_1,a1_2⟩ : S26)] : List (S26))) (inner:=[.int .i64 a0_0,.int .i64 a0_1,.string a0_2,.int .i64 a1_0,.int .i64 a1_1,.string a1_2]) (ok:=fun _ => True) (okp:=fun _ => True) ?hr ?hp (fun _ hk => hk) trivial (Below.refl _ _) (ye _) (by simp) ?_;(case hd => rfl);(case hg => rfl);(case hr => first|(go_simp;done)|(go_simp;rfl));(case hp => exact (Reps.c3 (show Kd.M k26 _ _ _ (⟨a0_0,a0_1,a0_2⟩ : S26) [.int .i64 a0_0,.int .i64 a0_1,.string a0_2] from (k26_mkM _ _ _ (⟨a0_0,a0_1,a0_2⟩ : S26) )) (Reps.c3 (show Kd.M k26 _ _ _ (⟨a1_0,a1_1,a1_2⟩ : S26) [.int .i64 a1_0,.int .i64 a1_1,.string a1_2] from (k26_mkM _ _ _ (⟨a1_0,a1_1,a1_2⟩ : S26) )) (Reps.none _ _))));intro v696 w23 ho24 hb hg_ hnew_;clear hg_ hnew_;(first|rw [← Ny695.out] at ho24|(simp only [Int.reduceToNat] at ho24;rw [← Ny695.out] at ho24));have HO697:=zh (yy (Kd.R_newB (Kd.R_newB ho24 (g:=gb693) (o:=.cells #[.int .i64 a0_0,.int .i64 a0_1,.string a0_2] 26 (0,0)) (by (with_reducible repeat (first|refine ze ?_ _|refine zf ?_|refine zg ?_ _));exact BK693.out)) (g:=gb694) (o:=.cells #[.int .i64 a1_0,.int .i64 a1_1,.string a1_2] 26 (0,0)) (by (with_reducible repeat (first|refine ze ?_ _|refine zf ?_|refine zg ?_ _));exact BK694.out)) (zB (by repeat (with_reducible first|exact HB.out|apply za|apply zb|apply zc|refine zd ?_ GE693.out|refine zd ?_ GE694.out))));replace BK693:=zh (zD (g:=gb693) (o:=.cells #[.int .i64 a0_0,.int .i64 a0_1,.string a0_2] 26 (0,0)) (by (with_reducible repeat (first|refine ze ?_ _|refine zf ?_|refine zg ?_ _));exact BK693.out) hb);replace BK694:=zh (zD (g:=gb694) (o:=.cells #[.int .i64 a1_0,.int .i64 a1_1,.string a1_2] 26 (0,0)) (by (with_reducible repeat (first|refine ze ?_ _|refine zf ?_|refine zg ?_ _));exact BK694.out) hb);replace HB:=zh (zC (by repeat (with_reducible first|exact HB.out|apply za|apply zb|apply zc|refine zd ?_ GE693.out|refine zd ?_ GE694.out)) hb);clear hb ho24;obtain ⟨Ao25,co25,eo25⟩:=yk HO697.out;subst eo25)|((with_reducible refine zJ (f:=68) rfl ?_);refine yj (some 9) rfl rfl Try.func68 (by kernel_rfl) rfl #[.slice Ao25 y695.length co25] rfl (by (try simp only [zt,zu,zv]);first|done|rfl|(simp only [zw,zx];rfl)|(simp only [yr,ys,zV,zW];rfl)) ?_;(with_reducible refine (impl_areRight.calls k  _ _ y695 false _ ?side1 ?side2 A3.out).mono ?_);(case side1 => repeat (first|exact (yh HO697.out).2.2|(with_reducible refine Kd.C_alloc ?_ _)|(with_reducible refine Kd.C_drewN ?_ _)|(with_reducible refine Kd.C_drew ?_)));(case side2 => exact (yh HO697.out).2.1);rintro e w26 ⟨rfl,hb⟩;refine ⟨_,rfl,?_⟩;replace HO697:=zh (yg (by (with_reducible repeat (first|apply zm|apply zn|apply zo));exact HO697.out) hb);replace BK693:=zh (zD (g:=gb693) (o:=.cells #[.int .i64 a0_0,.int .i64 a0_1,.string a0_2] 26 (0,0)) (by (with_reducible repeat (first|refine ze ?_ _|refine zf ?_|refine zg ?_ _));exact BK693.out) hb);replace BK694:=zh (zD (g:=gb694) (o:=.cells #[.int .i64 a1_0,.int .i64 a1_1,.string a1_2] 26 (0,0)) (by (with_reducible repeat (first|refine ze ?_ _|refine zf ?_|refine zg ?_ _));exact BK694.out) hb);replace HB:=zh (zC (by repeat (with_reducible first|exact HB.out|apply za|apply zb|apply zc|refine zd ?_ GE693.out|refine zd ?_ GE694.out)) hb);(try clear hb);(try clear hb2);(try clear hk);(try clear hi)))
 go_ret2
 exact ⟨by first|rfl|(simp [yt,yu] <;> rfl)|(simp [*,yt,yu] <;> rfl),by repeat (with_reducible first|exact HB.out|apply za|apply zb|apply zc|refine zd ?_ GE693.out|refine zd ?_ GE694.out)⟩

end Go.Proofs.Ytpmeglcmhiihoaa.Q
end

/- Texts of this claim, merged by a program of this session. -/
import Derived.Test.YtaoihmompioncaaKLawFnExactKeepFieldsp25
import Derived.ProofKit
import Derived.OpenShut
import Derived.ShutString
import Derived.ChangeOld
import Derived.SizedLaws
import Derived.Deep.Slices
import Derived.Lib.SmallJoins
import Derived.Laws.Entries
section
namespace Go.Proofs.Ytaoihmompioncaa.Q
open Go.RowKit Go.Proofs.YtaoihmompioncaaW.PrintWords Go.Proofs.YtaoihmompioncaaW.PrintLast Go.Proofs.YtaoihmompioncaaW.PrintMore
attribute [local go_sem] max2_int min2_int max_two min_two max_three min_three max_four min_four max2_str min2_str str_geq str_gtr str_leq
set_option linter.unusedVariables false
set_option linter.unusedSimpArgs false

def Fw.f (k : Nat) (l0 : List Int) (a1_0 : Int) (a1_1 : Int) (a1_2 : ByteArray) : Option (List Int):=if l0.length<140737488355328 then ((some (l0 ++ [(a1_0) % 256] : List Int)).bind fun y469 => (if a1_0=1 then (if y469.length<140737488355328 then (some (y469 ++ [(a1_1) % 256])) else (none)) else (if a1_0=2 then ((Fn.f k (wrap64 (a1_1 + 4611686018427387904))).bind fun t475 => (if y469.length + t475.length<140737488355328 then (some (y469 ++ t475)) else (none))) else (if a1_0=3 then ((some (([((a1_2.size : Int) / 256) % 256,((a1_2.size : Int)) % 256] : List Int) : List Int)).bind fun y481 => (if y469.length + y481.length<140737488355328 then ((some (y469 ++ y481 : List Int)).bind fun y484 => (if y484.length + a1_2.size<140737488355328 then (some (y484 ++ bytesOf a1_2)) else (none))) else (none))) else (if a1_0=4 then ((some (([((a1_2.size : Int) / 256) % 256,((a1_2.size : Int)) % 256] : List Int) : List Int)).bind fun y490 => (if y469.length + y490.length<140737488355328 then ((some (y469 ++ y490 : List Int)).bind fun y493 => (if y493.length + a1_2.size<140737488355328 then (some (y493 ++ bytesOf a1_2)) else (none))) else (none))) else (if a1_0=5 then ((some (([((a1_2.size : Int) / 256) % 256,((a1_2.size : Int)) % 256] : List Int) : List Int)).bind fun y499 => (if y469.length + y499.length<140737488355328 then ((some (y469 ++ y499 : List Int)).bind fun y502 => (if y502.length + a1_2.size<140737488355328 then (some (y502 ++ bytesOf a1_2)) else (none))) else (none))) else (some y469))))))) else (none)
theorem Fw.mono : ∀ a0 a1 a2 a3 k,LeO (Fw.f k a0 a1 a2 a3) (Fw.f (k + 1) a0 a1 a2 a3):=by
 intro a0 a1 a2 a3 k;unfold Fw.f
 repeat' first|(with_reducible first|exact Fn.mono _ _|exact zQ _|exact zN _|refine zP ?_ ?_|refine zO ?_ (fun _ => ?_))|refine zP ?_ ?_|refine zO ?_ (fun _ => ?_)
def Fw.T10 : Bool×List (List Nat×List Nat):=(true,[([],[]),([],[]),([1],[1]),([2],[2]),([3],[3]),([4],[4]),([],[]),([6],[6]),([7],[7]),([8],[8]),([5,9],[5,9]),([0,10],[0,10]),([],[]),([12],[12]),([11,13,11],[11,13]),([14,14,0,1,2,3,4,5,6,7,8,9,10,11,12,13,14],[14])])
def Fw.B10 : List Nat:=[0,0,2,6,14,30,0,64,192,448,1022,2047,0,4096,16383,32767]
theorem Fw.tab10 : rtab .any (opsOf Try.f63 10)=Fw.T10:=by kernel_rfl
theorem Fw.bits10 : waitsOk Fw.T10.2 Fw.B10=true:=by kernel_rfl
set_option maxHeartbeats 8000000 in
set_option maxRecDepth 100000 in
theorem Fw.calls (k : Nat) (P0_ : Nat→Prop) (u9000_ : Value) (l0 : List Int) (a1_0 : Int) (a1_1 : Int) (a1_2 : ByteArray) (r : List Int) (w0 w : World) (hB : Below w0.heap.size w0 w) (ho0 : Kd.R (Kd.int .u8) 5 w w0.heap.size P0_ u9000_ l0) (h : Fw.f k l0 a1_0 a1_1 a1_2=some r) :
  Calls Try.prog 63 #[u9000_,.agg #[.int .i64 a1_0,.int .i64 a1_1,.string a1_2]] w fun e w' => ∃ v0_ : Value,e = .returned (v0_)∧Kd.R (Kd.int .u8) 5 w' w0.heap.size (fun k_ => (P0_ k_∨w.heap.size≤k_)) v0_ r∧Below w0.heap.size w0 w' ∧ Kept w w' (fun k_ => P0_ k_):=by
 have hu27:=Try.underlying27;have HO0:=zh (show Kd.R (Kd.int .u8) 5 w w0.heap.size (fun k_ => (P0_ k_∨w.heap.size≤k_)) u9000_ l0 from zM ho0 (fun k_ hk => (.inl hk)));have HK:=zh (Kept.refl w (fun k_ => P0_ k_));have HW0:=zh hB.size;have HB:=zh hB;clear hB;have H : (if l0.length<140737488355328 then ((some (l0 ++ [(a1_0) % 256] : List Int)).bind fun y469 => (if a1_0=1 then (if y469.length<140737488355328 then (some (y469 ++ [(a1_1) % 256])) else (none)) else (if a1_0=2 then ((Fn.f k (wrap64 (a1_1 + 4611686018427387904))).bind fun t475 => (if y469.length + t475.length<140737488355328 then (some (y469 ++ t475)) else (none))) else (if a1_0=3 then ((some (([((a1_2.size : Int) / 256) % 256,((a1_2.size : Int)) % 256] : List Int) : List Int)).bind fun y481 => (if y469.length + y481.length<140737488355328 then ((some (y469 ++ y481 : List Int)).bind fun y484 => (if y484.length + a1_2.size<140737488355328 then (some (y484 ++ bytesOf a1_2)) else (none))) else (none))) else (if a1_0=4 then ((some (([((a1_2.size : Int) / 256) % 256,((a1_2.size : Int)) % 256] : List Int) : List Int)).bind fun y490 => (if y469.length + y490.length<140737488355328 then ((some (y469 ++ y490 : List Int)).bind fun y493 => (if y493.length + a1_2.size<140737488355328 then (some (y493 ++ bytesOf a1_2)) else (none))) else (none))) else (if a1_0=5 then ((some (([((a1_2.size : Int) / 256) % 256,((a1_2.size : Int)) % 256] : List Int) : List Int)).bind fun y499 => (if y469.length + y499.length<140737488355328 then ((some (y469 ++ y499 : List Int)).bind fun y502 => (if y502.length + a1_2.size<140737488355328 then (some (y502 ++ bytesOf a1_2)) else (none))) else (none))) else (some y469))))))) else (none))=some r:=h;clear h
 by_cases c3 : l0.length<140737488355328
 ·
  rw [if_pos c3] at H
  have LMc3:=zh c3;clear c3;obtain ⟨y469,hy469⟩ : ∃ y_ : List Int,y_=(l0 ++ [(a1_0) % 256]):=⟨_,rfl⟩;replace H : (if a1_0=1 then (if y469.length<140737488355328 then (some (y469 ++ [(a1_1) % 256])) else (none)) else (if a1_0=2 then ((Fn.f k (wrap64 (a1_1 + 4611686018427387904))).bind fun t475 => (if y469.length + t475.length<140737488355328 then (some (y469 ++ t475)) else (none))) else (if a1_0=3 then ((some (([((a1_2.size : Int) / 256) % 256,((a1_2.size : Int)) % 256] : List Int) : List Int)).bind fun y481 => (if y469.length + y481.length<140737488355328 then ((some (y469 ++ y481 : List Int)).bind fun y484 => (if y484.length + a1_2.size<140737488355328 then (some (y484 ++ bytesOf a1_2)) else (none))) else (none))) else (if a1_0=4 then ((some (([((a1_2.size : Int) / 256) % 256,((a1_2.size : Int)) % 256] : List Int) : List Int)).bind fun y490 => (if y469.length + y490.length<140737488355328 then ((some (y469 ++ y490 : List Int)).bind fun y493 => (if y493.length + a1_2.size<140737488355328 then (some (y493 ++ bytesOf a1_2)) else (none))) else (none))) else (if a1_0=5 then ((some (([((a1_2.size : Int) / 256) % 256,((a1_2.size : Int)) % 256] : List Int) : List Int)).bind fun y499 => (if y469.length + y499.length<140737488355328 then ((some (y469 ++ y499 : List Int)).bind fun y502 => (if y502.length + a1_2.size<140737488355328 then (some (y502 ++ bytesOf a1_2)) else (none))) else (none))) else (some y469))))))=some r:=by first|(rw [hy469];with_reducible exact H)|(have H2_:=(Option.bind_some _ _).symm.trans H;rw [hy469];with_reducible exact H2_)|(have H2_:=(Option.bind_some _ _).symm.trans H;with_reducible exact H2_)|with_reducible exact H|(rw [hy469];exact H)|exact H
  have Ny469:=zh hy469;clear hy469
  by_cases c4 : a1_0=1
  ·
   rw [if_pos c4] at H
   have c4b0 : (a1_0 == 1)=true:=ya.mpr c4;have c4b1 : (a1_0 != 1)=false:=zX.mpr c4;clear c4
   by_cases c5 : y469.length<140737488355328
   ·
    rw [if_pos c5] at H
    have LMc5:=zh c5;clear c5;obtain ⟨y472,hy472⟩ : ∃ y_ : List Int,y_=(y469 ++ [(a1_1) % 256]):=⟨_,rfl⟩;replace H : (some y472)=some r:=by first|(rw [hy472];with_reducible exact H)|(have H2_:=(Option.bind_some _ _).symm.trans H;rw [hy472];with_reducible exact H2_)|(have H2_:=(Option.bind_some _ _).symm.trans H;with_reducible exact H2_)|with_reducible exact H|(rw [hy472];exact H)|exact H
    have Ny472:=zh hy472;clear hy472;obtain rfl:=zU H
    go_enter Try.func63,Try.ntmps63
    go_wp2_with (first|((with_reducible refine zK (N:=3) rfl ?_);refine zI ?hg (N:=3) ?hd (cs:=#[.int .i64 a1_0,.int .i64 a1_1,.string a1_2]) (t:=27) ?hr ?_;(case hd|hg => rfl);(case hr => go_simp <;> rfl);intro gb468 hg w6 hbox hb;replace HO0:=zh (yg (by (with_reducible repeat (first|apply zm|apply zn|apply zo));exact HO0.out) hb);have BK468:=zh (hbox);have GW468:=zh ((by rw [hg];exact (by first|exact HK.out.1|exact (show Kept w _ (fun k_ => P0_ k_) from by repeat (with_reducible first|exact HK.out|apply zr|apply zp|apply zq)).1) : w.heap.size≤gb468));replace HK:=zh (Kept.below (S:=(fun k_ => P0_ k_)) (by repeat (with_reducible first|exact HK.out|apply zr|apply zp|apply zq)) hb);have GE468:=zh ((by rw [hg];exact (zB (by repeat (with_reducible first|exact HB.out|apply za|apply zb|apply zc))) : w0.heap.size≤gb468));replace HB:=zh (zC (by repeat (with_reducible first|exact HB.out|apply za|apply zb|apply zc)) hb);clear hb hbox hg;obtain ⟨hcz7_0,hcz7_1,hcz7_2,hfz7_0,hfz7_1,hfz7_2⟩:=cB3 BK468.out)|((with_reducible refine yB (b:=.append) (xs:=#[.tmp 5,.tmp 9]) rfl ?_);at_builtin;refine Kd.R_append (Kd.int .u8) (w0:=w0) w0.heap.size rfl (.tmp 5) (.tmp 9) 66 5 (.int .u8 0) 1 rfl Try.underlying66 info5 rfl (by decide) (by omega) u9000_ l0 ((a1_0) % 256) [.int .u8 ((a1_0) % 256)] (fun k_ => (P0_ k_∨w.heap.size≤k_)) (fun _ => False) rfl rfl ?aP (fun _ hk => hk.elim) ?aF ?aO ?aB ?aS ?aL ?_;(case aP => exact rfl);(case aB => exact (by repeat (with_reducible first|exact HB.out|apply za|apply zb|apply zc|refine zd ?_ GE468.out)));(case aF => exact (fun k_ hk => (.inr (Nat.le_trans (by first|exact HK.out.1|exact (show Kept w _ (fun k_ => P0_ k_) from by repeat (with_reducible first|exact HK.out|apply zr|apply zp|apply zq|refine zs ?_ (.inr GW468.out) _)).1) hk))));(case aO => exact (by (with_reducible repeat (first|apply zm|apply zn|apply zo));exact HO0.out));(case aS => exact (zB (by repeat (with_reducible first|exact HB.out|apply za|apply zb|apply zc|refine zd ?_ GE468.out))));(case aL => have:=LMc3.out;omega);intro v470 w8 ho hb hg hat;rw [← Ny469.out] at ho;replace BK468:=zh (yw (g:=gb468) (o:=.cells #[.int .i64 a1_0,.int .i64 a1_1,.string a1_2] 27 (0,0)) (by (with_reducible repeat first|apply ze|apply zf|apply zg);exact BK468.out) hg (Kd.R_ne HO0.out BK468.out (by decide)));replace HB:=zh (hb);replace HK:=zh (yA (S:=(fun k_ => P0_ k_)) hg (by repeat (with_reducible first|exact HK.out|apply zr|apply zp|apply zq|refine zs ?_ (.inr GW468.out) _)) (fun k_ e_ => (HO0.out.1 k_ e_)));have HO471:=zh (ho);clear HO0 ho hb hg hat;obtain ⟨hcz9_0,hcz9_1,hcz9_2,hfz9_0,hfz9_1,hfz9_2⟩:=cB3 BK468.out)|((with_reducible refine yB (b:=.append) (xs:=#[.tmp 15,.tmp 19]) rfl ?_);at_builtin;refine Kd.R_append (Kd.int .u8) (w0:=w0) w0.heap.size rfl (.tmp 15) (.tmp 19) 66 5 (.int .u8 0) 1 rfl Try.underlying66 info5 rfl (by decide) (by omega) v470 y469 ((a1_1) % 256) [.int .u8 ((a1_1) % 256)] (fun k_ => (P0_ k_∨w.heap.size≤k_)) (fun _ => False) rfl rfl ?aP (fun _ hk => hk.elim) ?aF ?aO ?aB ?aS ?aL ?_;(case aP => exact rfl);(case aB => exact (by repeat (with_reducible first|exact HB.out|apply za|apply zb|apply zc|refine zd ?_ GE468.out)));(case aF => exact (fun k_ hk => (.inr (Nat.le_trans (by first|exact HK.out.1|exact (show Kept w _ (fun k_ => P0_ k_) from by repeat (with_reducible first|exact HK.out|apply zr|apply zp|apply zq|refine zs ?_ (.inr GW468.out) _)).1) hk))));(case aO => exact (by (with_reducible repeat (first|apply zm|apply zn|apply zo));exact HO471.out));(case aS => exact (zB (by repeat (with_reducible first|exact HB.out|apply za|apply zb|apply zc|refine zd ?_ GE468.out))));(case aL => have:=LMc5.out;omega);intro v473 w10 ho hb hg hat;rw [← Ny472.out] at ho;replace BK468:=zh (yw (g:=gb468) (o:=.cells #[.int .i64 a1_0,.int .i64 a1_1,.string a1_2] 27 (0,0)) (by (with_reducible repeat first|apply ze|apply zf|apply zg);exact BK468.out) hg (Kd.R_ne HO471.out BK468.out (by decide)));replace HB:=zh (hb);replace HK:=zh (yA (S:=(fun k_ => P0_ k_)) hg (by repeat (with_reducible first|exact HK.out|apply zr|apply zp|apply zq|refine zs ?_ (.inr GW468.out) _)) (fun k_ e_ => (HO471.out.1 k_ e_)));have HO474:=zh (ho);clear HO471 ho hb hg hat))
    go_ret
    exact ⟨_,by first|rfl|(simp [yt,yu] <;> rfl)|(simp [*,yt,yu] <;> rfl),by (with_reducible repeat (first|apply zm|apply zn|apply zo));exact HO474.out,by repeat (with_reducible first|exact HB.out|apply za|apply zb|apply zc|refine zd ?_ GE468.out),by repeat (with_reducible first|exact HK.out|apply zr|apply zp|apply zq|refine zs ?_ (.inr GW468.out) _)⟩
   rw [if_neg c5] at H;exact absurd H (by simp)
  rw [if_neg c4] at H;have c4b0 : (a1_0 == 1)=false:=zY.mpr c4;have c4b1 : (a1_0 != 1)=true:=zZ.mpr c4
  by_cases c11 : a1_0=2
  ·
   rw [if_pos c11] at H
   have c11b0 : (a1_0 == 2)=true:=ya.mpr c11;have c11b1 : (a1_0 != 2)=false:=zX.mpr c11;clear c11;replace H:=zT.mp H;obtain ⟨t475,A120,H⟩:=H;replace H : (if y469.length + t475.length<140737488355328 then (some (y469 ++ t475)) else (none))=some r:=H;have A12:=zh A120;clear A120
   by_cases c13 : y469.length + t475.length<140737488355328
   ·
    rw [if_pos c13] at H
    have LMc13:=zh c13;clear c13;obtain ⟨y478,hy478⟩ : ∃ y_ : List Int,y_=(y469 ++ t475):=⟨_,rfl⟩;replace H : (some y478)=some r:=by first|(rw [hy478];with_reducible exact H)|(have H2_:=(Option.bind_some _ _).symm.trans H;rw [hy478];with_reducible exact H2_)|(have H2_:=(Option.bind_some _ _).symm.trans H;with_reducible exact H2_)|with_reducible exact H|(rw [hy478];exact H)|exact H
    have Ny478:=zh hy478;clear hy478;obtain rfl:=zU H
    go_enter Try.func63,Try.ntmps63
    go_wp2_with (first|((with_reducible refine zK (N:=3) rfl ?_);refine zI ?hg (N:=3) ?hd (cs:=#[.int .i64 a1_0,.int .i64 a1_1,.string a1_2]) (t:=27) ?hr ?_;(case hd|hg => rfl);(case hr => go_simp <;> rfl);intro gb468 hg w14 hbox hb;replace HO0:=zh (yg (by (with_reducible repeat (first|apply zm|apply zn|apply zo));exact HO0.out) hb);have BK468:=zh (hbox);have GW468:=zh ((by rw [hg];exact (by first|exact HK.out.1|exact (show Kept w _ (fun k_ => P0_ k_) from by repeat (with_reducible first|exact HK.out|apply zr|apply zp|apply zq)).1) : w.heap.size≤gb468));replace HK:=zh (Kept.below (S:=(fun k_ => P0_ k_)) (by repeat (with_reducible first|exact HK.out|apply zr|apply zp|apply zq)) hb);have GE468:=zh ((by rw [hg];exact (zB (by repeat (with_reducible first|exact HB.out|apply za|apply zb|apply zc))) : w0.heap.size≤gb468));replace HB:=zh (zC (by repeat (with_reducible first|exact HB.out|apply za|apply zb|apply zc)) hb);clear hb hbox hg;obtain ⟨hcz15_0,hcz15_1,hcz15_2,hfz15_0,hfz15_1,hfz15_2⟩:=cB3 BK468.out)|((with_reducible refine yB (b:=.append) (xs:=#[.tmp 5,.tmp 9]) rfl ?_);at_builtin;refine Kd.R_append (Kd.int .u8) (w0:=w0) w0.heap.size rfl (.tmp 5) (.tmp 9) 66 5 (.int .u8 0) 1 rfl Try.underlying66 info5 rfl (by decide) (by omega) u9000_ l0 ((a1_0) % 256) [.int .u8 ((a1_0) % 256)] (fun k_ => (P0_ k_∨w.heap.size≤k_)) (fun _ => False) rfl rfl ?aP (fun _ hk => hk.elim) ?aF ?aO ?aB ?aS ?aL ?_;(case aP => exact rfl);(case aB => exact (by repeat (with_reducible first|exact HB.out|apply za|apply zb|apply zc|refine zd ?_ GE468.out)));(case aF => exact (fun k_ hk => (.inr (Nat.le_trans (by first|exact HK.out.1|exact (show Kept w _ (fun k_ => P0_ k_) from by repeat (with_reducible first|exact HK.out|apply zr|apply zp|apply zq|refine zs ?_ (.inr GW468.out) _)).1) hk))));(case aO => exact (by (with_reducible repeat (first|apply zm|apply zn|apply zo));exact HO0.out));(case aS => exact (zB (by repeat (with_reducible first|exact HB.out|apply za|apply zb|apply zc|refine zd ?_ GE468.out))));(case aL => have:=LMc3.out;omega);intro v470 w16 ho hb hg hat;rw [← Ny469.out] at ho;replace BK468:=zh (yw (g:=gb468) (o:=.cells #[.int .i64 a1_0,.int .i64 a1_1,.string a1_2] 27 (0,0)) (by (with_reducible repeat first|apply ze|apply zf|apply zg);exact BK468.out) hg (Kd.R_ne HO0.out BK468.out (by decide)));replace HB:=zh (hb);replace HK:=zh (yA (S:=(fun k_ => P0_ k_)) hg (by repeat (with_reducible first|exact HK.out|apply zr|apply zp|apply zq|refine zs ?_ (.inr GW468.out) _)) (fun k_ e_ => (HO0.out.1 k_ e_)));have HO471:=zh (ho);clear HO0 ho hb hg hat;obtain ⟨hcz17_0,hcz17_1,hcz17_2,hfz17_0,hfz17_1,hfz17_2⟩:=cB3 BK468.out)|((with_reducible refine zJ (f:=72) rfl ?_);refine yj (some 27) rfl rfl Try.func72 (by kernel_rfl) rfl #[.int .i64 (wrap64 (a1_1 + 4611686018427387904))] rfl (by (try simp only [zt,zu,zv]);first|done|rfl|(simp only [zw,zx];rfl)|(simp only [yr,ys,zV,zW];rfl)) ?_;(with_reducible refine (Fn.calls k  (wrap64 (a1_1 + 4611686018427387904)) t475 _ A12.out).mono ?_);rintro e w18 ⟨v476,rfl,ho0,hb⟩;refine ⟨_,rfl,?_⟩;have HO477:=zh (yy (Kd.R_new' (Kd.R_newM (M:=fun k_ => (P0_ k_∨w.heap.size≤k_)) ho0 (by first|exact HK.out.1|exact (show Kept w _ (fun k_ => P0_ k_) from by repeat (with_reducible first|exact HK.out|apply zr|apply zp|apply zq|refine zs ?_ (.inr GW468.out) _)).1) (fun k_ h_ => .inr h_)) (Kd.R_lt (by (with_reducible repeat (first|apply zm|apply zn|apply zo));exact HO471.out))) (zB (by repeat (with_reducible first|exact HB.out|apply za|apply zb|apply zc|refine zd ?_ GE468.out))));replace HO471:=zh (Kd.R_elder' (by (with_reducible repeat (first|apply zm|apply zn|apply zo));exact HO471.out) (Kd.R_base ho0) hb);replace BK468:=zh (cD BK468.out (by (with_reducible repeat first|apply ze|apply zf|apply zg);exact BK468.out) hb);replace HK:=zh (Kept.below (S:=(fun k_ => P0_ k_)) (by repeat (with_reducible first|exact HK.out|apply zr|apply zp|apply zq|refine zs ?_ (.inr GW468.out) _)) hb);replace HB:=zh (zC (by repeat (with_reducible first|exact HB.out|apply za|apply zb|apply zc|refine zd ?_ GE468.out)) hb);(try clear hb);(try clear hb2);(try clear hk);(try clear hi);(try clear ho0);obtain ⟨Ao20,co20,eo20⟩:=yk HO477.out;subst eo20)|((with_reducible refine yB (b:=.append) (xs:=#[.tmp 23,.tmp 27]) rfl ?_);at_builtin;refine Kd.R_append_rows (Kd.int .u8) (w0:=w0) w0.heap.size rfl (.tmp 23) (.tmp 27) 66 5 (.int .u8 0) 1 rfl Try.underlying66 info5 rfl (by decide) (by omega) v470 y469 t475 _ _ _ (fun k_ => (P0_ k_∨w.heap.size≤k_)∧some k_≠(.slice Ao20 t475.length co20 : Value).ownBlock) (fun _ => False) rfl rfl ?aO ?aR (fun _ _ h => h) (fun _ h => h.elim) ?aF ?aB ?aS ?aL ?_;(case aR => repeat (first|exact (yh HO477.out).2.2|(with_reducible refine Kd.C_alloc ?_ _)|(with_reducible refine Kd.C_drewN ?_ _)|(with_reducible refine Kd.C_drew ?_)));(case aB => exact (by repeat (with_reducible first|exact HB.out|apply za|apply zb|apply zc|refine zd ?_ GE468.out)));(case aF => exact (fun k_ hk => ⟨(.inr (Nat.le_trans (by first|exact HK.out.1|exact (show Kept w _ (fun k_ => P0_ k_) from by repeat (with_reducible first|exact HK.out|apply zr|apply zp|apply zq|refine zs ?_ (.inr GW468.out) _)).1) hk)),Kd.fresh' (Kd.R_lt (by (with_reducible repeat (first|apply zm|apply zn|apply zo));exact HO477.out)) k_ hk⟩));(case aO => exact (by (with_reducible repeat (first|apply zm|apply zn|apply zo));exact HO471.out));(case aS => exact (zB (by repeat (with_reducible first|exact HB.out|apply za|apply zb|apply zc|refine zd ?_ GE468.out))));(case aL => have:=LMc13.out;omega);intro v479 w19 ho hb hg hat;rw [← Ny478.out] at ho;replace BK468:=zh (yw (g:=gb468) (o:=.cells #[.int .i64 a1_0,.int .i64 a1_1,.string a1_2] 27 (0,0)) (by (with_reducible repeat first|apply ze|apply zf|apply zg);exact BK468.out) hg (Kd.R_ne HO471.out BK468.out (by decide)));replace HO477:=zh (Kd.R_after (ok:=(fun k_ => (P0_ k_∨w.heap.size≤k_))) (by (with_reducible repeat (first|apply zm|apply zn|apply zo));exact zM HO477.out (fun _ hk => ⟨hk.1.1,hk.2⟩)) hg hat);replace HB:=zh (hb);replace HK:=zh (yA (S:=(fun k_ => P0_ k_)) hg (by repeat (with_reducible first|exact HK.out|apply zr|apply zp|apply zq|refine zs ?_ (.inr GW468.out) _)) (fun k_ e_ => (HO471.out.1 k_ e_).1));have HO480:=zh (ho);clear HO471 ho hb hg hat))
    go_ret
    exact ⟨_,by first|rfl|(simp [yt,yu] <;> rfl)|(simp [*,yt,yu] <;> rfl),by (with_reducible repeat (first|apply zm|apply zn|apply zo));exact zM HO480.out (fun _ hk => hk.1),by repeat (with_reducible first|exact HB.out|apply za|apply zb|apply zc|refine zd ?_ GE468.out),by repeat (with_reducible first|exact HK.out|apply zr|apply zp|apply zq|refine zs ?_ (.inr GW468.out) _)⟩
   rw [if_neg c13] at H;exact absurd H (by simp)
  rw [if_neg c11] at H;have c11b0 : (a1_0 == 2)=false:=zY.mpr c11;have c11b1 : (a1_0 != 2)=true:=zZ.mpr c11
  by_cases c21 : a1_0=3
  ·
   rw [if_pos c21] at H
   have c21b0 : (a1_0 == 3)=true:=ya.mpr c21;have c21b1 : (a1_0 != 3)=false:=zX.mpr c21;clear c21;obtain ⟨y481,hy481⟩ : ∃ y_ : List Int,y_=(([((a1_2.size : Int) / 256) % 256,((a1_2.size : Int)) % 256] : List Int)):=⟨_,rfl⟩;replace H : (if y469.length + y481.length<140737488355328 then ((some (y469 ++ y481 : List Int)).bind fun y484 => (if y484.length + a1_2.size<140737488355328 then (some (y484 ++ bytesOf a1_2)) else (none))) else (none))=some r:=by first|(rw [hy481];with_reducible exact H)|(have H2_:=(Option.bind_some _ _).symm.trans H;rw [hy481];with_reducible exact H2_)|(have H2_:=(Option.bind_some _ _).symm.trans H;with_reducible exact H2_)|with_reducible exact H|(rw [hy481];exact H)|exact H
   have Ny481:=zh hy481;clear hy481
   by_cases c22 : y469.length + y481.length<140737488355328
   ·
    rw [if_pos c22] at H
    have LMc22:=zh c22;clear c22;obtain ⟨y484,hy484⟩ : ∃ y_ : List Int,y_=(y469 ++ y481):=⟨_,rfl⟩;replace H : (if y484.length + a1_2.size<140737488355328 then (some (y484 ++ bytesOf a1_2)) else (none))=some r:=by first|(rw [hy484];with_reducible exact H)|(have H2_:=(Option.bind_some _ _).symm.trans H;rw [hy484];with_reducible exact H2_)|(have H2_:=(Option.bind_some _ _).symm.trans H;with_reducible exact H2_)|with_reducible exact H|(rw [hy484];exact H)|exact H
    have Ny484:=zh hy484;clear hy484
    by_cases c23 : y484.length + a1_2.size<140737488355328
    ·
     rw [if_pos c23] at H
     have LMc23:=zh c23;clear c23;obtain ⟨y487,hy487⟩ : ∃ y_ : List Int,y_=(y484 ++ bytesOf a1_2):=⟨_,rfl⟩;replace H : (some y487)=some r:=by first|(rw [hy487];with_reducible exact H)|(have H2_:=(Option.bind_some _ _).symm.trans H;rw [hy487];with_reducible exact H2_)|(have H2_:=(Option.bind_some _ _).symm.trans H;with_reducible exact H2_)|with_reducible exact H|(rw [hy487];exact H)|exact H
     have Ny487:=zh hy487;clear hy487;obtain rfl:=zU H
     go_enter Try.func63,Try.ntmps63
     try go_wp2_with (first|((with_reducible refine zK (N:=3) rfl ?_);refine zI ?hg (N:=3) ?hd (cs:=#[.int .i64 a1_0,.int .i64 a1_1,.string a1_2]) (t:=27) ?hr ?_;(case hd|hg => rfl);(case hr => go_simp <;> rfl);intro gb468 hg w24 hbox hb;replace HO0:=zh (yg (by (with_reducible repeat (first|apply zm|apply zn|apply zo));exact HO0.out) hb);have BK468:=zh (hbox);have GW468:=zh ((by rw [hg];exact (by first|exact HK.out.1|exact (show Kept w _ (fun k_ => P0_ k_) from by repeat (with_reducible first|exact HK.out|apply zr|apply zp|apply zq)).1) : w.heap.size≤gb468));replace HK:=zh (Kept.below (S:=(fun k_ => P0_ k_)) (by repeat (with_reducible first|exact HK.out|apply zr|apply zp|apply zq)) hb);have GE468:=zh ((by rw [hg];exact (zB (by repeat (with_reducible first|exact HB.out|apply za|apply zb|apply zc))) : w0.heap.size≤gb468));replace HB:=zh (zC (by repeat (with_reducible first|exact HB.out|apply za|apply zb|apply zc)) hb);clear hb hbox hg;obtain ⟨hcz25_0,hcz25_1,hcz25_2,hfz25_0,hfz25_1,hfz25_2⟩:=cB3 BK468.out)|((with_reducible refine yB (b:=.append) (xs:=#[.tmp 5,.tmp 9]) rfl ?_);at_builtin;refine Kd.R_append (Kd.int .u8) (w0:=w0) w0.heap.size rfl (.tmp 5) (.tmp 9) 66 5 (.int .u8 0) 1 rfl Try.underlying66 info5 rfl (by decide) (by omega) u9000_ l0 ((a1_0) % 256) [.int .u8 ((a1_0) % 256)] (fun k_ => (P0_ k_∨w.heap.size≤k_)) (fun _ => False) rfl rfl ?aP (fun _ hk => hk.elim) ?aF ?aO ?aB ?aS ?aL ?_;(case aP => exact rfl);(case aB => exact (by repeat (with_reducible first|exact HB.out|apply za|apply zb|apply zc|refine zd ?_ GE468.out)));(case aF => exact (fun k_ hk => (.inr (Nat.le_trans (by first|exact HK.out.1|exact (show Kept w _ (fun k_ => P0_ k_) from by repeat (with_reducible first|exact HK.out|apply zr|apply zp|apply zq|refine zs ?_ (.inr GW468.out) _)).1) hk))));(case aO => exact (by (with_reducible repeat (first|apply zm|apply zn|apply zo));exact HO0.out));(case aS => exact (zB (by repeat (with_reducible first|exact HB.out|apply za|apply zb|apply zc|refine zd ?_ GE468.out))));(case aL => have:=LMc3.out;omega);intro v470 w26 ho hb hg hat;rw [← Ny469.out] at ho;replace BK468:=zh (yw (g:=gb468) (o:=.cells #[.int .i64 a1_0,.int .i64 a1_1,.string a1_2] 27 (0,0)) (by (with_reducible repeat first|apply ze|apply zf|apply zg);exact BK468.out) hg (Kd.R_ne HO0.out BK468.out (by decide)));replace HB:=zh (hb);replace HK:=zh (yA (S:=(fun k_ => P0_ k_)) hg (by repeat (with_reducible first|exact HK.out|apply zr|apply zp|apply zq|refine zs ?_ (.inr GW468.out) _)) (fun k_ e_ => (HO0.out.1 k_ e_)));have HO471:=zh (ho);clear HO0 ho hb hg hat;obtain ⟨hcz27_0,hcz27_1,hcz27_2,hfz27_0,hfz27_1,hfz27_2⟩:=cB3 BK468.out))
     replace HO471:=zh (zo HO471.out);replace BK468:=zh (zf BK468.out);replace HK:=zh (zq HK.out);replace HB:=zh (zc HB.out);refine start_ (n:=16) (S:=fun w' => w'.cell? ⟨gb468,0,none⟩=some (.int .i64 a1_0)∧w'.cell? ⟨gb468,1,none⟩=some (.int .i64 a1_1)∧w'.cell? ⟨gb468,2,none⟩=some (.string a1_2)) (ds:=[]) (bm_ 0 16) (by kernel_rfl) rfl rfl ⟨(zz BK468.out 0).trans rfl,(zz BK468.out 1).trans rfl,(zz BK468.out 2).trans rfl⟩ (fun hHeld => ?_);refine with_tabW Fw.tab10 Fw.bits10 (fun HT_ HW_ => ?_);generalize w26.drew=w28 at HO471 BK468 HK HB hHeld ⊢;refine pure_ (i:=0) (N:=some 33) (v:=?_) (a':=?_) (bm_ 1 16) rfl rfl (any_of HT_.out (by kernel_rfl)) (fun _ _ _ h => h) (Or.inl ⟨by rfl,?_⟩) ?_ ?_;rotate_left
     ·
      intro w'
      go_simp
      with_reducible rfl
     rotate_left
     ·
      simp only [Act.put,zi,zj,zk,zG,zH]
      rfl
     refine pure_ (i:=1) (N:=some 34) (v:=?_) (a':=?_) (bm_ 2 16) rfl rfl (any_of HT_.out (by kernel_rfl)) (fun _ _ _ h => h) (Or.inl ⟨by rfl,?_⟩) ?_ ?_;rotate_left
     ·
      intro w'
      go_simp
      with_reducible rfl
     rotate_left
     ·
      simp only [Act.put,zi,zj,zk,zG,zH]
      rfl
     refine pure_ (i:=6) (N:=some 39) (v:=?_) (a':=?_) #[true,true,false,false,false,false,true,false,false,false,false,false,false,false,false,false] rfl rfl (any_of HT_.out (by kernel_rfl)) (fun _ _ _ h => h) (Or.inl ⟨by rfl,?_⟩) ?_ ?_;rotate_left
     ·
      intro w'
      go_simp
      with_reducible rfl
     rotate_left
     ·
      simp only [Act.put,zi,zj,zk,zG,zH]
      rfl
     refine pure_ (i:=12) (N:=some 45) (v:=?_) (a':=?_) #[true,true,false,false,false,false,true,false,false,false,false,false,true,false,false,false] rfl rfl (any_of HT_.out (by kernel_rfl)) (fun _ _ _ h => h) (Or.inl ⟨by rfl,?_⟩) ?_ ?_;rotate_left
     ·
      intro w'
      go_simp
      with_reducible rfl
     rotate_left
     ·
      simp only [Act.put,zi,zj,zk,zG,zH]
      rfl
     refine take_ (i:=2) (N:=some 35) (v:=?_) (a':=?_) #[true,true,true,false,false,false,true,false,false,false,false,false,true,false,false,false] rfl rfl (yo HT_.out HW_.out (by kernel_rfl)) (fun _ _ _ h => h) (Or.inl ⟨by rfl,?_⟩) hHeld ?_ ?_;rotate_left
     ·
      rintro w' ⟨s0,s1,s2⟩
      go_simp
      with_reducible rfl
     rotate_left
     ·
      simp only [Act.put,zi,zj,zk,zG,zH]
      rfl
     refine pure_ (i:=3) (N:=some 36) (v:=?_) (a':=?_) #[true,true,true,true,false,false,true,false,false,false,false,false,true,false,false,false] rfl rfl (any_of HT_.out (by kernel_rfl)) (fun _ _ _ h => h) (Or.inl ⟨by rfl,?_⟩) ?_ ?_;rotate_left
     ·
      intro w'
      go_simp
      with_reducible rfl
     rotate_left
     ·
      simp only [Act.put,zi,zj,zk,zG,zH]
      rfl
     refine pure_ (i:=4) (N:=some 37) (v:=?_) (a':=?_) #[true,true,true,true,true,false,true,false,false,false,false,false,true,false,false,false] rfl rfl (any_of HT_.out (by kernel_rfl)) (fun _ _ _ h => h) (Or.inl ⟨by rfl,?_⟩) ?_ ?_;rotate_left
     ·
      intro w'
      go_simp
      with_reducible rfl
     rotate_left
     ·
      simp only [Act.put,zi,zj,zk,zG,zH]
      rfl
     refine pure_ (i:=5) (N:=some 38) (v:=?_) (a':=?_) #[true,true,true,true,true,true,true,false,false,false,false,false,true,false,false,false] rfl rfl (any_of HT_.out (by kernel_rfl)) (fun _ _ _ h => h) (Or.inl ⟨by rfl,?_⟩) ?_ ?_;rotate_left
     ·
      intro w'
      go_simp
      with_reducible rfl
     rotate_left
     ·
      simp only [Act.put,zi,zj,zk,zG,zH]
      rfl
     refine take_ (i:=7) (N:=some 40) (v:=?_) (a':=?_) #[true,true,true,true,true,true,true,true,false,false,false,false,true,false,false,false] rfl rfl (yo HT_.out HW_.out (by kernel_rfl)) (fun _ _ _ h => h) (Or.inl ⟨by rfl,?_⟩) hHeld ?_ ?_;rotate_left
     ·
      rintro w' ⟨s0,s1,s2⟩
      go_simp
      with_reducible rfl
     rotate_left
     ·
      simp only [Act.put,zi,zj,zk,zG,zH]
      rfl
     refine pure_ (i:=8) (N:=some 41) (v:=?_) (a':=?_) #[true,true,true,true,true,true,true,true,true,false,false,false,true,false,false,false] rfl rfl (any_of HT_.out (by kernel_rfl)) (fun _ _ _ h => h) (Or.inl ⟨by rfl,?_⟩) ?_ ?_;rotate_left
     ·
      intro w'
      go_simp
      with_reducible rfl
     rotate_left
     ·
      simp only [Act.put,zi,zj,zk,zG,zH]
      rfl
     refine pure_ (i:=9) (N:=some 42) (v:=?_) (a':=?_) #[true,true,true,true,true,true,true,true,true,true,false,false,true,false,false,false] rfl rfl (any_of HT_.out (by kernel_rfl)) (fun _ _ _ h => h) (Or.inl ⟨by rfl,?_⟩) ?_ ?_;rotate_left
     ·
      intro w'
      go_simp
      with_reducible rfl
     rotate_left
     ·
      simp only [Act.put,zi,zj,zk,zG,zH]
      rfl
     refine take_ (i:=13) (N:=some 46) (v:=?_) (a':=?_) #[true,true,true,true,true,true,true,true,true,true,false,false,true,true,false,false] rfl rfl (yo HT_.out HW_.out (by kernel_rfl)) (fun _ _ _ h => h) (Or.inl ⟨by rfl,?_⟩) hHeld ?_ ?_;rotate_left
     ·
      rintro w' ⟨s0,s1,s2⟩
      go_simp
      with_reducible rfl
     rotate_left
     ·
      simp only [Act.put,zi,zj,zk,zG,zH]
      rfl
     refine one_ (i:=10) (N:=some 43) #[true,true,true,true,true,true,true,true,true,true,true,false,true,true,false,false] rfl rfl (one_of HT_.out (by kernel_rfl)) (by decide) (fun K hK => ?_);refine Kd.R_lit_step (Kd.int .u8) _ 5 ?hg (N:=43) ?hd (xs:=([((a1_2.size : Int) / 256) % 256,((a1_2.size : Int)) % 256] : List Int)) (inner:=[.int .u8 (((a1_2.size : Int) / 256) % 256),.int .u8 (((a1_2.size : Int)) % 256)]) (ok:=fun _ => True) (okp:=fun _ => True) ?hr ?hp (fun _ hk => hk) trivial (Below.refl _ _) (ye _) (by simp) ?_;(case hd|hg => rfl);(case hr => go_simp <;> rfl);(case hp => exact (Reps.one (show Kd.M (Kd.int .u8) _ _ _ (((a1_2.size : Int) / 256) % 256) [.int .u8 (((a1_2.size : Int) / 256) % 256)] from rfl) (Reps.one (show Kd.M (Kd.int .u8) _ _ _ (((a1_2.size : Int)) % 256) [.int .u8 (((a1_2.size : Int)) % 256)] from rfl) (Reps.none _ _))));intro v482 w29 ho30 hb hg_ hnew_;clear hg_ hnew_;(first|rw [← Ny481.out] at ho30|(simp only [Int.reduceToNat] at ho30;rw [← Ny481.out] at ho30));have HO483:=zh (yy (Kd.R_new' (Kd.R_newM (M:=fun k_ => (P0_ k_∨w.heap.size≤k_)) ho30 (by first|exact HK.out.1|exact (show Kept w _ (fun k_ => P0_ k_) from by repeat (with_reducible first|exact HK.out|apply zr|apply zp|apply zq|refine zs ?_ (.inr GW468.out) _)).1) (fun k_ h_ => .inr h_)) (Kd.R_lt (by (with_reducible repeat (first|apply zm|apply zn|apply zo));exact HO471.out))) (zB (by repeat (with_reducible first|exact HB.out|apply za|apply zb|apply zc|refine zd ?_ GE468.out))));replace HO471:=zh (Kd.R_elder' (by (with_reducible repeat (first|apply zm|apply zn|apply zo));exact HO471.out) (Kd.R_base ho30) hb);replace BK468:=zh (cD BK468.out (by (with_reducible repeat first|apply ze|apply zf|apply zg);exact BK468.out) hb);replace HK:=zh (Kept.below (S:=(fun k_ => P0_ k_)) (by repeat (with_reducible first|exact HK.out|apply zr|apply zp|apply zq|refine zs ?_ (.inr GW468.out) _)) hb);replace HB:=zh (zC (by repeat (with_reducible first|exact HB.out|apply za|apply zb|apply zc|refine zd ?_ GE468.out)) hb);clear hb ho30;obtain ⟨Ao32,co32,eo32⟩:=yk HO483.out;(first|subst eo32|(injection eo32 with f1_ f2_ f3_;have f4_:=f1_.symm;have f5_:=f3_.symm;clear f1_ f2_ f3_;subst f4_;subst f5_));refine hK.out _ _ ⟨(zz BK468.out 0).trans rfl,(zz BK468.out 1).trans rfl,(zz BK468.out 2).trans rfl⟩ (fun hHeld => ?_);clear hK K;refine norm_ (a':=?_) ?_ ?_;rotate_left
     ·
      show Act.put _ (some 43) _=_
      simp only [Act.put,zi,zj,zk,zG,zH]
      rfl
     refine one_ (i:=11) (N:=some 44) (bm_ 14 16) rfl rfl (one_of HT_.out (by kernel_rfl)) (by decide) (fun K hK => ?_);refine Kd.R_append_rows_step (Kd.int .u8) (w0:=w0) w0.heap.size (by rfl) (.tmp 33) (.tmp 43) 66 5 (.int .u8 0) 1 rfl Try.underlying66 info5 rfl (by decide) (by omega) v470 y469 y481 _ _ _ (fun k_ => (P0_ k_∨w.heap.size≤k_)∧some k_≠(.slice Ao32 y481.length co32 : Value).ownBlock) (fun _ => False) rfl rfl ?aO ?aR (fun _ _ h => h) (fun _ h => h.elim) ?aF ?aB ?aS ?aL ?_;(case aR => repeat (first|exact (yh HO483.out).2.2|(with_reducible refine Kd.C_alloc ?_ _)|(with_reducible refine Kd.C_drewN ?_ _)|(with_reducible refine Kd.C_drew ?_)))
     (case aB => exact (by repeat (with_reducible first|exact HB.out|apply za|apply zb|apply zc|refine zd ?_ GE468.out)))
     (case aF => exact (fun k_ hk => ⟨(.inr (Nat.le_trans (by first|exact HK.out.1|exact (show Kept w _ (fun k_ => P0_ k_) from by repeat (with_reducible first|exact HK.out|apply zr|apply zp|apply zq|refine zs ?_ (.inr GW468.out) _)).1) hk)),Kd.fresh' (Kd.R_lt (by (with_reducible repeat (first|apply zm|apply zn|apply zo));exact HO483.out)) k_ hk⟩))
     (case aO => exact (by (with_reducible repeat (first|apply zm|apply zn|apply zo));exact HO471.out))
     (case aS => exact (zB (by repeat (with_reducible first|exact HB.out|apply za|apply zb|apply zc|refine zd ?_ GE468.out))))
     (case aL => have:=LMc22.out;omega)
     intro v485 w31 ho hb hg hat;rw [← Ny484.out] at ho;replace BK468:=zh (yw (g:=gb468) (o:=.cells #[.int .i64 a1_0,.int .i64 a1_1,.string a1_2] 27 (0,0)) (by (with_reducible repeat first|apply ze|apply zf|apply zg);exact BK468.out) hg (Kd.R_ne HO471.out BK468.out (by decide)));replace HO483:=zh (Kd.R_after (ok:=(fun k_ => (P0_ k_∨w.heap.size≤k_))) (by (with_reducible repeat (first|apply zm|apply zn|apply zo));exact zM HO483.out (fun _ hk => ⟨hk.1.1,hk.2⟩)) hg hat);replace HB:=zh (hb);replace HK:=zh (yA (S:=(fun k_ => P0_ k_)) hg (by repeat (with_reducible first|exact HK.out|apply zr|apply zp|apply zq|refine zs ?_ (.inr GW468.out) _)) (fun k_ e_ => (HO471.out.1 k_ e_).1));have HO486:=zh (ho);clear HO471 ho hb hg hat;refine hK.out _ _ ⟨(zz BK468.out 0).trans rfl,(zz BK468.out 1).trans rfl,(zz BK468.out 2).trans rfl⟩ (fun hHeld => ?_);clear hK K;refine norm_ (a':=?_) ?_ ?_;rotate_left
     ·
      show Act.put _ (some 44) _=_
      simp only [Act.put,zi,zj,zk,zG,zH]
      rfl
     refine one_ (i:=14) (N:=some 47) (bm_ 15 16) rfl rfl (one_of HT_.out (by kernel_rfl)) (by decide) (fun K hK => ?_);refine print_append_str_go (w0:=w0) w0.heap.size (by rfl) (.tmp 44) _ 66 9 5 rfl Try.underlying66 Try.underlying9 info5 v485 y484 a1_2 rfl rfl ?aO ?aB ?aS ?aL ?_;(case aB => exact (by repeat (with_reducible first|exact HB.out|apply za|apply zb|apply zc|refine zd ?_ GE468.out)))
     (case aO => exact (Kd.own_of_R (by (with_reducible repeat (first|apply zm|apply zn|apply zo));exact zM HO486.out (fun _ hk => hk.1))))
     (case aS => exact (zB (by repeat (with_reducible first|exact HB.out|apply za|apply zb|apply zc|refine zd ?_ GE468.out))))
     (case aL => have:=LMc23.out;omega)
     intro v488 w33 ho0 hb hg hat;have ho:=Kd.R_of_own (h1:=fun _ => rfl) (ok:=(fun k_ => (P0_ k_∨w.heap.size≤k_))) ho0 (fun k_ e_ => hat.elim (fun h_ => (zM HO486.out (fun _ hk => hk.1)).1 k_ (h_.symm.trans e_)) (fun ⟨b_,h_,hb_⟩ => (fun k_ hk => (.inr (Nat.le_trans (by first|exact HK.out.1|exact (show Kept w _ (fun k_ => P0_ k_) from by repeat (with_reducible first|exact HK.out|apply zr|apply zp|apply zq|refine zs ?_ (.inr GW468.out) _)).1) hk))) k_ (zU (h_.symm.trans e_) ▸ hb_)));clear ho0;rw [← Ny487.out] at ho;change Kd.R (Kd.int .u8) 5 w33 w0.heap.size (fun k_ => (P0_ k_∨w.heap.size≤k_)) v488 y487 at ho;replace BK468:=zh (yw (g:=gb468) (o:=.cells #[.int .i64 a1_0,.int .i64 a1_1,.string a1_2] 27 (0,0)) (by (with_reducible repeat first|apply ze|apply zf|apply zg);exact BK468.out) hg (Kd.R_ne HO486.out BK468.out (by decide)));replace HB:=zh (hb);replace HK:=zh (yA (S:=(fun k_ => P0_ k_)) hg (by repeat (with_reducible first|exact HK.out|apply zr|apply zp|apply zq|refine zs ?_ (.inr GW468.out) _)) (fun k_ e_ => (HO486.out.1 k_ e_).1));have HO489:=zh (ho);clear HO486 ho hb hg hat;refine hK.out _ _ ⟨(zz BK468.out 0).trans rfl,(zz BK468.out 1).trans rfl,(zz BK468.out 2).trans rfl⟩ (fun hHeld => ?_);clear hK K;refine norm_ (a':=?_) ?_ ?_;rotate_left
     ·
      show Act.put _ (some 47) _=_
      simp only [Act.put,zi,zj,zk,zG,zH]
      rfl
     refine pure_ (i:=15) (N:=some 4) (v:=?_) (a':=?_) (bm_ 16 16) rfl rfl (any_of HT_.out (by kernel_rfl)) (fun _ _ _ h => h) (Or.inl ⟨by rfl,?_⟩) ?_ ?_;rotate_left
     ·
      intro w'
      go_simp
      with_reducible rfl
     rotate_left
     ·
      simp only [Act.put,zi,zj,zk,zG,zH]
      rfl
     refine done_ (done_of HT_.out (by kernel_rfl)) ?_
     try go_wp2
     go_ret
     exact ⟨_,by first|rfl|(simp [yt,yu] <;> rfl)|(simp [*,yt,yu] <;> rfl),by (with_reducible repeat (first|apply zm|apply zn|apply zo));exact HO489.out,by repeat (with_reducible first|exact HB.out|apply za|apply zb|apply zc|refine zd ?_ GE468.out),by repeat (with_reducible first|exact HK.out|apply zr|apply zp|apply zq|refine zs ?_ (.inr GW468.out) _)⟩
    rw [if_neg c23] at H;exact absurd H (by simp)
   rw [if_neg c22] at H;exact absurd H (by simp)
  rw [if_neg c21] at H;have c21b0 : (a1_0 == 3)=false:=zY.mpr c21;have c21b1 : (a1_0 != 3)=true:=zZ.mpr c21
  by_cases c34 : a1_0=4
  ·
   rw [if_pos c34] at H
   have c34b0 : (a1_0 == 4)=true:=ya.mpr c34;have c34b1 : (a1_0 != 4)=false:=zX.mpr c34;clear c34;obtain ⟨y490,hy490⟩ : ∃ y_ : List Int,y_=(([((a1_2.size : Int) / 256) % 256,((a1_2.size : Int)) % 256] : List Int)):=⟨_,rfl⟩;replace H : (if y469.length + y490.length<140737488355328 then ((some (y469 ++ y490 : List Int)).bind fun y493 => (if y493.length + a1_2.size<140737488355328 then (some (y493 ++ bytesOf a1_2)) else (none))) else (none))=some r:=by first|(rw [hy490];with_reducible exact H)|(have H2_:=(Option.bind_some _ _).symm.trans H;rw [hy490];with_reducible exact H2_)|(have H2_:=(Option.bind_some _ _).symm.trans H;with_reducible exact H2_)|with_reducible exact H|(rw [hy490];exact H)|exact H
   have Ny490:=zh hy490;clear hy490
   by_cases c35 : y469.length + y490.length<140737488355328
   ·
    rw [if_pos c35] at H
    have LMc35:=zh c35;clear c35;obtain ⟨y493,hy493⟩ : ∃ y_ : List Int,y_=(y469 ++ y490):=⟨_,rfl⟩;replace H : (if y493.length + a1_2.size<140737488355328 then (some (y493 ++ bytesOf a1_2)) else (none))=some r:=by first|(rw [hy493];with_reducible exact H)|(have H2_:=(Option.bind_some _ _).symm.trans H;rw [hy493];with_reducible exact H2_)|(have H2_:=(Option.bind_some _ _).symm.trans H;with_reducible exact H2_)|with_reducible exact H|(rw [hy493];exact H)|exact H
    have Ny493:=zh hy493;clear hy493
    by_cases c36 : y493.length + a1_2.size<140737488355328
    ·
     rw [if_pos c36] at H
     have LMc36:=zh c36;clear c36;obtain ⟨y496,hy496⟩ : ∃ y_ : List Int,y_=(y493 ++ bytesOf a1_2):=⟨_,rfl⟩;replace H : (some y496)=some r:=by first|(rw [hy496];with_reducible exact H)|(have H2_:=(Option.bind_some _ _).symm.trans H;rw [hy496];with_reducible exact H2_)|(have H2_:=(Option.bind_some _ _).symm.trans H;with_reducible exact H2_)|with_reducible exact H|(rw [hy496];exact H)|exact H
     have Ny496:=zh hy496;clear hy496;obtain rfl:=zU H
     go_enter Try.func63,Try.ntmps63
     try go_wp2_with (first|((with_reducible refine zK (N:=3) rfl ?_);refine zI ?hg (N:=3) ?hd (cs:=#[.int .i64 a1_0,.int .i64 a1_1,.string a1_2]) (t:=27) ?hr ?_;(case hd|hg => rfl);(case hr => go_simp <;> rfl);intro gb468 hg w37 hbox hb;replace HO0:=zh (yg (by (with_reducible repeat (first|apply zm|apply zn|apply zo));exact HO0.out) hb);have BK468:=zh (hbox);have GW468:=zh ((by rw [hg];exact (by first|exact HK.out.1|exact (show Kept w _ (fun k_ => P0_ k_) from by repeat (with_reducible first|exact HK.out|apply zr|apply zp|apply zq)).1) : w.heap.size≤gb468));replace HK:=zh (Kept.below (S:=(fun k_ => P0_ k_)) (by repeat (with_reducible first|exact HK.out|apply zr|apply zp|apply zq)) hb);have GE468:=zh ((by rw [hg];exact (zB (by repeat (with_reducible first|exact HB.out|apply za|apply zb|apply zc))) : w0.heap.size≤gb468));replace HB:=zh (zC (by repeat (with_reducible first|exact HB.out|apply za|apply zb|apply zc)) hb);clear hb hbox hg;obtain ⟨hcz38_0,hcz38_1,hcz38_2,hfz38_0,hfz38_1,hfz38_2⟩:=cB3 BK468.out)|((with_reducible refine yB (b:=.append) (xs:=#[.tmp 5,.tmp 9]) rfl ?_);at_builtin;refine Kd.R_append (Kd.int .u8) (w0:=w0) w0.heap.size rfl (.tmp 5) (.tmp 9) 66 5 (.int .u8 0) 1 rfl Try.underlying66 info5 rfl (by decide) (by omega) u9000_ l0 ((a1_0) % 256) [.int .u8 ((a1_0) % 256)] (fun k_ => (P0_ k_∨w.heap.size≤k_)) (fun _ => False) rfl rfl ?aP (fun _ hk => hk.elim) ?aF ?aO ?aB ?aS ?aL ?_;(case aP => exact rfl);(case aB => exact (by repeat (with_reducible first|exact HB.out|apply za|apply zb|apply zc|refine zd ?_ GE468.out)));(case aF => exact (fun k_ hk => (.inr (Nat.le_trans (by first|exact HK.out.1|exact (show Kept w _ (fun k_ => P0_ k_) from by repeat (with_reducible first|exact HK.out|apply zr|apply zp|apply zq|refine zs ?_ (.inr GW468.out) _)).1) hk))));(case aO => exact (by (with_reducible repeat (first|apply zm|apply zn|apply zo));exact HO0.out));(case aS => exact (zB (by repeat (with_reducible first|exact HB.out|apply za|apply zb|apply zc|refine zd ?_ GE468.out))));(case aL => have:=LMc3.out;omega);intro v470 w39 ho hb hg hat;rw [← Ny469.out] at ho;replace BK468:=zh (yw (g:=gb468) (o:=.cells #[.int .i64 a1_0,.int .i64 a1_1,.string a1_2] 27 (0,0)) (by (with_reducible repeat first|apply ze|apply zf|apply zg);exact BK468.out) hg (Kd.R_ne HO0.out BK468.out (by decide)));replace HB:=zh (hb);replace HK:=zh (yA (S:=(fun k_ => P0_ k_)) hg (by repeat (with_reducible first|exact HK.out|apply zr|apply zp|apply zq|refine zs ?_ (.inr GW468.out) _)) (fun k_ e_ => (HO0.out.1 k_ e_)));have HO471:=zh (ho);clear HO0 ho hb hg hat;obtain ⟨hcz40_0,hcz40_1,hcz40_2,hfz40_0,hfz40_1,hfz40_2⟩:=cB3 BK468.out))
     replace HO471:=zh (zo HO471.out);replace BK468:=zh (zf BK468.out);replace HK:=zh (zq HK.out);replace HB:=zh (zc HB.out);refine start_ (n:=16) (S:=fun w' => w'.cell? ⟨gb468,0,none⟩=some (.int .i64 a1_0)∧w'.cell? ⟨gb468,1,none⟩=some (.int .i64 a1_1)∧w'.cell? ⟨gb468,2,none⟩=some (.string a1_2)) (ds:=[]) (bm_ 0 16) (by kernel_rfl) rfl rfl ⟨(zz BK468.out 0).trans rfl,(zz BK468.out 1).trans rfl,(zz BK468.out 2).trans rfl⟩ (fun hHeld => ?_);refine with_tabW Fw.tab10 Fw.bits10 (fun HT_ HW_ => ?_);generalize w39.drew=w41 at HO471 BK468 HK HB hHeld ⊢;refine pure_ (i:=0) (N:=some 33) (v:=?_) (a':=?_) (bm_ 1 16) rfl rfl (any_of HT_.out (by kernel_rfl)) (fun _ _ _ h => h) (Or.inl ⟨by rfl,?_⟩) ?_ ?_;rotate_left
     ·
      intro w'
      go_simp
      with_reducible rfl
     rotate_left
     ·
      simp only [Act.put,zi,zj,zk,zG,zH]
      rfl
     refine pure_ (i:=1) (N:=some 34) (v:=?_) (a':=?_) (bm_ 2 16) rfl rfl (any_of HT_.out (by kernel_rfl)) (fun _ _ _ h => h) (Or.inl ⟨by rfl,?_⟩) ?_ ?_;rotate_left
     ·
      intro w'
      go_simp
      with_reducible rfl
     rotate_left
     ·
      simp only [Act.put,zi,zj,zk,zG,zH]
      rfl
     refine pure_ (i:=6) (N:=some 39) (v:=?_) (a':=?_) #[true,true,false,false,false,false,true,false,false,false,false,false,false,false,false,false] rfl rfl (any_of HT_.out (by kernel_rfl)) (fun _ _ _ h => h) (Or.inl ⟨by rfl,?_⟩) ?_ ?_;rotate_left
     ·
      intro w'
      go_simp
      with_reducible rfl
     rotate_left
     ·
      simp only [Act.put,zi,zj,zk,zG,zH]
      rfl
     refine pure_ (i:=12) (N:=some 45) (v:=?_) (a':=?_) #[true,true,false,false,false,false,true,false,false,false,false,false,true,false,false,false] rfl rfl (any_of HT_.out (by kernel_rfl)) (fun _ _ _ h => h) (Or.inl ⟨by rfl,?_⟩) ?_ ?_;rotate_left
     ·
      intro w'
      go_simp
      with_reducible rfl
     rotate_left
     ·
      simp only [Act.put,zi,zj,zk,zG,zH]
      rfl
     refine take_ (i:=2) (N:=some 35) (v:=?_) (a':=?_) #[true,true,true,false,false,false,true,false,false,false,false,false,true,false,false,false] rfl rfl (yo HT_.out HW_.out (by kernel_rfl)) (fun _ _ _ h => h) (Or.inl ⟨by rfl,?_⟩) hHeld ?_ ?_;rotate_left
     ·
      rintro w' ⟨s0,s1,s2⟩
      go_simp
      with_reducible rfl
     rotate_left
     ·
      simp only [Act.put,zi,zj,zk,zG,zH]
      rfl
     refine pure_ (i:=3) (N:=some 36) (v:=?_) (a':=?_) #[true,true,true,true,false,false,true,false,false,false,false,false,true,false,false,false] rfl rfl (any_of HT_.out (by kernel_rfl)) (fun _ _ _ h => h) (Or.inl ⟨by rfl,?_⟩) ?_ ?_;rotate_left
     ·
      intro w'
      go_simp
      with_reducible rfl
     rotate_left
     ·
      simp only [Act.put,zi,zj,zk,zG,zH]
      rfl
     refine pure_ (i:=4) (N:=some 37) (v:=?_) (a':=?_) #[true,true,true,true,true,false,true,false,false,false,false,false,true,false,false,false] rfl rfl (any_of HT_.out (by kernel_rfl)) (fun _ _ _ h => h) (Or.inl ⟨by rfl,?_⟩) ?_ ?_;rotate_left
     ·
      intro w'
      go_simp
      with_reducible rfl
     rotate_left
     ·
      simp only [Act.put,zi,zj,zk,zG,zH]
      rfl
     refine pure_ (i:=5) (N:=some 38) (v:=?_) (a':=?_) #[true,true,true,true,true,true,true,false,false,false,false,false,true,false,false,false] rfl rfl (any_of HT_.out (by kernel_rfl)) (fun _ _ _ h => h) (Or.inl ⟨by rfl,?_⟩) ?_ ?_;rotate_left
     ·
      intro w'
      go_simp
      with_reducible rfl
     rotate_left
     ·
      simp only [Act.put,zi,zj,zk,zG,zH]
      rfl
     refine take_ (i:=7) (N:=some 40) (v:=?_) (a':=?_) #[true,true,true,true,true,true,true,true,false,false,false,false,true,false,false,false] rfl rfl (yo HT_.out HW_.out (by kernel_rfl)) (fun _ _ _ h => h) (Or.inl ⟨by rfl,?_⟩) hHeld ?_ ?_;rotate_left
     ·
      rintro w' ⟨s0,s1,s2⟩
      go_simp
      with_reducible rfl
     rotate_left
     ·
      simp only [Act.put,zi,zj,zk,zG,zH]
      rfl
     refine pure_ (i:=8) (N:=some 41) (v:=?_) (a':=?_) #[true,true,true,true,true,true,true,true,true,false,false,false,true,false,false,false] rfl rfl (any_of HT_.out (by kernel_rfl)) (fun _ _ _ h => h) (Or.inl ⟨by rfl,?_⟩) ?_ ?_;rotate_left
     ·
      intro w'
      go_simp
      with_reducible rfl
     rotate_left
     ·
      simp only [Act.put,zi,zj,zk,zG,zH]
      rfl
     refine pure_ (i:=9) (N:=some 42) (v:=?_) (a':=?_) #[true,true,true,true,true,true,true,true,true,true,false,false,true,false,false,false] rfl rfl (any_of HT_.out (by kernel_rfl)) (fun _ _ _ h => h) (Or.inl ⟨by rfl,?_⟩) ?_ ?_;rotate_left
     ·
      intro w'
      go_simp
      with_reducible rfl
     rotate_left
     ·
      simp only [Act.put,zi,zj,zk,zG,zH]
      rfl
     refine take_ (i:=13) (N:=some 46) (v:=?_) (a':=?_) #[true,true,true,true,true,true,true,true,true,true,false,false,true,true,false,false] rfl rfl (yo HT_.out HW_.out (by kernel_rfl)) (fun _ _ _ h => h) (Or.inl ⟨by rfl,?_⟩) hHeld ?_ ?_;rotate_left
     ·
      rintro w' ⟨s0,s1,s2⟩
      go_simp
      with_reducible rfl
     rotate_left
     ·
      simp only [Act.put,zi,zj,zk,zG,zH]
      rfl
     refine one_ (i:=10) (N:=some 43) #[true,true,true,true,true,true,true,true,true,true,true,false,true,true,false,false] rfl rfl (one_of HT_.out (by kernel_rfl)) (by decide) (fun K hK => ?_);refine Kd.R_lit_step (Kd.int .u8) _ 5 ?hg (N:=43) ?hd (xs:=([((a1_2.size : Int) / 256) % 256,((a1_2.size : Int)) % 256] : List Int)) (inner:=[.int .u8 (((a1_2.size : Int) / 256) % 256),.int .u8 (((a1_2.size : Int)) % 256)]) (ok:=fun _ => True) (okp:=fun _ => True) ?hr ?hp (fun _ hk => hk) trivial (Below.refl _ _) (ye _) (by simp) ?_;(case hd|hg => rfl);(case hr => go_simp <;> rfl);(case hp => exact (Reps.one (show Kd.M (Kd.int .u8) _ _ _ (((a1_2.size : Int) / 256) % 256) [.int .u8 (((a1_2.size : Int) / 256) % 256)] from rfl) (Reps.one (show Kd.M (Kd.int .u8) _ _ _ (((a1_2.size : Int)) % 256) [.int .u8 (((a1_2.size : Int)) % 256)] from rfl) (Reps.none _ _))));intro v491 w42 ho43 hb hg_ hnew_;clear hg_ hnew_;(first|rw [← Ny490.out] at ho43|(simp only [Int.reduceToNat] at ho43;rw [← Ny490.out] at ho43));have HO492:=zh (yy (Kd.R_new' (Kd.R_newM (M:=fun k_ => (P0_ k_∨w.heap.size≤k_)) ho43 (by first|exact HK.out.1|exact (show Kept w _ (fun k_ => P0_ k_) from by repeat (with_reducible first|exact HK.out|apply zr|apply zp|apply zq|refine zs ?_ (.inr GW468.out) _)).1) (fun k_ h_ => .inr h_)) (Kd.R_lt (by (with_reducible repeat (first|apply zm|apply zn|apply zo));exact HO471.out))) (zB (by repeat (with_reducible first|exact HB.out|apply za|apply zb|apply zc|refine zd ?_ GE468.out))));replace HO471:=zh (Kd.R_elder' (by (with_reducible repeat (first|apply zm|apply zn|apply zo));exact HO471.out) (Kd.R_base ho43) hb);replace BK468:=zh (cD BK468.out (by (with_reducible repeat first|apply ze|apply zf|apply zg);exact BK468.out) hb);replace HK:=zh (Kept.below (S:=(fun k_ => P0_ k_)) (by repeat (with_reducible first|exact HK.out|apply zr|apply zp|apply zq|refine zs ?_ (.inr GW468.out) _)) hb);replace HB:=zh (zC (by repeat (with_reducible first|exact HB.out|apply za|apply zb|apply zc|refine zd ?_ GE468.out)) hb);clear hb ho43;obtain ⟨Ao45,co45,eo45⟩:=yk HO492.out;(first|subst eo45|(injection eo45 with f1_ f2_ f3_;have f4_:=f1_.symm;have f5_:=f3_.symm;clear f1_ f2_ f3_;subst f4_;subst f5_));refine hK.out _ _ ⟨(zz BK468.out 0).trans rfl,(zz BK468.out 1).trans rfl,(zz BK468.out 2).trans rfl⟩ (fun hHeld => ?_);clear hK K;refine norm_ (a':=?_) ?_ ?_;rotate_left
     ·
      show Act.put _ (some 43) _=_
      simp only [Act.put,zi,zj,zk,zG,zH]
      rfl
     refine one_ (i:=11) (N:=some 44) (bm_ 14 16) rfl rfl (one_of HT_.out (by kernel_rfl)) (by decide) (fun K hK => ?_);refine Kd.R_append_rows_step (Kd.int .u8) (w0:=w0) w0.heap.size (by rfl) (.tmp 33) (.tmp 43) 66 5 (.int .u8 0) 1 rfl Try.underlying66 info5 rfl (by decide) (by omega) v470 y469 y490 _ _ _ (fun k_ => (P0_ k_∨w.heap.size≤k_)∧some k_≠(.slice Ao45 y490.length co45 : Value).ownBlock) (fun _ => False) rfl rfl ?aO ?aR (fun _ _ h => h) (fun _ h => h.elim) ?aF ?aB ?aS ?aL ?_;(case aR => repeat (first|exact (yh HO492.out).2.2|(with_reducible refine Kd.C_alloc ?_ _)|(with_reducible refine Kd.C_drewN ?_ _)|(with_reducible refine Kd.C_drew ?_)))
     (case aB => exact (by repeat (with_reducible first|exact HB.out|apply za|apply zb|apply zc|refine zd ?_ GE468.out)))
     (case aF => exact (fun k_ hk => ⟨(.inr (Nat.le_trans (by first|exact HK.out.1|exact (show Kept w _ (fun k_ => P0_ k_) from by repeat (with_reducible first|exact HK.out|apply zr|apply zp|apply zq|refine zs ?_ (.inr GW468.out) _)).1) hk)),Kd.fresh' (Kd.R_lt (by (with_reducible repeat (first|apply zm|apply zn|apply zo));exact HO492.out)) k_ hk⟩))
     (case aO => exact (by (with_reducible repeat (first|apply zm|apply zn|apply zo));exact HO471.out))
     (case aS => exact (zB (by repeat (with_reducible first|exact HB.out|apply za|apply zb|apply zc|refine zd ?_ GE468.out))))
     (case aL => have:=LMc35.out;omega)
     intro v494 w44 ho hb hg hat;rw [← Ny493.out] at ho;replace BK468:=zh (yw (g:=gb468) (o:=.cells #[.int .i64 a1_0,.int .i64 a1_1,.string a1_2] 27 (0,0)) (by (with_reducible repeat first|apply ze|apply zf|apply zg);exact BK468.out) hg (Kd.R_ne HO471.out BK468.out (by decide)));replace HO492:=zh (Kd.R_after (ok:=(fun k_ => (P0_ k_∨w.heap.size≤k_))) (by (with_reducible repeat (first|apply zm|apply zn|apply zo));exact zM HO492.out (fun _ hk => ⟨hk.1.1,hk.2⟩)) hg hat);replace HB:=zh (hb);replace HK:=zh (yA (S:=(fun k_ => P0_ k_)) hg (by repeat (with_reducible first|exact HK.out|apply zr|apply zp|apply zq|refine zs ?_ (.inr GW468.out) _)) (fun k_ e_ => (HO471.out.1 k_ e_).1));have HO495:=zh (ho);clear HO471 ho hb hg hat;refine hK.out _ _ ⟨(zz BK468.out 0).trans rfl,(zz BK468.out 1).trans rfl,(zz BK468.out 2).trans rfl⟩ (fun hHeld => ?_);clear hK K;refine norm_ (a':=?_) ?_ ?_;rotate_left
     ·
      show Act.put _ (some 44) _=_
      simp only [Act.put,zi,zj,zk,zG,zH]
      rfl
     refine one_ (i:=14) (N:=some 47) (bm_ 15 16) rfl rfl (one_of HT_.out (by kernel_rfl)) (by decide) (fun K hK => ?_);refine print_append_str_go (w0:=w0) w0.heap.size (by rfl) (.tmp 44) _ 66 9 5 rfl Try.underlying66 Try.underlying9 info5 v494 y493 a1_2 rfl rfl ?aO ?aB ?aS ?aL ?_;(case aB => exact (by repeat (with_reducible first|exact HB.out|apply za|apply zb|apply zc|refine zd ?_ GE468.out)))
     (case aO => exact (Kd.own_of_R (by (with_reducible repeat (first|apply zm|apply zn|apply zo));exact zM HO495.out (fun _ hk => hk.1))))
     (case aS => exact (zB (by repeat (with_reducible first|exact HB.out|apply za|apply zb|apply zc|refine zd ?_ GE468.out))))
     (case aL => have:=LMc36.out;omega)
     intro v497 w46 ho0 hb hg hat;have ho:=Kd.R_of_own (h1:=fun _ => rfl) (ok:=(fun k_ => (P0_ k_∨w.heap.size≤k_))) ho0 (fun k_ e_ => hat.elim (fun h_ => (zM HO495.out (fun _ hk => hk.1)).1 k_ (h_.symm.trans e_)) (fun ⟨b_,h_,hb_⟩ => (fun k_ hk => (.inr (Nat.le_trans (by first|exact HK.out.1|exact (show Kept w _ (fun k_ => P0_ k_) from by repeat (with_reducible first|exact HK.out|apply zr|apply zp|apply zq|refine zs ?_ (.inr GW468.out) _)).1) hk))) k_ (zU (h_.symm.trans e_) ▸ hb_)));clear ho0;rw [← Ny496.out] at ho;change Kd.R (Kd.int .u8) 5 w46 w0.heap.size (fun k_ => (P0_ k_∨w.heap.size≤k_)) v497 y496 at ho;replace BK468:=zh (yw (g:=gb468) (o:=.cells #[.int .i64 a1_0,.int .i64 a1_1,.string a1_2] 27 (0,0)) (by (with_reducible repeat first|apply ze|apply zf|apply zg);exact BK468.out) hg (Kd.R_ne HO495.out BK468.out (by decide)));replace HB:=zh (hb);replace HK:=zh (yA (S:=(fun k_ => P0_ k_)) hg (by repeat (with_reducible first|exact HK.out|apply zr|apply zp|apply zq|refine zs ?_ (.inr GW468.out) _)) (fun k_ e_ => (HO495.out.1 k_ e_).1));have HO498:=zh (ho);clear HO495 ho hb hg hat;refine hK.out _ _ ⟨(zz BK468.out 0).trans rfl,(zz BK468.out 1).trans rfl,(zz BK468.out 2).trans rfl⟩ (fun hHeld => ?_);clear hK K;refine norm_ (a':=?_) ?_ ?_;rotate_left
     ·
      show Act.put _ (some 47) _=_
      simp only [Act.put,zi,zj,zk,zG,zH]
      rfl
     refine pure_ (i:=15) (N:=some 4) (v:=?_) (a':=?_) (bm_ 16 16) rfl rfl (any_of HT_.out (by kernel_rfl)) (fun _ _ _ h => h) (Or.inl ⟨by rfl,?_⟩) ?_ ?_;rotate_left
     ·
      intro w'
      go_simp
      with_reducible rfl
     rotate_left
     ·
      simp only [Act.put,zi,zj,zk,zG,zH]
      rfl
     refine done_ (done_of HT_.out (by kernel_rfl)) ?_
     try go_wp2
     go_ret
     exact ⟨_,by first|rfl|(simp [yt,yu] <;> rfl)|(simp [*,yt,yu] <;> rfl),by (with_reducible repeat (first|apply zm|apply zn|apply zo));exact HO498.out,by repeat (with_reducible first|exact HB.out|apply za|apply zb|apply zc|refine zd ?_ GE468.out),by repeat (with_reducible first|exact HK.out|apply zr|apply zp|apply zq|refine zs ?_ (.inr GW468.out) _)⟩
    rw [if_neg c36] at H;exact absurd H (by simp)
   rw [if_neg c35] at H;exact absurd H (by simp)
  rw [if_neg c34] at H;have c34b0 : (a1_0 == 4)=false:=zY.mpr c34;have c34b1 : (a1_0 != 4)=true:=zZ.mpr c34
  by_cases c47 : a1_0=5
  ·
   rw [if_pos c47] at H
   have c47b0 : (a1_0 == 5)=true:=ya.mpr c47;have c47b1 : (a1_0 != 5)=false:=zX.mpr c47;clear c47;obtain ⟨y499,hy499⟩ : ∃ y_ : List Int,y_=(([((a1_2.size : Int) / 256) % 256,((a1_2.size : Int)) % 256] : List Int)):=⟨_,rfl⟩;replace H : (if y469.length + y499.length<140737488355328 then ((some (y469 ++ y499 : List Int)).bind fun y502 => (if y502.length + a1_2.size<140737488355328 then (some (y502 ++ bytesOf a1_2)) else (none))) else (none))=some r:=by first|(rw [hy499];with_reducible exact H)|(have H2_:=(Option.bind_some _ _).symm.trans H;rw [hy499];with_reducible exact H2_)|(have H2_:=(Option.bind_some _ _).symm.trans H;with_reducible exact H2_)|with_reducible exact H|(rw [hy499];exact H)|exact H
   have Ny499:=zh hy499;clear hy499
   by_cases c48 : y469.length + y499.length<140737488355328
   ·
    rw [if_pos c48] at H
    have LMc48:=zh c48;clear c48;obtain ⟨y502,hy502⟩ : ∃ y_ : List Int,y_=(y469 ++ y499):=⟨_,rfl⟩;replace H : (if y502.length + a1_2.size<140737488355328 then (some (y502 ++ bytesOf a1_2)) else (none))=some r:=by first|(rw [hy502];with_reducible exact H)|(have H2_:=(Option.bind_some _ _).symm.trans H;rw [hy502];with_reducible exact H2_)|(have H2_:=(Option.bind_some _ _).symm.trans H;with_reducible exact H2_)|with_reducible exact H|(rw [hy502];exact H)|exact H
    have Ny502:=zh hy502;clear hy502
    by_cases c49 : y502.length + a1_2.size<140737488355328
    ·
     rw [if_pos c49] at H
     have LMc49:=zh c49;clear c49;obtain ⟨y505,hy505⟩ : ∃ y_ : List Int,y_=(y502 ++ bytesOf a1_2):=⟨_,rfl⟩;replace H : (some y505)=some r:=by first|(rw [hy505];with_reducible exact H)|(have H2_:=(Option.bind_some _ _).symm.trans H;rw [hy505];with_reducible exact H2_)|(have H2_:=(Option.bind_some _ _).symm.trans H;with_reducible exact H2_)|with_reducible exact H|(rw [hy505];exact H)|exact H
     have Ny505:=zh hy505;clear hy505;obtain rfl:=zU H
     go_enter Try.func63,Try.ntmps63
     try go_wp2_with (first|((with_reducible refine zK (N:=3) rfl ?_);refine zI ?hg (N:=3) ?hd (cs:=#[.int .i64 a1_0,.int .i64 a1_1,.string a1_2]) (t:=27) ?hr ?_;(case hd|hg => rfl);(case hr => go_simp <;> rfl);intro gb468 hg w50 hbox hb;replace HO0:=zh (yg (by (with_reducible repeat (first|apply zm|apply zn|apply zo));exact HO0.out) hb);have BK468:=zh (hbox);have GW468:=zh ((by rw [hg];exact (by first|exact HK.out.1|exact (show Kept w _ (fun k_ => P0_ k_) from by repeat (with_reducible first|exact HK.out|apply zr|apply zp|apply zq)).1) : w.heap.size≤gb468));replace HK:=zh (Kept.below (S:=(fun k_ => P0_ k_)) (by repeat (with_reducible first|exact HK.out|apply zr|apply zp|apply zq)) hb);have GE468:=zh ((by rw [hg];exact (zB (by repeat (with_reducible first|exact HB.out|apply za|apply zb|apply zc))) : w0.heap.size≤gb468));replace HB:=zh (zC (by repeat (with_reducible first|exact HB.out|apply za|apply zb|apply zc)) hb);clear hb hbox hg;obtain ⟨hcz51_0,hcz51_1,hcz51_2,hfz51_0,hfz51_1,hfz51_2⟩:=cB3 BK468.out)|((with_reducible refine yB (b:=.append) (xs:=#[.tmp 5,.tmp 9]) rfl ?_);at_builtin;refine Kd.R_append (Kd.int .u8) (w0:=w0) w0.heap.size rfl (.tmp 5) (.tmp 9) 66 5 (.int .u8 0) 1 rfl Try.underlying66 info5 rfl (by decide) (by omega) u9000_ l0 ((a1_0) % 256) [.int .u8 ((a1_0) % 256)] (fun k_ => (P0_ k_∨w.heap.size≤k_)) (fun _ => False) rfl rfl ?aP (fun _ hk => hk.elim) ?aF ?aO ?aB ?aS ?aL ?_;(case aP => exact rfl);(case aB => exact (by repeat (with_reducible first|exact HB.out|apply za|apply zb|apply zc|refine zd ?_ GE468.out)));(case aF => exact (fun k_ hk => (.inr (Nat.le_trans (by first|exact HK.out.1|exact (show Kept w _ (fun k_ => P0_ k_) from by repeat (with_reducible first|exact HK.out|apply zr|apply zp|apply zq|refine zs ?_ (.inr GW468.out) _)).1) hk))));(case aO => exact (by (with_reducible repeat (first|apply zm|apply zn|apply zo));exact HO0.out));(case aS => exact (zB (by repeat (with_reducible first|exact HB.out|apply za|apply zb|apply zc|refine zd ?_ GE468.out))));(case aL => have:=LMc3.out;omega);intro v470 w52 ho hb hg hat;rw [← Ny469.out] at ho;replace BK468:=zh (yw (g:=gb468) (o:=.cells #[.int .i64 a1_0,.int .i64 a1_1,.string a1_2] 27 (0,0)) (by (with_reducible repeat first|apply ze|apply zf|apply zg);exact BK468.out) hg (Kd.R_ne HO0.out BK468.out (by decide)));replace HB:=zh (hb);replace HK:=zh (yA (S:=(fun k_ => P0_ k_)) hg (by repeat (with_reducible first|exact HK.out|apply zr|apply zp|apply zq|refine zs ?_ (.inr GW468.out) _)) (fun k_ e_ => (HO0.out.1 k_ e_)));have HO471:=zh (ho);clear HO0 ho hb hg hat;obtain ⟨hcz53_0,hcz53_1,hcz53_2,hfz53_0,hfz53_1,hfz53_2⟩:=cB3 BK468.out))
     replace HO471:=zh (zo HO471.out);replace BK468:=zh (zf BK468.out);replace HK:=zh (zq HK.out);replace HB:=zh (zc HB.out);refine start_ (n:=16) (S:=fun w' => w'.cell? ⟨gb468,0,none⟩=some (.int .i64 a1_0)∧w'.cell? ⟨gb468,1,none⟩=some (.int .i64 a1_1)∧w'.cell? ⟨gb468,2,none⟩=some (.string a1_2)) (ds:=[]) (bm_ 0 16) (by kernel_rfl) rfl rfl ⟨(zz BK468.out 0).trans rfl,(zz BK468.out 1).trans rfl,(zz BK468.out 2).trans rfl⟩ (fun hHeld => ?_);refine with_tabW Fw.tab10 Fw.bits10 (fun HT_ HW_ => ?_);generalize w52.drew=w54 at HO471 BK468 HK HB hHeld ⊢;refine pure_ (i:=0) (N:=some 33) (v:=?_) (a':=?_) (bm_ 1 16) rfl rfl (any_of HT_.out (by kernel_rfl)) (fun _ _ _ h => h) (Or.inl ⟨by rfl,?_⟩) ?_ ?_;rotate_left
     ·
      intro w'
      go_simp
      with_reducible rfl
     rotate_left
     ·
      simp only [Act.put,zi,zj,zk,zG,zH]
      rfl
     refine pure_ (i:=1) (N:=some 34) (v:=?_) (a':=?_) (bm_ 2 16) rfl rfl (any_of HT_.out (by kernel_rfl)) (fun _ _ _ h => h) (Or.inl ⟨by rfl,?_⟩) ?_ ?_;rotate_left
     ·
      intro w'
      go_simp
      with_reducible rfl
     rotate_left
     ·
      simp only [Act.put,zi,zj,zk,zG,zH]
      rfl
     refine pure_ (i:=6) (N:=some 39) (v:=?_) (a':=?_) #[true,true,false,false,false,false,true,false,false,false,false,false,false,false,false,false] rfl rfl (any_of HT_.out (by kernel_rfl)) (fun _ _ _ h => h) (Or.inl ⟨by rfl,?_⟩) ?_ ?_;rotate_left
     ·
      intro w'
      go_simp
      with_reducible rfl
     rotate_left
     ·
      simp only [Act.put,zi,zj,zk,zG,zH]
      rfl
     refine pure_ (i:=12) (N:=some 45) (v:=?_) (a':=?_) #[true,true,false,false,false,false,true,false,false,false,false,false,true,false,false,false] rfl rfl (any_of HT_.out (by kernel_rfl)) (fun _ _ _ h => h) (Or.inl ⟨by rfl,?_⟩) ?_ ?_;rotate_left
     ·
      intro w'
      go_simp
      with_reducible rfl
     rotate_left
     ·
      simp only [Act.put,zi,zj,zk,zG,zH]
      rfl
     refine take_ (i:=2) (N:=some 35) (v:=?_) (a':=?_) #[true,true,true,false,false,false,true,false,false,false,false,false,true,false,false,false] rfl rfl (yo HT_.out HW_.out (by kernel_rfl)) (fun _ _ _ h => h) (Or.inl ⟨by rfl,?_⟩) hHeld ?_ ?_;rotate_left
     ·
      rintro w' ⟨s0,s1,s2⟩
      go_simp
      with_reducible rfl
     rotate_left
     ·
      simp only [Act.put,zi,zj,zk,zG,zH]
      rfl
     refine pure_ (i:=3) (N:=some 36) (v:=?_) (a':=?_) #[true,true,true,true,false,false,true,false,false,false,false,false,true,false,false,false] rfl rfl (any_of HT_.out (by kernel_rfl)) (fun _ _ _ h => h) (Or.inl ⟨by rfl,?_⟩) ?_ ?_;rotate_left
     ·
      intro w'
      go_simp
      with_reducible rfl
     rotate_left
     ·
      simp only [Act.put,zi,zj,zk,zG,zH]
      rfl
     refine pure_ (i:=4) (N:=some 37) (v:=?_) (a':=?_) #[true,true,true,true,true,false,true,false,false,false,false,false,true,false,false,false] rfl rfl (any_of HT_.out (by kernel_rfl)) (fun _ _ _ h => h) (Or.inl ⟨by rfl,?_⟩) ?_ ?_;rotate_left
     ·
      intro w'
      go_simp
      with_reducible rfl
     rotate_left
     ·
      simp only [Act.put,zi,zj,zk,zG,zH]
      rfl
     refine pure_ (i:=5) (N:=some 38) (v:=?_) (a':=?_) #[true,true,true,true,true,true,true,false,false,false,false,false,true,false,false,false] rfl rfl (any_of HT_.out (by kernel_rfl)) (fun _ _ _ h => h) (Or.inl ⟨by rfl,?_⟩) ?_ ?_;rotate_left
     ·
      intro w'
      go_simp
      with_reducible rfl
     rotate_left
     ·
      simp only [Act.put,zi,zj,zk,zG,zH]
      rfl
     refine take_ (i:=7) (N:=some 40) (v:=?_) (a':=?_) #[true,true,true,true,true,true,true,true,false,false,false,false,true,false,false,false] rfl rfl (yo HT_.out HW_.out (by kernel_rfl)) (fun _ _ _ h => h) (Or.inl ⟨by rfl,?_⟩) hHeld ?_ ?_;rotate_left
     ·
      rintro w' ⟨s0,s1,s2⟩
      go_simp
      with_reducible rfl
     rotate_left
     ·
      simp only [Act.put,zi,zj,zk,zG,zH]
      rfl
     refine pure_ (i:=8) (N:=some 41) (v:=?_) (a':=?_) #[true,true,true,true,true,true,true,true,true,false,false,false,true,false,false,false] rfl rfl (any_of HT_.out (by kernel_rfl)) (fun _ _ _ h => h) (Or.inl ⟨by rfl,?_⟩) ?_ ?_;rotate_left
     ·
      intro w'
      go_simp
      with_reducible rfl
     rotate_left
     ·
      simp only [Act.put,zi,zj,zk,zG,zH]
      rfl
     refine pure_ (i:=9) (N:=some 42) (v:=?_) (a':=?_) #[true,true,true,true,true,true,true,true,true,true,false,false,true,false,false,false] rfl rfl (any_of HT_.out (by kernel_rfl)) (fun _ _ _ h => h) (Or.inl ⟨by rfl,?_⟩) ?_ ?_;rotate_left
     ·
      intro w'
      go_simp
      with_reducible rfl
     rotate_left
     ·
      simp only [Act.put,zi,zj,zk,zG,zH]
      rfl
     refine take_ (i:=13) (N:=some 46) (v:=?_) (a':=?_) #[true,true,true,true,true,true,true,true,true,true,false,false,true,true,false,false] rfl rfl (yo HT_.out HW_.out (by kernel_rfl)) (fun _ _ _ h => h) (Or.inl ⟨by rfl,?_⟩) hHeld ?_ ?_;rotate_left
     ·
      rintro w' ⟨s0,s1,s2⟩
      go_simp
      with_reducible rfl
     rotate_left
     ·
      simp only [Act.put,zi,zj,zk,zG,zH]
      rfl
     refine one_ (i:=10) (N:=some 43) #[true,true,true,true,true,true,true,true,true,true,true,false,true,true,false,false] rfl rfl (one_of HT_.out (by kernel_rfl)) (by decide) (fun K hK => ?_);refine Kd.R_lit_step (Kd.int .u8) _ 5 ?hg (N:=43) ?hd (xs:=([((a1_2.size : Int) / 256) % 256,((a1_2.size : Int)) % 256] : List Int)) (inner:=[.int .u8 (((a1_2.size : Int) / 256) % 256),.int .u8 (((a1_2.size : Int)) % 256)]) (ok:=fun _ => True) (okp:=fun _ => True) ?hr ?hp (fun _ hk => hk) trivial (Below.refl _ _) (ye _) (by simp) ?_;(case hd|hg => rfl);(case hr => go_simp <;> rfl);(case hp => exact (Reps.one (show Kd.M (Kd.int .u8) _ _ _ (((a1_2.size : Int) / 256) % 256) [.int .u8 (((a1_2.size : Int) / 256) % 256)] from rfl) (Reps.one (show Kd.M (Kd.int .u8) _ _ _ (((a1_2.size : Int)) % 256) [.int .u8 (((a1_2.size : Int)) % 256)] from rfl) (Reps.none _ _))));intro v500 w55 ho56 hb hg_ hnew_;clear hg_ hnew_;(first|rw [← Ny499.out] at ho56|(simp only [Int.reduceToNat] at ho56;rw [← Ny499.out] at ho56));have HO501:=zh (yy (Kd.R_new' (Kd.R_newM (M:=fun k_ => (P0_ k_∨w.heap.size≤k_)) ho56 (by first|exact HK.out.1|exact (show Kept w _ (fun k_ => P0_ k_) from by repeat (with_reducible first|exact HK.out|apply zr|apply zp|apply zq|refine zs ?_ (.inr GW468.out) _)).1) (fun k_ h_ => .inr h_)) (Kd.R_lt (by (with_reducible repeat (first|apply zm|apply zn|apply zo));exact HO471.out))) (zB (by repeat (with_reducible first|exact HB.out|apply za|apply zb|apply zc|refine zd ?_ GE468.out))));replace HO471:=zh (Kd.R_elder' (by (with_reducible repeat (first|apply zm|apply zn|apply zo));exact HO471.out) (Kd.R_base ho56) hb);replace BK468:=zh (cD BK468.out (by (with_reducible repeat first|apply ze|apply zf|apply zg);exact BK468.out) hb);replace HK:=zh (Kept.below (S:=(fun k_ => P0_ k_)) (by repeat (with_reducible first|exact HK.out|apply zr|apply zp|apply zq|refine zs ?_ (.inr GW468.out) _)) hb);replace HB:=zh (zC (by repeat (with_reducible first|exact HB.out|apply za|apply zb|apply zc|refine zd ?_ GE468.out)) hb);clear hb ho56;obtain ⟨Ao58,co58,eo58⟩:=yk HO501.out;(first|subst eo58|(injection eo58 with f1_ f2_ f3_;have f4_:=f1_.symm;have f5_:=f3_.symm;clear f1_ f2_ f3_;subst f4_;subst f5_));refine hK.out _ _ ⟨(zz BK468.out 0).trans rfl,(zz BK468.out 1).trans rfl,(zz BK468.out 2).trans rfl⟩ (fun hHeld => ?_);clear hK K;refine norm_ (a':=?_) ?_ ?_;rotate_left
     ·
      show Act.put _ (some 43) _=_
      simp only [Act.put,zi,zj,zk,zG,zH]
      rfl
     refine one_ (i:=11) (N:=some 44) (bm_ 14 16) rfl rfl (one_of HT_.out (by kernel_rfl)) (by decide) (fun K hK => ?_);refine Kd.R_append_rows_step (Kd.int .u8) (w0:=w0) w0.heap.size (by rfl) (.tmp 33) (.tmp 43) 66 5 (.int .u8 0) 1 rfl Try.underlying66 info5 rfl (by decide) (by omega) v470 y469 y499 _ _ _ (fun k_ => (P0_ k_∨w.heap.size≤k_)∧some k_≠(.slice Ao58 y499.length co58 : Value).ownBlock) (fun _ => False) rfl rfl ?aO ?aR (fun _ _ h => h) (fun _ h => h.elim) ?aF ?aB ?aS ?aL ?_;(case aR => repeat (first|exact (yh HO501.out).2.2|(with_reducible refine Kd.C_alloc ?_ _)|(with_reducible refine Kd.C_drewN ?_ _)|(with_reducible refine Kd.C_drew ?_)))
     (case aB => exact (by repeat (with_reducible first|exact HB.out|apply za|apply zb|apply zc|refine zd ?_ GE468.out)))
     (case aF => exact (fun k_ hk => ⟨(.inr (Nat.le_trans (by first|exact HK.out.1|exact (show Kept w _ (fun k_ => P0_ k_) from by repeat (with_reducible first|exact HK.out|apply zr|apply zp|apply zq|refine zs ?_ (.inr GW468.out) _)).1) hk)),Kd.fresh' (Kd.R_lt (by (with_reducible repeat (first|apply zm|apply zn|apply zo));exact HO501.out)) k_ hk⟩))
     (case aO => exact (by (with_reducible repeat (first|apply zm|apply zn|apply zo));exact HO471.out))
     (case aS => exact (zB (by repeat (with_reducible first|exact HB.out|apply za|apply zb|apply zc|refine zd ?_ GE468.out))))
     (case aL => have:=LMc48.out;omega)
     intro v503 w57 ho hb hg hat;rw [← Ny502.out] at ho;replace BK468:=zh (yw (g:=gb468) (o:=.cells #[.int .i64 a1_0,.int .i64 a1_1,.string a1_2] 27 (0,0)) (by (with_reducible repeat first|apply ze|apply zf|apply zg);exact BK468.out) hg (Kd.R_ne HO471.out BK468.out (by decide)));replace HO501:=zh (Kd.R_after (ok:=(fun k_ => (P0_ k_∨w.heap.size≤k_))) (by (with_reducible repeat (first|apply zm|apply zn|apply zo));exact zM HO501.out (fun _ hk => ⟨hk.1.1,hk.2⟩)) hg hat);replace HB:=zh (hb);replace HK:=zh (yA (S:=(fun k_ => P0_ k_)) hg (by repeat (with_reducible first|exact HK.out|apply zr|apply zp|apply zq|refine zs ?_ (.inr GW468.out) _)) (fun k_ e_ => (HO471.out.1 k_ e_).1));have HO504:=zh (ho);clear HO471 ho hb hg hat;refine hK.out _ _ ⟨(zz BK468.out 0).trans rfl,(zz BK468.out 1).trans rfl,(zz BK468.out 2).trans rfl⟩ (fun hHeld => ?_);clear hK K;refine norm_ (a':=?_) ?_ ?_;rotate_left
     ·
      show Act.put _ (some 44) _=_
      simp only [Act.put,zi,zj,zk,zG,zH]
      rfl
     refine one_ (i:=14) (N:=some 47) (bm_ 15 16) rfl rfl (one_of HT_.out (by kernel_rfl)) (by decide) (fun K hK => ?_);refine print_append_str_go (w0:=w0) w0.heap.size (by rfl) (.tmp 44) _ 66 9 5 rfl Try.underlying66 Try.underlying9 info5 v503 y502 a1_2 rfl rfl ?aO ?aB ?aS ?aL ?_;(case aB => exact (by repeat (with_reducible first|exact HB.out|apply za|apply zb|apply zc|refine zd ?_ GE468.out)))
     (case aO => exact (Kd.own_of_R (by (with_reducible repeat (first|apply zm|apply zn|apply zo));exact zM HO504.out (fun _ hk => hk.1))))
     (case aS => exact (zB (by repeat (with_reducible first|exact HB.out|apply za|apply zb|apply zc|refine zd ?_ GE468.out))))
     (case aL => have:=LMc49.out;omega)
     intro v506 w59 ho0 hb hg hat;have ho:=Kd.R_of_own (h1:=fun _ => rfl) (ok:=(fun k_ => (P0_ k_∨w.heap.size≤k_))) ho0 (fun k_ e_ => hat.elim (fun h_ => (zM HO504.out (fun _ hk => hk.1)).1 k_ (h_.symm.trans e_)) (fun ⟨b_,h_,hb_⟩ => (fun k_ hk => (.inr (Nat.le_trans (by first|exact HK.out.1|exact (show Kept w _ (fun k_ => P0_ k_) from by repeat (with_reducible first|exact HK.out|apply zr|apply zp|apply zq|refine zs ?_ (.inr GW468.out) _)).1) hk))) k_ (zU (h_.symm.trans e_) ▸ hb_)));clear ho0;rw [← Ny505.out] at ho;change Kd.R (Kd.int .u8) 5 w59 w0.heap.size (fun k_ => (P0_ k_∨w.heap.size≤k_)) v506 y505 at ho;replace BK468:=zh (yw (g:=gb468) (o:=.cells #[.int .i64 a1_0,.int .i64 a1_1,.string a1_2] 27 (0,0)) (by (with_reducible repeat first|apply ze|apply zf|apply zg);exact BK468.out) hg (Kd.R_ne HO504.out BK468.out (by decide)));replace HB:=zh (hb);replace HK:=zh (yA (S:=(fun k_ => P0_ k_)) hg (by repeat (with_reducible first|exact HK.out|apply zr|apply zp|apply zq|refine zs ?_ (.inr GW468.out) _)) (fun k_ e_ => (HO504.out.1 k_ e_).1));have HO507:=zh (ho);clear HO504 ho hb hg hat;refine hK.out _ _ ⟨(zz BK468.out 0).trans rfl,(zz BK468.out 1).trans rfl,(zz BK468.out 2).trans rfl⟩ (fun hHeld => ?_);clear hK K;refine norm_ (a':=?_) ?_ ?_;rotate_left
     ·
      show Act.put _ (some 47) _=_
      simp only [Act.put,zi,zj,zk,zG,zH]
      rfl
     refine pure_ (i:=15) (N:=some 4) (v:=?_) (a':=?_) (bm_ 16 16) rfl rfl (any_of HT_.out (by kernel_rfl)) (fun _ _ _ h => h) (Or.inl ⟨by rfl,?_⟩) ?_ ?_;rotate_left
     ·
      intro w'
      go_simp
      with_reducible rfl
     rotate_left
     ·
      simp only [Act.put,zi,zj,zk,zG,zH]
      rfl
     refine done_ (done_of HT_.out (by kernel_rfl)) ?_
     try go_wp2
     go_ret
     exact ⟨_,by first|rfl|(simp [yt,yu] <;> rfl)|(simp [*,yt,yu] <;> rfl),by (with_reducible repeat (first|apply zm|apply zn|apply zo));exact HO507.out,by repeat (with_reducible first|exact HB.out|apply za|apply zb|apply zc|refine zd ?_ GE468.out),by repeat (with_reducible first|exact HK.out|apply zr|apply zp|apply zq|refine zs ?_ (.inr GW468.out) _)⟩
    rw [if_neg c49] at H;exact absurd H (by simp)
   rw [if_neg c48] at H;exact absurd H (by simp)
  rw [if_neg c47] at H;have c47b0 : (a1_0 == 5)=false:=zY.mpr c47;have c47b1 : (a1_0 != 5)=true:=zZ.mpr c47;obtain rfl:=zU H
  go_enter Try.func63,Try.ntmps63
  go_wp2_with (first|((with_reducible refine zK (N:=3) rfl ?_);refine zI ?hg (N:=3) ?hd (cs:=#[.int .i64 a1_0,.int .i64 a1_1,.string a1_2]) (t:=27) ?hr ?_;(case hd|hg => rfl);(case hr => go_simp <;> rfl);intro gb468 hg w60 hbox hb;replace HO0:=zh (yg (by (with_reducible repeat (first|apply zm|apply zn|apply zo));exact HO0.out) hb);have BK468:=zh (hbox);have GW468:=zh ((by rw [hg];exact (by first|exact HK.out.1|exact (show Kept w _ (fun k_ => P0_ k_) from by repeat (with_reducible first|exact HK.out|apply zr|apply zp|apply zq)).1) : w.heap.size≤gb468));replace HK:=zh (Kept.below (S:=(fun k_ => P0_ k_)) (by repeat (with_reducible first|exact HK.out|apply zr|apply zp|apply zq)) hb);have GE468:=zh ((by rw [hg];exact (zB (by repeat (with_reducible first|exact HB.out|apply za|apply zb|apply zc))) : w0.heap.size≤gb468));replace HB:=zh (zC (by repeat (with_reducible first|exact HB.out|apply za|apply zb|apply zc)) hb);clear hb hbox hg;obtain ⟨hcz61_0,hcz61_1,hcz61_2,hfz61_0,hfz61_1,hfz61_2⟩:=cB3 BK468.out)|((with_reducible refine yB (b:=.append) (xs:=#[.tmp 5,.tmp 9]) rfl ?_);at_builtin;refine Kd.R_append (Kd.int .u8) (w0:=w0) w0.heap.size rfl (.tmp 5) (.tmp 9) 66 5 (.int .u8 0) 1 rfl Try.underlying66 info5 rfl (by decide) (by omega) u9000_ l0 ((a1_0) % 256) [.int .u8 ((a1_0) % 256)] (fun k_ => (P0_ k_∨w.heap.size≤k_)) (fun _ => False) rfl rfl ?aP (fun _ hk => hk.elim) ?aF ?aO ?aB ?aS ?aL ?_;(case aP => exact rfl);(case aB => exact (by repeat (with_reducible first|exact HB.out|apply za|apply zb|apply zc|refine zd ?_ GE468.out)));(case aF => exact (fun k_ hk => (.inr (Nat.le_trans (by first|exact HK.out.1|exact (show Kept w _ (fun k_ => P0_ k_) from by repeat (with_reducible first|exact HK.out|apply zr|apply zp|apply zq|refine zs ?_ (.inr GW468.out) _)).1) hk))));(case aO => exact (by (with_reducible repeat (first|apply zm|apply zn|apply zo));exact HO0.out));(case aS => exact (zB (by repeat (with_reducible first|exact HB.out|apply za|apply zb|apply zc|refine zd ?_ GE468.out))));(case aL => have:=LMc3.out;omega);intro v470 w62 ho hb hg hat;rw [← Ny469.out] at ho;replace BK468:=zh (yw (g:=gb468) (o:=.cells #[.int .i64 a1_0,.int .i64 a1_1,.string a1_2] 27 (0,0)) (by (with_reducible repeat first|apply ze|apply zf|apply zg);exact BK468.out) hg (Kd.R_ne HO0.out BK468.out (by decide)));replace HB:=zh (hb);replace HK:=zh (yA (S:=(fun k_ => P0_ k_)) hg (by repeat (with_reducible first|exact HK.out|apply zr|apply zp|apply zq|refine zs ?_ (.inr GW468.out) _)) (fun k_ e_ => (HO0.out.1 k_ e_)));have HO471:=zh (ho);clear HO0 ho hb hg hat;obtain ⟨hcz63_0,hcz63_1,hcz63_2,hfz63_0,hfz63_1,hfz63_2⟩:=cB3 BK468.out))
  go_ret
  exact ⟨_,by first|rfl|(simp [yt,yu] <;> rfl)|(simp [*,yt,yu] <;> rfl),by (with_reducible repeat (first|apply zm|apply zn|apply zo));exact HO471.out,by repeat (with_reducible first|exact HB.out|apply za|apply zb|apply zc|refine zd ?_ GE468.out),by repeat (with_reducible first|exact HK.out|apply zr|apply zp|apply zq|refine zs ?_ (.inr GW468.out) _)⟩
 rw [if_neg c3] at H;exact absurd H (by simp)


def Fh.l0 : Nat→List Int→List (S54)→Int→Int→Option (Int×Int×ByteArray)
 | 0,_,_,_,_ => none
 | k + 1,x3,x7,x8,x9 => if x9<x8 then (if 0≤x9 then (if x9<(x7.length : Int) then (if x3.length<140737488355328 then ((some (x3 ++ [((((rd_T54 x7 x9).f0).size : Int)) % 256] : List Int)).bind fun y514 => (if y514.length + ((rd_T54 x7 x9).f0).size<140737488355328 then ((Fw.f k (y514 ++ bytesOf ((rd_T54 x7 x9).f0)) ((rd_T54 x7 x9).f1.f0) ((rd_T54 x7 x9).f1.f1) ((rd_T54 x7 x9).f1.f2)).bind fun t520 => (Fh.l0 k t520 x7 x8 (wrap64 (x9 + 1)))) else (none))) else (none)) else (none)) else (none)) else (some (5,0,strOfNums x3))
def Fh.f (k : Nat) (l0 : List (S54)) : Option (Int×Int×ByteArray):=Fh.l0 k (([] : List Int)) l0 (l0.length : Int) 0
theorem Fh.mono_l : ∀ k,(∀ y0 y1 y2 y3,LeO (Fh.l0 k y0 y1 y2 y3) (Fh.l0 (k + 1) y0 y1 y2 y3))
 | 0 => fun _ _ _ _ r h => by simp [Fh.l0] at h
 | k + 1 => by
  have ih0:=Fh.mono_l k;intro y0 y1 y2 y3;unfold Fh.l0
  repeat' first|(with_reducible first|exact ih0 _ _ _ _|exact Fw.mono _ _ _ _ _|exact zQ _|exact zN _|refine zP ?_ ?_|refine zO ?_ (fun _ => ?_))|refine zP ?_ ?_|refine zO ?_ (fun _ => ?_)
theorem Fh.mono : ∀ a0 k,LeO (Fh.f k a0) (Fh.f (k + 1) a0):=by
 intro a0 k;have ih0:=Fh.mono_l k;unfold Fh.f
 repeat' first|(with_reducible first|exact ih0 _ _ _ _|exact Fw.mono _ _ _ _ _|exact zQ _|exact zN _|refine zP ?_ ?_|refine zO ?_ (fun _ => ?_))|refine zP ?_ ?_|refine zO ?_ (fun _ => ?_)
def Fh.T5 : Bool×List (List Nat×List Nat):=(true,[([],[]),([],[]),([1],[1]),([2],[2]),([3],[3]),([4],[4]),([0,5],[0,5]),([],[]),([7],[7]),([6,8,6],[6,8]),([],[]),([10],[10]),([9,11,9],[9,11]),([12,12,0,1,2,3,4,5,6,7,8,9,10,11,12],[0,12])])
def Fh.B5 : List Nat:=[0,0,2,6,14,30,63,0,128,511,0,1024,4095,8191]
theorem Fh.tab5 : rtab .any (opsOf Try.f39 5)=Fh.T5:=by kernel_rfl
theorem Fh.bits5 : waitsOk Fh.T5.2 Fh.B5=true:=by kernel_rfl
set_option maxHeartbeats 8000000 in
set_option maxRecDepth 100000 in
theorem Fh.calls (k : Nat) (A0 : Option Addr) (c0 : Nat) (l0 : List (S54)) (r1 : Int) (r2 : Int) (r3 : ByteArray) (w : World) (hr0 : Kd.C k54 w A0 l0.length l0) (hc0 : l0.length≤c0) (h : Fh.f k l0=some (r1,r2,r3)) :
  Calls Try.prog 39 #[.slice A0 l0.length c0] w fun e w' => e = .returned (.agg #[.int .i64 r1,.int .i64 r2,.string r3])∧Below w.heap.size w w':=by
 have hu27:=Try.underlying27;have hu54:=Try.underlying54;have HR0:=zh hr0;have HC0:=zh hc0;clear hr0 hc0;have HB:=zh (Below.refl w.heap.size w);have H : (Fh.l0 k (([] : List Int)) l0 (l0.length : Int) 0)=some (r1,r2,r3):=h;clear h;obtain ⟨y509,hy509⟩ : ∃ y_ : List Int,y_=(([] : List Int)):=⟨_,rfl⟩;replace H : (Fh.l0 k y509 l0 (l0.length : Int) 0)=some (r1,r2,r3):=by first|(rw [hy509];with_reducible exact H)|(have H2_:=(Option.bind_some _ _).symm.trans H;rw [hy509];with_reducible exact H2_)|(have H2_:=(Option.bind_some _ _).symm.trans H;with_reducible exact H2_)|with_reducible exact H|(rw [hy509];exact H)|exact H
 have Ny509:=zh hy509;clear hy509;have H':=zh H;clear H
 go_enter Try.func39,Try.ntmps39
 go_wp2_with (first|((with_reducible refine zK (N:=2) rfl ?_);refine zI ?hg (N:=2) ?hd (cs:=#[.int .i64 0,.int .i64 0,.string (⟨#[]⟩ : ByteArray)]) (t:=27) ?hr ?_;(case hd|hg => rfl);(case hr => go_simp <;> rfl);intro gb508 hg w2 hbox hb;have BK508:=zh (hbox);have hH_:=cH (by repeat (with_reducible first|exact HB.out|apply za|apply zb|apply zc)) hb hg;have GW508:=zh hH_.1;have GE508:=GW508;replace HB:=zh hH_.2;clear hb hbox hg hH_)|((with_reducible refine zK (N:=6) rfl ?_);refine Kd.R_lit (Kd.int .u8) _ 5 ?hg (N:=6) ?hd (xs:=([] : List Int)) (inner:=[]) (ok:=fun _ => True) (okp:=fun _ => True) ?hr ?hp (fun _ hk => hk) trivial (Below.refl _ _) (ye _) (by simp) ?_;(case hd|hg => rfl);(case hr => go_simp <;> rfl);(case hp => exact (Reps.none _ _));intro v510 w3 ho4 hb hg_ hnew_;clear hg_ hnew_;(first|rw [← Ny509.out] at ho4|(simp only [Int.reduceToNat] at ho4;rw [← Ny509.out] at ho4));have HO511:=zh (yy ho4 (zB (by repeat (with_reducible first|exact HB.out|apply za|apply zb|apply zc|refine zd ?_ GE508.out))));replace BK508:=zh (cD BK508.out (by (with_reducible repeat first|apply ze|apply zf|apply zg);exact BK508.out) hb);replace HB:=zh (zC (by repeat (with_reducible first|exact HB.out|apply za|apply zb|apply zc|refine zd ?_ GE508.out)) hb);clear hb ho4))
 go_loopg [3,9] k (fun kq v3 v9 w' => ∃ (x3_1 : List Int) (x9_1 : Int),v9 = .int .i64 x9_1∧Aside0 (Fh.l0 kq x3_1 l0 (l0.length : Int) x9_1=some (r1,r2,r3))∧Aside0 (kq≤k)∧Aside0 (Kd.R (Kd.int .u8) 5 w' w.heap.size (fun _ => True) v3 x3_1)∧Aside0 (w'.heap[gb508]? = some (.cells #[.int .i64 0,.int .i64 0,.string (⟨#[]⟩ : ByteArray)] 27 (0,0)))∧Aside0 (Below w.heap.size w w'))
 case atStart => exact ⟨(y509),(0),(by first|rfl|(simp;done)|(simp [*];done)),H',⟨ye _⟩,⟨by (with_reducible repeat (first|apply zm|apply zn|apply zo));exact HO511.out⟩,⟨by (with_reducible repeat first|apply ze|apply zf|apply zg);exact BK508.out⟩,⟨by repeat (with_reducible first|exact HB.out|apply za|apply zb|apply zc|refine zd ?_ GE508.out)⟩⟩
 case round =>
  clear H'
  try clear p2
  try clear c3
  obtain ⟨x3_1,x9_1,rfl,HA,HK1,HO_3,BK508,HB⟩:=hrel
  cases gk with
  | zero => exact absurd HA.out (by simp [Fh.l0])
  | succ k1 =>
   have H:=HA.out;clear HA;simp only [Fh.l0] at H
   by_cases c5 : x9_1<(l0.length : Int)
   ·
    rw [if_pos c5] at H
    have c5b0 : decide (x9_1<(l0.length : Int))=true:=decide_eq_true c5;clear c5
    by_cases c6 : 0≤x9_1
    ·
     rw [if_pos c6] at H
     have c6b0 : decide (0≤x9_1)=true:=decide_eq_true c6;clear c6
     by_cases c7 : x9_1<(l0.length : Int)
     ·
      rw [if_pos c7] at H
      have c7b0 : decide (x9_1<(l0.length : Int))=true:=decide_eq_true c7;clear c7
      by_cases c8 : x3_1.length<140737488355328
      ·
       rw [if_pos c8] at H
       have LMc8:=zh c8;clear c8;obtain ⟨y514,hy514⟩ : ∃ y_ : List Int,y_=(x3_1 ++ [((((rd_T54 l0 x9_1).f0).size : Int)) % 256]):=⟨_,rfl⟩;replace H : (if y514.length + ((rd_T54 l0 x9_1).f0).size<140737488355328 then ((Fw.f k1 (y514 ++ bytesOf ((rd_T54 l0 x9_1).f0)) ((rd_T54 l0 x9_1).f1.f0) ((rd_T54 l0 x9_1).f1.f1) ((rd_T54 l0 x9_1).f1.f2)).bind fun t520 => (Fh.l0 k1 t520 l0 (l0.length : Int) (wrap64 (x9_1 + 1)))) else (none))=some (r1,r2,r3):=by first|(rw [hy514];with_reducible exact H)|(have H2_:=(Option.bind_some _ _).symm.trans H;rw [hy514];with_reducible exact H2_)|(have H2_:=(Option.bind_some _ _).symm.trans H;with_reducible exact H2_)|with_reducible exact H|(rw [hy514];exact H)|exact H
       have Ny514:=zh hy514;clear hy514
       by_cases c9 : y514.length + ((rd_T54 l0 x9_1).f0).size<140737488355328
       ·
        rw [if_pos c9] at H
        have LMc9:=zh c9;clear c9;obtain ⟨y517,hy517⟩ : ∃ y_ : List Int,y_=(y514 ++ bytesOf ((rd_T54 l0 x9_1).f0)):=⟨_,rfl⟩;replace H : ((Fw.f k1 y517 ((rd_T54 l0 x9_1).f1.f0) ((rd_T54 l0 x9_1).f1.f1) ((rd_T54 l0 x9_1).f1.f2)).bind fun t520 => (Fh.l0 k1 t520 l0 (l0.length : Int) (wrap64 (x9_1 + 1))))=some (r1,r2,r3):=by first|(rw [hy517];with_reducible exact H)|(have H2_:=(Option.bind_some _ _).symm.trans H;rw [hy517];with_reducible exact H2_)|(have H2_:=(Option.bind_some _ _).symm.trans H;with_reducible exact H2_)|with_reducible exact H|(rw [hy517];exact H)|exact H
        have Ny517:=zh hy517;clear hy517;replace H:=zT.mp H;obtain ⟨t520,A100,H⟩:=H;replace H : (Fh.l0 k1 t520 l0 (l0.length : Int) (wrap64 (x9_1 + 1)))=some (r1,r2,r3):=H;have A10:=zh A100;clear A100;have H':=zh H;clear H;have p512 : 0≤(x9_1 : Int):=zy (by first|(with_reducible assumption)|assumption);have q512 : x9_1<(l0.length : Int):=zy (by first|(with_reducible assumption)|assumption);obtain ⟨ad512,e512,hx512_0,hx512_1,hx512_2,hx512_3⟩:=at_T54 HR0.out x9_1 p512 q512
        cases e512
        replace hx512_0:=(HB.out.cell (zl w _ hx512_0)).trans hx512_0;replace hx512_1:=(HB.out.cell (zl w _ hx512_1)).trans hx512_1;replace hx512_2:=(HB.out.cell (zl w _ hx512_2)).trans hx512_2;replace hx512_3:=(HB.out.cell (zl w _ hx512_3)).trans hx512_3;replace p512:=eq_true p512;replace q512:=eq_true q512
        try go_wp2_with (first|((with_reducible refine zK (N:=5) rfl ?_);refine zI ?hg (N:=5) ?hd (cs:=#[.string (⟨#[]⟩ : ByteArray),.int .i64 0,.int .i64 0,.string (⟨#[]⟩ : ByteArray)]) (t:=54) ?hr ?_;(case hd|hg => rfl);(case hr => go_simp <;> rfl);intro gb513 hg w11 hbox hb;replace HO_3:=zh (yg (by (with_reducible repeat (first|apply zm|apply zn|apply zo));exact HO_3.out) hb);have BK513:=zh (hbox);have hH_:=cH (by repeat (with_reducible first|exact HB.out|apply za|apply zb|apply zc|refine zd ?_ GE508.out)) hb hg;have GW513:=zh hH_.1;have GE513:=GW513;replace HB:=zh hH_.2;have NB508_513:=zh ((by rw [hg];exact yc (yi (g:=gb508) (o:=.cells #[.int .i64 0,.int .i64 0,.string (⟨#[]⟩ : ByteArray)] 27 (0,0)) (by (with_reducible repeat first|apply ze|apply zf|apply zg);exact BK508.out)) : gb508≠gb513));have NB513_508:=zh NB508_513.out.symm;replace BK508:=zh (cD BK508.out (by (with_reducible repeat first|apply ze|apply zf|apply zg);exact BK508.out) hb);clear hb hbox hg hH_;have hnb12:=NB513_508.out;have hnc12:=NB508_513.out;obtain ⟨hcz13_0,hcz13_1,hcz13_2,hcz13_3,hfz13_0,hfz13_1,hfz13_2,hfz13_3⟩:=cB4 BK513.out))
        have n0_ : Aside0 (Kd.R (Kd.int .u8) 5 ((((w11.setCell ⟨gb513,0,none⟩ (.string ((rd_T54 l0 x9_1).f0))).setCell ⟨gb513,1,none⟩ (.int .i64 ((rd_T54 l0 x9_1).f1.f0))).setCell ⟨gb513,2,none⟩ (.int .i64 ((rd_T54 l0 x9_1).f1.f1))).setCell ⟨gb513,3,none⟩ (.string ((rd_T54 l0 x9_1).f1.f2))) w.heap.size (fun _ => True) u3 x3_1):=⟨by (with_reducible repeat (first|apply zm|apply zn|apply zo));exact zM (zE (p:=⟨gb513,3,none⟩) (zE (p:=⟨gb513,2,none⟩) (zE (p:=⟨gb513,1,none⟩) (zE (p:=⟨gb513,0,none⟩) (yf HO_3.out BK513.out (by decide)) (fun _ hk => hk.2) (.string ((rd_T54 l0 x9_1).f0))) (fun _ hk => hk.2) (.int .i64 ((rd_T54 l0 x9_1).f1.f0))) (fun _ hk => hk.2) (.int .i64 ((rd_T54 l0 x9_1).f1.f1))) (fun _ hk => hk.2) (.string ((rd_T54 l0 x9_1).f1.f2))) (fun _ hk => trivial)⟩;have n1_ : Aside0 (((((w11.setCell ⟨gb513,0,none⟩ (.string ((rd_T54 l0 x9_1).f0))).setCell ⟨gb513,1,none⟩ (.int .i64 ((rd_T54 l0 x9_1).f1.f0))).setCell ⟨gb513,2,none⟩ (.int .i64 ((rd_T54 l0 x9_1).f1.f1))).setCell ⟨gb513,3,none⟩ (.string ((rd_T54 l0 x9_1).f1.f2))).heap[gb508]? = some (.cells #[.int .i64 0,.int .i64 0,.string (⟨#[]⟩ : ByteArray)] 27 (0,0))):=⟨by (with_reducible repeat first|apply ze|apply zf|apply zg);refine cS4 ?_ NB508_513.out;(with_reducible repeat first|apply ze|apply zf|apply zg);exact BK508.out⟩;have n2_ : Aside0 (((((w11.setCell ⟨gb513,0,none⟩ (.string ((rd_T54 l0 x9_1).f0))).setCell ⟨gb513,1,none⟩ (.int .i64 ((rd_T54 l0 x9_1).f1.f0))).setCell ⟨gb513,2,none⟩ (.int .i64 ((rd_T54 l0 x9_1).f1.f1))).setCell ⟨gb513,3,none⟩ (.string ((rd_T54 l0 x9_1).f1.f2))).heap[gb513]? = some (.cells #[.string ((rd_T54 l0 x9_1).f0),.int .i64 ((rd_T54 l0 x9_1).f1.f0),.int .i64 ((rd_T54 l0 x9_1).f1.f1),.string ((rd_T54 l0 x9_1).f1.f2)] 54 (0,0))):=⟨by (with_reducible repeat first|apply ze|apply zf|apply zg);refine zL (cs:=#[.string ((rd_T54 l0 x9_1).f0),.int .i64 ((rd_T54 l0 x9_1).f1.f0),.int .i64 ((rd_T54 l0 x9_1).f1.f1),.string (⟨#[]⟩ : ByteArray)]) ?_ 3 _ rfl;(with_reducible repeat first|apply ze|apply zf|apply zg);refine zL (cs:=#[.string ((rd_T54 l0 x9_1).f0),.int .i64 ((rd_T54 l0 x9_1).f1.f0),.int .i64 0,.string (⟨#[]⟩ : ByteArray)]) ?_ 2 _ rfl;(with_reducible repeat first|apply ze|apply zf|apply zg);refine zL (cs:=#[.string ((rd_T54 l0 x9_1).f0),.int .i64 0,.int .i64 0,.string (⟨#[]⟩ : ByteArray)]) ?_ 1 _ rfl;(with_reducible repeat first|apply ze|apply zf|apply zg);refine zL (cs:=#[.string (⟨#[]⟩ : ByteArray),.int .i64 0,.int .i64 0,.string (⟨#[]⟩ : ByteArray)]) ?_ 0 _ rfl;(with_reducible repeat first|apply ze|apply zf|apply zg);exact BK513.out⟩;have n3_ : Aside0 (Below w.heap.size w ((((w11.setCell ⟨gb513,0,none⟩ (.string ((rd_T54 l0 x9_1).f0))).setCell ⟨gb513,1,none⟩ (.int .i64 ((rd_T54 l0 x9_1).f1.f0))).setCell ⟨gb513,2,none⟩ (.int .i64 ((rd_T54 l0 x9_1).f1.f1))).setCell ⟨gb513,3,none⟩ (.string ((rd_T54 l0 x9_1).f1.f2)))):=⟨by repeat (with_reducible first|exact HB.out|apply za|apply zb|apply zc|refine zd ?_ GE508.out|refine zd ?_ GE513.out)⟩;(try clear HO_3);(try clear BK508);(try clear BK513);(try clear HB);generalize ((((w11.setCell ⟨gb513,0,none⟩ (.string ((rd_T54 l0 x9_1).f0))).setCell ⟨gb513,1,none⟩ (.int .i64 ((rd_T54 l0 x9_1).f1.f0))).setCell ⟨gb513,2,none⟩ (.int .i64 ((rd_T54 l0 x9_1).f1.f1))).setCell ⟨gb513,3,none⟩ (.string ((rd_T54 l0 x9_1).f1.f2)))=w14 at n0_ n1_ n2_ n3_ ⊢;have HO_3:=n0_;have BK508:=n1_;have BK513:=n2_;have HB:=n3_;clear n0_ n1_ n2_ n3_;replace HO_3:=zh (zo HO_3.out);replace BK508:=zh (zf BK508.out);replace BK513:=zh (zf BK513.out);replace HB:=zh (zc HB.out);refine start_ (n:=14) (S:=fun w' => w'.cell? ⟨gb513,0,none⟩=some (.string ((rd_T54 l0 x9_1).f0))∧w'.cell? ⟨gb513,1,none⟩=some (.int .i64 ((rd_T54 l0 x9_1).f1.f0))∧w'.cell? ⟨gb513,2,none⟩=some (.int .i64 ((rd_T54 l0 x9_1).f1.f1))∧w'.cell? ⟨gb513,3,none⟩=some (.string ((rd_T54 l0 x9_1).f1.f2))) (ds:=[]) (bm_ 0 14) (by kernel_rfl) rfl rfl ⟨(zz BK513.out 0).trans rfl,(zz BK513.out 1).trans rfl,(zz BK513.out 2).trans rfl,(zz BK513.out 3).trans rfl⟩ (fun hHeld => ?_);refine with_tabW Fh.tab5 Fh.bits5 (fun HT_ HW_ => ?_);generalize w14.drew=w15 at HO_3 BK508 BK513 HB hHeld ⊢;refine pure_ (i:=0) (N:=some 13) (v:=?_) (a':=?_) (bm_ 1 14) rfl rfl (any_of HT_.out (by kernel_rfl)) (fun _ _ _ h => h) (Or.inl ⟨by rfl,?_⟩) ?_ ?_;rotate_left
        ·
         intro w'
         go_simp
         with_reducible rfl
        rotate_left
        ·
         simp only [Act.put,zi,zj,zk,zG,zH]
         rfl
        refine pure_ (i:=1) (N:=some 14) (v:=?_) (a':=?_) (bm_ 2 14) rfl rfl (any_of HT_.out (by kernel_rfl)) (fun _ _ _ h => h) (Or.inl ⟨by rfl,?_⟩) ?_ ?_;rotate_left
        ·
         intro w'
         go_simp
         with_reducible rfl
        rotate_left
        ·
         simp only [Act.put,zi,zj,zk,zG,zH]
         rfl
        refine pure_ (i:=7) (N:=some 20) (v:=?_) (a':=?_) #[true,true,false,false,false,false,false,true,false,false,false,false,false,false] rfl rfl (any_of HT_.out (by kernel_rfl)) (fun _ _ _ h => h) (Or.inl ⟨by rfl,?_⟩) ?_ ?_;rotate_left
        ·
         intro w'
         go_simp
         with_reducible rfl
        rotate_left
        ·
         simp only [Act.put,zi,zj,zk,zG,zH]
         rfl
        refine pure_ (i:=10) (N:=some 23) (v:=?_) (a':=?_) #[true,true,false,false,false,false,false,true,false,false,true,false,false,false] rfl rfl (any_of HT_.out (by kernel_rfl)) (fun _ _ _ h => h) (Or.inl ⟨by rfl,?_⟩) ?_ ?_;rotate_left
        ·
         intro w'
         go_simp
         with_reducible rfl
        rotate_left
        ·
         simp only [Act.put,zi,zj,zk,zG,zH]
         rfl
        refine take_ (i:=2) (N:=some 15) (v:=?_) (a':=?_) #[true,true,true,false,false,false,false,true,false,false,true,false,false,false] rfl rfl (yo HT_.out HW_.out (by kernel_rfl)) (fun _ _ _ h => h) (Or.inl ⟨by rfl,?_⟩) hHeld ?_ ?_;rotate_left
        ·
         rintro w' ⟨s0,s1,s2,s3⟩
         go_simp
         with_reducible rfl
        rotate_left
        ·
         simp only [Act.put,zi,zj,zk,zG,zH]
         rfl
        refine pure_ (i:=3) (N:=some 16) (v:=?_) (a':=?_) #[true,true,true,true,false,false,false,true,false,false,true,false,false,false] rfl rfl (any_of HT_.out (by kernel_rfl)) (fun _ _ _ h => h) (Or.inl ⟨by rfl,?_⟩) ?_ ?_;rotate_left
        ·
         intro w'
         go_simp
         with_reducible rfl
        rotate_left
        ·
         simp only [Act.put,zi,zj,zk,zG,zH]
         rfl
        refine pure_ (i:=4) (N:=some 17) (v:=?_) (a':=?_) #[true,true,true,true,true,false,false,true,false,false,true,false,false,false] rfl rfl (any_of HT_.out (by kernel_rfl)) (fun _ _ _ h => h) (Or.inl ⟨by rfl,?_⟩) ?_ ?_;rotate_left
        ·
         intro w'
         go_simp
         with_reducible rfl
        rotate_left
        ·
         simp only [Act.put,zi,zj,zk,zG,zH]
         rfl
        refine take_ (i:=8) (N:=some 21) (v:=?_) (a':=?_) #[true,true,true,true,true,false,false,true,true,false,true,false,false,false] rfl rfl (yo HT_.out HW_.out (by kernel_rfl)) (fun _ _ _ h => h) (Or.inl ⟨by rfl,?_⟩) hHeld ?_ ?_;rotate_left
        ·
         rintro w' ⟨s0,s1,s2,s3⟩
         go_simp
         with_reducible rfl
        rotate_left
        ·
         simp only [Act.put,zi,zj,zk,zG,zH]
         rfl
        refine take_ (i:=11) (N:=some 24) (v:=?_) (a':=?_) #[true,true,true,true,true,false,false,true,true,false,true,true,false,false] rfl rfl (yo HT_.out HW_.out (by kernel_rfl)) (fun _ _ _ h => h) (Or.inl ⟨by rfl,?_⟩) hHeld ?_ ?_;rotate_left
        ·
         rintro w' ⟨s0,s1,s2,s3⟩
         go_simp
         with_reducible rfl
        rotate_left
        ·
         simp only [Act.put,zi,zj,zk,zG,zH]
         rfl
        refine one_ (i:=5) (N:=some 18) #[true,true,true,true,true,true,false,true,true,false,true,true,false,false] rfl rfl (one_of HT_.out (by kernel_rfl)) (by decide) (fun K hK => ?_);refine value_ (w1:=?_) (v:=?_) (by rfl) rfl ?_ ?_;rotate_left 2
        ·
         go_simp
         constructor
         ·
          rfl
         rfl
        refine hK.out _ _ ⟨(zz (zg BK513.out _) 0).trans rfl,(zz (zg BK513.out _) 1).trans rfl,(zz (zg BK513.out _) 2).trans rfl,(zz (zg BK513.out _) 3).trans rfl⟩ (fun hHeld => ?_);clear hK K;refine norm_ (a':=?_) ?_ ?_;rotate_left
        ·
         show Act.put _ (some 18) _=_
         simp only [Act.put,zi,zj,zk,zG,zH]
         rfl
        refine one_ (i:=6) (N:=some 19) #[true,true,true,true,true,true,true,true,true,false,true,true,false,false] rfl rfl (one_of HT_.out (by kernel_rfl)) (by decide) (fun K hK => ?_);refine Kd.R_append_step (Kd.int .u8) (w0:=w) w.heap.size (by rfl) (.tmp 13) (.tmp 18) 66 5 (.int .u8 0) 1 rfl Try.underlying66 info5 rfl (by decide) (by omega) u3 x3_1 (((((rd_T54 l0 x9_1).f0).size : Int)) % 256) [.int .u8 (((((rd_T54 l0 x9_1).f0).size : Int)) % 256)] (fun _ => True) (fun _ => False) rfl rfl ?aP (fun _ hk => hk.elim) ?aF ?aO ?aB ?aS ?aL ?_;(case aP => exact rfl)
        (case aB => exact (by repeat (with_reducible first|exact HB.out|apply za|apply zb|apply zc|refine zd ?_ GE508.out|refine zd ?_ GE513.out)))
        (case aF => exact (fun _ _ => trivial))
        (case aO => exact (by (with_reducible repeat (first|apply zm|apply zn|apply zo));exact HO_3.out))
        (case aS => exact (zB (by repeat (with_reducible first|exact HB.out|apply za|apply zb|apply zc|refine zd ?_ GE508.out|refine zd ?_ GE513.out))))
        (case aL => have:=LMc8.out;omega)
        intro v515 w16 ho hb hg hat;rw [← Ny514.out] at ho;replace BK508:=zh (yw (g:=gb508) (o:=.cells #[.int .i64 0,.int .i64 0,.string (⟨#[]⟩ : ByteArray)] 27 (0,0)) (by (with_reducible repeat first|apply ze|apply zf|apply zg);exact BK508.out) hg (Kd.R_ne HO_3.out BK508.out (by decide)));replace BK513:=zh (yw (g:=gb513) (o:=.cells #[.string ((rd_T54 l0 x9_1).f0),.int .i64 ((rd_T54 l0 x9_1).f1.f0),.int .i64 ((rd_T54 l0 x9_1).f1.f1),.string ((rd_T54 l0 x9_1).f1.f2)] 54 (0,0)) (by (with_reducible repeat first|apply ze|apply zf|apply zg);exact BK513.out) hg (Kd.R_ne HO_3.out BK513.out (by decide)));replace HB:=zh (hb);have HO516:=zh (ho);clear HO_3 ho hb hg hat;refine hK.out _ _ ⟨(zz BK513.out 0).trans rfl,(zz BK513.out 1).trans rfl,(zz BK513.out 2).trans rfl,(zz BK513.out 3).trans rfl⟩ (fun hHeld => ?_);clear hK K;refine norm_ (a':=?_) ?_ ?_;rotate_left
        ·
         show Act.put _ (some 19) _=_
         simp only [Act.put,zi,zj,zk,zG,zH]
         rfl
        refine one_ (i:=9) (N:=some 22) (bm_ 12 14) rfl rfl (one_of HT_.out (by kernel_rfl)) (by decide) (fun K hK => ?_);refine print_append_str_go (w0:=w) w.heap.size (by rfl) (.tmp 19) _ 66 9 5 rfl Try.underlying66 Try.underlying9 info5 v515 y514 ((rd_T54 l0 x9_1).f0) rfl rfl ?aO ?aB ?aS ?aL ?_;(case aB => exact (by repeat (with_reducible first|exact HB.out|apply za|apply zb|apply zc|refine zd ?_ GE508.out|refine zd ?_ GE513.out)))
        (case aO => exact (Kd.own_of_R (by (with_reducible repeat (first|apply zm|apply zn|apply zo));exact HO516.out)))
        (case aS => exact (zB (by repeat (with_reducible first|exact HB.out|apply za|apply zb|apply zc|refine zd ?_ GE508.out|refine zd ?_ GE513.out))))
        (case aL => have:=LMc9.out;omega)
        intro v518 w17 ho0 hb hg hat;have ho:=Kd.R_of_own (h1:=fun _ => rfl) (ok:=(fun _ => True)) ho0 (fun k_ e_ => hat.elim (fun h_ => (HO516.out).1 k_ (h_.symm.trans e_)) (fun ⟨b_,h_,hb_⟩ => (fun _ _ => trivial) k_ (zU (h_.symm.trans e_) ▸ hb_)));clear ho0;rw [← Ny517.out] at ho;change Kd.R (Kd.int .u8) 5 w17 w.heap.size (fun _ => True) v518 y517 at ho;replace BK508:=zh (yw (g:=gb508) (o:=.cells #[.int .i64 0,.int .i64 0,.string (⟨#[]⟩ : ByteArray)] 27 (0,0)) (by (with_reducible repeat first|apply ze|apply zf|apply zg);exact BK508.out) hg (Kd.R_ne HO516.out BK508.out (by decide)));replace BK513:=zh (yw (g:=gb513) (o:=.cells #[.string ((rd_T54 l0 x9_1).f0),.int .i64 ((rd_T54 l0 x9_1).f1.f0),.int .i64 ((rd_T54 l0 x9_1).f1.f1),.string ((rd_T54 l0 x9_1).f1.f2)] 54 (0,0)) (by (with_reducible repeat first|apply ze|apply zf|apply zg);exact BK513.out) hg (Kd.R_ne HO516.out BK513.out (by decide)));replace HB:=zh (hb);have HO519:=zh (ho);clear HO516 ho hb hg hat;obtain ⟨Ao18,co18,eo18⟩:=yk HO519.out;(first|subst eo18|(injection eo18 with f1_ f2_ f3_;have f4_:=f1_.symm;have f5_:=f3_.symm;clear f1_ f2_ f3_;subst f4_;subst f5_));refine hK.out _ _ ⟨(zz BK513.out 0).trans rfl,(zz BK513.out 1).trans rfl,(zz BK513.out 2).trans rfl,(zz BK513.out 3).trans rfl⟩ (fun hHeld => ?_);clear hK K;refine norm_ (a':=?_) ?_ ?_;rotate_left
        ·
         show Act.put _ (some 22) _=_
         simp only [Act.put,zi,zj,zk,zG,zH]
         rfl
        refine one_ (i:=12) (N:=some 25) (bm_ 13 14) rfl rfl (one_of HT_.out (by kernel_rfl)) (by decide) (fun K hK => ?_);refine goes_ Try.func63 (by kernel_rfl) rfl #[.slice Ao18 y517.length co18,.agg #[.int .i64 ((rd_T54 l0 x9_1).f1.f0),.int .i64 ((rd_T54 l0 x9_1).f1.f1),.string ((rd_T54 l0 x9_1).f1.f2)]] (by rfl) rfl rfl (by (try simp only [zt,zu,zv]);first|done|rfl|(simp only [zw,zx];rfl)|(simp only [yr,ys,zV,zW];rfl)) ?_
        with_reducible refine (Fw.calls k1  (fun k_ => some k_=(.slice Ao18 y517.length co18 : Value).ownBlock) (.slice Ao18 y517.length co18) y517 ((rd_T54 l0 x9_1).f1.f0) ((rd_T54 l0 x9_1).f1.f1) ((rd_T54 l0 x9_1).f1.f2) t520 w _ ?side1 ?side2 A10.out).mono ?_
        (case side1 => repeat (with_reducible first|exact HB.out|apply za|apply zb|apply zc|refine zd ?_ GE508.out|refine zd ?_ GE513.out))
        (case side2 => exact Kd.R_tight rfl HO519.out)
        rintro e w19 ⟨v521,rfl,ho0,hb,hkp⟩;refine ⟨_,rfl,?_⟩;replace BK508:=zh (blk_kept (by (with_reducible repeat first|apply ze|apply zf|apply zg);exact BK508.out) hkp (fun hs_ => (fun e_ => (Kd.R_ne HO519.out BK508.out (by decide)) e_) hs_));replace BK513:=zh (blk_kept (by (with_reducible repeat first|apply ze|apply zf|apply zg);exact BK513.out) hkp (fun hs_ => (fun e_ => (Kd.R_ne HO519.out BK513.out (by decide)) e_) hs_));have HO522:=zh (zM (ok':=fun k_ => True) ho0 (fun k_ hk_ => trivial));replace HB:=zh (hb);clear HO519;(try clear hb);(try clear hkp);(try clear ho0);refine hK.out _ _ ⟨(zz BK513.out 0).trans rfl,(zz BK513.out 1).trans rfl,(zz BK513.out 2).trans rfl,(zz BK513.out 3).trans rfl⟩ (fun hHeld => ?_);clear hK K;refine norm_ (a':=?_) ?_ ?_;rotate_left
        ·
         show Act.put _ (some 25) _=_
         simp only [Act.put,zi,zj,zk,zG,zH]
         rfl
        refine pure_ (i:=13) (N:=some 3) (v:=?_) (a':=?_) (bm_ 14 14) rfl rfl (any_of HT_.out (by kernel_rfl)) (fun _ _ _ h => h) (Or.inl ⟨by rfl,?_⟩) ?_ ?_;rotate_left
        ·
         intro w'
         go_simp
         with_reducible rfl
        rotate_left
        ·
         simp only [Act.put,zi,zj,zk,zG,zH]
         rfl
        refine done_ (done_of HT_.out (by kernel_rfl)) ?_
        try go_wp2
        go_roundg k1
        case measure => have:=HK1.out;omega
        case rel => exact ⟨(t520),(wrap64 (x9_1 + 1)),(by first|rfl|(simp;done)|(simp [*];done)),H',⟨by have:=HK1.out;omega⟩,⟨by (with_reducible repeat (first|apply zm|apply zn|apply zo));exact HO522.out⟩,⟨by (with_reducible repeat first|apply ze|apply zf|apply zg);exact BK508.out⟩,⟨by repeat (with_reducible first|exact HB.out|apply za|apply zb|apply zc|refine zd ?_ GE508.out|refine zd ?_ GE513.out)⟩⟩
       rw [if_neg c9] at H;exact absurd H (by simp)
      rw [if_neg c8] at H;exact absurd H (by simp)
     rw [if_neg c7] at H;exact absurd H (by simp)
    rw [if_neg c6] at H;exact absurd H (by simp)
   rw [if_neg c5] at H;have c5b0 : decide (x9_1<(l0.length : Int))=false:=decide_eq_false c5;clear c5;simp only [Option.some.injEq,Prod.mk.injEq] at H;obtain ⟨rfl,rfl,rfl⟩:=H;have hcv20:=own_string (P:=Try.prog) Try.underlying66 Try.underlying5 Try.underlying9 (Kd.own_of_R HO_3.out);obtain ⟨hcz21_0,hcz21_1,hcz21_2,hfz21_0,hfz21_1,hfz21_2⟩:=cB3 BK508.out
   go_wp2
   refine bodyPost_ret (results_cell_row rfl _ _ gb508 27 #[.int .i64 5,.int .i64 0,.string (strOfNums x3_1)] (0,0) _ rfl (by (with_reducible repeat first|apply ze|apply zf|apply zg);refine zL (cs:=#[.int .i64 5,.int .i64 0,.string (⟨#[]⟩ : ByteArray)]) ?_ 2 _ rfl;(with_reducible repeat first|apply ze|apply zf|apply zg);refine zL (cs:=#[.int .i64 5,.int .i64 0,.string (⟨#[]⟩ : ByteArray)]) ?_ 1 _ rfl;(with_reducible repeat first|apply ze|apply zf|apply zg);refine zL (cs:=#[.int .i64 0,.int .i64 0,.string (⟨#[]⟩ : ByteArray)]) ?_ 0 _ rfl;(with_reducible repeat first|apply ze|apply zf|apply zg);exact BK508.out) Try.underlying27 rfl (by kernel_rfl)) rfl ?_;exact ⟨by first|rfl|(simp [yt,yu] <;> rfl)|(simp [*,yt,yu] <;> rfl),by repeat (with_reducible first|exact HB.out|apply za|apply zb|apply zc|refine zd ?_ GE508.out)⟩


def Fv.l0 : Nat→List ByteArray→ByteArray→Int→Int→Option (Int)
 | 0,_,_,_,_ => none
 | k + 1,x0,x1,x7,x8 => if x8<x7 then (if 0≤x8 then (if x8<(x0.length : Int) then (if x1.toList=(rdOf ByteArray.empty x0 x8).toList then (some x8) else (Fv.l0 k x0 x1 x7 (wrap64 (x8 + 1)))) else (none)) else (none)) else (some (-1))
def Fv.f (k : Nat) (l0 : List ByteArray) (a1 : ByteArray) : Option (Int):=Fv.l0 k l0 a1 (l0.length : Int) 0
theorem Fv.mono_l : ∀ k,(∀ y0 y1 y2 y3,LeO (Fv.l0 k y0 y1 y2 y3) (Fv.l0 (k + 1) y0 y1 y2 y3))
 | 0 => fun _ _ _ _ r h => by simp [Fv.l0] at h
 | k + 1 => by
  have ih0:=Fv.mono_l k;intro y0 y1 y2 y3;unfold Fv.l0
  repeat' first|(with_reducible first|exact ih0 _ _ _ _|exact zQ _|exact zN _|refine zP ?_ ?_|refine zO ?_ (fun _ => ?_))|refine zP ?_ ?_|refine zO ?_ (fun _ => ?_)
theorem Fv.mono : ∀ a0 a1 k,LeO (Fv.f k a0 a1) (Fv.f (k + 1) a0 a1):=by
 intro a0 a1 k;have ih0:=Fv.mono_l k;unfold Fv.f
 repeat' first|(with_reducible first|exact ih0 _ _ _ _|exact zQ _|exact zN _|refine zP ?_ ?_|refine zO ?_ (fun _ => ?_))|refine zP ?_ ?_|refine zO ?_ (fun _ => ?_)
set_option maxHeartbeats 8000000 in
set_option maxRecDepth 100000 in
theorem Fv.calls (k : Nat) (A0 : Option Addr) (c0 : Nat) (l0 : List ByteArray) (a1 : ByteArray) (r : Int) (w : World) (hr0 : Kd.C Kd.string w A0 l0.length l0) (hc0 : l0.length≤c0) (h : Fv.f k l0 a1=some r) :
  Calls Try.prog 82 #[.slice A0 l0.length c0,.string a1] w fun e w' => e = .returned (.int .i64 r)∧Drawn0 w w':=by
 have HR0:=zh hr0;have HC0:=zh hc0;clear hr0 hc0;have H : (Fv.l0 k l0 a1 (l0.length : Int) 0)=some r:=h;clear h;have H':=zh H;clear H
 go_enter Try.func82,Try.ntmps82
 go_wp2
 go_loopg [8] k (fun kq v8 w' => ∃ (x8_1 : Int),v8 = .int .i64 x8_1∧Aside0 (Fv.l0 kq l0 a1 (l0.length : Int) x8_1=some r)∧Aside0 (kq≤k)∧Drawn0 w w')
 case atStart => exact ⟨(0),(by first|rfl|(simp;done)|(simp [*];done)),H',⟨ye _⟩,by repeat (first|exact yp _|apply yq)⟩
 case round =>
  clear H'
  try clear p2
  obtain ⟨x8_1,rfl,HA,HK1,⟨m1,rfl⟩⟩:=hrel
  cases gk with
  | zero => exact absurd HA.out (by simp [Fv.l0])
  | succ k1 =>
   have H:=HA.out;clear HA;simp only [Fv.l0] at H
   by_cases c3 : x8_1<(l0.length : Int)
   ·
    rw [if_pos c3] at H
    have c3b0 : decide (x8_1<(l0.length : Int))=true:=decide_eq_true c3;clear c3
    by_cases c4 : 0≤x8_1
    ·
     rw [if_pos c4] at H
     have c4b0 : decide (0≤x8_1)=true:=decide_eq_true c4;clear c4
     by_cases c5 : x8_1<(l0.length : Int)
     ·
      rw [if_pos c5] at H
      have c5b0 : decide (x8_1<(l0.length : Int))=true:=decide_eq_true c5;clear c5
      by_cases c6 : a1.toList=(rdOf ByteArray.empty l0 x8_1).toList
      ·
       rw [if_pos c6] at H
       have c6b0 : (a1.toList == (rdOf ByteArray.empty l0 x8_1).toList)=true:=ya.mpr c6;have c6b1 : (a1.toList != (rdOf ByteArray.empty l0 x8_1).toList)=false:=zX.mpr c6;clear c6;obtain rfl:=zU H;have p523 : 0≤(x8_1 : Int):=zy (by first|(with_reducible assumption)|assumption);have q523 : x8_1<(l0.length : Int):=zy (by first|(with_reducible assumption)|assumption);obtain ⟨ad523,e523,hx523_0⟩:=Kd.at_string HR0.out x8_1 p523 q523
       cases e523
       replace p523:=eq_true p523;replace q523:=eq_true q523
       go_wp2
       go_ret
       exact ⟨by first|rfl|(simp;done)|(simp [*];done),by repeat (first|exact yp _|apply yq)⟩
      rw [if_neg c6] at H;have c6b0 : (a1.toList == (rdOf ByteArray.empty l0 x8_1).toList)=false:=zY.mpr c6;have c6b1 : (a1.toList != (rdOf ByteArray.empty l0 x8_1).toList)=true:=zZ.mpr c6;have H':=zh H;clear H;have p523 : 0≤(x8_1 : Int):=zy (by first|(with_reducible assumption)|assumption);have q523 : x8_1<(l0.length : Int):=zy (by first|(with_reducible assumption)|assumption);obtain ⟨ad523,e523,hx523_0⟩:=Kd.at_string HR0.out x8_1 p523 q523
      cases e523
      replace p523:=eq_true p523;replace q523:=eq_true q523
      go_wp2
      go_roundg k1
      case measure => have:=HK1.out;omega
      case rel => exact ⟨(wrap64 (x8_1 + 1)),(by first|rfl|(simp;done)|(simp [*];done)),H',⟨by have:=HK1.out;omega⟩,by repeat (first|exact yp _|apply yq)⟩
     rw [if_neg c5] at H;exact absurd H (by simp)
    rw [if_neg c4] at H;exact absurd H (by simp)
   rw [if_neg c3] at H;have c3b0 : decide (x8_1<(l0.length : Int))=false:=decide_eq_false c3;clear c3;obtain rfl:=zU H
   go_wp2
   go_ret
   exact ⟨by first|rfl|(simp;done)|(simp [*];done),by repeat (first|exact yp _|apply yq)⟩


def F04.f (k : Nat) (l0 : List ByteArray) (a1 : ByteArray) : Option (Bool):=(Fv.f k l0 a1).bind fun t524 => (some (decide (t524 ≥ 0)))
theorem F04.mono : ∀ a0 a1 k,LeO (F04.f k a0 a1) (F04.f (k + 1) a0 a1):=by
 intro a0 a1 k;unfold F04.f
 repeat' first|(with_reducible first|exact Fv.mono _ _ _|exact zQ _|exact zN _|refine zP ?_ ?_|refine zO ?_ (fun _ => ?_))|refine zP ?_ ?_|refine zO ?_ (fun _ => ?_)
set_option maxHeartbeats 8000000 in
set_option maxRecDepth 100000 in
theorem F04.calls (k : Nat) (A0 : Option Addr) (c0 : Nat) (l0 : List ByteArray) (a1 : ByteArray) (r : Bool) (w : World) (hr0 : Kd.C Kd.string w A0 l0.length l0) (hc0 : l0.length≤c0) (h : F04.f k l0 a1=some r) :
  Calls Try.prog 54 #[.slice A0 l0.length c0,.string a1] w fun e w' => e = .returned (.bool r)∧Drawn0 w w':=by
 have HR0:=zh hr0;have HC0:=zh hc0;clear hr0 hc0;have H : ((Fv.f k l0 a1).bind fun t524 => (some (decide (t524 ≥ 0))))=some r:=h;clear h;replace H:=zT.mp H;obtain ⟨t524,A30,H⟩:=H;replace H : (some (decide (t524 ≥ 0)))=some r:=H;have A3:=zh A30;clear A30;obtain rfl:=zU H
 go_enter Try.func54,Try.ntmps54
 go_wp2_with (first|((with_reducible refine zJ (f:=82) rfl ?_);refine yj (some 7) rfl rfl Try.func82 (by kernel_rfl) rfl #[.slice A0 l0.length c0,.string a1] rfl (by (try simp only [zt,zu,zv]);first|done|rfl|(simp only [zw,zx];rfl)|(simp only [yr,ys,zV,zW];rfl)) ?_;(with_reducible refine (Fv.calls k  _ _ l0 a1 t524 _ ?side1 ?side2 A3.out).mono ?_);(case side1 => repeat (first|exact HR0.out|(with_reducible refine Kd.C_alloc ?_ _)|(with_reducible refine Kd.C_drewN ?_ _)|(with_reducible refine Kd.C_drew ?_)));(case side2 => exact HC0.out);rintro e w' ⟨rfl,⟨nd,rfl⟩⟩;refine ⟨_,rfl,?_⟩))
 go_ret
 exact ⟨by first|rfl|(simp;done)|(simp [*];done),by repeat (first|exact yp _|apply yq)⟩


def F3.cut (keep : List ByteArray) (f : S54) : Bool:=!(f.f0.toList == (⟨#[105,100]⟩ : ByteArray).toList) && !(keep.any (fun y => y.toList == f.f0.toList))
def F3.Inv (gc : Nat) (A : Option Addr) (c : Nat) (keep : List ByteArray) (w : World) : Prop:=w.heap[gc]? = some (.cells #[.slice A keep.length c] 30 (0,0))∧Kd.C Kd.string w A keep.length keep
theorem F3.Inv.below {gc : Nat} {A : Option Addr} {c : Nat} {keep : List ByteArray} {w w' : World} (h : F3.Inv gc A c keep w) (hb : Below w.heap.size w w') : F3.Inv gc A c keep w':=⟨zD h.1 hb,Kd.C_below h.2 hb⟩
set_option maxHeartbeats 4000000 in
set_option maxRecDepth 100000 in
theorem F3.closure (k : Nat) (f : S54) (gc : Nat) (A : Option Addr) (c : Nat) (keep : List ByteArray) (w : World) (hI : F3.Inv gc A c keep w) (hc : keep.length≤c) (q : Bool) (hq : F04.f k keep f.f0=some q) :
  Calls Try.prog 53 #[.agg #[.string f.f0,.int .i64 f.f1.f0,.int .i64 f.f1.f1,.string f.f1.f2],.pointer (some ⟨gc,0,none⟩)] w fun e w' => e = .returned (.bool (!(f.f0.toList == (⟨#[105,100]⟩ : ByteArray).toList) && !q))∧Below w.heap.size w w':=by
 have hu54:=Try.underlying54;have hu27:=Try.underlying27
 by_cases hid : f.f0.toList=(⟨#[105,100]⟩ : ByteArray).toList
 ·
  have c0 : (f.f0.toList == (⟨#[105,100]⟩ : ByteArray).toList)=true:=ya.mpr hid
  have c1 : (f.f0.toList != (⟨#[105,100]⟩ : ByteArray).toList)=false:=zX.mpr hid;have hb:=hI.1
  go_enter Try.func53,Try.ntmps53
  go_wp2_with fail
  go_ret
  refine ⟨by rw [c0];rfl,za (Below.refl _ _) _⟩
 have c0 : (f.f0.toList == (⟨#[105,100]⟩ : ByteArray).toList)=false:=zY.mpr hid;have c1 : (f.f0.toList != (⟨#[105,100]⟩ : ByteArray).toList)=true:=zZ.mpr hid;have hb:=hI.1
 have hid2 : ¬ f.f0.toList=[105,100]:=by
  intro h;apply hid;rw [h];simp
 have c2 : (f.f0.toList == [105,100])=false:=zY.mpr hid2;have c3 : (f.f0.toList != [105,100])=true:=zZ.mpr hid2;have hk0:=zz (zg hb (.cells #[.string f.f0,.int .i64 f.f1.f0,.int .i64 f.f1.f1,.string f.f1.f2] 54)) 0;have hI2:=hI.below (za (Below.refl _ _) (.cells #[.string f.f0,.int .i64 f.f1.f0,.int .i64 f.f1.f1,.string f.f1.f2] 54))
 go_enter Try.func53,Try.ntmps53
 go_wp2_with fail
 go_at_call 54
 refine (F04.calls k A c keep f.f0 q _ hI2.2 hc hq).mono ?_;rintro e w1 ⟨rfl,hd⟩;have hb1:=hd.below
 cases q with
 | false =>
  go_wp2_with fail
  go_ret
  exact ⟨by rw [c0];rfl,zC (za (Below.refl _ _) _) hb1⟩
 | true =>
  go_wp2_with fail
  go_ret
  exact ⟨by rw [c0];rfl,zC (za (Below.refl _ _) _) hb1⟩
theorem F3.R_behind {α : Type} {d : Kd α} {e base g n cap : Nat} {ok : Nat→Prop} {W : World} {xs : List α}
  (h : d.R e W base ok (.slice (some ⟨g,0,none⟩) n cap) xs) (o : Nat) (seg : List Value) (hno : n * d.sz≤o) (hs : o + seg.length≤cap * d.sz) :
  d.R e (W.setCells g o seg) base ok (.slice (some ⟨g,0,none⟩) n cap) xs∧W.grownBy (W.setCells g o seg) (some g):=by
 obtain ⟨hn,hnc,_⟩:=yh h;obtain ⟨hok,inner,ho,hr⟩:=h;obtain ⟨ho1,ho2⟩:=ho;rcases ho2 with ⟨hv,_⟩|⟨g',cap',cur,hv,hb,hh,hnc',hcm,hcs,ht⟩
 ·
  cases hv
 injection hv with ha _ hc;injection ha with ha;injection ha with hg;subst hg;subst hc;have hfit : o + seg.length≤cur.size:=by rw [hcs];omega
 obtain ⟨cur',h3,h4,h5⟩:=setCells_row seg o W cur hh hfit;obtain ⟨s1,s2,s3,s4⟩:=setCells_same g seg o W;have hfar : ∀ k,k≠g→(W.setCells g o seg).heap[k]? = W.heap[k]?:=fun k hk => setCells_far seg _ k hk;have hgo : some g=(Value.slice (some ⟨g,0,none⟩) n cap).ownBlock:=by simp [Value.ownBlock]
 refine ⟨⟨hok,inner,⟨ho1,.inr ⟨g,cap,cur',by rw [hn],hb,h3,hnc',hcm,by rw [h4,hcs],?_⟩⟩,?_⟩,
  ⟨s1,s2,s3,by rw [s4];exact ye _,fun k _ hk => hfar k (fun he => hk (by rw [he]))⟩⟩
 ·
  rw [← ht]
  apply List.ext_getElem?
  intro q;rw [List.getElem?_take,List.getElem?_take,h5]
  by_cases hq : q<xs.length * d.sz
  ·
   rw [if_pos hq,if_pos hq,seg_get cur.toList seg o (by rw [Array.length_toList];omega) q,if_pos (by rw [← hn] at hq;omega)]
  rw [if_neg hq,if_neg hq]
 exact hr.imp_ (fun x cs hM => Kd.M_step hM (fun k hk _ => hfar k (fun he => hk.2 (by rw [he];exact hgo))))
theorem F3.run_clear {P : Program} (w : World) (t e ty : TypeId) (z : Value) (ht : P.underlying t=some (.slice e)) (hv : ∀ w,(zeroValue e).run P w = .ok z w) (h1 : ∀ i,i<z.cells.size→(z.cells[i]!).oneCell' = true) (b o n c : Nat) (hn : 0<n)
  (hc : ∀ j,j<n * z.cells.size→(w.cell? ⟨b,o + j,none⟩).isSome=true) (hf : ∀ j,j<n * z.cells.size→w.frozen? ⟨b,o + j,none⟩=false) :
  (Builtin.clear_ #[t] ty #[.slice (some ⟨b,o,none⟩) n c]).run P w = .ok (.tuple #[]) (w.setCells b o (Builtin.zeroCells z.cells n).toList):=by
 have hlen : (Builtin.zeroCells z.cells n).toList.length=n * z.cells.size:=by simp [Builtin.zeroCells]
 have hst:=run_storeCells_cells (P:=P) b o (Builtin.zeroCells z.cells n).toList 0 w (by rw [hlen];simpa using hc) (by rw [hlen];simpa using hf) (by
  intro v hv';simp only [Builtin.zeroCells,Array.toList_map,Array.toList_range,List.mem_map,List.mem_range] at hv';obtain ⟨i,hi,rfl⟩:=hv'
  have hz : 0<z.cells.size:=by
   rcases Nat.eq_zero_or_pos z.cells.size with h|h
   ·
    rw [h] at hi;simp at hi
   exact h
  exact h1 _ (Nat.mod_lt _ hz))
 simp only [Nat.add_zero] at hst;obtain ⟨m,rfl⟩ : ∃ m,n=m + 1:=⟨n - 1,by omega⟩;simp [Builtin.clear_,run_underlying ht,hv,hst]
theorem F3.zeros_length (z : Array Value) (n : Nat) : (Builtin.zeroCells z n).toList.length=n * z.size:=by simp [Builtin.zeroCells]
theorem F3.w_next (i : Nat) (h : i≤4611686018427387904) : wrap64 ((i : Int) + 1)=((i + 1 : Nat) : Int):=by unfold wrap64;omega
theorem F3.n_zero (i : Nat) : (0≤(i : Int))=True:=eq_true (Int.natCast_nonneg i)
theorem F3.n_lt {i n : Nat} (h : i<n) : ((i : Int)<(n : Int))=True:=eq_true (Int.ofNat_lt.2 h)
theorem F3.n_step {q j n : Nat} (h : q + 1 + j=n) : q + (j + 1)=n:=by omega
theorem F3.n_pre {g j n : Nat} (h : g + j=n) (hj : j<n) : ∃ q,g=q + 1:=⟨g - 1,by omega⟩
def F3.fst (p : S54→Bool) : List S54→Nat→Int
 | [],_ => -1
 | x :: xs,i => if p x=true then (i : Int) else F3.fst p xs (i + 1)
theorem F3.fst_tells (p : S54→Bool) : ∀ (l : List S54) (i : Nat),(F3.fst p l i = -1 ∧ ∀ x ∈ l,p x=false) ∨ ∃ m,∃ h : m<l.length,F3.fst p l i=((i + m : Nat) : Int)∧(∀ j,(h2 : j<m)→p (l[j]'(Nat.lt_trans h2 h))=false)∧p l[m]=true
 | [],i => .inl ⟨rfl,by simp⟩
 | x :: xs,i => by
  unfold F3.fst
  by_cases hx : p x=true
  ·
   rw [if_pos hx]
   exact .inr ⟨0,by simp,by simp,fun j h2 => absurd h2 (Nat.not_lt_zero _),hx⟩
  rw [if_neg hx];rcases F3.fst_tells p xs (i + 1) with ⟨e,h⟩|⟨m,hm,e,h1,h2⟩
  ·
   refine .inl ⟨e,fun y hy => ?_⟩
   rcases List.mem_cons.1 hy with rfl|hy
   ·
    simpa using hx
   exact h y hy
  refine .inr ⟨m + 1,by simpa using hm,by rw [e];congr 1;omega,fun j h3 => ?_,h2⟩
  cases j with
  | zero => simpa using hx
  | succ j => exact h1 j (by omega)
set_option maxHeartbeats 4000000 in
set_option maxRecDepth 100000 in
theorem F3.index (k : Nat) (p : S54→Bool) (gc : Nat) (A0 : Option Addr) (c0 : Nat) (keep : List ByteArray) (A : Option Addr) (c : Nat) (l : List S54) (w : World) (hC : Kd.C k54 w A l.length l) (hlc : l.length≤c) (hl : l.length≤4611686018427387904) (hI : F3.Inv gc A0 c0 keep w) (hc : keep.length≤c0)
  (hp : ∀ f ∈ l,∃ q,F04.f k keep f.f0=some q∧(!(f.f0.toList == (⟨#[105,100]⟩ : ByteArray).toList) && !q)=p f) (r : Int) (hr : F3.fst p l 0=r) :
  Calls Try.prog 81 #[.slice A l.length c,.func (.func 53) #[] #[.pointer (some ⟨gc,0,none⟩)]] w fun e w' => e = .returned (.int .i64 r)∧Below w.heap.size w w':=by
 have hu54:=Try.underlying54
 go_enter Try.func81,Try.ntmps81
 go_wp2
 go_loopg [8] l.length (fun kq v8 w' => ∃ (i : Nat),v8 = .int .i64 (i : Int)∧Aside0 (kq + i=l.length)∧Aside0 (F3.fst p (l.drop i) i=r)∧Aside0 (F3.Inv gc A0 c0 keep w')∧Aside0 (Below w.heap.size w w'))
 case atStart => exact ⟨0,rfl,⟨by omega⟩,⟨by rw [List.drop_zero];exact hr⟩,⟨hI⟩,⟨Below.refl _ _⟩⟩
 case round =>
  obtain ⟨i,rfl,HK,HF,HI,HB⟩:=hrel
  by_cases hil : i<l.length
  ·
   have c3 : decide ((i : Int)<(l.length : Int))=true:=decide_eq_true (Int.ofNat_lt.2 hil)
   have hi0 : (0≤(i : Int))=True:=eq_true (Int.natCast_nonneg i);have hilt : ((i : Int)<(l.length : Int))=True:=eq_true (Int.ofNat_lt.2 hil);obtain ⟨ad,hA,hx0,hx1,hx2,hx3⟩:=at_T54 hC (i : Int) (Int.natCast_nonneg i) (Int.ofNat_lt.2 hil)
   cases hA
   have er : rd_T54 l (i : Int)=l[i]:=by
    unfold rd_T54;rw [List.getD_eq_getElem?_getD,Int.toNat_natCast,List.getElem?_eq_getElem hil];rfl
   rw [er] at hx0 hx1 hx2 hx3;rw [Int.toNat_natCast] at hx0 hx1 hx2 hx3;replace hx0:=(HB.out.cell (zl w _ hx0)).trans hx0;replace hx1:=(HB.out.cell (zl w _ hx1)).trans hx1;replace hx2:=(HB.out.cell (zl w _ hx2)).trans hx2;replace hx3:=(HB.out.cell (zl w _ hx3)).trans hx3;have hwi:=F3.w_next i (Nat.le_trans (Nat.le_of_lt hil) hl);have hkj:=HK.out;obtain ⟨kq,rfl⟩:=F3.n_pre hkj hil;obtain ⟨q,hq,hqp⟩:=hp l[i] (List.getElem_mem hil);have hF:=HF.out;rw [List.drop_eq_getElem_cons hil] at hF;unfold F3.fst at hF;have HC:=zh (F3.closure k l[i] gc A0 c0 keep wr HI.out hc q hq);rw [hqp] at HC;obtain ⟨b,hb⟩ : ∃ b,p l[i]=b:=⟨_,rfl⟩;rw [hb] at HC hF;clear hqp hq hb
   cases b with
   | true =>
    rw [if_pos rfl] at hF;subst hF;clear hr HF
    go_wp2_with fail
    go_at_call 53
    refine HC.out.mono ?_;rintro e w1 ⟨rfl,hb1⟩
    go_wp2_with fail
    go_ret
    exact ⟨rfl,zC HB.out hb1⟩
   | false =>
    rw [if_neg (by simp)] at hF;have HF2:=zh hF;clear hF hr
    go_wp2_with fail
    go_at_call 53
    refine HC.out.mono ?_;rintro e w1 ⟨rfl,hb1⟩;have HI1:=zh (HI.out.below hb1);have HB1:=zh (zC HB.out hb1)
    go_wp2_with fail
    go_roundg kq
    case measure => exact Nat.lt_succ_self _
    case rel => exact ⟨i + 1,by first|rfl|rw [hwi],⟨F3.n_step hkj⟩,HF2,HI1,HB1⟩
  have c3 : decide ((i : Int)<(l.length : Int))=false:=decide_eq_false (fun h9 => hil (Int.ofNat_lt.1 h9));have hF:=HF.out;rw [List.drop_of_length_le (Nat.le_of_not_lt hil)] at hF
  go_wp2_with fail
  go_ret
  exact ⟨by rw [← hF];rfl,HB.out⟩
set_option maxHeartbeats 4000000 in
set_option maxRecDepth 100000 in
theorem F3.delete (k : Nat) (p : S54→Bool) (P0 : Nat→Prop) (gc : Nat) (A0 : Option Addr) (c0 : Nat) (keep : List ByteArray) (A : Option Addr) (c : Nat) (l : List S54) (w0 w : World) (hB : Below w0.heap.size w0 w) (ho : Kd.R k54 54 w w0.heap.size P0 (.slice A l.length c) l) (hl : l.length≤4611686018427387904) (hI : F3.Inv gc A0 c0 keep w) (hc : keep.length≤c0)
  (hIk : ∀ w',Kept w w' P0→F3.Inv gc A0 c0 keep w')
  (hp : ∀ f ∈ l,∃ q,F04.f k keep f.f0=some q∧(!(f.f0.toList == (⟨#[105,100]⟩ : ByteArray).toList) && !q)=p f) :
  Calls Try.prog 52 #[.slice A l.length c,.func (.func 53) #[] #[.pointer (some ⟨gc,0,none⟩)]] w fun e w' => ∃ v,e = .returned v∧Kd.R k54 54 w' w0.heap.size P0 v (l.filter (fun e => !p e))∧Below w0.heap.size w0 w' ∧ Kept w w' P0:=by
 obtain ⟨hn,hnc,hC⟩:=yh ho;have hIX:=F3.index k p gc A0 c0 keep A c l w hC hnc hl hI hc hp _ rfl;have HIK:=zh hIk;clear hIk
 go_enter Try.func52,Try.ntmps52
 go_wp2_with fail
 go_at_call 81
 refine hIX.mono ?_;clear hIX;rintro e w1 ⟨rfl,hb1⟩;rcases F3.fst_tells p l 0 with ⟨e1,h2⟩|⟨m,hm,e1,h4,h5⟩
 ·
  rw [e1]
  go_wp2
  go_ret
  refine ⟨_,rfl,?_,zC hB hb1,Kept.of_below hb1 _⟩;have e : l.filter (fun e => !p e)=l:=List.filter_eq_self.2 (fun x hx => by rw [h2 x hx];rfl);rw [e];exact yg ho hb1
 rw [e1,Nat.zero_add];clear e1;have hne : decide ((m : Int) = -1)=false:=decide_eq_false (by omega);have hneb : ((m : Int) == -1)=false:=zY.mpr (by omega)
 go_wp2
 go_loopg [5,6] (l.length - (m + 1)) (fun kq v5 v6 w' => ∃ (i j : Nat) (L : List S54),v5 = .int .i64 (i : Int)∧v6 = .int .i64 (j : Int)∧Aside0 (kq + j=l.length∧i<j)∧Aside0 (Kd.R k54 54 w' w0.heap.size P0 (.slice A l.length c) L) ∧
  Aside0 (L.length=l.length∧L.take i=(l.take j).filter (fun e => !p e)∧L.drop j=l.drop j)∧Aside0 (Kept w w' P0)∧Aside0 (Below w0.heap.size w0 w'))
 case atStart =>
  refine ⟨m,m + 1,l,rfl,?_,⟨by omega,by omega⟩,⟨yg ho hb1⟩,⟨rfl,?_,rfl⟩,⟨Kept.of_below hb1 _⟩,⟨zC hB hb1⟩⟩
  ·
   have hw : wrap64 ((m : Int) + 1)=((m + 1 : Nat) : Int):=by unfold wrap64;omega
   first|rw [hw]|(simp [hw];done)|(show Value.int .i64 _=_;rw [hw])
  rw [List.take_add_one,List.getElem?_eq_getElem hm,List.filter_append]
  have e1 : (l.take m).filter (fun e => !p e)=l.take m:=List.filter_eq_self.2 (fun x hx => by
   obtain ⟨q,hq,rfl⟩:=List.getElem_of_mem hx;rw [zx] at hq;rw [List.getElem_take]
   rw [h4 q (by omega)];rfl)
  rw [e1];simp [h5]
 case round =>
  obtain ⟨i,j,L,rfl,rfl,HI,HO,HL,HK,HB⟩:=hrel;obtain ⟨hLl,hLt,hLd⟩:=HL.out;obtain ⟨g,co,eo,gb,gl,cl,HGc⟩:=Kd.R_form HO.out (by omega);rw [hLl] at eo;injection eo with ea _ ec;subst ea;subst ec
  by_cases hjl : j<l.length
  ·
   have c3 : decide ((j : Int)<(l.length : Int))=true:=decide_eq_true (by omega)
   have hj0 : (0≤(j : Int))=True:=eq_true (by omega);have hjlt : ((j : Int)<(l.length : Int))=True:=eq_true (by omega);obtain ⟨cj,hcj,hMj,hccj,hfj⟩:=Kd.R_elem HO.out z54 (j : Int) (Int.natCast_nonneg j) (Int.ofNat_lt.2 hjl);have ej:=k54_openM hMj;subst ej;have hij:=HI.out.2;have hkj:=HI.out.1;have hi0:=F3.n_zero i;have hilt:=F3.n_lt (Nat.lt_trans hij hjl);have hwj : wrap64 ((j : Int) + 1)=((j + 1 : Nat) : Int):=F3.w_next j (Nat.le_trans (Nat.le_of_lt hjl) hl);have hwi : wrap64 ((i : Int) + 1)=((i + 1 : Nat) : Int):=F3.w_next i (Nat.le_trans (Nat.le_of_lt (Nat.lt_trans hij hjl)) hl);obtain ⟨kq,rfl⟩:=F3.n_pre hkj hjl
   have eg : L.getD (j : Int).toNat z54=l[j]:=by
    have h9:=congrArg (·[0]?) hLd;simp only [List.getElem?_drop,Nat.add_zero] at h9;rw [Int.toNat_natCast,List.getD_eq_getElem?_getD,h9,List.getElem?_eq_getElem hjl];rfl
   have hk0 : wr.cell? ⟨g,j * 4,none⟩=some (.string l[j].f0):=by have:=hccj 0 _ rfl;rw [eg] at this;exact this
   have hk1 : wr.cell? ⟨g,j * 4 + 1,none⟩=some (.int .i64 l[j].f1.f0):=by have:=hccj 1 _ rfl;rw [eg] at this;exact this
   have hk2 : wr.cell? ⟨g,j * 4 + 2,none⟩=some (.int .i64 l[j].f1.f1):=by have:=hccj 2 _ rfl;rw [eg] at this;exact this
   have hk3 : wr.cell? ⟨g,j * 4 + 3,none⟩=some (.string l[j].f1.f2):=by have:=hccj 3 _ rfl;rw [eg] at this;exact this
   obtain ⟨q,hq,hqp⟩:=hp l[j] (List.getElem_mem hjl);have HC:=zh (F3.closure k l[j] gc A0 c0 keep _ ((HIK.out wr HK.out).below (za (Below.refl _ _) (.cells #[.string l[j].f0,.int .i64 l[j].f1.f0,.int .i64 l[j].f1.f1,.string l[j].f1.f2] 54))) hc q hq);rw [hqp] at HC;obtain ⟨b,hbd⟩ : ∃ b,p l[j]=b:=⟨_,rfl⟩;rw [hbd] at HC;clear hqp hq
   go_wp2_with fail
   go_at_call 53
   refine HC.out.mono ?_;rintro e w2 ⟨rfl,hb2⟩;have Bx:=zD (blk_new wr (.cells #[.string l[j].f0,.int .i64 l[j].f1.f0,.int .i64 l[j].f1.f1,.string l[j].f1.f2] 54)) hb2;have b0:=zz Bx 0;have b1:=zz Bx 1;have b2:=zz Bx 2;have b3:=zz Bx 3;have HO2:=yg (zm HO.out (.cells #[.string l[j].f0,.int .i64 l[j].f1.f0,.int .i64 l[j].f1.f1,.string l[j].f1.f2] 54)) hb2;have hbw : Below wr.heap.size wr w2:=zC (za (Below.refl _ _) _) hb2;have HB2:=zh (zC HB.out hbw);have HK2:=zh (HK.out.below hbw)
   have F1 : Aside0 (∀ b,p l[j]=b→(l.take (j + 1)).filter (fun e => !p e)=L.take i ++ (if b=true then [] else [l[j]])):=⟨fun b hb => by
    rw [List.take_add_one,List.getElem?_eq_getElem hjl,List.filter_append,hLt]
    cases b <;> simp_all⟩
   have F2 : Aside0 (L.drop (j + 1)=l.drop (j + 1)):=⟨by
    have:=congrArg List.tail hLd
    simpa [List.tail_drop] using this⟩
   have HBD:=zh hbd;have hbsz:=zh hbw.size;clear hbw hbd HC Bx hb2 HB HK hk0 hk1 hk2 hk3 hcj hMj hccj hfj hLt hLd
   cases b with
   | false =>
    obtain ⟨ci,hci,hMi,hcci,hfi⟩:=Kd.R_elem HO2 z54 (i : Int) (Int.natCast_nonneg i) (Int.ofNat_lt.2 (Nat.lt_trans hij hjl));have ei:=k54_openM hMi;have hm0 : w2.cell? ⟨g,i * 4,none⟩=some (.string (L.getD (i : Int).toNat z54).f0):=hcci 0 _ (by rw [ei];rfl);have hm1 : w2.cell? ⟨g,i * 4 + 1,none⟩=some (.int .i64 (L.getD (i : Int).toNat z54).f1.f0):=hcci 1 _ (by rw [ei];rfl);have hm2 : w2.cell? ⟨g,i * 4 + 2,none⟩=some (.int .i64 (L.getD (i : Int).toNat z54).f1.f1):=hcci 2 _ (by rw [ei];rfl);have hm3 : w2.cell? ⟨g,i * 4 + 3,none⟩=some (.string (L.getD (i : Int).toNat z54).f1.f2):=hcci 3 _ (by rw [ei];rfl);have hn0 : w2.frozen? ⟨g,i * 4,none⟩=false:=hfi 0;have hn1 : w2.frozen? ⟨g,i * 4 + 1,none⟩=false:=hfi 1;have hn2 : w2.frozen? ⟨g,i * 4 + 2,none⟩=false:=hfi 2;have hn3 : w2.frozen? ⟨g,i * 4 + 3,none⟩=false:=hfi 3;subst ei;have HP : Aside0 (Kd.R k54 54 ((((w2.setCell ⟨g,i * 4,none⟩ (.string l[j].f0)).setCell ⟨g,i * 4 + 1,none⟩ (.int .i64 l[j].f1.f0)).setCell ⟨g,i * 4 + 2,none⟩ (.int .i64 l[j].f1.f1)).setCell ⟨g,i * 4 + 3,none⟩ (.string l[j].f1.f2)) w0.heap.size P0 (.slice (some ⟨g,0,none⟩) l.length c) (L.set i l[j])∧w2.grownBy ((((w2.setCell ⟨g,i * 4,none⟩ (.string l[j].f0)).setCell ⟨g,i * 4 + 1,none⟩ (.int .i64 l[j].f1.f0)).setCell ⟨g,i * 4 + 2,none⟩ (.int .i64 l[j].f1.f1)).setCell ⟨g,i * 4 + 3,none⟩ (.string l[j].f1.f2)) (some g)):=⟨Kd.R_seg HO2 (i : Int) (Int.natCast_nonneg i) (Int.ofNat_lt.2 (Nat.lt_trans hij hjl)) (seg:=[.string l[j].f0,.int .i64 l[j].f1.f0,.int .i64 l[j].f1.f1,.string l[j].f1.f2]) (j:=0) hci hcci (show 0 + 4≤4 from by decide) (x':=l[j]) (k54_mkM _ _ _ l[j]) (fun _ hk => hk)⟩;have hPg : P0 g:=HO.out.1 g rfl;have G2:=zh (yA HP.out.2 HK2.out (fun k hk => .inl (by injection hk with hk;subst hk;exact hPg)));have G3:=zh (pw_below_grown HB2.out (some g) (Nat.le_trans (Nat.le_of_lt (Nat.lt_of_le_of_lt gb gl)) (by have:=hbsz.out;exact this)) HP.out.2 (fun k hk => by injection hk with hk;subst hk;exact gb));clear hci hMi hcci hfi HO2
    go_wp2_with fail
    go_roundg kq
    case measure => exact Nat.lt_succ_self _
    case rel =>
     refine ⟨i + 1,j + 1,L.set i l[j],by first|rfl|rw [hwi],by first|rfl|rw [hwj],⟨F3.n_step hkj,Nat.succ_lt_succ hij⟩,⟨HP.out.1⟩,⟨by rw [List.length_set];exact hLl,?_,?_⟩,G2,G3⟩
     ·
      rw [F1.out false HBD.out,List.take_succ_eq_append_getElem (by rw [List.length_set,hLl];exact Nat.lt_trans hij hjl),List.getElem_set_self,List.take_set_of_le (ye _)];rfl
     rw [List.drop_set_of_lt (Nat.lt_succ_of_lt hij)];exact F2.out
   | true =>
    go_wp2_with fail
    go_roundg kq
    case measure => exact Nat.lt_succ_self _
    case rel =>
     refine ⟨i,j + 1,L,rfl,by first|rfl|rw [hwj],⟨F3.n_step hkj,Nat.lt_succ_of_lt hij⟩,⟨HO2⟩,⟨hLl,?_,F2.out⟩,HK2,HB2⟩;rw [F1.out true HBD.out];simp
  have hij:=HI.out.2;obtain rfl : j=l.length:=Nat.le_antisymm (by have:=HI.out.1;omega) (Nat.le_of_not_lt hjl);have c3 : decide ((l.length : Int)<(l.length : Int))=false:=decide_eq_false (Int.lt_irrefl _);rw [List.take_length] at hLt
  have hcsz : ∀ q,q<(l.length - i) * 4→(wr.cell? ⟨g,i * 4 + q,none⟩).isSome=true∧wr.frozen? ⟨g,i * 4 + q,none⟩=false:=fun q hq => by
   obtain ⟨ci,hci,hMi,hcci,hfi⟩:=Kd.R_elem HO.out z54 ((i + q / 4 : Nat) : Int) (Int.natCast_nonneg _) (Int.ofNat_lt.2 (by omega));rw [Int.toNat_natCast] at hcci hfi;have e2 : i * 4 + q=(i + q / 4) * 4 + q % 4:=by omega
   have hq2 : q % 4<ci.length:=by rw [hci];exact Nat.mod_lt _ (by decide)
   rw [e2];exact ⟨by have h8:=hcci (q % 4) _ (List.getElem?_eq_getElem hq2);exact Option.isSome_iff_exists.2 ⟨_,h8⟩,hfi _⟩
  have hcl : ∀ ty,(Builtin.clear_ #[41] ty #[.slice (some ⟨g,i * 4,none⟩) (l.length - i) (c - i)]).run Try.prog wr = .ok (.tuple #[]) (wr.setCells g (i * 4) (Builtin.zeroCells #[.string ⟨#[]⟩,.int .i64 0,.int .i64 0,.string ⟨#[]⟩] (l.length - i)).toList) :=
   fun ty => F3.run_clear wr 41 54 ty (.agg #[.string ⟨#[]⟩,.int .i64 0,.int .i64 0,.string ⟨#[]⟩]) Try.underlying41 (fun w => by rfl) (fun q hq => by
    have hq' : q<4:=hq;obtain rfl|rfl|rfl|rfl : q=0∨q=1∨q=2∨q=3:=by omega
    all_goals rfl) g (i * 4) (l.length - i) (c - i) (Nat.sub_pos_of_lt hij) (fun q hq => (hcsz q hq).1) (fun q hq => (hcsz q hq).2)
  clear hcsz
  have HT:=zh (F3.R_behind (Kd.R_take HO.out (m:=i) (by rw [hLl];exact Nat.le_of_lt hij)) (i * 4) (Builtin.zeroCells #[.string ⟨#[]⟩,.int .i64 0,.int .i64 0,.string ⟨#[]⟩] (l.length - i)).toList (ye _) (by
   rw [F3.zeros_length];show i * 4 + (l.length - i) * 4≤c * 4
   omega))
  have hPg : P0 g:=HO.out.1 g rfl;have G2:=zh (yA HT.out.2 HK.out (fun k hk => .inl (by injection hk with hk;subst hk;exact hPg)));have G3:=zh (pw_below_grown HB.out (some g) (Nat.le_trans gb (Nat.le_of_lt gl)) HT.out.2 (fun k hk => by injection hk with hk;subst hk;exact gb))
  go_wp2_with fail
  go_ret
  refine ⟨_,rfl,?_,G3.out,G2.out⟩;rw [← hLt];exact HT.out.1
def F3.fits (k : Nat) (keep : List ByteArray) (L : List S54) : Bool:=decide (L.length≤4611686018427387904) && L.all (fun f => F04.f k keep f.f0 == some (keep.any (fun y => y.toList == f.f0.toList)))
def F3.f (k : Nat) (a0_0 : Int) (a0_1 : Int) (a0_2 : ByteArray) (l1 : List ByteArray) : Option (Int×Int×ByteArray):=if (l1.length : Int)=0 then (some (a0_0,a0_1,a0_2)) else ((F6.f k a0_0 a0_1 a0_2).bind fun L => (if F3.fits k l1 L.1=true then (Fh.f k (L.1.filter (fun e => !F3.cut l1 e))) else none))
theorem F3.fits_mono (k : Nat) (keep : List ByteArray) (L : List S54) (h : F3.fits k keep L=true) : F3.fits (k + 1) keep L=true:=by
 unfold F3.fits at *;rw [Bool.and_eq_true,List.all_eq_true] at *;refine ⟨h.1,fun f hf => ?_⟩;have:=h.2 f hf;rw [ya] at *;exact F04.mono _ _ _ _ this
theorem F3.mono : ∀ a0 a1 a2 a3 k,LeO (F3.f k a0 a1 a2 a3) (F3.f (k + 1) a0 a1 a2 a3):=by
 intro a0 a1 a2 a3 k;unfold F3.f;refine zP (zQ _) (zO (F6.mono _ _ _ _) (fun L => ?_));intro r hr
 by_cases hf : F3.fits k a3 L.1=true
 ·
  rw [if_pos hf] at hr
  rw [if_pos (F3.fits_mono _ _ _ hf)];exact Fh.mono _ _ _ hr
 rw [if_neg hf] at hr;cases hr
theorem F3.blk_at {w : World} {g : Nat} {o : Obj} (h : w.heap.size=g) : (w.alloc o).heap[g]? = some o:=by subst h;exact blk_new w o
set_option maxHeartbeats 4000000 in
set_option maxRecDepth 100000 in
theorem F3.calls (k : Nat) (a0_0 : Int) (a0_1 : Int) (a0_2 : ByteArray) (A1 : Option Addr) (c1 : Nat) (l1 : List ByteArray) (r1 : Int) (r2 : Int) (r3 : ByteArray) (w : World) (hr1 : Kd.C Kd.string w A1 l1.length l1) (hc1 : l1.length≤c1) (h : F3.f k a0_0 a0_1 a0_2 l1=some (r1,r2,r3)) :
  Calls Try.prog 30 #[.agg #[.int .i64 a0_0,.int .i64 a0_1,.string a0_2],.slice A1 l1.length c1] w fun e w' => e = .returned (.agg #[.int .i64 r1,.int .i64 r2,.string r3])∧Below w.heap.size w w':=by
 have hu27:=Try.underlying27;unfold F3.f at h
 by_cases c3 : (l1.length : Int)=0
 ·
  rw [if_pos c3] at h
  injection h with h;injection h with h1 h;injection h with h2 h3;subst h1;subst h2;subst h3;have c3b : ((l1.length : Int) == 0)=true:=ya.mpr c3
  go_enter Try.func30,Try.ntmps30
  go_wp2_with fail
  refine bodyPost_ret (results_cell_row rfl _ _ (w.heap.size + 1 + 1) 27 #[.int .i64 a0_0,.int .i64 a0_1,.string a0_2] (0,0) _ rfl (F3.blk_at (by simp)) hu27 rfl (by kernel_rfl)) rfl ?_;exact ⟨rfl,za (za (za (Below.refl _ _) _) _) _⟩
 rw [if_neg c3] at h;obtain ⟨⟨L,b⟩,hL,h⟩:=zT.mp h
 by_cases hf : F3.fits k l1 L=true
 ·
  simp only at h
  rw [if_pos hf] at h;have hf2:=hf;unfold F3.fits at hf2;rw [Bool.and_eq_true,List.all_eq_true,decide_eq_true_eq] at hf2;have c3b : ((l1.length : Int) == 0)=false:=zY.mpr c3;have hb0 : Below w.heap.size w (((w.alloc (.cells #[.int .i64 a0_0,.int .i64 a0_1,.string a0_2] 27)).alloc (.cells #[.slice A1 l1.length c1] 30)).alloc (.cells #[.int .i64 0,.int .i64 0,.string ⟨#[]⟩] 27)):=za (za (za (Below.refl _ _) _) _) _
  have hI0 : F3.Inv (w.heap.size + 1) A1 c1 l1 (((w.alloc (.cells #[.int .i64 a0_0,.int .i64 a0_1,.string a0_2] 27)).alloc (.cells #[.slice A1 l1.length c1] 30)).alloc (.cells #[.int .i64 0,.int .i64 0,.string ⟨#[]⟩] 27)) :=
   ⟨zg (by have:=blk_new (w.alloc (.cells #[.int .i64 a0_0,.int .i64 a0_1,.string a0_2] 27)) (.cells #[.slice A1 l1.length c1] 30);simpa using this) _,Kd.C_below hr1 hb0⟩
  go_enter Try.func30,Try.ntmps30
  go_wp2_with fail
  go_at_call 51
  refine (F6.calls k a0_0 a0_1 a0_2 L b _ hL).mono ?_;rintro e w1 ⟨v0,rfl,hR,hb1⟩;obtain ⟨A,c,rfl⟩:=yk hR;have hI1:=hI0.below hb1;have hbw1 : Below w.heap.size w w1:=zC hb0 hb1;have hR1:=zM (ok':=fun k_ => (((w.alloc (.cells #[.int .i64 a0_0,.int .i64 a0_1,.string a0_2] 27)).alloc (.cells #[.slice A1 l1.length c1] 30)).alloc (.cells #[.int .i64 0,.int .i64 0,.string ⟨#[]⟩] 27)).heap.size≤k_) (Kd.R_bound hR) (fun _ hk => hk.2.1);have hsz : (((w.alloc (.cells #[.int .i64 a0_0,.int .i64 a0_1,.string a0_2] 27)).alloc (.cells #[.slice A1 l1.length c1] 30)).alloc (.cells #[.int .i64 0,.int .i64 0,.string ⟨#[]⟩] 27)).heap.size=w.heap.size + 3:=by simp
  have hd:=F3.delete k (F3.cut l1) _ (w.heap.size + 1) A1 c1 l1 A c L _ w1 hb1 hR1 hf2.1 hI1 hc1 (fun w' hk => by
   exact ⟨blk_kept hI1.1 hk (by rw [hsz];omega),Kd.C_kept_came Kd.heap_string hr1 hbw1 (fun k_ hk_ => by rw [hsz] at hk_;omega) w' hk⟩) (fun f hf => ⟨_,eq_of_beq (hf2.2 f hf),rfl⟩)
  have hz0 : (((w.alloc (.cells #[.int .i64 a0_0,.int .i64 a0_1,.string a0_2] 27)).alloc (.cells #[.slice A1 l1.length c1] 30)).alloc (.cells #[.int .i64 0,.int .i64 0,.string ⟨#[]⟩] 27)).heap[w.heap.size + 1 + 1]? = some (.cells #[.int .i64 0,.int .i64 0,.string ⟨#[]⟩] 27 (0,0)):=F3.blk_at (by simp);have hz1:=zD hz0 hb1
  go_wp2_with fail
  go_at_call 52
  refine hd.mono ?_;rintro e w2 ⟨v,rfl,hR2,hB2,hK2⟩;obtain ⟨A2,c2,rfl⟩:=yk hR2;have hz2:=blk_kept hz1 hK2 (by rw [hsz];omega);have hbw2 : Below w.heap.size w w2:=zC hb0 hB2
  go_wp2_with fail
  go_at_call 39
  refine (Fh.calls k A2 c2 (L.filter (fun e => !F3.cut l1 e)) r1 r2 r3 _ (yh hR2).2.2 (yh hR2).2.1 h).mono ?_;rintro e w3 ⟨rfl,hb3⟩;have hz3:=zD hz2 hb3;have q0:=zz hz3 0;have q1:=zz hz3 1;have q2:=zz hz3 2;have f0:=zA hz3 0;have f1:=zA hz3 1;have f2:=zA hz3 2;have hbw3:=zC hbw2 hb3;have hz4 : (((w3.setCell ⟨w.heap.size + 1 + 1,0,none⟩ (.int .i64 r1)).setCell ⟨w.heap.size + 1 + 1,1,none⟩ (.int .i64 r2)).setCell ⟨w.heap.size + 1 + 1,2,none⟩ (.string r3)).heap[w.heap.size + 1 + 1]? = some (.cells #[.int .i64 r1,.int .i64 r2,.string r3] 27 (0,0)):=blk_set (blk_set (blk_set hz3 0 _) 1 _) 2 _
  go_wp2_with fail
  refine bodyPost_ret (results_cell_row rfl _ _ (w.heap.size + 1 + 1) 27 #[.int .i64 r1,.int .i64 r2,.string r3] (0,0) _ rfl hz4 hu27 rfl (by kernel_rfl)) rfl ?_;exact ⟨rfl,zd (zd (zd hbw3 (by omega)) (by omega)) (by omega)⟩
 simp only at h;rw [if_neg hf] at h;cases h


def F00.f (k : Nat) (a0_0 : Int) (a0_1 : Int) (a0_2 : ByteArray) (l1 : List ByteArray) : Option (Int×Int×ByteArray×Int):=if (l1.length : Int) > 4096 then (some (0,0,(⟨#[]⟩ : ByteArray),2)) else ((F06.f k a0_0 a0_1 a0_2).bind fun t527 => (if t527=true then ((Fu.f k l1).bind fun t528 => (if t528=true then ((F3.f k a0_0 a0_1 a0_2 l1).bind fun bt529 => (some (bt529.1,bt529.2.1,bt529.2.2,0))) else (some (0,0,(⟨#[]⟩ : ByteArray),11)))) else (some (0,0,(⟨#[]⟩ : ByteArray),1))))
theorem F00.mono : ∀ a0 a1 a2 a3 k,LeO (F00.f k a0 a1 a2 a3) (F00.f (k + 1) a0 a1 a2 a3):=by
 intro a0 a1 a2 a3 k;unfold F00.f
 repeat' first|(with_reducible first|exact F06.mono _ _ _ _|exact Fu.mono _ _|exact F3.mono _ _ _ _ _|exact zQ _|exact zN _|refine zP ?_ ?_|refine zO ?_ (fun _ => ?_))|refine zP ?_ ?_|refine zO ?_ (fun _ => ?_)
set_option maxHeartbeats 8000000 in
set_option maxRecDepth 100000 in
theorem F00.calls (k : Nat) (a0_0 : Int) (a0_1 : Int) (a0_2 : ByteArray) (A1 : Option Addr) (c1 : Nat) (l1 : List ByteArray) (r1 : Int) (r2 : Int) (r3 : ByteArray) (r4 : Int) (w : World) (hr1 : Kd.C Kd.string w A1 l1.length l1) (hc1 : l1.length≤c1) (h : F00.f k a0_0 a0_1 a0_2 l1=some (r1,r2,r3,r4)) :
  Calls Try.prog 13 #[.agg #[.int .i64 a0_0,.int .i64 a0_1,.string a0_2],.slice A1 l1.length c1] w fun e w' => e = .returned (.tuple #[.agg #[.int .i64 r1,.int .i64 r2,.string r3],.int .i64 r4])∧Below w.heap.size w w':=by
 have hu27:=Try.underlying27;have HR1:=zh hr1;have HC1:=zh hc1;clear hr1 hc1;have HB:=zh (Below.refl w.heap.size w);have H : (if (l1.length : Int) > 4096 then (some (0,0,(⟨#[]⟩ : ByteArray),2)) else ((F06.f k a0_0 a0_1 a0_2).bind fun t527 => (if t527=true then ((Fu.f k l1).bind fun t528 => (if t528=true then ((F3.f k a0_0 a0_1 a0_2 l1).bind fun bt529 => (some (bt529.1,bt529.2.1,bt529.2.2,0))) else (some (0,0,(⟨#[]⟩ : ByteArray),11)))) else (some (0,0,(⟨#[]⟩ : ByteArray),1)))))=some (r1,r2,r3,r4):=h;clear h
 by_cases c3 : (l1.length : Int) > 4096
 ·
  rw [if_pos c3] at H
  have c3b0 : decide (4096<(l1.length : Int))=true:=decide_eq_true c3;have c3b1 : decide (4096<l1.length)=true:=decide_eq_true (by omega);clear c3;simp only [Option.some.injEq,Prod.mk.injEq] at H;obtain ⟨rfl,rfl,rfl,rfl⟩:=H
  go_enter Try.func13,Try.ntmps13
  go_wp2_with (first|((with_reducible refine zK (N:=2) rfl ?_);refine zI ?hg (N:=2) ?hd (cs:=#[.int .i64 a0_0,.int .i64 a0_1,.string a0_2]) (t:=27) ?hr ?_;(case hd|hg => rfl);(case hr => go_simp <;> rfl);intro gb525 hg w4 hbox hb;have BK525:=zh (hbox);have hH_:=cH (by repeat (with_reducible first|exact HB.out|apply za|apply zb|apply zc)) hb hg;have GW525:=zh hH_.1;have GE525:=GW525;replace HB:=zh hH_.2;clear hb hbox hg hH_)|((with_reducible refine zK (N:=4) rfl ?_);refine zI ?hg (N:=4) ?hd (cs:=#[.int .i64 0,.int .i64 0,.string (⟨#[]⟩ : ByteArray)]) (t:=27) ?hr ?_;(case hd|hg => rfl);(case hr => go_simp <;> rfl);intro gb526 hg w5 hbox hb;have BK526:=zh (hbox);have hH_:=cH (by repeat (with_reducible first|exact HB.out|apply za|apply zb|apply zc|refine zd ?_ GE525.out)) hb hg;have GW526:=zh hH_.1;have GE526:=GW526;replace HB:=zh hH_.2;have NB525_526:=zh ((by rw [hg];exact yc (yi (g:=gb525) (o:=.cells #[.int .i64 a0_0,.int .i64 a0_1,.string a0_2] 27 (0,0)) (by (with_reducible repeat first|apply ze|apply zf|apply zg);exact BK525.out)) : gb525≠gb526));have NB526_525:=zh NB525_526.out.symm;replace BK525:=zh (cD BK525.out (by (with_reducible repeat first|apply ze|apply zf|apply zg);exact BK525.out) hb);clear hb hbox hg hH_;have hnb6:=NB526_525.out;have hnc6:=NB525_526.out;obtain ⟨hcz7_0,hcz7_1,hcz7_2,hfz7_0,hfz7_1,hfz7_2⟩:=cB3 BK526.out))
  refine bodyPost_ret (results_ct rfl _ _ gb526 27 #[.int .i64 0,.int .i64 0,.string (⟨#[]⟩ : ByteArray)] (0,0) _ rfl (by (with_reducible repeat first|apply ze|apply zf|apply zg);refine zL (cs:=#[.int .i64 0,.int .i64 0,.string (⟨#[]⟩ : ByteArray)]) ?_ 2 _ rfl;(with_reducible repeat first|apply ze|apply zf|apply zg);refine zL (cs:=#[.int .i64 0,.int .i64 0,.string (⟨#[]⟩ : ByteArray)]) ?_ 1 _ rfl;(with_reducible repeat first|apply ze|apply zf|apply zg);refine zL (cs:=#[.int .i64 0,.int .i64 0,.string (⟨#[]⟩ : ByteArray)]) ?_ 0 _ rfl;(with_reducible repeat first|apply ze|apply zf|apply zg);exact BK526.out) Try.underlying27 rfl (by kernel_rfl)) rfl ?_;exact ⟨by first|rfl|(simp [yt,yu] <;> rfl)|(simp [*,yt,yu] <;> rfl),by repeat (with_reducible first|exact HB.out|apply za|apply zb|apply zc|refine zd ?_ GE525.out|refine zd ?_ GE526.out)⟩
 rw [if_neg c3] at H;have c3b0 : decide (4096<(l1.length : Int))=false:=decide_eq_false c3;have c3b1 : decide (4096<l1.length)=false:=decide_eq_false (by omega);clear c3;replace H:=zT.mp H;obtain ⟨t527,A80,H⟩:=H;replace H : (if t527=true then ((Fu.f k l1).bind fun t528 => (if t528=true then ((F3.f k a0_0 a0_1 a0_2 l1).bind fun bt529 => (some (bt529.1,bt529.2.1,bt529.2.2,0))) else (some (0,0,(⟨#[]⟩ : ByteArray),11)))) else (some (0,0,(⟨#[]⟩ : ByteArray),1)))=some (r1,r2,r3,r4):=H;have A8:=zh A80;clear A80
 by_cases c9 : t527=true
 ·
  subst c9
  have H1 : ((Fu.f k l1).bind fun t528 => (if t528=true then ((F3.f k a0_0 a0_1 a0_2 l1).bind fun bt529 => (some (bt529.1,bt529.2.1,bt529.2.2,0))) else (some (0,0,(⟨#[]⟩ : ByteArray),11))))=some (r1,r2,r3,r4):=by rw [if_pos rfl] at H;exact H
  clear H;have H:=H1;clear H1;replace H:=zT.mp H;obtain ⟨t528,A100,H⟩:=H;replace H : (if t528=true then ((F3.f k a0_0 a0_1 a0_2 l1).bind fun bt529 => (some (bt529.1,bt529.2.1,bt529.2.2,0))) else (some (0,0,(⟨#[]⟩ : ByteArray),11)))=some (r1,r2,r3,r4):=H;have A10:=zh A100;clear A100
  by_cases c11 : t528=true
  ·
   subst c11
   have H1 : ((F3.f k a0_0 a0_1 a0_2 l1).bind fun bt529 => (some (bt529.1,bt529.2.1,bt529.2.2,0)))=some (r1,r2,r3,r4):=by rw [if_pos rfl] at H;exact H
   clear H;have H:=H1;clear H1;replace H:=zT.mp H;obtain ⟨⟨t529,t530,t531⟩,A120,H⟩:=H;replace H : (some (t529,t530,t531,0))=some (r1,r2,r3,r4):=H;have A12:=zh A120;clear A120;simp only [Option.some.injEq,Prod.mk.injEq] at H;obtain ⟨rfl,rfl,rfl,rfl⟩:=H
   go_enter Try.func13,Try.ntmps13
   go_wp2_with (first|((with_reducible refine zK (N:=2) rfl ?_);refine zI ?hg (N:=2) ?hd (cs:=#[.int .i64 a0_0,.int .i64 a0_1,.string a0_2]) (t:=27) ?hr ?_;(case hd|hg => rfl);(case hr => go_simp <;> rfl);intro gb525 hg w13 hbox hb;have BK525:=zh (hbox);have hH_:=cH (by repeat (with_reducible first|exact HB.out|apply za|apply zb|apply zc)) hb hg;have GW525:=zh hH_.1;have GE525:=GW525;replace HB:=zh hH_.2;clear hb hbox hg hH_)|((with_reducible refine zK (N:=4) rfl ?_);refine zI ?hg (N:=4) ?hd (cs:=#[.int .i64 0,.int .i64 0,.string (⟨#[]⟩ : ByteArray)]) (t:=27) ?hr ?_;(case hd|hg => rfl);(case hr => go_simp <;> rfl);intro gb526 hg w14 hbox hb;have BK526:=zh (hbox);have hH_:=cH (by repeat (with_reducible first|exact HB.out|apply za|apply zb|apply zc|refine zd ?_ GE525.out)) hb hg;have GW526:=zh hH_.1;have GE526:=GW526;replace HB:=zh hH_.2;have NB525_526:=zh ((by rw [hg];exact yc (yi (g:=gb525) (o:=.cells #[.int .i64 a0_0,.int .i64 a0_1,.string a0_2] 27 (0,0)) (by (with_reducible repeat first|apply ze|apply zf|apply zg);exact BK525.out)) : gb525≠gb526));have NB526_525:=zh NB525_526.out.symm;replace BK525:=zh (cD BK525.out (by (with_reducible repeat first|apply ze|apply zf|apply zg);exact BK525.out) hb);clear hb hbox hg hH_;have hnb15:=NB525_526.out;have hnc15:=NB526_525.out;obtain ⟨hcz16_0,hcz16_1,hcz16_2,hfz16_0,hfz16_1,hfz16_2⟩:=cB3 BK525.out)|((with_reducible refine zJ (f:=28) rfl ?_);refine yj (some 13) rfl rfl Try.func28 (by kernel_rfl) rfl #[.agg #[.int .i64 a0_0,.int .i64 a0_1,.string a0_2]] rfl (by (try simp only [zt,zu,zv]);first|done|rfl|(simp only [zw,zx];rfl)|(simp only [yr,ys,zV,zW];rfl)) ?_;(with_reducible refine (F06.calls k  a0_0 a0_1 a0_2 true _ A8.out).mono ?_);rintro e w17 ⟨rfl,hb⟩;refine ⟨_,rfl,?_⟩;replace BK525:=zh (cD BK525.out (by (with_reducible repeat first|apply ze|apply zf|apply zg);exact BK525.out) hb);replace BK526:=zh (cD BK526.out (by (with_reducible repeat first|apply ze|apply zf|apply zg);exact BK526.out) hb);replace HB:=zh (zC (by repeat (with_reducible first|exact HB.out|apply za|apply zb|apply zc|refine zd ?_ GE525.out|refine zd ?_ GE526.out)) hb);(try clear hb);(try clear hb2);(try clear hk);(try clear hi))|((with_reducible refine zJ (f:=29) rfl ?_);refine yj (some 18) rfl rfl Try.func29 (by kernel_rfl) rfl #[.slice A1 l1.length c1] rfl (by (try simp only [zt,zu,zv]);first|done|rfl|(simp only [zw,zx];rfl)|(simp only [yr,ys,zV,zW];rfl)) ?_;(with_reducible refine (Fu.calls k  _ _ l1 true _ ?side1 ?side2 A10.out).mono ?_);(case side1 => repeat (first|exact (Kd.C_below HR1.out HB.out)|(with_reducible refine Kd.C_alloc ?_ _)|(with_reducible refine Kd.C_drewN ?_ _)|(with_reducible refine Kd.C_drew ?_)));(case side2 => exact HC1.out);rintro e w18 ⟨rfl,hb⟩;refine ⟨_,rfl,?_⟩;replace BK525:=zh (cD BK525.out (by (with_reducible repeat first|apply ze|apply zf|apply zg);exact BK525.out) hb);replace BK526:=zh (cD BK526.out (by (with_reducible repeat first|apply ze|apply zf|apply zg);exact BK526.out) hb);replace HB:=zh (zC (by repeat (with_reducible first|exact HB.out|apply za|apply zb|apply zc|refine zd ?_ GE525.out|refine zd ?_ GE526.out)) hb);(try clear hb);(try clear hb2);(try clear hk);(try clear hi);obtain ⟨hcz19_0,hcz19_1,hcz19_2,hfz19_0,hfz19_1,hfz19_2⟩:=cB3 BK525.out)|((with_reducible refine zJ (f:=30) rfl ?_);refine yj (some 23) rfl rfl Try.func30 (by kernel_rfl) rfl #[.agg #[.int .i64 a0_0,.int .i64 a0_1,.string a0_2],.slice A1 l1.length c1] rfl (by (try simp only [zt,zu,zv]);first|done|rfl|(simp only [zw,zx];rfl)|(simp only [yr,ys,zV,zW];rfl)) ?_;(with_reducible refine (F3.calls k  a0_0 a0_1 a0_2 _ _ l1 t529 t530 t531 _ ?side1 ?side2 A12.out).mono ?_);(case side1 => repeat (first|exact (Kd.C_below HR1.out HB.out)|(with_reducible refine Kd.C_alloc ?_ _)|(with_reducible refine Kd.C_drewN ?_ _)|(with_reducible refine Kd.C_drew ?_)));(case side2 => exact HC1.out);rintro e w20 ⟨rfl,hb⟩;refine ⟨_,rfl,?_⟩;replace BK525:=zh (cD BK525.out (by (with_reducible repeat first|apply ze|apply zf|apply zg);exact BK525.out) hb);replace BK526:=zh (cD BK526.out (by (with_reducible repeat first|apply ze|apply zf|apply zg);exact BK526.out) hb);replace HB:=zh (zC (by repeat (with_reducible first|exact HB.out|apply za|apply zb|apply zc|refine zd ?_ GE525.out|refine zd ?_ GE526.out)) hb);(try clear hb);(try clear hb2);(try clear hk);(try clear hi);obtain ⟨hcz21_0,hcz21_1,hcz21_2,hfz21_0,hfz21_1,hfz21_2⟩:=cB3 BK526.out))
   refine bodyPost_ret (results_ct rfl _ _ gb526 27 #[.int .i64 t529,.int .i64 t530,.string t531] (0,0) _ rfl (by (with_reducible repeat first|apply ze|apply zf|apply zg);refine zL (cs:=#[.int .i64 t529,.int .i64 t530,.string (⟨#[]⟩ : ByteArray)]) ?_ 2 _ rfl;(with_reducible repeat first|apply ze|apply zf|apply zg);refine zL (cs:=#[.int .i64 t529,.int .i64 0,.string (⟨#[]⟩ : ByteArray)]) ?_ 1 _ rfl;(with_reducible repeat first|apply ze|apply zf|apply zg);refine zL (cs:=#[.int .i64 0,.int .i64 0,.string (⟨#[]⟩ : ByteArray)]) ?_ 0 _ rfl;(with_reducible repeat first|apply ze|apply zf|apply zg);exact BK526.out) Try.underlying27 rfl (by kernel_rfl)) rfl ?_;exact ⟨by first|rfl|(simp [yt,yu] <;> rfl)|(simp [*,yt,yu] <;> rfl),by repeat (with_reducible first|exact HB.out|apply za|apply zb|apply zc|refine zd ?_ GE525.out|refine zd ?_ GE526.out)⟩
  replace c11:=yb.mpr c11;subst c11;have H1 : (some (0,0,(⟨#[]⟩ : ByteArray),11))=some (r1,r2,r3,r4):=by rw [if_neg (show ¬ (false=true) by decide)] at H;exact H
  clear H;have H:=H1;clear H1;simp only [Option.some.injEq,Prod.mk.injEq] at H;obtain ⟨rfl,rfl,rfl,rfl⟩:=H
  go_enter Try.func13,Try.ntmps13
  go_wp2_with (first|((with_reducible refine zK (N:=2) rfl ?_);refine zI ?hg (N:=2) ?hd (cs:=#[.int .i64 a0_0,.int .i64 a0_1,.string a0_2]) (t:=27) ?hr ?_;(case hd|hg => rfl);(case hr => go_simp <;> rfl);intro gb525 hg w22 hbox hb;have BK525:=zh (hbox);have hH_:=cH (by repeat (with_reducible first|exact HB.out|apply za|apply zb|apply zc)) hb hg;have GW525:=zh hH_.1;have GE525:=GW525;replace HB:=zh hH_.2;clear hb hbox hg hH_)|((with_reducible refine zK (N:=4) rfl ?_);refine zI ?hg (N:=4) ?hd (cs:=#[.int .i64 0,.int .i64 0,.string (⟨#[]⟩ : ByteArray)]) (t:=27) ?hr ?_;(case hd|hg => rfl);(case hr => go_simp <;> rfl);intro gb526 hg w23 hbox hb;have BK526:=zh (hbox);have hH_:=cH (by repeat (with_reducible first|exact HB.out|apply za|apply zb|apply zc|refine zd ?_ GE525.out)) hb hg;have GW526:=zh hH_.1;have GE526:=GW526;replace HB:=zh hH_.2;have NB525_526:=zh ((by rw [hg];exact yc (yi (g:=gb525) (o:=.cells #[.int .i64 a0_0,.int .i64 a0_1,.string a0_2] 27 (0,0)) (by (with_reducible repeat first|apply ze|apply zf|apply zg);exact BK525.out)) : gb525≠gb526));have NB526_525:=zh NB525_526.out.symm;replace BK525:=zh (cD BK525.out (by (with_reducible repeat first|apply ze|apply zf|apply zg);exact BK525.out) hb);clear hb hbox hg hH_;have hnb24:=NB525_526.out;have hnc24:=NB526_525.out;obtain ⟨hcz25_0,hcz25_1,hcz25_2,hfz25_0,hfz25_1,hfz25_2⟩:=cB3 BK525.out)|((with_reducible refine zJ (f:=28) rfl ?_);refine yj (some 13) rfl rfl Try.func28 (by kernel_rfl) rfl #[.agg #[.int .i64 a0_0,.int .i64 a0_1,.string a0_2]] rfl (by (try simp only [zt,zu,zv]);first|done|rfl|(simp only [zw,zx];rfl)|(simp only [yr,ys,zV,zW];rfl)) ?_;(with_reducible refine (F06.calls k  a0_0 a0_1 a0_2 true _ A8.out).mono ?_);rintro e w26 ⟨rfl,hb⟩;refine ⟨_,rfl,?_⟩;replace BK525:=zh (cD BK525.out (by (with_reducible repeat first|apply ze|apply zf|apply zg);exact BK525.out) hb);replace BK526:=zh (cD BK526.out (by (with_reducible repeat first|apply ze|apply zf|apply zg);exact BK526.out) hb);replace HB:=zh (zC (by repeat (with_reducible first|exact HB.out|apply za|apply zb|apply zc|refine zd ?_ GE525.out|refine zd ?_ GE526.out)) hb);(try clear hb);(try clear hb2);(try clear hk);(try clear hi))|((with_reducible refine zJ (f:=29) rfl ?_);refine yj (some 18) rfl rfl Try.func29 (by kernel_rfl) rfl #[.slice A1 l1.length c1] rfl (by (try simp only [zt,zu,zv]);first|done|rfl|(simp only [zw,zx];rfl)|(simp only [yr,ys,zV,zW];rfl)) ?_;(with_reducible refine (Fu.calls k  _ _ l1 false _ ?side1 ?side2 A10.out).mono ?_);(case side1 => repeat (first|exact (Kd.C_below HR1.out HB.out)|(with_reducible refine Kd.C_alloc ?_ _)|(with_reducible refine Kd.C_drewN ?_ _)|(with_reducible refine Kd.C_drew ?_)));(case side2 => exact HC1.out);rintro e w27 ⟨rfl,hb⟩;refine ⟨_,rfl,?_⟩;replace BK525:=zh (cD BK525.out (by (with_reducible repeat first|apply ze|apply zf|apply zg);exact BK525.out) hb);replace BK526:=zh (cD BK526.out (by (with_reducible repeat first|apply ze|apply zf|apply zg);exact BK526.out) hb);replace HB:=zh (zC (by repeat (with_reducible first|exact HB.out|apply za|apply zb|apply zc|refine zd ?_ GE525.out|refine zd ?_ GE526.out)) hb);(try clear hb);(try clear hb2);(try clear hk);(try clear hi);obtain ⟨hcz28_0,hcz28_1,hcz28_2,hfz28_0,hfz28_1,hfz28_2⟩:=cB3 BK526.out))
  refine bodyPost_ret (results_ct rfl _ _ gb526 27 #[.int .i64 0,.int .i64 0,.string (⟨#[]⟩ : ByteArray)] (0,0) _ rfl (by (with_reducible repeat first|apply ze|apply zf|apply zg);refine zL (cs:=#[.int .i64 0,.int .i64 0,.string (⟨#[]⟩ : ByteArray)]) ?_ 2 _ rfl;(with_reducible repeat first|apply ze|apply zf|apply zg);refine zL (cs:=#[.int .i64 0,.int .i64 0,.string (⟨#[]⟩ : ByteArray)]) ?_ 1 _ rfl;(with_reducible repeat first|apply ze|apply zf|apply zg);refine zL (cs:=#[.int .i64 0,.int .i64 0,.string (⟨#[]⟩ : ByteArray)]) ?_ 0 _ rfl;(with_reducible repeat first|apply ze|apply zf|apply zg);exact BK526.out) Try.underlying27 rfl (by kernel_rfl)) rfl ?_;exact ⟨by first|rfl|(simp [yt,yu] <;> rfl)|(simp [*,yt,yu] <;> rfl),by repeat (with_reducible first|exact HB.out|apply za|apply zb|apply zc|refine zd ?_ GE525.out|refine zd ?_ GE526.out)⟩
 replace c9:=yb.mpr c9;subst c9;have H1 : (some (0,0,(⟨#[]⟩ : ByteArray),1))=some (r1,r2,r3,r4):=by rw [if_neg (show ¬ (false=true) by decide)] at H;exact H
 clear H;have H:=H1;clear H1;simp only [Option.some.injEq,Prod.mk.injEq] at H;obtain ⟨rfl,rfl,rfl,rfl⟩:=H
 go_enter Try.func13,Try.ntmps13
 go_wp2_with (first|((with_reducible refine zK (N:=2) rfl ?_);refine zI ?hg (N:=2) ?hd (cs:=#[.int .i64 a0_0,.int .i64 a0_1,.string a0_2]) (t:=27) ?hr ?_;(case hd|hg => rfl);(case hr => go_simp <;> rfl);intro gb525 hg w29 hbox hb;have BK525:=zh (hbox);have hH_:=cH (by repeat (with_reducible first|exact HB.out|apply za|apply zb|apply zc)) hb hg;have GW525:=zh hH_.1;have GE525:=GW525;replace HB:=zh hH_.2;clear hb hbox hg hH_)|((with_reducible refine zK (N:=4) rfl ?_);refine zI ?hg (N:=4) ?hd (cs:=#[.int .i64 0,.int .i64 0,.string (⟨#[]⟩ : ByteArray)]) (t:=27) ?hr ?_;(case hd|hg => rfl);(case hr => go_simp <;> rfl);intro gb526 hg w30 hbox hb;have BK526:=zh (hbox);have hH_:=cH (by repeat (with_reducible first|exact HB.out|apply za|apply zb|apply zc|refine zd ?_ GE525.out)) hb hg;have GW526:=zh hH_.1;have GE526:=GW526;replace HB:=zh hH_.2;have NB525_526:=zh ((by rw [hg];exact yc (yi (g:=gb525) (o:=.cells #[.int .i64 a0_0,.int .i64 a0_1,.string a0_2] 27 (0,0)) (by (with_reducible repeat first|apply ze|apply zf|apply zg);exact BK525.out)) : gb525≠gb526));have NB526_525:=zh NB525_526.out.symm;replace BK525:=zh (cD BK525.out (by (with_reducible repeat first|apply ze|apply zf|apply zg);exact BK525.out) hb);clear hb hbox hg hH_;have hnb31:=NB525_526.out;have hnc31:=NB526_525.out;obtain ⟨hcz32_0,hcz32_1,hcz32_2,hfz32_0,hfz32_1,hfz32_2⟩:=cB3 BK525.out)|((with_reducible refine zJ (f:=28) rfl ?_);refine yj (some 13) rfl rfl Try.func28 (by kernel_rfl) rfl #[.agg #[.int .i64 a0_0,.int .i64 a0_1,.string a0_2]] rfl (by (try simp only [zt,zu,zv]);first|done|rfl|(simp only [zw,zx];rfl)|(simp only [yr,ys,zV,zW];rfl)) ?_;(with_reducible refine (F06.calls k  a0_0 a0_1 a0_2 false _ A8.out).mono ?_);rintro e w33 ⟨rfl,hb⟩;refine ⟨_,rfl,?_⟩;replace BK525:=zh (cD BK525.out (by (with_reducible repeat first|apply ze|apply zf|apply zg);exact BK525.out) hb);replace BK526:=zh (cD BK526.out (by (with_reducible repeat first|apply ze|apply zf|apply zg);exact BK526.out) hb);replace HB:=zh (zC (by repeat (with_reducible first|exact HB.out|apply za|apply zb|apply zc|refine zd ?_ GE525.out|refine zd ?_ GE526.out)) hb);(try clear hb);(try clear hb2);(try clear hk);(try clear hi);obtain ⟨hcz34_0,hcz34_1,hcz34_2,hfz34_0,hfz34_1,hfz34_2⟩:=cB3 BK526.out))
 refine bodyPost_ret (results_ct rfl _ _ gb526 27 #[.int .i64 0,.int .i64 0,.string (⟨#[]⟩ : ByteArray)] (0,0) _ rfl (by (with_reducible repeat first|apply ze|apply zf|apply zg);refine zL (cs:=#[.int .i64 0,.int .i64 0,.string (⟨#[]⟩ : ByteArray)]) ?_ 2 _ rfl;(with_reducible repeat first|apply ze|apply zf|apply zg);refine zL (cs:=#[.int .i64 0,.int .i64 0,.string (⟨#[]⟩ : ByteArray)]) ?_ 1 _ rfl;(with_reducible repeat first|apply ze|apply zf|apply zg);refine zL (cs:=#[.int .i64 0,.int .i64 0,.string (⟨#[]⟩ : ByteArray)]) ?_ 0 _ rfl;(with_reducible repeat first|apply ze|apply zf|apply zg);exact BK526.out) Try.underlying27 rfl (by kernel_rfl)) rfl ?_;exact ⟨by first|rfl|(simp [yt,yu] <;> rfl)|(simp [*,yt,yu] <;> rfl),by repeat (with_reducible first|exact HB.out|apply za|apply zb|apply zc|refine zd ?_ GE525.out|refine zd ?_ GE526.out)⟩


def F03.f (a0_0 : Int) (a0_1 : Int) (a0_2 : ByteArray) (a1_0 : Int) (a1_1 : Int) (a1_2 : ByteArray) : Option (Bool):=if a0_0=a1_0 then (if a0_1=a1_1 then (if a0_2.toList=a1_2.toList then (some true) else (some false)) else (some false)) else (some false)
set_option maxHeartbeats 8000000 in
set_option maxRecDepth 100000 in
theorem F03.calls (a0_0 : Int) (a0_1 : Int) (a0_2 : ByteArray) (a1_0 : Int) (a1_1 : Int) (a1_2 : ByteArray) (r : Bool) (w : World) (h : F03.f a0_0 a0_1 a0_2 a1_0 a1_1 a1_2=some r) :
  Calls Try.prog 14 #[.agg #[.int .i64 a0_0,.int .i64 a0_1,.string a0_2],.agg #[.int .i64 a1_0,.int .i64 a1_1,.string a1_2]] w fun e w' => e = .returned (.bool r)∧Below w.heap.size w w':=by
 have hu27:=Try.underlying27;have HB:=zh (Below.refl w.heap.size w);have H : (if a0_0=a1_0 then (if a0_1=a1_1 then (if a0_2.toList=a1_2.toList then (some true) else (some false)) else (some false)) else (some false))=some r:=h;clear h
 by_cases c3 : a0_0=a1_0
 ·
  rw [if_pos c3] at H
  have c3b0 : (a0_0 == a1_0)=true:=ya.mpr c3;have c3b1 : (a0_0 != a1_0)=false:=zX.mpr c3;clear c3
  by_cases c4 : a0_1=a1_1
  ·
   rw [if_pos c4] at H
   have c4b0 : (a0_1 == a1_1)=true:=ya.mpr c4;have c4b1 : (a0_1 != a1_1)=false:=zX.mpr c4;clear c4
   by_cases c5 : a0_2.toList=a1_2.toList
   ·
    rw [if_pos c5] at H
    have c5b0 : (a0_2.toList == a1_2.toList)=true:=ya.mpr c5;have c5b1 : (a0_2.toList != a1_2.toList)=false:=zX.mpr c5;clear c5;obtain rfl:=zU H
    go_enter Try.func14,Try.ntmps14
    go_wp2_with (first|((with_reducible refine zK (N:=2) rfl ?_);refine zI ?hg (N:=2) ?hd (cs:=#[.int .i64 a0_0,.int .i64 a0_1,.string a0_2]) (t:=27) ?hr ?_;(case hd|hg => rfl);(case hr => go_simp <;> rfl);intro gb532 hg w6 hbox hb;have BK532:=zh (hbox);have hH_:=cH (by repeat (with_reducible first|exact HB.out|apply za|apply zb|apply zc)) hb hg;have GW532:=zh hH_.1;have GE532:=GW532;replace HB:=zh hH_.2;clear hb hbox hg hH_)|((with_reducible refine zK (N:=3) rfl ?_);refine zI ?hg (N:=3) ?hd (cs:=#[.int .i64 a1_0,.int .i64 a1_1,.string a1_2]) (t:=27) ?hr ?_;(case hd|hg => rfl);(case hr => go_simp <;> rfl);intro gb533 hg w7 hbox hb;have BK533:=zh (hbox);have hH_:=cH (by repeat (with_reducible first|exact HB.out|apply za|apply zb|apply zc|refine zd ?_ GE532.out)) hb hg;have GW533:=zh hH_.1;have GE533:=GW533;replace HB:=zh hH_.2;have NB532_533:=zh ((by rw [hg];exact yc (yi (g:=gb532) (o:=.cells #[.int .i64 a0_0,.int .i64 a0_1,.string a0_2] 27 (0,0)) (by (with_reducible repeat first|apply ze|apply zf|apply zg);exact BK532.out)) : gb532≠gb533));have NB533_532:=zh NB532_533.out.symm;replace BK532:=zh (cD BK532.out (by (with_reducible repeat first|apply ze|apply zf|apply zg);exact BK532.out) hb);clear hb hbox hg hH_;have hnb8:=NB532_533.out;have hnc8:=NB533_532.out;obtain ⟨hcz9_0,hcz9_1,hcz9_2,hfz9_0,hfz9_1,hfz9_2⟩:=cB3 BK532.out;obtain ⟨hcz10_0,hcz10_1,hcz10_2,hfz10_0,hfz10_1,hfz10_2⟩:=cB3 BK533.out))
    go_ret
    exact ⟨by first|rfl|(simp [yt,yu] <;> rfl)|(simp [*,yt,yu] <;> rfl),by repeat (with_reducible first|exact HB.out|apply za|apply zb|apply zc|refine zd ?_ GE532.out|refine zd ?_ GE533.out)⟩
   rw [if_neg c5] at H;have c5b0 : (a0_2.toList == a1_2.toList)=false:=zY.mpr c5;have c5b1 : (a0_2.toList != a1_2.toList)=true:=zZ.mpr c5;obtain rfl:=zU H
   go_enter Try.func14,Try.ntmps14
   go_wp2_with (first|((with_reducible refine zK (N:=2) rfl ?_);refine zI ?hg (N:=2) ?hd (cs:=#[.int .i64 a0_0,.int .i64 a0_1,.string a0_2]) (t:=27) ?hr ?_;(case hd|hg => rfl);(case hr => go_simp <;> rfl);intro gb532 hg w11 hbox hb;have BK532:=zh (hbox);have hH_:=cH (by repeat (with_reducible first|exact HB.out|apply za|apply zb|apply zc)) hb hg;have GW532:=zh hH_.1;have GE532:=GW532;replace HB:=zh hH_.2;clear hb hbox hg hH_)|((with_reducible refine zK (N:=3) rfl ?_);refine zI ?hg (N:=3) ?hd (cs:=#[.int .i64 a1_0,.int .i64 a1_1,.string a1_2]) (t:=27) ?hr ?_;(case hd|hg => rfl);(case hr => go_simp <;> rfl);intro gb533 hg w12 hbox hb;have BK533:=zh (hbox);have hH_:=cH (by repeat (with_reducible first|exact HB.out|apply za|apply zb|apply zc|refine zd ?_ GE532.out)) hb hg;have GW533:=zh hH_.1;have GE533:=GW533;replace HB:=zh hH_.2;have NB532_533:=zh ((by rw [hg];exact yc (yi (g:=gb532) (o:=.cells #[.int .i64 a0_0,.int .i64 a0_1,.string a0_2] 27 (0,0)) (by (with_reducible repeat first|apply ze|apply zf|apply zg);exact BK532.out)) : gb532≠gb533));have NB533_532:=zh NB532_533.out.symm;replace BK532:=zh (cD BK532.out (by (with_reducible repeat first|apply ze|apply zf|apply zg);exact BK532.out) hb);clear hb hbox hg hH_;have hnb13:=NB532_533.out;have hnc13:=NB533_532.out;obtain ⟨hcz14_0,hcz14_1,hcz14_2,hfz14_0,hfz14_1,hfz14_2⟩:=cB3 BK532.out;obtain ⟨hcz15_0,hcz15_1,hcz15_2,hfz15_0,hfz15_1,hfz15_2⟩:=cB3 BK533.out))
   go_ret
   exact ⟨by first|rfl|(simp [yt,yu] <;> rfl)|(simp [*,yt,yu] <;> rfl),by repeat (with_reducible first|exact HB.out|apply za|apply zb|apply zc|refine zd ?_ GE532.out|refine zd ?_ GE533.out)⟩
  rw [if_neg c4] at H;have c4b0 : (a0_1 == a1_1)=false:=zY.mpr c4;have c4b1 : (a0_1 != a1_1)=true:=zZ.mpr c4;obtain rfl:=zU H
  go_enter Try.func14,Try.ntmps14
  go_wp2_with (first|((with_reducible refine zK (N:=2) rfl ?_);refine zI ?hg (N:=2) ?hd (cs:=#[.int .i64 a0_0,.int .i64 a0_1,.string a0_2]) (t:=27) ?hr ?_;(case hd|hg => rfl);(case hr => go_simp <;> rfl);intro gb532 hg w16 hbox hb;have BK532:=zh (hbox);have hH_:=cH (by repeat (with_reducible first|exact HB.out|apply za|apply zb|apply zc)) hb hg;have GW532:=zh hH_.1;have GE532:=GW532;replace HB:=zh hH_.2;clear hb hbox hg hH_)|((with_reducible refine zK (N:=3) rfl ?_);refine zI ?hg (N:=3) ?hd (cs:=#[.int .i64 a1_0,.int .i64 a1_1,.string a1_2]) (t:=27) ?hr ?_;(case hd|hg => rfl);(case hr => go_simp <;> rfl);intro gb533 hg w17 hbox hb;have BK533:=zh (hbox);have hH_:=cH (by repeat (with_reducible first|exact HB.out|apply za|apply zb|apply zc|refine zd ?_ GE532.out)) hb hg;have GW533:=zh hH_.1;have GE533:=GW533;replace HB:=zh hH_.2;have NB532_533:=zh ((by rw [hg];exact yc (yi (g:=gb532) (o:=.cells #[.int .i64 a0_0,.int .i64 a0_1,.string a0_2] 27 (0,0)) (by (with_reducible repeat first|apply ze|apply zf|apply zg);exact BK532.out)) : gb532≠gb533));have NB533_532:=zh NB532_533.out.symm;replace BK532:=zh (cD BK532.out (by (with_reducible repeat first|apply ze|apply zf|apply zg);exact BK532.out) hb);clear hb hbox hg hH_;have hnb18:=NB532_533.out;have hnc18:=NB533_532.out;obtain ⟨hcz19_0,hcz19_1,hcz19_2,hfz19_0,hfz19_1,hfz19_2⟩:=cB3 BK532.out;obtain ⟨hcz20_0,hcz20_1,hcz20_2,hfz20_0,hfz20_1,hfz20_2⟩:=cB3 BK533.out))
  go_ret
  exact ⟨by first|rfl|(simp [yt,yu] <;> rfl)|(simp [*,yt,yu] <;> rfl),by repeat (with_reducible first|exact HB.out|apply za|apply zb|apply zc|refine zd ?_ GE532.out|refine zd ?_ GE533.out)⟩
 rw [if_neg c3] at H;have c3b0 : (a0_0 == a1_0)=false:=zY.mpr c3;have c3b1 : (a0_0 != a1_0)=true:=zZ.mpr c3;obtain rfl:=zU H
 go_enter Try.func14,Try.ntmps14
 go_wp2_with (first|((with_reducible refine zK (N:=2) rfl ?_);refine zI ?hg (N:=2) ?hd (cs:=#[.int .i64 a0_0,.int .i64 a0_1,.string a0_2]) (t:=27) ?hr ?_;(case hd|hg => rfl);(case hr => go_simp <;> rfl);intro gb532 hg w21 hbox hb;have BK532:=zh (hbox);have hH_:=cH (by repeat (with_reducible first|exact HB.out|apply za|apply zb|apply zc)) hb hg;have GW532:=zh hH_.1;have GE532:=GW532;replace HB:=zh hH_.2;clear hb hbox hg hH_)|((with_reducible refine zK (N:=3) rfl ?_);refine zI ?hg (N:=3) ?hd (cs:=#[.int .i64 a1_0,.int .i64 a1_1,.string a1_2]) (t:=27) ?hr ?_;(case hd|hg => rfl);(case hr => go_simp <;> rfl);intro gb533 hg w22 hbox hb;have BK533:=zh (hbox);have hH_:=cH (by repeat (with_reducible first|exact HB.out|apply za|apply zb|apply zc|refine zd ?_ GE532.out)) hb hg;have GW533:=zh hH_.1;have GE533:=GW533;replace HB:=zh hH_.2;have NB532_533:=zh ((by rw [hg];exact yc (yi (g:=gb532) (o:=.cells #[.int .i64 a0_0,.int .i64 a0_1,.string a0_2] 27 (0,0)) (by (with_reducible repeat first|apply ze|apply zf|apply zg);exact BK532.out)) : gb532≠gb533));have NB533_532:=zh NB532_533.out.symm;replace BK532:=zh (cD BK532.out (by (with_reducible repeat first|apply ze|apply zf|apply zg);exact BK532.out) hb);clear hb hbox hg hH_;have hnb23:=NB532_533.out;have hnc23:=NB533_532.out;obtain ⟨hcz24_0,hcz24_1,hcz24_2,hfz24_0,hfz24_1,hfz24_2⟩:=cB3 BK532.out;obtain ⟨hcz25_0,hcz25_1,hcz25_2,hfz25_0,hfz25_1,hfz25_2⟩:=cB3 BK533.out))
 go_ret
 exact ⟨by first|rfl|(simp [yt,yu] <;> rfl)|(simp [*,yt,yu] <;> rfl),by repeat (with_reducible first|exact HB.out|apply za|apply zb|apply zc|refine zd ?_ GE532.out|refine zd ?_ GE533.out)⟩


def Fp.l0 : Nat→List ByteArray→List ByteArray→Int→Option (Bool)
 | 0,_,_,_ => none
 | k + 1,x0,x1,x5 => if x5<(x0.length : Int) then (if 0≤x5 then (if x5<(x1.length : Int) then (if (rdOf ByteArray.empty x0 x5).toList=(rdOf ByteArray.empty x1 x5).toList then (Fp.l0 k x0 x1 (wrap64 (x5 + 1))) else (some false)) else (none)) else (none)) else (some true)
def Fp.f (k : Nat) (l0 : List ByteArray) (l1 : List ByteArray) : Option (Bool):=if (l0.length : Int)=(l1.length : Int) then (Fp.l0 k l0 l1 0) else (some false)
theorem Fp.mono_l : ∀ k,(∀ y0 y1 y2,LeO (Fp.l0 k y0 y1 y2) (Fp.l0 (k + 1) y0 y1 y2))
 | 0 => fun _ _ _ r h => by simp [Fp.l0] at h
 | k + 1 => by
  have ih0:=Fp.mono_l k;intro y0 y1 y2;unfold Fp.l0
  repeat' first|(with_reducible first|exact ih0 _ _ _|exact zQ _|exact zN _|refine zP ?_ ?_|refine zO ?_ (fun _ => ?_))|refine zP ?_ ?_|refine zO ?_ (fun _ => ?_)
theorem Fp.mono : ∀ a0 a1 k,LeO (Fp.f k a0 a1) (Fp.f (k + 1) a0 a1):=by
 intro a0 a1 k;have ih0:=Fp.mono_l k;unfold Fp.f
 repeat' first|(with_reducible first|exact ih0 _ _ _|exact zQ _|exact zN _|refine zP ?_ ?_|refine zO ?_ (fun _ => ?_))|refine zP ?_ ?_|refine zO ?_ (fun _ => ?_)
set_option maxHeartbeats 8000000 in
set_option maxRecDepth 100000 in
theorem Fp.calls (k : Nat) (A0 : Option Addr) (c0 : Nat) (l0 : List ByteArray) (A1 : Option Addr) (c1 : Nat) (l1 : List ByteArray) (r : Bool) (w : World) (hr0 : Kd.C Kd.string w A0 l0.length l0) (hc0 : l0.length≤c0) (hr1 : Kd.C Kd.string w A1 l1.length l1) (hc1 : l1.length≤c1) (h : Fp.f k l0 l1=some r) :
  Calls Try.prog 15 #[.slice A0 l0.length c0,.slice A1 l1.length c1] w fun e w' => e = .returned (.bool r)∧Drawn0 w w':=by
 have HR0:=zh hr0;have HC0:=zh hc0;clear hr0 hc0;have HR1:=zh hr1;have HC1:=zh hc1;clear hr1 hc1;have H : (if (l0.length : Int)=(l1.length : Int) then (Fp.l0 k l0 l1 0) else (some false))=some r:=h;clear h
 by_cases c3 : (l0.length : Int)=(l1.length : Int)
 ·
  rw [if_pos c3] at H
  have c3b0 : ((l0.length : Int) == (l1.length : Int))=true:=ya.mpr c3;have c3b1 : ((l0.length : Int) != (l1.length : Int))=false:=zX.mpr c3;have c3b2 : (l0.length == l1.length)=true:=by first|simpa using c3|(simp at c3 ⊢;omega)
  clear c3;have H':=zh H;clear H
  go_enter Try.func15,Try.ntmps15
  go_wp2
  repeat (go_quiet (fail);try go_wp2)
  go_loopg [5] k (fun kq v5 w' => ∃ (x5_1 : Int),v5 = .int .i64 x5_1∧Aside0 (Fp.l0 kq l0 l1 x5_1=some r)∧Aside0 (kq≤k)∧Drawn0 w w')
  case atStart => exact ⟨(0),(by first|rfl|(simp;done)|(simp [*];done)),H',⟨ye _⟩,by repeat (first|exact yp _|apply yq)⟩
  case round =>
   clear H'
   try clear c1
   try clear p2
   try clear c3 c3b0 c3b1 c3b2
   obtain ⟨x5_1,rfl,HA,HK1,⟨m1,rfl⟩⟩:=hrel
   cases gk with
   | zero => exact absurd HA.out (by simp [Fp.l0])
   | succ k1 =>
    have H:=HA.out;clear HA;simp only [Fp.l0] at H
    by_cases c4 : x5_1<(l0.length : Int)
    ·
     rw [if_pos c4] at H
     have c4b0 : decide (x5_1<(l0.length : Int))=true:=decide_eq_true c4;clear c4
     by_cases c5 : 0≤x5_1
     ·
      rw [if_pos c5] at H
      have c5b0 : decide (0≤x5_1)=true:=decide_eq_true c5;clear c5
      by_cases c6 : x5_1<(l1.length : Int)
      ·
       rw [if_pos c6] at H
       have c6b0 : decide (x5_1<(l1.length : Int))=true:=decide_eq_true c6;clear c6
       by_cases c7 : (rdOf ByteArray.empty l0 x5_1).toList=(rdOf ByteArray.empty l1 x5_1).toList
       ·
        rw [if_pos c7] at H
        have c7b0 : ((rdOf ByteArray.empty l0 x5_1).toList == (rdOf ByteArray.empty l1 x5_1).toList)=true:=ya.mpr c7;have c7b1 : ((rdOf ByteArray.empty l0 x5_1).toList != (rdOf ByteArray.empty l1 x5_1).toList)=false:=zX.mpr c7;clear c7;have H':=zh H;clear H;have p534 : 0≤(x5_1 : Int):=zy (by first|(with_reducible assumption)|assumption);have q534 : x5_1<(l0.length : Int):=zy (by first|(with_reducible assumption)|assumption);obtain ⟨ad534,e534,hx534_0⟩:=Kd.at_string HR0.out x5_1 p534 q534
        cases e534
        replace p534:=eq_true p534;replace q534:=eq_true q534;have p535 : 0≤(x5_1 : Int):=zy (by first|(with_reducible assumption)|assumption);have q535 : x5_1<(l1.length : Int):=zy (by first|(with_reducible assumption)|assumption);obtain ⟨ad535,e535,hx535_0⟩:=Kd.at_string HR1.out x5_1 p535 q535
        cases e535
        replace p535:=eq_true p535;replace q535:=eq_true q535
        go_wp2
        repeat (go_quiet (fail);try go_wp2)
        go_roundg k1
        case measure => have:=HK1.out;omega
        case rel => exact ⟨(wrap64 (x5_1 + 1)),(by first|rfl|(simp;done)|(simp [*];done)),H',⟨by have:=HK1.out;omega⟩,by repeat (first|exact yp _|apply yq)⟩
       rw [if_neg c7] at H;have c7b0 : ((rdOf ByteArray.empty l0 x5_1).toList == (rdOf ByteArray.empty l1 x5_1).toList)=false:=zY.mpr c7;have c7b1 : ((rdOf ByteArray.empty l0 x5_1).toList != (rdOf ByteArray.empty l1 x5_1).toList)=true:=zZ.mpr c7;obtain rfl:=zU H;have p534 : 0≤(x5_1 : Int):=zy (by first|(with_reducible assumption)|assumption);have q534 : x5_1<(l0.length : Int):=zy (by first|(with_reducible assumption)|assumption);obtain ⟨ad534,e534,hx534_0⟩:=Kd.at_string HR0.out x5_1 p534 q534
       cases e534
       replace p534:=eq_true p534;replace q534:=eq_true q534;have p535 : 0≤(x5_1 : Int):=zy (by first|(with_reducible assumption)|assumption);have q535 : x5_1<(l1.length : Int):=zy (by first|(with_reducible assumption)|assumption);obtain ⟨ad535,e535,hx535_0⟩:=Kd.at_string HR1.out x5_1 p535 q535
       cases e535
       replace p535:=eq_true p535;replace q535:=eq_true q535
       go_wp2
       repeat (go_quiet (fail);try go_wp2)
       go_ret
       exact ⟨by first|rfl|(simp;done)|(simp [*];done),by repeat (first|exact yp _|apply yq)⟩
      rw [if_neg c6] at H;exact absurd H (by simp)
     rw [if_neg c5] at H;exact absurd H (by simp)
    rw [if_neg c4] at H;have c4b0 : decide (x5_1<(l0.length : Int))=false:=decide_eq_false c4;clear c4;obtain rfl:=zU H
    go_wp2
    repeat (go_quiet (fail);try go_wp2)
    go_ret
    exact ⟨by first|rfl|(simp;done)|(simp [*];done),by repeat (first|exact yp _|apply yq)⟩
 rw [if_neg c3] at H;have c3b0 : ((l0.length : Int) == (l1.length : Int))=false:=zY.mpr c3;have c3b1 : ((l0.length : Int) != (l1.length : Int))=true:=zZ.mpr c3;have c3b2 : (l0.length == l1.length)=false:=by first|simpa using c3|(simp at c3 ⊢;omega)
 obtain rfl:=zU H
 go_enter Try.func15,Try.ntmps15
 go_wp2
 repeat (go_quiet (fail);try go_wp2)
 go_ret
 exact ⟨by first|rfl|(simp;done)|(simp [*];done),by repeat (first|exact yp _|apply yq)⟩


def F0i.f (a0_0 : Int) (a0_1 : Int) (a0_2 : ByteArray) (a1 : Int) : Option (Int):=if (wrap64 (a1 - (a0_2.size : Int)))<0 then (some (-1)) else (some (wrap64 (a1 - (a0_2.size : Int))))
set_option maxHeartbeats 8000000 in
set_option maxRecDepth 100000 in
theorem F0i.calls (a0_0 : Int) (a0_1 : Int) (a0_2 : ByteArray) (a1 : Int) (r : Int) (w : World) (h : F0i.f a0_0 a0_1 a0_2 a1=some r) :
  Calls Try.prog 6 #[.agg #[.int .i64 a0_0,.int .i64 a0_1,.string a0_2],.int .i64 a1] w fun e w' => e = .returned (.int .i64 r)∧Below w.heap.size w w':=by
 have hu23:=Try.underlying23;have HB:=zh (Below.refl w.heap.size w);have H : (if (wrap64 (a1 - (a0_2.size : Int)))<0 then (some (-1)) else (some (wrap64 (a1 - (a0_2.size : Int)))))=some r:=h;clear h
 by_cases c3 : (wrap64 (a1 - (a0_2.size : Int)))<0
 ·
  rw [if_pos c3] at H
  have c3b0 : decide ((wrap64 (a1 - (a0_2.size : Int)))<0)=true:=decide_eq_true c3;clear c3;obtain rfl:=zU H
  go_enter Try.func6,Try.ntmps6
  go_wp2_with (first|((with_reducible refine zK (N:=2) rfl ?_);refine zI ?hg (N:=2) ?hd (cs:=#[.int .i64 a0_0,.int .i64 a0_1,.string a0_2]) (t:=23) ?hr ?_;(case hd|hg => rfl);(case hr => go_simp <;> rfl);intro gb101 hg w4 hbox hb;have BK101:=zh (hbox);have hH_:=cH (by repeat (with_reducible first|exact HB.out|apply za|apply zb|apply zc)) hb hg;have GW101:=zh hH_.1;have GE101:=GW101;replace HB:=zh hH_.2;clear hb hbox hg hH_;obtain ⟨hcz5_0,hcz5_1,hcz5_2,hfz5_0,hfz5_1,hfz5_2⟩:=cB3 BK101.out))
  go_ret
  exact ⟨by first|rfl|(simp [yt,yu] <;> rfl)|(simp [*,yt,yu] <;> rfl),by repeat (with_reducible first|exact HB.out|apply za|apply zb|apply zc|refine zd ?_ GE101.out)⟩
 rw [if_neg c3] at H;have c3b0 : decide ((wrap64 (a1 - (a0_2.size : Int)))<0)=false:=decide_eq_false c3;clear c3;obtain rfl:=zU H
 go_enter Try.func6,Try.ntmps6
 go_wp2_with (first|((with_reducible refine zK (N:=2) rfl ?_);refine zI ?hg (N:=2) ?hd (cs:=#[.int .i64 a0_0,.int .i64 a0_1,.string a0_2]) (t:=23) ?hr ?_;(case hd|hg => rfl);(case hr => go_simp <;> rfl);intro gb101 hg w6 hbox hb;have BK101:=zh (hbox);have hH_:=cH (by repeat (with_reducible first|exact HB.out|apply za|apply zb|apply zc)) hb hg;have GW101:=zh hH_.1;have GE101:=GW101;replace HB:=zh hH_.2;clear hb hbox hg hH_;obtain ⟨hcz7_0,hcz7_1,hcz7_2,hfz7_0,hfz7_1,hfz7_2⟩:=cB3 BK101.out))
 go_ret
 exact ⟨by first|rfl|(simp [yt,yu] <;> rfl)|(simp [*,yt,yu] <;> rfl),by repeat (with_reducible first|exact HB.out|apply za|apply zb|apply zc|refine zd ?_ GE101.out)⟩


def F02.f (a0_0 : Int) (a0_1 : Int) (a0_2 : ByteArray) : Option (Int×Int×ByteArray):=some (a0_0,a0_1,a0_2)
set_option maxHeartbeats 8000000 in
set_option maxRecDepth 100000 in
theorem F02.calls (a0_0 : Int) (a0_1 : Int) (a0_2 : ByteArray) (r1 : Int) (r2 : Int) (r3 : ByteArray) (w : World) (h : F02.f a0_0 a0_1 a0_2=some (r1,r2,r3)) :
  Calls Try.prog 8 #[.agg #[.int .i64 a0_0,.int .i64 a0_1,.string a0_2]] w fun e w' => e = .returned (.agg #[.int .i64 r1,.int .i64 r2,.string r3])∧Below w.heap.size w w':=by
 have hu23:=Try.underlying23;have hu27:=Try.underlying27;have HB:=zh (Below.refl w.heap.size w);have H : (some (a0_0,a0_1,a0_2))=some (r1,r2,r3):=h;clear h;simp only [Option.some.injEq,Prod.mk.injEq] at H;obtain ⟨rfl,rfl,rfl⟩:=H
 go_enter Try.func8,Try.ntmps8
 go_wp2_with (first|((with_reducible refine zK (N:=1) rfl ?_);refine zI ?hg (N:=1) ?hd (cs:=#[.int .i64 a0_0,.int .i64 a0_1,.string a0_2]) (t:=23) ?hr ?_;(case hd|hg => rfl);(case hr => go_simp <;> rfl);intro gb220 hg w2 hbox hb;have BK220:=zh (hbox);have hH_:=cH (by repeat (with_reducible first|exact HB.out|apply za|apply zb|apply zc)) hb hg;have GW220:=zh hH_.1;have GE220:=GW220;replace HB:=zh hH_.2;clear hb hbox hg hH_)|((with_reducible refine zK (N:=2) rfl ?_);refine zI ?hg (N:=2) ?hd (cs:=#[.int .i64 0,.int .i64 0,.string (⟨#[]⟩ : ByteArray)]) (t:=27) ?hr ?_;(case hd|hg => rfl);(case hr => go_simp <;> rfl);intro gb221 hg w3 hbox hb;have BK221:=zh (hbox);have hH_:=cH (by repeat (with_reducible first|exact HB.out|apply za|apply zb|apply zc|refine zd ?_ GE220.out)) hb hg;have GW221:=zh hH_.1;have GE221:=GW221;replace HB:=zh hH_.2;have NB220_221:=zh ((by rw [hg];exact yc (yi (g:=gb220) (o:=.cells #[.int .i64 a0_0,.int .i64 a0_1,.string a0_2] 23 (0,0)) (by (with_reducible repeat first|apply ze|apply zf|apply zg);exact BK220.out)) : gb220≠gb221));have NB221_220:=zh NB220_221.out.symm;replace BK220:=zh (cD BK220.out (by (with_reducible repeat first|apply ze|apply zf|apply zg);exact BK220.out) hb);clear hb hbox hg hH_)|((with_reducible refine zK (N:=3) rfl ?_);refine zI ?hg (N:=3) ?hd (cs:=#[.int .i64 0,.int .i64 0,.string (⟨#[]⟩ : ByteArray)]) (t:=27) ?hr ?_;(case hd|hg => rfl);(case hr => go_simp <;> rfl);intro gb222 hg w4 hbox hb;have BK222:=zh (hbox);have hH_:=cH (by repeat (with_reducible first|exact HB.out|apply za|apply zb|apply zc|refine zd ?_ GE220.out|refine zd ?_ GE221.out)) hb hg;have GW222:=zh hH_.1;have GE222:=GW222;replace HB:=zh hH_.2;have NB220_222:=zh ((by rw [hg];exact yc (yi (g:=gb220) (o:=.cells #[.int .i64 a0_0,.int .i64 a0_1,.string a0_2] 23 (0,0)) (by (with_reducible repeat first|apply ze|apply zf|apply zg);exact BK220.out)) : gb220≠gb222));have NB222_220:=zh NB220_222.out.symm;replace BK220:=zh (cD BK220.out (by (with_reducible repeat first|apply ze|apply zf|apply zg);exact BK220.out) hb);have NB221_222:=zh ((by rw [hg];exact yc (yi (g:=gb221) (o:=.cells #[.int .i64 0,.int .i64 0,.string (⟨#[]⟩ : ByteArray)] 27 (0,0)) (by (with_reducible repeat first|apply ze|apply zf|apply zg);exact BK221.out)) : gb221≠gb222));have NB222_221:=zh NB221_222.out.symm;replace BK221:=zh (cD BK221.out (by (with_reducible repeat first|apply ze|apply zf|apply zg);exact BK221.out) hb);clear hb hbox hg hH_;have hnb5:=NB220_221.out;have hnc5:=NB221_220.out;have hnb6:=NB220_222.out;have hnc6:=NB222_220.out;obtain ⟨hcz7_0,hcz7_1,hcz7_2,hfz7_0,hfz7_1,hfz7_2⟩:=cB3 BK220.out;have hnb8:=NB222_221.out;have hnc8:=NB221_222.out;obtain ⟨hcz9_0,hcz9_1,hcz9_2,hfz9_0,hfz9_1,hfz9_2⟩:=cB3 BK222.out;obtain ⟨hcz10_0,hcz10_1,hcz10_2,hfz10_0,hfz10_1,hfz10_2⟩:=cB3 BK221.out))
 refine bodyPost_ret (results_cell_row rfl _ _ gb221 27 #[.int .i64 a0_0,.int .i64 a0_1,.string a0_2] (0,0) _ rfl (by (with_reducible repeat first|apply ze|apply zf|apply zg);refine zL (cs:=#[.int .i64 a0_0,.int .i64 a0_1,.string (⟨#[]⟩ : ByteArray)]) ?_ 2 _ rfl;(with_reducible repeat first|apply ze|apply zf|apply zg);refine zL (cs:=#[.int .i64 a0_0,.int .i64 0,.string (⟨#[]⟩ : ByteArray)]) ?_ 1 _ rfl;(with_reducible repeat first|apply ze|apply zf|apply zg);refine zL (cs:=#[.int .i64 0,.int .i64 0,.string (⟨#[]⟩ : ByteArray)]) ?_ 0 _ rfl;(with_reducible repeat first|apply ze|apply zf|apply zg);refine cS3 ?_ NB221_222.out;(with_reducible repeat first|apply ze|apply zf|apply zg);exact BK221.out) Try.underlying27 rfl (by kernel_rfl)) rfl ?_;exact ⟨by first|rfl|(simp [yt,yu] <;> rfl)|(simp [*,yt,yu] <;> rfl),by repeat (with_reducible first|exact HB.out|apply za|apply zb|apply zc|refine zd ?_ GE220.out|refine zd ?_ GE221.out|refine zd ?_ GE222.out)⟩


def Fa.j0 : Nat→List ByteArray→List ByteArray→Bool→Option (Bool)
 | 0,_,_,_ => none
 | k + 1,x1,x8,x46 => if x46=true then (some false) else ((Fe.f k x1).bind fun t562 => ((Fp.f k x8 t562).bind fun t565 => (if t565=true then (some true) else (some false))))
def Fa.f (k : Nat) (a0_0 : Int) (a0_1 : Int) (a0_2 : ByteArray) (l1 : List ByteArray) : Option (Bool):=(F0i.f a0_0 a0_1 a0_2 1048576).bind fun t537 => (if t537<0 then (some true) else ((Fq.f k l1 t537).bind fun t538 => (if t538<0 then (some true) else ((F02.f a0_0 a0_1 a0_2).bind fun bt539 => ((Fe.f k l1).bind fun t542 => ((Fj.f k bt539.1 bt539.2.1 bt539.2.2 t542).bind fun bt545 => ((Fe.f k l1).bind fun t550 => ((F02.f a0_0 a0_1 a0_2).bind fun bt553 => ((F00.f k bt553.1 bt553.2.1 bt553.2.2 t550).bind fun bt556 => ((F03.f bt556.1 bt556.2.1 bt556.2.2.1 bt545.1 bt545.2.1 bt545.2.2.1).bind fun t561 => (if t561=true then (Fa.j0 k l1 t550 (bt556.2.2.2 != bt545.2.2.2)) else (Fa.j0 k l1 t550 true))))))))))))
theorem Fa.mono_l : ∀ k,(∀ y0 y1 y2,LeO (Fa.j0 k y0 y1 y2) (Fa.j0 (k + 1) y0 y1 y2))
 | 0 => fun _ _ _ r h => by simp [Fa.j0] at h
 | k + 1 => by
  have ih0:=Fa.mono_l k;intro y0 y1 y2;unfold Fa.j0
  repeat' first|(with_reducible first|exact ih0 _ _ _|exact Fq.mono _ _ _|exact Fj.mono _ _ _ _ _|exact Fe.mono _ _|exact F00.mono _ _ _ _ _|exact Fp.mono _ _ _|exact zQ _|exact zN _|refine zP ?_ ?_|refine zO ?_ (fun _ => ?_))|refine zP ?_ ?_|refine zO ?_ (fun _ => ?_)
theorem Fa.mono : ∀ a0 a1 a2 a3 k,LeO (Fa.f k a0 a1 a2 a3) (Fa.f (k + 1) a0 a1 a2 a3):=by
 intro a0 a1 a2 a3 k;have ih0:=Fa.mono_l k;unfold Fa.f
 repeat' first|(with_reducible first|exact ih0 _ _ _|exact Fq.mono _ _ _|exact Fj.mono _ _ _ _ _|exact Fe.mono _ _|exact F00.mono _ _ _ _ _|exact Fp.mono _ _ _|exact zQ _|exact zN _|refine zP ?_ ?_|refine zO ?_ (fun _ => ?_))|refine zP ?_ ?_|refine zO ?_ (fun _ => ?_)
theorem Fa.j0_no4 : ∀ (k : Nat) y0 y1,Fa.j0 k y0 y1 true≠some true:=by
 intro k
 cases k <;> intros <;> simp [Fa.j0]
set_option maxHeartbeats 8000000 in
set_option maxRecDepth 100000 in
theorem Fa.calls (k : Nat) (a0_0 : Int) (a0_1 : Int) (a0_2 : ByteArray) (A1 : Option Addr) (c1 : Nat) (l1 : List ByteArray) (r : Bool) (w : World) (hr1 : Kd.C Kd.string w A1 l1.length l1) (hc1 : l1.length≤c1) (h : Fa.f k a0_0 a0_1 a0_2 l1=some r) (hr_ : r=true) :
  Calls Try.prog 4 #[.agg #[.int .i64 a0_0,.int .i64 a0_1,.string a0_2],.slice A1 l1.length c1] w fun e w' => e = .returned (.bool r)∧Below w.heap.size w w':=by
 have hu23:=Try.underlying23;have hu27:=Try.underlying27;have HR1:=zh hr1;have HC1:=zh hc1;clear hr1 hc1;have HB:=zh (Below.refl w.heap.size w);have H : ((F0i.f a0_0 a0_1 a0_2 1048576).bind fun t537 => (if t537<0 then (some true) else ((Fq.f k l1 t537).bind fun t538 => (if t538<0 then (some true) else ((F02.f a0_0 a0_1 a0_2).bind fun bt539 => ((Fe.f k l1).bind fun t542 => ((Fj.f k bt539.1 bt539.2.1 bt539.2.2 t542).bind fun bt545 => ((Fe.f k l1).bind fun t550 => ((F02.f a0_0 a0_1 a0_2).bind fun bt553 => ((F00.f k bt553.1 bt553.2.1 bt553.2.2 t550).bind fun bt556 => ((F03.f bt556.1 bt556.2.1 bt556.2.2.1 bt545.1 bt545.2.1 bt545.2.2.1).bind fun t561 => (if t561=true then (Fa.j0 k l1 t550 (bt556.2.2.2 != bt545.2.2.2)) else (Fa.j0 k l1 t550 true)))))))))))))=some r:=h;clear h;replace H:=zT.mp H;obtain ⟨t537,A30,H⟩:=H;replace H : (if t537<0 then (some true) else ((Fq.f k l1 t537).bind fun t538 => (if t538<0 then (some true) else ((F02.f a0_0 a0_1 a0_2).bind fun bt539 => ((Fe.f k l1).bind fun t542 => ((Fj.f k bt539.1 bt539.2.1 bt539.2.2 t542).bind fun bt545 => ((Fe.f k l1).bind fun t550 => ((F02.f a0_0 a0_1 a0_2).bind fun bt553 => ((F00.f k bt553.1 bt553.2.1 bt553.2.2 t550).bind fun bt556 => ((F03.f bt556.1 bt556.2.1 bt556.2.2.1 bt545.1 bt545.2.1 bt545.2.2.1).bind fun t561 => (if t561=true then (Fa.j0 k l1 t550 (bt556.2.2.2 != bt545.2.2.2)) else (Fa.j0 k l1 t550 true))))))))))))=some r:=H;have A3:=zh A30;clear A30
 by_cases c4 : t537<0
 ·
  rw [if_pos c4] at H
  have c4b0 : decide (t537<0)=true:=decide_eq_true c4;clear c4;obtain rfl:=zU H
  go_enter Try.func4,Try.ntmps4
  go_wp2_with (first|((with_reducible refine zK (N:=2) rfl ?_);refine zI ?hg (N:=2) ?hd (cs:=#[.int .i64 a0_0,.int .i64 a0_1,.string a0_2]) (t:=23) ?hr ?_;(case hd|hg => rfl);(case hr => go_simp <;> rfl);intro gb536 hg w5 hbox hb;have BK536:=zh (hbox);have hH_:=cH (by repeat (with_reducible first|exact HB.out|apply za|apply zb|apply zc)) hb hg;have GW536:=zh hH_.1;have GE536:=GW536;replace HB:=zh hH_.2;clear hb hbox hg hH_;obtain ⟨hcz6_0,hcz6_1,hcz6_2,hfz6_0,hfz6_1,hfz6_2⟩:=cB3 BK536.out)|((with_reducible refine zJ (f:=6) rfl ?_);refine yj (some 13) rfl rfl Try.func6 (by kernel_rfl) rfl #[.agg #[.int .i64 a0_0,.int .i64 a0_1,.string a0_2],.int .i64 1048576] rfl (by (try simp only [zt,zu,zv]);first|done|rfl|(simp only [zw,zx];rfl)|(simp only [yr,ys,zV,zW];rfl)) ?_;(with_reducible refine (F0i.calls  a0_0 a0_1 a0_2 1048576 t537 _ A3.out).mono ?_);rintro e w7 ⟨rfl,hb⟩;refine ⟨_,rfl,?_⟩;replace BK536:=zh (cD BK536.out (by (with_reducible repeat first|apply ze|apply zf|apply zg);exact BK536.out) hb);replace HB:=zh (zC (by repeat (with_reducible first|exact HB.out|apply za|apply zb|apply zc|refine zd ?_ GE536.out)) hb);(try clear hb);(try clear hb2);(try clear hk);(try clear hi)))
  go_ret
  exact ⟨by first|rfl|(simp [yt,yu] <;> rfl)|(simp [*,yt,yu] <;> rfl),by repeat (with_reducible first|exact HB.out|apply za|apply zb|apply zc|refine zd ?_ GE536.out)⟩
 rw [if_neg c4] at H;have c4b0 : decide (t537<0)=false:=decide_eq_false c4;clear c4;replace H:=zT.mp H;obtain ⟨t538,A80,H⟩:=H;replace H : (if t538<0 then (some true) else ((F02.f a0_0 a0_1 a0_2).bind fun bt539 => ((Fe.f k l1).bind fun t542 => ((Fj.f k bt539.1 bt539.2.1 bt539.2.2 t542).bind fun bt545 => ((Fe.f k l1).bind fun t550 => ((F02.f a0_0 a0_1 a0_2).bind fun bt553 => ((F00.f k bt553.1 bt553.2.1 bt553.2.2 t550).bind fun bt556 => ((F03.f bt556.1 bt556.2.1 bt556.2.2.1 bt545.1 bt545.2.1 bt545.2.2.1).bind fun t561 => (if t561=true then (Fa.j0 k l1 t550 (bt556.2.2.2 != bt545.2.2.2)) else (Fa.j0 k l1 t550 true))))))))))=some r:=H;have A8:=zh A80;clear A80
 by_cases c9 : t538<0
 ·
  rw [if_pos c9] at H
  have c9b0 : decide (t538<0)=true:=decide_eq_true c9;clear c9;obtain rfl:=zU H
  go_enter Try.func4,Try.ntmps4
  go_wp2_with (first|((with_reducible refine zK (N:=2) rfl ?_);refine zI ?hg (N:=2) ?hd (cs:=#[.int .i64 a0_0,.int .i64 a0_1,.string a0_2]) (t:=23) ?hr ?_;(case hd|hg => rfl);(case hr => go_simp <;> rfl);intro gb536 hg w10 hbox hb;have BK536:=zh (hbox);have hH_:=cH (by repeat (with_reducible first|exact HB.out|apply za|apply zb|apply zc)) hb hg;have GW536:=zh hH_.1;have GE536:=GW536;replace HB:=zh hH_.2;clear hb hbox hg hH_;obtain ⟨hcz11_0,hcz11_1,hcz11_2,hfz11_0,hfz11_1,hfz11_2⟩:=cB3 BK536.out)|((with_reducible refine zJ (f:=6) rfl ?_);refine yj (some 13) rfl rfl Try.func6 (by kernel_rfl) rfl #[.agg #[.int .i64 a0_0,.int .i64 a0_1,.string a0_2],.int .i64 1048576] rfl (by (try simp only [zt,zu,zv]);first|done|rfl|(simp only [zw,zx];rfl)|(simp only [yr,ys,zV,zW];rfl)) ?_;(with_reducible refine (F0i.calls  a0_0 a0_1 a0_2 1048576 t537 _ A3.out).mono ?_);rintro e w12 ⟨rfl,hb⟩;refine ⟨_,rfl,?_⟩;replace BK536:=zh (cD BK536.out (by (with_reducible repeat first|apply ze|apply zf|apply zg);exact BK536.out) hb);replace HB:=zh (zC (by repeat (with_reducible first|exact HB.out|apply za|apply zb|apply zc|refine zd ?_ GE536.out)) hb);(try clear hb);(try clear hb2);(try clear hk);(try clear hi))|((with_reducible refine zJ (f:=10) rfl ?_);refine yj (some 18) rfl rfl Try.func10 (by kernel_rfl) rfl #[.slice A1 l1.length c1,.int .i64 t537] rfl (by (try simp only [zt,zu,zv]);first|done|rfl|(simp only [zw,zx];rfl)|(simp only [yr,ys,zV,zW];rfl)) ?_;(with_reducible refine (Fq.calls k  _ _ l1 t537 t538 _ ?side1 ?side2 A8.out).mono ?_);(case side1 => repeat (first|exact (Kd.C_below HR1.out HB.out)|(with_reducible refine Kd.C_alloc ?_ _)|(with_reducible refine Kd.C_drewN ?_ _)|(with_reducible refine Kd.C_drew ?_)));(case side2 => exact HC1.out);rintro e w' ⟨rfl,⟨nd,rfl⟩⟩;refine ⟨_,rfl,?_⟩))
  go_ret
  exact ⟨by first|rfl|(simp [yt,yu] <;> rfl)|(simp [*,yt,yu] <;> rfl),by repeat (with_reducible first|exact HB.out|apply za|apply zb|apply zc|refine zd ?_ GE536.out)⟩
 rw [if_neg c9] at H;have c9b0 : decide (t538<0)=false:=decide_eq_false c9;clear c9;replace H:=zT.mp H;obtain ⟨⟨t539,t540,t541⟩,A130,H⟩:=H;replace H : ((Fe.f k l1).bind fun t542 => ((Fj.f k t539 t540 t541 t542).bind fun bt545 => ((Fe.f k l1).bind fun t550 => ((F02.f a0_0 a0_1 a0_2).bind fun bt553 => ((F00.f k bt553.1 bt553.2.1 bt553.2.2 t550).bind fun bt556 => ((F03.f bt556.1 bt556.2.1 bt556.2.2.1 bt545.1 bt545.2.1 bt545.2.2.1).bind fun t561 => (if t561=true then (Fa.j0 k l1 t550 (bt556.2.2.2 != bt545.2.2.2)) else (Fa.j0 k l1 t550 true))))))))=some r:=H;have A13:=zh A130;clear A130;replace H:=zT.mp H;obtain ⟨t542,A140,H⟩:=H;replace H : ((Fj.f k t539 t540 t541 t542).bind fun bt545 => ((Fe.f k l1).bind fun t550 => ((F02.f a0_0 a0_1 a0_2).bind fun bt553 => ((F00.f k bt553.1 bt553.2.1 bt553.2.2 t550).bind fun bt556 => ((F03.f bt556.1 bt556.2.1 bt556.2.2.1 bt545.1 bt545.2.1 bt545.2.2.1).bind fun t561 => (if t561=true then (Fa.j0 k l1 t550 (bt556.2.2.2 != bt545.2.2.2)) else (Fa.j0 k l1 t550 true)))))))=some r:=H;have A14:=zh A140;clear A140;replace H:=zT.mp H;obtain ⟨⟨t545,t546,t547,t548⟩,A150,H⟩:=H;replace H : ((Fe.f k l1).bind fun t550 => ((F02.f a0_0 a0_1 a0_2).bind fun bt553 => ((F00.f k bt553.1 bt553.2.1 bt553.2.2 t550).bind fun bt556 => ((F03.f bt556.1 bt556.2.1 bt556.2.2.1 t545 t546 t547).bind fun t561 => (if t561=true then (Fa.j0 k l1 t550 (bt556.2.2.2 != t548)) else (Fa.j0 k l1 t550 true))))))=some r:=H;have A15:=zh A150;clear A150;replace H:=zT.mp H;obtain ⟨t550,A160,H⟩:=H;replace H : ((F02.f a0_0 a0_1 a0_2).bind fun bt553 => ((F00.f k bt553.1 bt553.2.1 bt553.2.2 t550).bind fun bt556 => ((F03.f bt556.1 bt556.2.1 bt556.2.2.1 t545 t546 t547).bind fun t561 => (if t561=true then (Fa.j0 k l1 t550 (bt556.2.2.2 != t548)) else (Fa.j0 k l1 t550 true)))))=some r:=H;have A16:=zh A160;clear A160;replace H:=zT.mp H;obtain ⟨⟨t553,t554,t555⟩,A170,H⟩:=H;replace H : ((F00.f k t553 t554 t555 t550).bind fun bt556 => ((F03.f bt556.1 bt556.2.1 bt556.2.2.1 t545 t546 t547).bind fun t561 => (if t561=true then (Fa.j0 k l1 t550 (bt556.2.2.2 != t548)) else (Fa.j0 k l1 t550 true))))=some r:=H;have A17:=zh A170;clear A170;replace H:=zT.mp H;obtain ⟨⟨t556,t557,t558,t559⟩,A180,H⟩:=H;replace H : ((F03.f t556 t557 t558 t545 t546 t547).bind fun t561 => (if t561=true then (Fa.j0 k l1 t550 (t559 != t548)) else (Fa.j0 k l1 t550 true)))=some r:=H;have A18:=zh A180;clear A180;have HC19:=zh H;clear H
 go_enter Try.func4,Try.ntmps4
 go_upto_region 11 with (first|((with_reducible refine zK (N:=2) rfl ?_);refine zI ?hg (N:=2) ?hd (cs:=#[.int .i64 a0_0,.int .i64 a0_1,.string a0_2]) (t:=23) ?hr ?_;(case hd|hg => rfl);(case hr => go_simp <;> rfl);intro gb536 hg w20 hbox hb;have BK536:=zh (hbox);have hH_:=cH (by repeat (with_reducible first|exact HB.out|apply za|apply zb|apply zc)) hb hg;have GW536:=zh hH_.1;have GE536:=GW536;replace HB:=zh hH_.2;clear hb hbox hg hH_;obtain ⟨hcz21_0,hcz21_1,hcz21_2,hfz21_0,hfz21_1,hfz21_2⟩:=cB3 BK536.out)|((with_reducible refine zJ (f:=6) rfl ?_);refine yj (some 13) rfl rfl Try.func6 (by kernel_rfl) rfl #[.agg #[.int .i64 a0_0,.int .i64 a0_1,.string a0_2],.int .i64 1048576] rfl (by (try simp only [zt,zu,zv]);first|done|rfl|(simp only [zw,zx];rfl)|(simp only [yr,ys,zV,zW];rfl)) ?_;(with_reducible refine (F0i.calls  a0_0 a0_1 a0_2 1048576 t537 _ A3.out).mono ?_);rintro e w22 ⟨rfl,hb⟩;refine ⟨_,rfl,?_⟩;replace BK536:=zh (cD BK536.out (by (with_reducible repeat first|apply ze|apply zf|apply zg);exact BK536.out) hb);replace HB:=zh (zC (by repeat (with_reducible first|exact HB.out|apply za|apply zb|apply zc|refine zd ?_ GE536.out)) hb);(try clear hb);(try clear hb2);(try clear hk);(try clear hi))|((with_reducible refine zJ (f:=10) rfl ?_);refine yj (some 18) rfl rfl Try.func10 (by kernel_rfl) rfl #[.slice A1 l1.length c1,.int .i64 t537] rfl (by (try simp only [zt,zu,zv]);first|done|rfl|(simp only [zw,zx];rfl)|(simp only [yr,ys,zV,zW];rfl)) ?_;(with_reducible refine (Fq.calls k  _ _ l1 t537 t538 _ ?side1 ?side2 A8.out).mono ?_);(case side1 => repeat (first|exact (Kd.C_below HR1.out HB.out)|(with_reducible refine Kd.C_alloc ?_ _)|(with_reducible refine Kd.C_drewN ?_ _)|(with_reducible refine Kd.C_drew ?_)));(case side2 => exact HC1.out);rintro e w' ⟨rfl,⟨nd,rfl⟩⟩;refine ⟨_,rfl,?_⟩;(try (rw [drewN_self w22];generalize hq_ : World.drewN w22 _=w22;replace BK536 : Aside0 (w22.heap[gb536]? = some (.cells #[.int .i64 a0_0,.int .i64 a0_1,.string a0_2] 23 (0,0))):=⟨by rw [← hq_];exact (by (with_reducible repeat first|apply ze|apply zf|apply zg);exact BK536.out)⟩;replace HB : Aside0 (Below w.heap.size w w22):=⟨by rw [← hq_];exact (by repeat (with_reducible first|exact HB.out|apply za|apply zb|apply zc|refine zd ?_ GE536.out))⟩;clear hq_));obtain ⟨hcz23_0,hcz23_1,hcz23_2,hfz23_0,hfz23_1,hfz23_2⟩:=cB3 BK536.out)|((with_reducible refine zJ (f:=8) rfl ?_);refine yj (some 23) rfl rfl Try.func8 (by kernel_rfl) rfl #[.agg #[.int .i64 a0_0,.int .i64 a0_1,.string a0_2]] rfl (by (try simp only [zt,zu,zv]);first|done|rfl|(simp only [zw,zx];rfl)|(simp only [yr,ys,zV,zW];rfl)) ?_;(with_reducible refine (F02.calls  a0_0 a0_1 a0_2 t539 t540 t541 _ A13.out).mono ?_);rintro e w24 ⟨rfl,hb⟩;refine ⟨_,rfl,?_⟩;replace BK536:=zh (cD BK536.out (by (with_reducible repeat first|apply ze|apply zf|apply zg);exact BK536.out) hb);replace HB:=zh (zC (by repeat (with_reducible first|exact HB.out|apply za|apply zb|apply zc|refine zd ?_ GE536.out)) hb);(try clear hb);(try clear hb2);(try clear hk);(try clear hi))|((with_reducible refine zJ (f:=12) rfl ?_);refine yj (some 25) rfl rfl Try.func12 (by kernel_rfl) rfl #[.slice A1 l1.length c1] rfl (by (try simp only [zt,zu,zv]);first|done|rfl|(simp only [zw,zx];rfl)|(simp only [yr,ys,zV,zW];rfl)) ?_;(with_reducible refine (Fe.calls k  _ _ l1 t542 _ ?side1 ?side2 A14.out).mono ?_);(case side1 => repeat (first|exact (Kd.C_below HR1.out HB.out)|(with_reducible refine Kd.C_alloc ?_ _)|(with_reducible refine Kd.C_drewN ?_ _)|(with_reducible refine Kd.C_drew ?_)));(case side2 => exact HC1.out);rintro e w25 ⟨v543,rfl,ho0,hb⟩;refine ⟨_,rfl,?_⟩;have HO544:=zh (yy ho0 (zB (by repeat (with_reducible first|exact HB.out|apply za|apply zb|apply zc|refine zd ?_ GE536.out))));replace BK536:=zh (cD BK536.out (by (with_reducible repeat first|apply ze|apply zf|apply zg);exact BK536.out) hb);replace HB:=zh (zC (by repeat (with_reducible first|exact HB.out|apply za|apply zb|apply zc|refine zd ?_ GE536.out)) hb);(try clear hb);(try clear hb2);(try clear hk);(try clear hi);(try clear ho0);obtain ⟨Ao26,co26,eo26⟩:=yk HO544.out;subst eo26)|((with_reducible refine zJ (f:=11) rfl ?_);refine yj (some 26) rfl rfl Try.func11 (by kernel_rfl) rfl #[.agg #[.int .i64 t539,.int .i64 t540,.string t541],.slice Ao26 t542.length co26] rfl (by (try simp only [zt,zu,zv]);first|done|rfl|(simp only [zw,zx];rfl)|(simp only [yr,ys,zV,zW];rfl)) ?_;(with_reducible refine (Fj.calls k  t539 t540 t541 _ _ t542 t545 t546 t547 t548 _ ?side1 ?side2 A15.out).mono ?_);(case side1 => repeat (first|exact (yh HO544.out).2.2|(with_reducible refine Kd.C_alloc ?_ _)|(with_reducible refine Kd.C_drewN ?_ _)|(with_reducible refine Kd.C_drew ?_)));(case side2 => exact (yh HO544.out).2.1);rintro e w27 ⟨rfl,hb⟩;refine ⟨_,rfl,?_⟩;replace HO544:=zh (yg (by (with_reducible repeat (first|apply zm|apply zn|apply zo));exact HO544.out) hb);replace BK536:=zh (cD BK536.out (by (with_reducible repeat first|apply ze|apply zf|apply zg);exact BK536.out) hb);replace HB:=zh (zC (by repeat (with_reducible first|exact HB.out|apply za|apply zb|apply zc|refine zd ?_ GE536.out)) hb);(try clear hb);(try clear hb2);(try clear hk);(try clear hi))|((with_reducible refine zK (N:=6) rfl ?_);refine zI ?hg (N:=6) ?hd (cs:=#[.int .i64 0,.int .i64 0,.string (⟨#[]⟩ : ByteArray)]) (t:=27) ?hr ?_;(case hd|hg => rfl);(case hr => go_simp <;> rfl);intro gb549 hg w28 hbox hb;replace HO544:=zh (yg (by (with_reducible repeat (first|apply zm|apply zn|apply zo));exact HO544.out) hb);have BK549:=zh (hbox);have hH_:=cH (by repeat (with_reducible first|exact HB.out|apply za|apply zb|apply zc|refine zd ?_ GE536.out)) hb hg;have GW549:=zh hH_.1;have GE549:=GW549;replace HB:=zh hH_.2;have NB536_549:=zh ((by rw [hg];exact yc (yi (g:=gb536) (o:=.cells #[.int .i64 a0_0,.int .i64 a0_1,.string a0_2] 23 (0,0)) (by (with_reducible repeat first|apply ze|apply zf|apply zg);exact BK536.out)) : gb536≠gb549));have NB549_536:=zh NB536_549.out.symm;replace BK536:=zh (cD BK536.out (by (with_reducible repeat first|apply ze|apply zf|apply zg);exact BK536.out) hb);clear hb hbox hg hH_;have hnb29:=NB549_536.out;have hnc29:=NB536_549.out;obtain ⟨hcz30_0,hcz30_1,hcz30_2,hfz30_0,hfz30_1,hfz30_2⟩:=cB3 BK549.out)|((with_reducible refine zJ (f:=12) rfl ?_);refine yj (some 30) rfl rfl Try.func12 (by kernel_rfl) rfl #[.slice A1 l1.length c1] rfl (by (try simp only [zt,zu,zv]);first|done|rfl|(simp only [zw,zx];rfl)|(simp only [yr,ys,zV,zW];rfl)) ?_;(with_reducible refine (Fe.calls k  _ _ l1 t550 _ ?side1 ?side2 A16.out).mono ?_);(case side1 => exact Kd.C_below HR1.out (by repeat (with_reducible first|exact HB.out|apply za|apply zb|apply zc|refine zd ?_ GE536.out|refine zd ?_ GE549.out)));(case side2 => exact HC1.out);rintro e w31 ⟨v551,rfl,ho0,hb⟩;refine ⟨_,rfl,?_⟩;have HO552:=zh (yy (Kd.R_new' ho0 (Kd.R_lt (by (with_reducible repeat (first|apply zm|apply zn|apply zo));exact (zM (zE (p:=⟨gb549,2,none⟩) (zE (p:=⟨gb549,1,none⟩) (zE (p:=⟨gb549,0,none⟩) (yf HO544.out BK549.out (by decide)) (fun _ hk => hk.2) (.int .i64 t545)) (fun _ hk => hk.2) (.int .i64 t546)) (fun _ hk => hk.2) (.string t547)) (fun _ h_ => h_.1))))) (zB (by repeat (with_reducible first|exact HB.out|apply za|apply zb|apply zc|refine zd ?_ GE536.out|refine zd ?_ GE549.out))));replace HO544:=zh (Kd.R_elder' (by (with_reducible repeat (first|apply zm|apply zn|apply zo));exact (zM (zE (p:=⟨gb549,2,none⟩) (zE (p:=⟨gb549,1,none⟩) (zE (p:=⟨gb549,0,none⟩) (yf HO544.out BK549.out (by decide)) (fun _ hk => hk.2) (.int .i64 t545)) (fun _ hk => hk.2) (.int .i64 t546)) (fun _ hk => hk.2) (.string t547)) (fun _ h_ => h_.1))) (Kd.R_base ho0) hb);replace BK536:=zh (cD BK536.out (by (with_reducible repeat first|apply ze|apply zf|apply zg);refine cS3 ?_ NB536_549.out;(with_reducible repeat first|apply ze|apply zf|apply zg);exact BK536.out) hb);replace BK549:=zh (zD (g:=gb549) (o:=.cells #[.int .i64 t545,.int .i64 t546,.string t547] 27 (0,0)) (by (with_reducible repeat first|apply ze|apply zf|apply zg);refine zL (cs:=#[.int .i64 t545,.int .i64 t546,.string (⟨#[]⟩ : ByteArray)]) ?_ 2 _ rfl;(with_reducible repeat first|apply ze|apply zf|apply zg);refine zL (cs:=#[.int .i64 t545,.int .i64 0,.string (⟨#[]⟩ : ByteArray)]) ?_ 1 _ rfl;(with_reducible repeat first|apply ze|apply zf|apply zg);refine zL (cs:=#[.int .i64 0,.int .i64 0,.string (⟨#[]⟩ : ByteArray)]) ?_ 0 _ rfl;(with_reducible repeat first|apply ze|apply zf|apply zg);exact BK549.out) hb);replace HB:=zh (zC (by repeat (with_reducible first|exact HB.out|apply za|apply zb|apply zc|refine zd ?_ GE536.out|refine zd ?_ GE549.out)) hb);(try clear hb);(try clear hb2);(try clear hk);(try clear hi);(try clear ho0);obtain ⟨hcz32_0,hcz32_1,hcz32_2,hfz32_0,hfz32_1,hfz32_2⟩:=cB3 BK536.out)|((with_reducible refine zJ (f:=8) rfl ?_);refine yj (some 33) rfl rfl Try.func8 (by kernel_rfl) rfl #[.agg #[.int .i64 a0_0,.int .i64 a0_1,.string a0_2]] rfl (by (try simp only [zt,zu,zv]);first|done|rfl|(simp only [zw,zx];rfl)|(simp only [yr,ys,zV,zW];rfl)) ?_;(with_reducible refine (F02.calls  a0_0 a0_1 a0_2 t553 t554 t555 _ A17.out).mono ?_);rintro e w33 ⟨rfl,hb⟩;refine ⟨_,rfl,?_⟩;replace HO544:=zh (yg (by (with_reducible repeat (first|apply zm|apply zn|apply zo));exact HO544.out) hb);replace HO552:=zh (yg (by (with_reducible repeat (first|apply zm|apply zn|apply zo));exact HO552.out) hb);replace BK536:=zh (cD BK536.out (by (with_reducible repeat first|apply ze|apply zf|apply zg);exact BK536.out) hb);replace BK549:=zh (cD BK549.out (by (with_reducible repeat first|apply ze|apply zf|apply zg);exact BK549.out) hb);replace HB:=zh (zC (by repeat (with_reducible first|exact HB.out|apply za|apply zb|apply zc|refine zd ?_ GE536.out|refine zd ?_ GE549.out)) hb);(try clear hb);(try clear hb2);(try clear hk);(try clear hi);obtain ⟨Ao34,co34,eo34⟩:=yk HO552.out;subst eo34)|((with_reducible refine zJ (f:=13) rfl ?_);refine yj (some 35) rfl rfl Try.func13 (by kernel_rfl) rfl #[.agg #[.int .i64 t553,.int .i64 t554,.string t555],.slice Ao34 t550.length co34] rfl (by (try simp only [zt,zu,zv]);first|done|rfl|(simp only [zw,zx];rfl)|(simp only [yr,ys,zV,zW];rfl)) ?_;(with_reducible refine (F00.calls k  t553 t554 t555 _ _ t550 t556 t557 t558 t559 _ ?side1 ?side2 A18.out).mono ?_);(case side1 => repeat (first|exact (yh HO552.out).2.2|(with_reducible refine Kd.C_alloc ?_ _)|(with_reducible refine Kd.C_drewN ?_ _)|(with_reducible refine Kd.C_drew ?_)));(case side2 => exact (yh HO552.out).2.1);rintro e w35 ⟨rfl,hb⟩;refine ⟨_,rfl,?_⟩;replace HO544:=zh (yg (by (with_reducible repeat (first|apply zm|apply zn|apply zo));exact HO544.out) hb);replace HO552:=zh (yg (by (with_reducible repeat (first|apply zm|apply zn|apply zo));exact HO552.out) hb);replace BK536:=zh (cD BK536.out (by (with_reducible repeat first|apply ze|apply zf|apply zg);exact BK536.out) hb);replace BK549:=zh (cD BK549.out (by (with_reducible repeat first|apply ze|apply zf|apply zg);exact BK549.out) hb);replace HB:=zh (zC (by repeat (with_reducible first|exact HB.out|apply za|apply zb|apply zc|refine zd ?_ GE536.out|refine zd ?_ GE549.out)) hb);(try clear hb);(try clear hb2);(try clear hk);(try clear hi))|((with_reducible refine zK (N:=9) rfl ?_);refine zI ?hg (N:=9) ?hd (cs:=#[.int .i64 0,.int .i64 0,.string (⟨#[]⟩ : ByteArray)]) (t:=27) ?hr ?_;(case hd|hg => rfl);(case hr => go_simp <;> rfl);intro gb560 hg w36 hbox hb;replace HO544:=zh (yg (by (with_reducible repeat (first|apply zm|apply zn|apply zo));exact HO544.out) hb);replace HO552:=zh (yg (by (with_reducible repeat (first|apply zm|apply zn|apply zo));exact HO552.out) hb);have BK560:=zh (hbox);have hH_:=cH (by repeat (with_reducible first|exact HB.out|apply za|apply zb|apply zc|refine zd ?_ GE536.out|refine zd ?_ GE549.out)) hb hg;have GW560:=zh hH_.1;have GE560:=GW560;replace HB:=zh hH_.2;have NB536_560:=zh ((by rw [hg];exact yc (yi (g:=gb536) (o:=.cells #[.int .i64 a0_0,.int .i64 a0_1,.string a0_2] 23 (0,0)) (by (with_reducible repeat first|apply ze|apply zf|apply zg);exact BK536.out)) : gb536≠gb560));have NB560_536:=zh NB536_560.out.symm;replace BK536:=zh (cD BK536.out (by (with_reducible repeat first|apply ze|apply zf|apply zg);exact BK536.out) hb);have NB549_560:=zh ((by rw [hg];exact yc (yi (g:=gb549) (o:=.cells #[.int .i64 t545,.int .i64 t546,.string t547] 27 (0,0)) (by (with_reducible repeat first|apply ze|apply zf|apply zg);exact BK549.out)) : gb549≠gb560));have NB560_549:=zh NB549_560.out.symm;replace BK549:=zh (cD BK549.out (by (with_reducible repeat first|apply ze|apply zf|apply zg);exact BK549.out) hb);clear hb hbox hg hH_;have hnb37:=NB560_536.out;have hnc37:=NB536_560.out;have hnb38:=NB560_549.out;have hnc38:=NB549_560.out;obtain ⟨hcz39_0,hcz39_1,hcz39_2,hfz39_0,hfz39_1,hfz39_2⟩:=cB3 BK560.out))
 (try simp only [Act.put,zi,zj,zk])
 go_cut [46] (fun v46 wc => ∃ (kq : Nat) (x46_18 : Bool),v46 = .bool x46_18∧Aside0 (Fa.j0 kq l1 t550 x46_18=some r)∧Aside0 (kq≤k)∧Aside0 (Kd.R Kd.string 9 wc w.heap.size (fun _ => True) (.slice Ao34 t550.length co34) t550)∧Aside0 (wc.heap[gb536]? = some (.cells #[.int .i64 a0_0,.int .i64 a0_1,.string a0_2] 23 (0,0)))∧Aside0 (wc.heap[gb549]? = some (.cells #[.int .i64 t545,.int .i64 t546,.string t547] 27 (0,0)))∧Aside0 (wc.heap[gb560]? = some (.cells #[.int .i64 t556,.int .i64 t557,.string t558] 27 (0,0)))∧Aside0 (Below w.heap.size w wc))
 case first =>
  have H:=HC19.out;clear HC19;replace H:=zT.mp H;obtain ⟨t561,A400,H⟩:=H;replace H : (if t561=true then (Fa.j0 k l1 t550 (t559 != t548)) else (Fa.j0 k l1 t550 true))=some r:=H;have A40:=zh A400;clear A400
  by_cases c41 : t561=true
  ·
   subst c41
   have H1 : (Fa.j0 k l1 t550 (t559 != t548))=some r:=by rw [if_pos rfl] at H;exact H
   clear H;have H:=H1;clear H1;have H':=zh H;clear H;have hnb42:=NB560_536.out;have hnc42:=NB536_560.out;have hnb43:=NB560_549.out;have hnc43:=NB549_560.out;obtain ⟨hcz44_0,hcz44_1,hcz44_2,hfz44_0,hfz44_1,hfz44_2⟩:=cB3 BK560.out;have hnb45:=NB549_536.out;have hnc45:=NB536_549.out;obtain ⟨hcz46_0,hcz46_1,hcz46_2,hfz46_0,hfz46_1,hfz46_2⟩:=cB3 BK549.out
   go_wp2_with (first|((with_reducible refine zJ (f:=14) rfl ?_);refine yj (some 40) rfl rfl Try.func14 (by kernel_rfl) rfl #[.agg #[.int .i64 t556,.int .i64 t557,.string t558],.agg #[.int .i64 t545,.int .i64 t546,.string t547]] rfl (by (try simp only [zt,zu,zv]);first|done|rfl|(simp only [zw,zx];rfl)|(simp only [yr,ys,zV,zW];rfl)) ?_;(with_reducible refine (F03.calls  t556 t557 t558 t545 t546 t547 true _ A40.out).mono ?_);rintro e w47 ⟨rfl,hb⟩;refine ⟨_,rfl,?_⟩;replace HO544:=zh (yg (by (with_reducible repeat (first|apply zm|apply zn|apply zo));exact (zM (zE (p:=⟨gb560,2,none⟩) (zE (p:=⟨gb560,1,none⟩) (zE (p:=⟨gb560,0,none⟩) (yf HO544.out BK560.out (by decide)) (fun _ hk => hk.2) (.int .i64 t556)) (fun _ hk => hk.2) (.int .i64 t557)) (fun _ hk => hk.2) (.string t558)) (fun _ h_ => h_.1))) hb);replace HO552:=zh (yg (by (with_reducible repeat (first|apply zm|apply zn|apply zo));exact (zM (zE (p:=⟨gb560,2,none⟩) (zE (p:=⟨gb560,1,none⟩) (zE (p:=⟨gb560,0,none⟩) (yf HO552.out BK560.out (by decide)) (fun _ hk => hk.2) (.int .i64 t556)) (fun _ hk => hk.2) (.int .i64 t557)) (fun _ hk => hk.2) (.string t558)) (fun _ h_ => h_.1))) hb);replace BK536:=zh (cD BK536.out (by (with_reducible repeat first|apply ze|apply zf|apply zg);refine cS3 ?_ NB536_560.out;(with_reducible repeat first|apply ze|apply zf|apply zg);exact BK536.out) hb);replace BK549:=zh (cD BK549.out (by (with_reducible repeat first|apply ze|apply zf|apply zg);refine cS3 ?_ NB549_560.out;(with_reducible repeat first|apply ze|apply zf|apply zg);exact BK549.out) hb);replace BK560:=zh (zD (g:=gb560) (o:=.cells #[.int .i64 t556,.int .i64 t557,.string t558] 27 (0,0)) (by (with_reducible repeat first|apply ze|apply zf|apply zg);refine zL (cs:=#[.int .i64 t556,.int .i64 t557,.string (⟨#[]⟩ : ByteArray)]) ?_ 2 _ rfl;(with_reducible repeat first|apply ze|apply zf|apply zg);refine zL (cs:=#[.int .i64 t556,.int .i64 0,.string (⟨#[]⟩ : ByteArray)]) ?_ 1 _ rfl;(with_reducible repeat first|apply ze|apply zf|apply zg);refine zL (cs:=#[.int .i64 0,.int .i64 0,.string (⟨#[]⟩ : ByteArray)]) ?_ 0 _ rfl;(with_reducible repeat first|apply ze|apply zf|apply zg);exact BK560.out) hb);replace HB:=zh (zC (by repeat (with_reducible first|exact HB.out|apply za|apply zb|apply zc|refine zd ?_ GE536.out|refine zd ?_ GE549.out|refine zd ?_ GE560.out)) hb);(try clear hb);(try clear hb2);(try clear hk);(try clear hi)))
   go_meet
   case rel => exact ⟨_,((t559 != t548)),(by first|rfl|(simp;done)|(simp [*];done)),H',⟨by first|omega|exact ye _⟩,⟨by (with_reducible repeat (first|apply zm|apply zn|apply zo));exact zM HO552.out (fun _ hk => trivial)⟩,⟨by (with_reducible repeat first|apply ze|apply zf|apply zg);exact BK536.out⟩,⟨by (with_reducible repeat first|apply ze|apply zf|apply zg);exact BK549.out⟩,⟨by (with_reducible repeat first|apply ze|apply zf|apply zg);exact BK560.out⟩,⟨by repeat (with_reducible first|exact HB.out|apply za|apply zb|apply zc|refine zd ?_ GE536.out|refine zd ?_ GE549.out|refine zd ?_ GE560.out)⟩⟩
  replace c41:=yb.mpr c41;subst c41;have H1 : (Fa.j0 k l1 t550 true)=some r:=by rw [if_neg (show ¬ (false=true) by decide)] at H;exact H
  exact absurd H1 (by rw [hr_];apply Fa.j0_no4)
 case rest =>
  clear HC19
  try clear c1 c2
  try clear p2
  try clear c3 c4 c4b0 c5 c6 c8 c9 c9b0 c10 c11 c12 c13 c14 c29 c37 c38 c41 c42 c43 c45 c48 c49 c51
  try clear hcz11_0 hcz11_1 hcz11_2
  try clear hcz21_0 hcz21_1 hcz21_2
  try clear hcz23_0 hcz23_1 hcz23_2
  try clear hcz30_0 hcz30_1 hcz30_2
  try clear hcz32_0 hcz32_1 hcz32_2
  try clear hcz39_0 hcz39_1 hcz39_2
  try clear hcz44_0 hcz44_1 hcz44_2
  try clear hcz46_0 hcz46_1 hcz46_2
  try clear hcz50_0 hcz50_1 hcz50_2
  try clear hcz52_0 hcz52_1 hcz52_2
  try clear hcz6_0 hcz6_1 hcz6_2
  try clear hfz11_0 hfz11_1 hfz11_2
  try clear hfz21_0 hfz21_1 hfz21_2
  try clear hfz23_0 hfz23_1 hfz23_2
  try clear hfz30_0 hfz30_1 hfz30_2
  try clear hfz32_0 hfz32_1 hfz32_2
  try clear hfz39_0 hfz39_1 hfz39_2
  try clear hfz44_0 hfz44_1 hfz44_2
  try clear hfz46_0 hfz46_1 hfz46_2
  try clear hfz50_0 hfz50_1 hfz50_2
  try clear hfz52_0 hfz52_1 hfz52_2
  try clear hfz6_0 hfz6_1 hfz6_2
  obtain ⟨kq,x46_18,rfl,HA,HJ18,HO_8,BK536,BK549,BK560,HB⟩:=hcut
  cases kq with
  | zero => exact absurd HA.out (by simp [Fa.j0])
  | succ kj18 =>
   have H:=HA.out;clear HA;simp only [Fa.j0] at H
   by_cases c54 : x46_18=true
   ·
    subst c54
    have H1 : (some false)=some r:=by rw [if_pos rfl] at H;exact H
    exact absurd H1 (by rw [hr_];decide)
   replace c54:=yb.mpr c54;subst c54;have H1 : ((Fe.f kj18 l1).bind fun t562 => ((Fp.f kj18 t550 t562).bind fun t565 => (if t565=true then (some true) else (some false))))=some r:=by rw [if_neg (show ¬ (false=true) by decide)] at H;exact H
   clear H;have H:=H1;clear H1;replace H:=zT.mp H;obtain ⟨t562,A550,H⟩:=H;replace H : ((Fp.f kj18 t550 t562).bind fun t565 => (if t565=true then (some true) else (some false)))=some r:=H;have A55:=zh A550;clear A550;replace H:=zT.mp H;obtain ⟨t565,A560,H⟩:=H;replace H : (if t565=true then (some true) else (some false))=some r:=H;have A56:=zh A560;clear A560
   by_cases c57 : t565=true
   ·
    subst c57
    have H1 : (some true)=some r:=by rw [if_pos rfl] at H;exact H
    clear H;have H:=H1;clear H1;obtain rfl:=zU H
    go_wp2_with (first|((with_reducible refine zJ (f:=12) rfl ?_);refine yj (some 49) rfl rfl Try.func12 (by kernel_rfl) rfl #[.slice A1 l1.length c1] rfl (by (try simp only [zt,zu,zv]);first|done|rfl|(simp only [zw,zx];rfl)|(simp only [yr,ys,zV,zW];rfl)) ?_;(with_reducible refine (Fe.calls kj18  _ _ l1 t562 _ ?side1 ?side2 A55.out).mono ?_);(case side1 => repeat (first|exact (Kd.C_below HR1.out HB.out)|(with_reducible refine Kd.C_alloc ?_ _)|(with_reducible refine Kd.C_drewN ?_ _)|(with_reducible refine Kd.C_drew ?_)));(case side2 => exact HC1.out);rintro e w58 ⟨v563,rfl,ho0,hb⟩;refine ⟨_,rfl,?_⟩;have HO564:=zh (yy (Kd.R_new' ho0 (Kd.R_lt (by (with_reducible repeat (first|apply zm|apply zn|apply zo));exact HO_8.out))) (zB (by repeat (with_reducible first|exact HB.out|apply za|apply zb|apply zc|refine zd ?_ GE536.out|refine zd ?_ GE549.out|refine zd ?_ GE560.out))));replace HO_8:=zh (Kd.R_elder' (by (with_reducible repeat (first|apply zm|apply zn|apply zo));exact HO_8.out) (Kd.R_base ho0) hb);replace BK536:=zh (cD BK536.out (by (with_reducible repeat first|apply ze|apply zf|apply zg);exact BK536.out) hb);replace BK549:=zh (cD BK549.out (by (with_reducible repeat first|apply ze|apply zf|apply zg);exact BK549.out) hb);replace BK560:=zh (cD BK560.out (by (with_reducible repeat first|apply ze|apply zf|apply zg);exact BK560.out) hb);replace HB:=zh (zC (by repeat (with_reducible first|exact HB.out|apply za|apply zb|apply zc|refine zd ?_ GE536.out|refine zd ?_ GE549.out|refine zd ?_ GE560.out)) hb);(try clear hb);(try clear hb2);(try clear hk);(try clear hi);(try clear ho0);obtain ⟨Ao59,co59,eo59⟩:=yk HO564.out;subst eo59)|((with_reducible refine zJ (f:=15) rfl ?_);refine yj (some 50) rfl rfl Try.func15 (by kernel_rfl) rfl #[.slice Ao34 t550.length co34,.slice Ao59 t562.length co59] rfl (by (try simp only [zt,zu,zv]);first|done|rfl|(simp only [zw,zx];rfl)|(simp only [yr,ys,zV,zW];rfl)) ?_;(with_reducible refine (Fp.calls kj18  _ _ t550 _ _ t562 true _ ?side1 ?side2 ?side3 ?side4 A56.out).mono ?_);(case side1 => repeat (first|exact (yh HO_8.out).2.2|(with_reducible refine Kd.C_alloc ?_ _)|(with_reducible refine Kd.C_drewN ?_ _)|(with_reducible refine Kd.C_drew ?_)));(case side2 => exact (yh HO_8.out).2.1);(case side3 => repeat (first|exact (yh HO564.out).2.2|(with_reducible refine Kd.C_alloc ?_ _)|(with_reducible refine Kd.C_drewN ?_ _)|(with_reducible refine Kd.C_drew ?_)));(case side4 => exact (yh HO564.out).2.1);rintro e w' ⟨rfl,⟨nd,rfl⟩⟩;refine ⟨_,rfl,?_⟩))
    go_ret
    exact ⟨by first|rfl|(simp [yt,yu] <;> rfl)|(simp [*,yt,yu] <;> rfl),by repeat (with_reducible first|exact HB.out|apply za|apply zb|apply zc|refine zd ?_ GE536.out|refine zd ?_ GE549.out|refine zd ?_ GE560.out)⟩
   replace c57:=yb.mpr c57;subst c57;have H1 : (some false)=some r:=by rw [if_neg (show ¬ (false=true) by decide)] at H;exact H
   exact absurd H1 (by rw [hr_];decide)

end Go.Proofs.Ytaoihmompioncaa.Q
end
section
namespace Go.Proofs.YtaoihmompioncaaW.PrintOpen
open Go.RowKit Go.ChangeShapes Go.WideShapes Go.ChangeAt Go.Proofs.YtaoihmompioncaaW.PrintWords
def Opens {α : Type} (P : Program) (d : Kd α) (t : TypeId) (good : α→Prop) : Prop :=
 ∀ (H : Type) (enc : TypeId×Value→H) (w : World) (base : Nat) (spare : Nat→Bool) (held : Bool) (fuel : Nat) (cs : List Value) (x : DataW H×List MemPlace),
  DataW.trod enc P w base spare held fuel t cs=some x → ∃ a,d.K w a cs∧good a
variable {P : Program}
theorem opens_int {t : TypeId} {k : IntKind} (ht : P.underlying t=some (.int k)) : Opens P (Kd.int k) t (fun n => (Lit.int k n).wf=true):=by
 intro H enc w base spare held fuel cs x h;obtain ⟨n,hcs,_,hw⟩:=DataW.trod_int ht h;exact ⟨n,hcs,hw⟩
theorem opens_string {t : TypeId} (ht : P.underlying t=some .string) : Opens P Kd.string t (fun s => s.size≤9223372036854775807):=by
 intro H enc w base spare held fuel cs x h;obtain ⟨s,hcs,_,hs⟩:=DataW.trod_string ht h;exact ⟨s,hcs,by unfold maxLen at hs;exact hs⟩
theorem opens_slice {α : Type} {t e : TypeId} {d : Kd α} {g : α→Prop} (ht : P.underlying t=some (.slice e)) (hc : P.cellsOf e=d.sz) (he : Opens P d e g) :
  Opens P (Kd.slice e d) t (fun l => l.length≤9223372036854775807 ∧ ∀ x ∈ l,g x):=by
 intro H enc w base spare held fuel cs x h;rcases Deep.open_slice ht h with ⟨rfl,_⟩|⟨a,len,cap,m,n,D,Pl,rfl,_,hl,hm,hmm,_,hx⟩
 ·
  exact ⟨[],⟨none,0,rfl,Nat.le_refl _,rfl,by simp,fun h0 => absurd h0 (by simp)⟩,by simp,by simp⟩
 have hlm : len≤m:=by rw [hmm];split <;> omega
 have hall : ∀ i : Fin len,∃ v : α×List Value,w.cells? base (a.add (i.1 * P.cellsOf e)) (P.cellsOf e)=some v.2∧d.K w v.1 v.2∧g v.1:=fun i => by
  obtain ⟨cs',h1,h2⟩:=hx i.1 (by have:=i.2;omega);obtain ⟨a',hk,hg⟩:=he H enc w base spare held n cs' _ h2;exact ⟨(a',cs'),h1,hk,hg⟩
 obtain ⟨V,hV⟩:=Classical.axiomOfChoice hall;have hmax : len≤9223372036854775807:=by unfold maxLen at hm;omega
 have hlen : (List.ofFn fun i => (V i).1).length=len:=List.length_ofFn;refine ⟨List.ofFn fun i => (V i).1,⟨some a,cap,by rw [hlen],by rw [hlen];exact hl,rfl,by rw [hlen];exact hmax,fun _ => ⟨a,rfl,?_⟩⟩,by rw [hlen];exact hmax,?_⟩
 ·
  intro j p hj
  have hjl : j<len:=by
   have:=(List.getElem?_eq_some_iff.1 hj).1
   omega
  rw [List.getElem?_ofFn,dif_pos hjl] at hj;obtain rfl:=Option.some.inj hj;obtain ⟨h1,h2,_⟩:=hV ⟨j,hjl⟩;obtain ⟨_,hlen2,hcell⟩:=World.cells?_some h1;refine ⟨(V ⟨j,hjl⟩).2,by rw [← hc];exact hlen2,h2,fun q u hu => ?_⟩
  have hq : q<P.cellsOf e:=by
   have:=(List.getElem?_eq_some_iff.1 hu).1
   omega
  have h3:=hcell q hq;rw [Deep.add_add,hu,hc] at h3;exact h3
 intro x hx;obtain ⟨i,rfl⟩:=List.mem_ofFn.1 hx;exact (hV i).2.2
def OpensF {α : Type} (P : Program) (d : Kd α) (fs : List Field) (off : Nat) (good : α→Prop) : Prop :=
 ∀ (H : Type) (enc : TypeId×Value→H) (w : World) (base : Nat) (spare : Nat→Bool) (held : Bool) (fuel : Nat) (cs : List Value),off + d.sz≤cs.length →
  (∀ f ∈ fs,∃ x,DataW.trod enc P w base spare held fuel f.type ((cs.drop f.offset).take (P.cellsOf f.type))=some x) → ∃ a,d.K w a ((cs.drop off).take d.sz)∧good a
theorem opensF_one {α : Type} {d : Kd α} {f : Field} {off : Nat} {g : α→Prop} (ho : f.offset=off) (hc : P.cellsOf f.type=d.sz) (h : Opens P d f.type g) : OpensF P d [f] off g:=by
 intro H enc w base spare held fuel cs _ hf;obtain ⟨x,hx⟩:=hf f (by simp);obtain ⟨a,hk,hg⟩:=h H enc w base spare held fuel _ x hx;rw [ho,hc] at hk;exact ⟨a,hk,hg⟩
theorem opensF_cons {α β : Type} {d : Kd α} {d' : Kd β} {f : Field} {fs : List Field} {off : Nat} {g : α→Prop} {g' : β→Prop} (ho : f.offset=off) (hc : P.cellsOf f.type=d.sz) (h : Opens P d f.type g) (h' : OpensF P d' fs (off + d.sz) g') :
  OpensF P (Kd.pair d d') (f :: fs) off (fun x => g x.1∧g' x.2):=by
 intro H enc w base spare held fuel cs hl hf;obtain ⟨x,hx⟩:=hf f (by simp);obtain ⟨a,hk,hg⟩:=h H enc w base spare held fuel _ x hx;have hl2 : off + (d.sz + d'.sz)≤cs.length:=hl;obtain ⟨b,hk',hg'⟩:=h' H enc w base spare held fuel cs (by omega) (fun f' hf' => hf f' (by simp [hf']));rw [ho,hc] at hk;refine ⟨(a,b),⟨_,_,?_,hk,hk'⟩,hg,hg'⟩;show (cs.drop off).take (d.sz + d'.sz)=_;rw [List.take_add,List.drop_drop]
theorem opens_struct {α β : Type} {t : TypeId} {fs : Array Field} {d : Kd α} {g : α→Prop} {f : β→α} (f' : α→β) (hf : ∀ a,f (f' a)=a) (ht : P.underlying t=some (.struct fs)) (hc : P.cellsOf t=d.sz) (h : OpensF P d fs.toList 0 g) :
  Opens P (Kd.iso d f) t (fun b => g (f b)):=by
 intro H enc w base spare held fuel cs x hx;obtain ⟨xs,n,_,_,hl,hlen,hxs⟩:=DataW.trod_struct ht hx
 obtain ⟨a,hk,hg⟩:=h H enc w base spare held n cs (by omega) (fun y hy => by
  obtain ⟨i,hi⟩:=List.mem_iff_getElem?.1 hy;have:=hxs i y (by simpa using hi)
  have hlt : i<xs.length:=by
   have:=(List.getElem?_eq_some_iff.1 hi).1;rw [hlen]
   simpa using this
  rw [List.getElem?_eq_getElem hlt] at this
  exact ⟨_,this⟩)
 rw [List.drop_zero,show d.sz=cs.length by omega,List.take_length] at hk;exact ⟨f' a,by show d.K w (f (f' a)) cs;rw [hf];exact hk,by show g (f (f' a));rw [hf];exact hg⟩
theorem arg_struct {α : Type} {d : Kd α} {t : TypeId} {fs : Array Field} {g : α→Prop} {H : Type} {enc : TypeId×Value→H} {w : World} {base b0 : Nat} {spare : Nat→Bool} {held : Bool} {r : Reach} {v : Value} {dd : DataW H} {p : List MemPlace}
  (ht : P.underlying t=some (.struct fs)) (h : Opens P d t g) (hv : Value.okWide P w r b0 t v) (hd : DataW.Trod enc P w base spare held t v dd p) : ∃ (a : α) (cs : List Value),v = .agg ⟨cs⟩∧d.K w a cs∧g a:=by
 obtain ⟨cs,rfl,_⟩:=okWide_struct ht hv;obtain ⟨fuel,hf⟩:=hd;obtain ⟨a,hk,hg⟩:=h H enc w base spare held fuel _ _ hf;exact ⟨a,cs.toList,rfl,hk,hg⟩
theorem arg_slice {α : Type} {d : Kd α} {t e : TypeId} {g : List α→Prop} {H : Type} {enc : TypeId×Value→H} {w : World} {base b0 : Nat} {spare : Nat→Bool} {held : Bool} {r : Reach} {v : Value} {dd : DataW H} {p : List MemPlace}
  (ht : P.underlying t=some (.slice e)) (h : Opens P (Kd.slice e d) t g) (hv : Value.okWide P w r b0 t v) (hd : DataW.Trod enc P w base spare held t v dd p) :
  ∃ (l : List α) (A : Option Addr) (c : Nat),v = .slice A l.length c∧l.length≤c∧Kd.C d w A l.length l∧g l:=by
 obtain ⟨a,len,cap,rfl⟩:=okWide_slice ht hv;obtain ⟨fuel,hf⟩:=hd;obtain ⟨l,⟨A,c,he,hl,hc⟩,hg⟩:=h H enc w base spare held fuel _ _ hf;simp [Value.cells] at he;obtain ⟨rfl,rfl,rfl⟩:=he;exact ⟨l,a,cap,rfl,hl,hc,hg⟩
end Go.Proofs.YtaoihmompioncaaW.PrintOpen
end
section
namespace Go.Proofs.Ytaoihmompioncaa.Q
open Go.RowKit Go.Proofs.YtaoihmompioncaaW.PrintWords Go.Proofs.YtaoihmompioncaaW.PrintLast Go.Proofs.YtaoihmompioncaaW.PrintMore Go.Proofs.YtaoihmompioncaaW.PrintOpen
def good23 (x_ : S23) : Prop:=((Lit.int .i64 x_.f0).wf=true)∧(((Lit.int .i64 x_.f1).wf=true)∧((x_.f2.size≤9223372036854775807)))
theorem opens23 : Opens Try.prog k23 23 good23 :=
 opens_struct (f:=(fun x : S23 => (x.f0,x.f1,x.f2))) (fun ⟨x0,x1,x2⟩ => ⟨x0,x1,x2⟩) (fun _ => rfl) Try.underlying23 (by kernel_rfl) (opensF_cons rfl (by kernel_rfl) (opens_int Try.underlying3) (opensF_cons rfl (by kernel_rfl) (opens_int Try.underlying3) (opensF_one rfl (by kernel_rfl) (opens_string Try.underlying9))))
end Go.Proofs.Ytaoihmompioncaa.Q
end
section
namespace Go.Proofs.Ytaoihmompioncaa.Q
def Fa.Pure : Prop:=∀ (x0 : S23) (x1 : List ByteArray),(good23 x0)→((x1.length≤9223372036854775807 ∧ ∀ y0_ ∈ x1,y0_.size≤9223372036854775807)) → ∃ k,Fa.f k x0.f0 x0.f1 x0.f2 x1=some true
end Go.Proofs.Ytaoihmompioncaa.Q
end
section
namespace Go.Proofs.YtaoihmompioncaaW.Pl
open Go Go.RowKit Go.Proofs.YtaoihmompioncaaW.PrintWords Go.Proofs.YtaoihmompioncaaW.PrintMore
theorem w64 {i : Int} (h0 : -9223372036854775808≤i) (h1 : i≤9223372036854775807) : wrap64 i=i:=by unfold wrap64;omega
theorem fuel {k d : Nat} (h : d<k) : ∃ m,k=m + 1∧d≤m:=⟨k - 1,by omega,by omega⟩
theorem rdOf_at {α : Type} (d : α) (xs : List α) (i : Nat) (h : i<xs.length) : rdOf d xs (i : Int)=xs[i]:=by
 unfold rdOf;simp [List.getD,h]
theorem rd_at (xs : List Int) (i : Nat) (h : i<xs.length) : rd xs (i : Int)=xs[i]:=by
 unfold rd;simp [List.getD,h]
theorem getD_at {α : Type} (d : α) (xs : List α) (i : Nat) (h : i<xs.length) : xs.getD (i : Int).toNat d=xs[i]:=by
 simp [List.getD,h]
theorem drop_at {α : Type} (xs : List α) (i : Nat) (h : i<xs.length) : xs.drop i=xs[i] :: xs.drop (i + 1):=List.drop_eq_getElem_cons h
theorem ba_toList (a : ByteArray) : a.toList=a.data.toList:=ByteArray.toList_eq a
theorem ba_ext {a b : ByteArray} (h : a.toList=b.toList) : a=b:=by
 rw [ba_toList,ba_toList] at h
 cases a;cases b
 simp at h;rw [h]
theorem map_loop {α β : Type} (g : Nat→List β→Int→Option (List β)) (xs : List α) (c : α→β)
  (hstep : ∀ (k : Nat) (ys : List β) (i : Nat) (h : i<xs.length),ys.length=xs.length→g (k + 1) ys (i : Int)=g k (ys.set i (c xs[i])) ((i + 1 : Nat) : Int))
  (hend : ∀ (k : Nat) (ys : List β),ys.length=xs.length→g (k + 1) ys (xs.length : Int)=some ys) :
  ∀ (d k i : Nat) (ys : List β),i + d=xs.length→d<k→ys.length=xs.length→g k ys (i : Int)=some (ys.take i ++ (xs.drop i).map c):=by
 intro d
 induction d with
 | zero =>
  intro k i ys hi hk hy;obtain ⟨k,rfl,_⟩:=fuel hk;obtain rfl : i=xs.length:=by omega
  rw [hend k ys hy,List.drop_length,List.take_of_length_le (by omega)];simp
 | succ d ih =>
  intro k i ys hi hk hy;obtain ⟨k,rfl,_⟩:=fuel hk;have hlt : i<xs.length:=by omega
  have ht : (ys.set i (c xs[i])).take (i + 1)=ys.take i ++ [c xs[i]]:=by
   rw [List.take_succ_eq_append_getElem (by simp;omega),List.getElem_set_self,List.take_set_of_le (Nat.le_refl _)]
  rw [hstep k ys i hlt hy,ih k (i + 1) _ (by omega) (by omega) (by simp [hy]),ht,drop_at xs i hlt,List.map_cons,List.append_assoc]
  rfl
theorem map_loop0 {α β : Type} (g : Nat→List β→Int→Option (List β)) (xs : List α) (c : α→β)
  (hstep : ∀ (k : Nat) (ys : List β) (i : Nat) (h : i<xs.length),ys.length=xs.length→g (k + 1) ys (i : Int)=g k (ys.set i (c xs[i])) ((i + 1 : Nat) : Int))
  (hend : ∀ (k : Nat) (ys : List β),ys.length=xs.length→g (k + 1) ys (xs.length : Int)=some ys) {k : Nat} (hk : xs.length<k) (z : β) : g k (List.replicate xs.length z) 0=some (xs.map c):=by
 have:=map_loop g xs c hstep hend xs.length k 0 (List.replicate xs.length z) (by omega) hk (by simp)
 simpa using this
def all2 {α β : Type} (e : α→β→Bool) : List α→List β→Bool
 | [],_ => true
 | _ :: _,[] => true
 | x :: xs,y :: ys => e x y && all2 e xs ys
theorem all2_loop {α β : Type} (g : Nat→Int→Option Bool) (xs : List α) (ys : List β) (hl : xs.length=ys.length) (e : α→β→Bool)
  (hstep : ∀ (k i : Nat) (h : i<xs.length),g (k + 1) (i : Int)=if e xs[i] (ys[i]'(hl ▸ h))=true then g k ((i + 1 : Nat) : Int) else some false)
  (hend : ∀ k,g (k + 1) (xs.length : Int)=some true) : ∀ (d k i : Nat),i + d=xs.length→d<k→g k (i : Int)=some (all2 e (xs.drop i) (ys.drop i)):=by
 intro d
 induction d with
 | zero =>
  intro k i hi hk;obtain ⟨k,rfl,_⟩:=fuel hk;obtain rfl : i=xs.length:=by omega
  rw [hend,List.drop_length];rfl
 | succ d ih =>
  intro k i hi hk;obtain ⟨k,rfl,_⟩:=fuel hk;have hlt : i<xs.length:=by omega
  rw [hstep k i hlt,drop_at xs i hlt,drop_at ys i (by omega)]
  by_cases h : e xs[i] (ys[i]'(hl ▸ hlt))=true
  ·
   rw [if_pos h,ih k (i + 1) (by omega) (by omega)]
   simp [all2,h]
  rw [if_neg h];simp [all2,h]
theorem all2_refl {α : Type} (e : α→α→Bool) (h : ∀ x,e x x=true) : ∀ xs : List α,all2 e xs xs=true
 | [] => rfl
 | x :: xs => by simp [all2,h x,all2_refl e h xs]
def first {α : Type} (p : α→Bool) : List α→Nat→Int
 | [],_ => -1
 | x :: xs,i => if p x=true then i else first p xs (i + 1)
theorem first_any {α : Type} (p : α→Bool) : ∀ (xs : List α) (i : Nat),decide (first p xs i ≥ 0)=xs.any p
 | [],i => rfl
 | x :: xs,i => by
  by_cases h : p x=true
  ·
   simp [first,h]
  simp only [first,if_neg h,List.any_cons,first_any p xs (i + 1)];simp [h]
theorem first_loop {α : Type} (g : Nat→Int→Option Int) (xs : List α) (p : α→Bool)
  (hstep : ∀ (k i : Nat) (h : i<xs.length),g (k + 1) (i : Int)=if p xs[i]=true then some (i : Int) else g k ((i + 1 : Nat) : Int))
  (hend : ∀ k,g (k + 1) (xs.length : Int)=some (-1)) : ∀ (d k i : Nat),i + d=xs.length→d<k→g k (i : Int)=some (first p (xs.drop i) i):=by
 intro d
 induction d with
 | zero =>
  intro k i hi hk;obtain ⟨k,rfl,_⟩:=fuel hk;obtain rfl : i=xs.length:=by omega
  rw [hend,List.drop_length];rfl
 | succ d ih =>
  intro k i hi hk;obtain ⟨k,rfl,_⟩:=fuel hk;have hlt : i<xs.length:=by omega
  rw [hstep k i hlt,drop_at xs i hlt]
  by_cases h : p xs[i]=true
  ·
   rw [if_pos h]
   simp [first,h]
  rw [if_neg h,ih k (i + 1) (by omega) (by omega)];simp [first,h]
def total {α : Type} (s : α→Nat) : List α→Nat
 | [] => 0
 | x :: xs => s x + total s xs
theorem total_le {α : Type} (s : α→Nat) : ∀ (xs : List α) (x : α),x ∈ xs→s x≤total s xs
 | _ :: xs,x,h => by
  rcases List.mem_cons.1 h with rfl|h
  ·
   simp [total]
  have:=total_le s xs x h;simp [total];omega
def less {α : Type} (s : α→Nat) : List α→Int→Int
 | [],l => l
 | x :: xs,l => if l - s x<0 then -1 else less s xs (l - s x)
theorem less_is {α : Type} (s : α→Nat) : ∀ (xs : List α) (l : Int),0≤l→less s xs l=if l<total s xs then -1 else l - total s xs
 | [],l,h => by simp [less,total];omega
 | x :: xs,l,h => by
  have ht : ((total s (x :: xs) : Nat) : Int)=s x + total s xs:=by simp [total]
  rw [ht];simp only [less]
  by_cases h1 : l - s x<0
  ·
   rw [if_pos h1,if_pos (by omega)]
  rw [if_neg h1,less_is s xs _ (by omega)]
  by_cases h2 : l<s x + total s xs
  ·
   rw [if_pos (by omega),if_pos (by omega)]
  rw [if_neg (by omega),if_neg (by omega)];omega
theorem less_loop {α : Type} (g : Nat→Int→Int→Option Int) (xs : List α) (s : α→Nat)
  (hstep : ∀ (k i : Nat) (l : Int) (h : i<xs.length),0≤l→l≤1048576→g (k + 1) l (i : Int)=if l - s xs[i]<0 then some (-1) else g k (l - s xs[i]) ((i + 1 : Nat) : Int))
  (hend : ∀ k l,g (k + 1) l (xs.length : Int)=some l) : ∀ (d k i : Nat) (l : Int),i + d=xs.length→d<k→0≤l→l≤1048576→g k l (i : Int)=some (less s (xs.drop i) l):=by
 intro d
 induction d with
 | zero =>
  intro k i l hi hk h0 h1;obtain ⟨k,rfl,_⟩:=fuel hk;obtain rfl : i=xs.length:=by omega
  rw [hend,List.drop_length];rfl
 | succ d ih =>
  intro k i l hi hk h0 h1;obtain ⟨k,rfl,_⟩:=fuel hk;have hlt : i<xs.length:=by omega
  rw [hstep k i l hlt h0 h1,drop_at xs i hlt]
  by_cases h : l - s xs[i]<0
  ·
   rw [if_pos h];simp [less,h]
  rw [if_neg h,ih k (i + 1) _ (by omega) (by omega) (by omega) (by omega)];simp [less,h]
def Eve {α : Type} (g : Nat→Option α) (v : α) : Prop:=∃ K,∀ k,K≤k→g k=some v
theorem Eve.one {α : Type} {v : α} : Eve (fun _ => some v) v:=⟨0,fun _ _ => rfl⟩
theorem Eve.all {α : Type} {g : Nat→Option α} {v : α} (h : ∀ k,g k=some v) : Eve g v:=⟨0,fun k _ => h k⟩
theorem Eve.of {α : Type} {g : Nat→Option α} {v : α} {n : Nat} (h : ∀ k,n<k→g k=some v) : Eve g v:=⟨n + 1,fun k hk => h k (by omega)⟩
theorem Eve.succ {α : Type} {g : Nat→Option α} {v : α} (h : Eve (fun k => g (k + 1)) v) : Eve g v:=by
 obtain ⟨K,h⟩:=h;refine ⟨K + 1,fun k hk => ?_⟩;obtain ⟨k,rfl⟩ : ∃ m,k=m + 1:=⟨k - 1,by omega⟩;exact h k (by omega)
theorem Eve.bind {α β : Type} {g : Nat→Option α} {f : Nat→α→Option β} {v : α} {u : β} (h : Eve g v) (h2 : Eve (fun k => f k v) u) : Eve (fun k => (g k).bind (f k)) u:=by
 obtain ⟨K,h⟩:=h;obtain ⟨K2,h2⟩:=h2;refine ⟨max K K2,fun k hk => ?_⟩;show (g k).bind (f k)=some u;rw [h k (by omega),Option.bind_some];exact h2 k (by omega)
theorem Eve.ite {α : Type} {c : Prop} [Decidable c] {a b : Nat→Option α} {v : α} (h1 : c→Eve a v) (h2 : ¬ c→Eve b v) : Eve (fun k => if c then a k else b k) v:=by
 by_cases h : c
 ·
  simp only [if_pos h];exact h1 h
 simp only [if_neg h];exact h2 h
theorem Eve.get {α : Type} {g : Nat→Option α} {v : α} (h : Eve g v) : ∃ k,g k=some v:=by
 obtain ⟨K,h⟩:=h;exact ⟨K,h K (by omega)⟩
theorem Eve.eq {α : Type} {g : Nat→Option α} {v u : α} (h : Eve g v) (e : v=u) : Eve g u:=e ▸ h
theorem Eve.congr {α : Type} {g f : Nat→Option α} {v : α} (h : Eve g v) (e : ∀ k,f k=g k) : Eve f v:=by
 obtain ⟨K,h⟩:=h;exact ⟨K,fun k hk => by rw [e,h k hk]⟩
theorem ev_loop {σ α β : Type} (xs : List α) (g : Nat→σ→Int→Option β) (R : Nat→σ→List α→β) (I : Nat→σ→Prop)
  (hend : ∀ s,I xs.length s→Eve (fun k => g (k + 1) s (xs.length : Int)) (R xs.length s []))
  (hstep : ∀ (i : Nat) (h : i<xs.length) (s : σ),I i s→(∀ s',I (i + 1) s' → Eve (fun k => g k s' ((i + 1 : Nat) : Int)) (R (i + 1) s' (xs.drop (i + 1)))) →
   Eve (fun k => g (k + 1) s (i : Int)) (R i s (xs[i] :: xs.drop (i + 1)))) :
  ∀ (d i : Nat) (s : σ),i + d=xs.length→I i s→Eve (fun k => g k s (i : Int)) (R i s (xs.drop i)):=by
 intro d
 induction d with
 | zero =>
  intro i s hi hI;obtain rfl : i=xs.length:=by omega
  rw [List.drop_length];exact Eve.succ (hend s hI)
 | succ d ih =>
  intro i s hi hI;have hlt : i<xs.length:=by omega
  rw [drop_at xs i hlt];exact Eve.succ (hstep i hlt s hI (fun s' h' => ih (i + 1) s' (by omega) h'))
theorem ev_loop0 {σ α β : Type} (xs : List α) (g : Nat→σ→Int→Option β) (R : Nat→σ→List α→β) (I : Nat→σ→Prop)
  (hend : ∀ s,I xs.length s→Eve (fun k => g (k + 1) s (xs.length : Int)) (R xs.length s []))
  (hstep : ∀ (i : Nat) (h : i<xs.length) (s : σ),I i s→(∀ s',I (i + 1) s' → Eve (fun k => g k s' ((i + 1 : Nat) : Int)) (R (i + 1) s' (xs.drop (i + 1)))) →
   Eve (fun k => g (k + 1) s (i : Int)) (R i s (xs[i] :: xs.drop (i + 1)))) (s : σ) (h0 : I 0 s) : Eve (fun k => g k s 0) (R 0 s xs):=by
 have:=ev_loop xs g R I hend hstep xs.length 0 s (by omega) h0
 simpa using this
end Go.Proofs.YtaoihmompioncaaW.Pl
end
section
namespace Go.Proofs.Ytaoihmompioncaa.Pure
open Go Go.RowKit Go.Proofs.Ytaoihmompioncaa.Q Go.Proofs.YtaoihmompioncaaW.PrintWords Go.Proofs.YtaoihmompioncaaW.PrintLast Go.Proofs.YtaoihmompioncaaW.PrintMore Go.Proofs.YtaoihmompioncaaW.Pl
theorem wi {i : Nat} (h : i≤9223372036854775806) : wrap64 ((i : Int) + 1)=((i + 1 : Nat) : Int):=w64 (by omega) (by omega)
theorem w64m (y : Int) : wrap64 y=(y + 9223372036854775808) % 18446744073709551616 - 9223372036854775808:=by unfold wrap64;omega
def stp (x b : Int) : Int:=wrap64 (wrap64 (x * 256) + wrap64 b)
theorem or_byte (x b : Int) (h0 : 0≤b) (h1 : b≤255) : Go.bits .or .i64 (wrap64 (x * 256)) (wrap64 b)=stp x b:=by
 have e1 : (BitVec.ofInt 64 (wrap64 (x * 256))).toNat=2 ^ 8 * (x % 72057594037927936).toNat:=by
  rw [BitVec.toNat_ofInt,w64m];omega
 have e2 : (BitVec.ofInt 64 (wrap64 b)).toNat=b.toNat:=by
  rw [BitVec.toNat_ofInt,w64m];omega
 have e3 : (BitVec.ofInt 64 (wrap64 (x * 256)) ||| BitVec.ofInt 64 (wrap64 b)).toNat=2 ^ 8 * (x % 72057594037927936).toNat + b.toNat:=by
  rw [BitVec.toNat_or,e1,e2,Nat.two_pow_add_eq_or_of_lt (by omega)]
 show IntKind.wrap .i64 ((BitVec.ofInt 64 (wrap64 (x * 256)) ||| BitVec.ofInt 64 (wrap64 b)).toNat : Int)=_;rw [e3,i64_w];unfold stp;rw [w64m,w64m,w64m,w64m]
 omega
def bigV (l : List Int) : Int:=l.foldl stp 0
theorem bytes_in (a : ByteArray) : ∀ b ∈ bytesOf a,0≤b∧b≤255:=by
 intro b hb;obtain ⟨c,_,rfl⟩:=List.mem_map.1 hb;have:=c.toNat_lt
 omega
theorem bt_get (a : ByteArray) (i : Nat) (h : i<(bytesOf a).length) : bt a (i : Int)=(bytesOf a)[i]:=by
 rw [← rd_bytesOf,rd_at _ _ h]
theorem big_tells (l : List Int) (hl : l.length≤1048576) (hb : ∀ b ∈ l,0≤b∧b≤255) : Eve (fun k => Fr.f k l) (bigV l):=by
 simp only [Fr.f];refine ev_loop0 l (fun k (s : Int) i => Fr.l0 k s l (l.length : Int) i) (fun _ s r => r.foldl stp s) (fun _ _ => True) (fun s _ => ?_) (fun i hi s _ ih => ?_) 0 trivial
 ·
  simp only [Fr.l0]
  exact Eve.ite (fun h => absurd h (by omega)) (fun _ => Eve.one)
 have hx:=hb l[i] (List.getElem_mem hi);simp only [Fr.l0];refine Eve.ite (fun _ => ?_) (fun h => absurd (by omega) h);refine Eve.ite (fun _ => ?_) (fun h => absurd (by omega) h);refine Eve.ite (fun _ => ?_) (fun h => absurd (by omega) h);simp only [rd_at _ _ hi,or_byte _ _ hx.1 hx.2,wi (show i≤9223372036854775806 by omega)];exact ih _ trivial
theorem of_tells (a : ByteArray) (hl : a.size≤1048576) : Eve (fun k => Fo.f k a) (bigV (bytesOf a)):=by
 have hn : (bytesOf a).length=a.size:=bytesOf_length a;simp only [Fo.f];refine ev_loop0 (bytesOf a) (fun k (s : Int) i => Fo.l0 k a s i) (fun _ s r => r.foldl stp s) (fun _ _ => True) (fun s _ => ?_) (fun i hi s _ ih => ?_) 0 trivial
 ·
  simp only [Fo.l0]
  exact Eve.ite (fun h => absurd h (by omega)) (fun _ => Eve.one)
 simp only [Fo.l0];refine Eve.ite (fun _ => ?_) (fun h => absurd (by omega) h);refine Eve.ite (fun _ => ?_) (fun h => absurd (by omega) h);simp only [bt_get a i hi,wi (show i≤9223372036854775806 by omega)];exact ih _ trivial
def zer (n : Nat) : ByteArray:=⟨(Lib.repeatL [0] n).toArray⟩
def takV (a : ByteArray) (f : Bool) (n : Nat) : ByteArray×ByteArray×Bool:=if a.size<n then (zer n,a,true) else (a.extract 0 n,a.extract n a.size,f)
def numV (a : ByteArray) (f : Bool) (n : Nat) : Int×ByteArray×Bool:=if a.size<n then (0,a,true) else (bigV (bytesOf (a.extract 0 n)),a.extract n a.size,f)
theorem take_tells (a : ByteArray) (f : Bool) (n : Nat) (hn : n≤65535) : F01.f a f (n : Int)=some (takV a f n):=by
 unfold F01.f takV
 by_cases h : a.size<n
 ·
  rw [if_pos (by omega),if_pos h]
  unfold strings_Repeat.f;rw [if_pos (by omega),if_pos (by rw [show (⟨#[0]⟩ : ByteArray).size=1 from rfl];omega),if_pos (by omega)]
  rfl
 rw [if_neg (by omega),if_pos (by omega),if_pos (by omega),if_neg h]
 rfl
theorem zer_size (n : Nat) : (zer n).size=n:=by
 show (Lib.repeatL [0] n).toArray.size=n;rw [List.size_toArray,Lib.repeatL_length];simp
theorem fold_zero : ∀ n : Nat,((Lib.repeatL [0] n).map fun b : UInt8 => (b.toNat : Int)).foldl stp 0=0
 | 0 => rfl
 | n + 1 => by
  have e : stp 0 0=0:=by unfold stp;rw [w64m,w64m,w64m];omega
  simp only [Lib.repeatL,List.cons_append,List.nil_append,List.map_cons,List.foldl_cons];rw [show ((0 : UInt8).toNat : Int)=0 from rfl,e];exact fold_zero n
theorem big_zer (n : Nat) : bigV (bytesOf (zer n))=0:=by
 unfold bigV bytesOf zer;exact fold_zero n
theorem num_tells (a : ByteArray) (f : Bool) (n : Nat) (hn : n≤65535) : Eve (fun k => Fm.f k a f (n : Int)) (numV a f n):=by
 simp only [Fm.f,take_tells a f n hn,Option.bind_some];unfold takV numV
 by_cases h : a.size<n
 ·
  simp only [if_pos h]
  have hz:=zer_size n;refine Eve.ite (fun _ => ?_) (fun h => absurd (by omega) h);refine Eve.bind (big_tells _ (by rw [bytesOf_length,hz];omega) (bytes_in _)) ?_;rw [big_zer];exact Eve.one
 simp only [if_neg h];have hz : (a.extract 0 n).size≤n:=by rw [ByteArray.size_extract];omega
 refine Eve.ite (fun _ => ?_) (fun h => absurd (by omega) h);exact Eve.bind (big_tells _ (by rw [bytesOf_length];omega) (bytes_in _)) Eve.one
theorem big1 (x : Int) (h : 0≤x∧x≤255) : bigV [x]=x:=by
 simp only [bigV,List.foldl_cons,List.foldl_nil,stp];rw [w64m,w64m,w64m];omega
theorem big2 (x y : Int) (h : 0≤x∧x≤255) (h2 : 0≤y∧y≤255) : 0≤bigV [x,y]∧bigV [x,y]≤65535:=by
 simp only [bigV,List.foldl_cons,List.foldl_nil,stp];simp only [w64m];omega
theorem len1 {l : List Int} (h : l.length=1) : ∃ x,l=[x]:=by
 match l,h with
 | [x],_ => exact ⟨x,rfl⟩
theorem len2 {l : List Int} (h : l.length=2) : ∃ x y,l=[x,y]:=by
 match l,h with
 | [x,y],_ => exact ⟨x,y,rfl⟩
theorem bytes_ext1 (a : ByteArray) (i : Nat) (h : i<a.size) : bigV (bytesOf (a.extract i (i + 1)))=bt a (i : Int):=by
 have hl : (bytesOf (a.extract i (i + 1))).length=1:=by rw [bytesOf_length,ByteArray.size_extract];omega
 obtain ⟨x,hx⟩:=len1 hl;have h2:=bytes_in (a.extract i (i + 1)) x (by rw [hx];simp);have h3:=bt_get (a.extract i (i + 1)) 0 (by omega);rw [hx,big1 x h2];simp only [hx,List.getElem_cons_zero] at h3;rw [← h3];unfold bt;have e0 : (((0 : Nat) : Int)).toNat=0:=rfl;have e1 : ((i : Int)).toNat=i:=Int.toNat_natCast i;simp only [e0,e1];rw [dif_pos (by rw [ByteArray.size_extract];omega),dif_pos h]
 congr 2
 rw [ByteArray.getElem_extract];simp
theorem bytes_ext2 (a : ByteArray) (i : Nat) (h : i + 2≤a.size) : 0≤bigV (bytesOf (a.extract i (i + 2)))∧bigV (bytesOf (a.extract i (i + 2)))≤65535:=by
 have hl : (bytesOf (a.extract i (i + 2))).length=2:=by rw [bytesOf_length,ByteArray.size_extract];omega
 obtain ⟨x,y,hx⟩:=len2 hl;have hb:=bytes_in (a.extract i (i + 2));rw [hx] at hb ⊢;exact big2 x y (hb x (by simp)) (hb y (by simp))
abbrev IVal:=S27
abbrev eB : ByteArray:=⟨#[]⟩
abbrev Rd:=Int×Int×ByteArray×ByteArray×Bool
def valV (a : ByteArray) (f : Bool) : Rd :=
  let q:=numV a f 1
  if q.1=1 then (q.1,(numV q.2.1 q.2.2 1).1,eB,(numV q.2.1 q.2.2 1).2.1,(numV q.2.1 q.2.2 1).2.2)
  else if q.1=2 then (q.1,wrap64 ((numV q.2.1 q.2.2 8).1 - 4611686018427387904),eB,(numV q.2.1 q.2.2 8).2.1,(numV q.2.1 q.2.2 8).2.2)
  else if q.1=3∨q.1=4∨q.1=5 then
    let r:=numV q.2.1 q.2.2 2
    (q.1,0,(takV r.2.1 r.2.2 r.1.toNat).1,(takV r.2.1 r.2.2 r.1.toNat).2.1,(takV r.2.1 r.2.2 r.1.toNat).2.2)
  else (q.1,0,eB,q.2.1,q.2.2)
theorem num2_in (a : ByteArray) (f : Bool) : 0≤(numV a f 2).1∧(numV a f 2).1≤65535:=by
  unfold numV
  by_cases h : a.size<2
  · rw [if_pos h];simp
  rw [if_neg h];exact bytes_ext2 a 0 (by omega)
theorem j0_tells (q x1 : Int) (t : ByteArray) (a : ByteArray) (f : Bool) : Eve (fun k => Fd.j0 k true a f q x1 t) (q,x1,(takV (numV a f 2).2.1 (numV a f 2).2.2 (numV a f 2).1.toNat).1,(takV (numV a f 2).2.1 (numV a f 2).2.2 (numV a f 2).1.toNat).2.1,(takV (numV a f 2).2.1 (numV a f 2).2.2 (numV a f 2).1.toNat).2.2):=by
  refine Eve.succ ?_;simp only [Fd.j0,if_true];refine Eve.bind (num_tells a f 2 (by omega)) ?_;have hb:=num2_in a f;have ht:=take_tells (numV a f 2).2.1 (numV a f 2).2.2 (numV a f 2).1.toNat (by omega);rw [show (((numV a f 2).1.toNat : Nat) : Int)=(numV a f 2).1 from Int.toNat_of_nonneg hb.1] at ht;simp only [ht,Option.bind_some];exact Eve.one
theorem value_tells (a : ByteArray) (f : Bool) : Eve (fun k => Fd.f k a f) (valV a f):=by
  simp only [Fd.f];refine Eve.bind (num_tells a f 1 (by omega)) ?_;unfold valV;generalize numV a f 1=q;simp only;refine Eve.ite (fun h => ?_) (fun h => ?_)
  · rw [if_pos h]
    exact Eve.bind (num_tells q.2.1 q.2.2 1 (by omega)) Eve.one
  rw [if_neg h];refine Eve.ite (fun h2 => ?_) (fun h2 => ?_)
  · rw [if_pos h2]
    exact Eve.bind (num_tells q.2.1 q.2.2 8 (by omega)) Eve.one
  rw [if_neg h2];refine Eve.ite (fun h3 => ?_) (fun h3 => ?_)
  · rw [if_pos (.inl h3)]
    simp only [h3,beq_self_eq_true];exact j0_tells _ _ _ _ _
  refine Eve.ite (fun h4 => ?_) (fun h4 => ?_)
  · rw [if_pos (.inr (.inl h4))]
    simp only [h4,beq_self_eq_true];exact j0_tells _ _ _ _ _
  by_cases h5 : q.1=5
  · rw [if_pos (.inr (.inr h5))]
    simp only [h5,beq_self_eq_true];exact j0_tells _ _ _ _ _
  rw [if_neg (by omega)];have : (q.1 == 5)=false:=by simpa using h5
  simp only [this];refine Eve.succ ?_;simp only [Fd.j0,Bool.false_eq_true,if_false];exact Eve.one
def nxtV (a : ByteArray) : Option (IVal×ByteArray) :=
  if a.size=0 then none
  else if bt a 0=0 then some (⟨0,0,eB⟩,a.extract 1 a.size)
  else if bt a 0=1 then (if a.size<2 then none else some (⟨1,bt a 1,eB⟩,a.extract 2 a.size))
  else if bt a 0=2 then (if a.size<9 then none else if bt a 1 > 127 then none else some (⟨2,wrap64 (bigV (bytesOf (a.extract 1 9)) - 4611686018427387904),eB⟩,a.extract 9 a.size))
  else if bt a 0=3∨bt a 0=4∨bt a 0=5 then
    (if a.size<3 then none else if (a.size : Int)<3 + bigV (bytesOf (a.extract 1 3)) then none
     else some (⟨bt a 0,0,a.extract 3 (3 + bigV (bytesOf (a.extract 1 3))).toNat⟩,a.extract (3 + bigV (bytesOf (a.extract 1 3))).toNat a.size))
  else none
def told (o : Option (IVal×ByteArray)) : Rd:=match o with|some (v,r) => (v.f0,v.f1,v.f2,r,true)|none => (0,0,eB,eB,false)
theorem wbt (a : ByteArray) (i : Int) : wrap64 (bt a i)=bt a i:=w64 (by have:=bt_range a i;omega) (by have:=bt_range a i;omega)
theorem n0_tells (a : ByteArray) (q : Int) (hs : a.size≤1048576) : Eve (fun k => F4.j0 k a true q 0 eB)
    (told (if a.size<3 then none else if (a.size : Int)<3 + bigV (bytesOf (a.extract 1 3)) then none
     else some (⟨q,0,a.extract 3 (3 + bigV (bytesOf (a.extract 1 3))).toNat⟩,a.extract (3 + bigV (bytesOf (a.extract 1 3))).toNat a.size))):=by
  refine Eve.succ ?_;simp only [F4.j0,if_true];refine Eve.ite (fun h => ?_) (fun h => ?_)
  · rw [if_pos (by omega)];exact Eve.one
  rw [if_neg (by omega)];refine Eve.ite (fun _ => ?_) (fun h => absurd (by omega) h);refine Eve.ite (fun _ => ?_) (fun h => absurd (by omega) h);refine Eve.bind (of_tells (a.extract 1 3) (by rw [ByteArray.size_extract];omega)) ?_;have hb:=bytes_ext2 a 1 (by omega);simp only [show 1 + 2=3 from rfl] at hb;have hw : wrap64 (3 + bigV (bytesOf (a.extract 1 3)))=3 + bigV (bytesOf (a.extract 1 3)):=w64 (by omega) (by omega);simp only [hw];refine Eve.ite (fun h2 => ?_) (fun h2 => ?_)
  · rw [if_pos h2];exact Eve.one
  rw [if_neg h2];refine Eve.ite (fun _ => ?_) (fun h => absurd (by omega) h);refine Eve.ite (fun _ => ?_) (fun h => absurd (by omega) h);exact Eve.ite (fun _ => Eve.one) (fun h => absurd (by omega) h)
theorem next_tells (a : ByteArray) (hs : a.size≤1048576) : Eve (fun k => F4.f k a) (told (nxtV a)):=by
  unfold nxtV;simp only [F4.f,wbt];refine Eve.ite (fun h => ?_) (fun h => ?_)
  · have hz : a.size=0:=by omega
    rw [if_pos hz];exact Eve.one
  have hz : ¬ a.size=0:=by omega
  rw [if_neg hz];refine Eve.ite (fun _ => ?_) (fun h => absurd (by omega) h);refine Eve.ite (fun h0 => ?_) (fun h0 => ?_)
  · rw [if_pos h0]
    refine Eve.ite (fun _ => ?_) (fun h => absurd (by omega) h);exact Eve.one.eq (by rw [h0];rfl)
  rw [if_neg h0];refine Eve.ite (fun h1 => ?_) (fun h1 => ?_)
  · rw [if_pos h1]
    refine Eve.succ ?_;simp only [F4.j1,wbt,h1];have hw : wrap64 (1 + 1)=2:=w64 (by omega) (by omega);simp only [hw,if_true];refine Eve.ite (fun h => ?_) (fun h => ?_)
    · have hy : a.size<2:=by omega
      rw [if_pos hy];exact Eve.one
    have hy : ¬ a.size<2:=by omega
    rw [if_neg hy];refine Eve.ite (fun _ => ?_) (fun h => absurd (by omega) h);refine Eve.ite (fun _ => ?_) (fun h => absurd (by omega) h);exact Eve.ite (fun _ => Eve.one) (fun h => absurd (by omega) h)
  rw [if_neg h1];refine Eve.ite (fun h2 => ?_) (fun h2 => ?_)
  · rw [if_pos h2]
    refine Eve.succ ?_;simp only [F4.j1,h2];have hw : wrap64 (1 + 8)=9:=w64 (by omega) (by omega);simp only [hw];refine Eve.ite (fun h => ?_) (fun h => ?_)
    · have hy : a.size<9:=by omega
      rw [if_pos hy];exact Eve.one
    have hy : ¬ a.size<9:=by omega
    rw [if_neg hy];refine Eve.ite (fun h => absurd h (by omega)) (fun _ => ?_);refine Eve.ite (fun _ => ?_) (fun h => absurd (by omega) h);refine Eve.ite (fun h => ?_) (fun h => ?_)
    · rw [if_pos h];exact Eve.one
    rw [if_neg h];refine Eve.ite (fun _ => ?_) (fun h => absurd (by omega) h);refine Eve.ite (fun _ => ?_) (fun h => absurd (by omega) h);refine Eve.bind (of_tells (a.extract 1 9) (by rw [ByteArray.size_extract];omega)) ?_;refine Eve.ite (fun _ => ?_) (fun h => absurd (by omega) h);exact Eve.ite (fun _ => Eve.one) (fun h => absurd (by omega) h)
  rw [if_neg h2];refine Eve.ite (fun h3 => ?_) (fun h3 => ?_)
  · rw [if_pos (show bt a 0=3∨bt a 0=4∨bt a 0=5 from .inl h3)]
    simp only [h3,beq_self_eq_true];exact n0_tells a 3 hs
  refine Eve.ite (fun h4 => ?_) (fun h4 => ?_)
  · rw [if_pos (show bt a 0=3∨bt a 0=4∨bt a 0=5 from .inr (.inl h4))]
    simp only [h4,beq_self_eq_true];exact n0_tells a 4 hs
  by_cases h5 : bt a 0=5
  · rw [if_pos (show bt a 0=3∨bt a 0=4∨bt a 0=5 from .inr (.inr h5))]
    simp only [h5,beq_self_eq_true];exact n0_tells a 5 hs
  have hy : ¬ (bt a 0=3∨bt a 0=4∨bt a 0=5):=by omega
  rw [if_neg hy];have : (bt a 0 == 5)=false:=by simpa using h5
  simp only [this];refine Eve.succ ?_;simp only [F4.j0,Bool.false_eq_true,if_false];exact Eve.one
def Bad (v : IVal) : Prop:=v.f0<0∨v.f0 > 5∨(v.f0=2∧(v.f1 < -1000000000000∨v.f1 > 1000000000000))
def rdv (r : Rd) : IVal:=⟨r.1,r.2.1,r.2.2.1⟩
theorem num_one (a : ByteArray) (f : Bool) (h : 0<a.size) : numV a f 1=(bt a 0,a.extract 1 a.size,f):=by
  unfold numV;rw [if_neg (by omega)];have:=bytes_ext1 a 0 h;simp only [Nat.zero_add] at this;rw [this];rfl
theorem num_none (a : ByteArray) (f : Bool) (n : Nat) (h : a.size<n) : numV a f n=(0,a,true):=by unfold numV;rw [if_pos h]
theorem num_some (a : ByteArray) (f : Bool) (n : Nat) (h : n≤a.size) : numV a f n=(bigV (bytesOf (a.extract 0 n)),a.extract n a.size,f):=by unfold numV;rw [if_neg (by omega)]
theorem tail_size (a : ByteArray) (n : Nat) : (a.extract n a.size).size=a.size - n:=by rw [ByteArray.size_extract];omega
theorem ext_ext (a : ByteArray) (n i j : Nat) (h : n + j≤a.size) : (a.extract n a.size).extract i j=a.extract (n + i) (n + j):=by
  rw [ByteArray.extract_extract,Nat.min_eq_left h]
theorem ext_tail (a : ByteArray) (n i : Nat) (h : n≤a.size) : (a.extract n a.size).extract i (a.extract n a.size).size=a.extract (n + i) a.size:=by
  rw [tail_size,ByteArray.extract_extract]
  congr 1
  omega
theorem big8 (l : List Int) (x : Int) (r : List Int) (hl : l=x :: r) (hr : r.length=7) (hb : ∀ b ∈ l,0≤b∧b≤255) (hx : x > 127) : wrap64 (bigV l - 4611686018427387904) < -1000000000000∨wrap64 (bigV l - 4611686018427387904) > 1000000000000:=by
  subst hl
  match r,hr with
  | [b1,b2,b3,b4,b5,b6,b7],_ =>
    have h0:=hb x (by simp);have h1:=hb b1 (by simp);have h2:=hb b2 (by simp);have h3:=hb b3 (by simp);have h4:=hb b4 (by simp);have h5:=hb b5 (by simp);have h6:=hb b6 (by simp);have h7:=hb b7 (by simp)
    have e : bigV [x,b1,b2,b3,b4,b5,b6,b7]=x * 72057594037927936 + b1 * 281474976710656 + b2 * 1099511627776 + b3 * 4294967296 + b4 * 16777216 + b5 * 65536 + b6 * 256 + b7 - 18446744073709551616:=by
      simp only [bigV,List.foldl_cons,List.foldl_nil];have s0 : stp 0 x=x:=by unfold stp;simp only [w64m];omega
      have s1 : stp x b1=x * 256 + b1:=by unfold stp;simp only [w64m];omega
      have s2 : stp (x * 256 + b1) b2=x * 65536 + b1 * 256 + b2:=by unfold stp;simp only [w64m];omega
      have s3 : stp (x * 65536 + b1 * 256 + b2) b3=x * 16777216 + b1 * 65536 + b2 * 256 + b3:=by unfold stp;simp only [w64m];omega
      have s4 : stp (x * 16777216 + b1 * 65536 + b2 * 256 + b3) b4=x * 4294967296 + b1 * 16777216 + b2 * 65536 + b3 * 256 + b4:=by unfold stp;simp only [w64m];omega
      have s5 : stp (x * 4294967296 + b1 * 16777216 + b2 * 65536 + b3 * 256 + b4) b5=x * 1099511627776 + b1 * 4294967296 + b2 * 16777216 + b3 * 65536 + b4 * 256 + b5:=by unfold stp;simp only [w64m];omega
      have s6 : stp (x * 1099511627776 + b1 * 4294967296 + b2 * 16777216 + b3 * 65536 + b4 * 256 + b5) b6=x * 281474976710656 + b1 * 1099511627776 + b2 * 4294967296 + b3 * 16777216 + b4 * 65536 + b5 * 256 + b6:=by unfold stp;simp only [w64m];omega
      rw [s0,s1,s2,s3,s4,s5,s6];unfold stp;simp only [w64m];omega
    rw [e,w64m]
    omega
theorem nxt_some (a : ByteArray) (v : IVal) (r : ByteArray) (h : nxtV a=some (v,r)) : valV a false=(v.f0,v.f1,v.f2,r,false)∧r.size<a.size:=by
  unfold nxtV at h
  by_cases hz : a.size=0
  · rw [if_pos hz] at h;simp at h
  rw [if_neg hz] at h;unfold valV;rw [num_one a false (by omega)];simp only;have ht:=tail_size a 1
  by_cases h0 : bt a 0=0
  · rw [if_pos h0] at h
    obtain ⟨rfl,rfl⟩ : _∧_:=by simpa using h
    rw [if_neg (by omega),if_neg (by omega),if_neg (by omega),h0];exact ⟨rfl,by omega⟩
  rw [if_neg h0] at h
  by_cases h1 : bt a 0=1
  · rw [if_pos h1] at h
    by_cases h2 : a.size<2
    · rw [if_pos h2] at h;simp at h
    rw [if_neg h2] at h;obtain ⟨rfl,rfl⟩ : _∧_:=by simpa using h
    rw [if_pos h1,num_some _ _ _ (by omega),ext_ext _ _ _ _ (by omega),ext_tail _ _ _ (by omega),h1];have:=bytes_ext1 a 1 (by omega);refine ⟨?_,by rw [tail_size];omega⟩;show (1,bigV (bytesOf (a.extract 1 (1 + 1))),eB,a.extract 2 a.size,false)=_;rw [this];rfl
  rw [if_neg h1] at h
  by_cases h2 : bt a 0=2
  · rw [if_pos h2] at h
    by_cases h3 : a.size<9
    · rw [if_pos h3] at h;simp at h
    rw [if_neg h3] at h
    by_cases h4 : bt a 1 > 127
    · rw [if_pos h4] at h;simp at h
    rw [if_neg h4] at h;obtain ⟨rfl,rfl⟩ : _∧_:=by simpa using h
    rw [if_neg h1,if_pos h2,num_some _ _ _ (by omega),ext_ext _ _ _ _ (by omega),ext_tail _ _ _ (by omega),h2];exact ⟨rfl,by rw [tail_size];omega⟩
  rw [if_neg h2] at h
  by_cases h3 : bt a 0=3∨bt a 0=4∨bt a 0=5
  · rw [if_pos h3] at h
    by_cases h4 : a.size<3
    · rw [if_pos h4] at h;simp at h
    rw [if_neg h4] at h;have hb:=bytes_ext2 a 1 (by omega);simp only [show 1 + 2=3 from rfl] at hb
    by_cases h5 : (a.size : Int)<3 + bigV (bytesOf (a.extract 1 3))
    · rw [if_pos h5] at h;simp at h
    rw [if_neg h5] at h;obtain ⟨rfl,rfl⟩ : _∧_:=by simpa using h
    rw [if_neg h1,if_neg h2,if_pos h3,num_some _ _ _ (by omega),ext_ext _ _ _ _ (by omega),ext_tail _ _ _ (by omega)];simp only [show 1 + 0=1 from rfl,show 1 + 2=3 from rfl];generalize bigV (bytesOf (a.extract 1 3))=n at hb h5 ⊢;obtain ⟨n,rfl⟩ : ∃ m : Nat,n=(m : Int):=⟨n.toNat,by omega⟩;have e1 : ((n : Int)).toNat=n:=Int.toNat_natCast n;have e2 : (3 + (n : Int)).toNat=3 + n:=by omega
    have ht3:=tail_size a 3;unfold takV;simp only [e1,e2];rw [if_neg (by omega),ext_ext _ _ _ _ (by omega),ext_tail _ _ _ (by omega)];exact ⟨rfl,by rw [tail_size];omega⟩
  rw [if_neg h3] at h;simp at h
theorem nxt_none (a : ByteArray) (h : nxtV a=none) : (valV a false).2.2.2.2=true∨Bad (rdv (valV a false)):=by
  by_cases hz : a.size=0
  · left
    unfold valV;rw [num_none a false 1 (by omega)];simp
  unfold nxtV at h;rw [if_neg hz] at h;unfold valV;rw [num_one a false (by omega)];simp only;have ht:=tail_size a 1
  by_cases h0 : bt a 0=0
  · rw [if_pos h0] at h;simp at h
  rw [if_neg h0] at h
  by_cases h1 : bt a 0=1
  · rw [if_pos h1] at h ⊢
    by_cases h2 : a.size<2
    · left;rw [num_none _ _ _ (by omega)]
    rw [if_neg h2] at h;simp at h
  rw [if_neg h1] at h ⊢
  by_cases h2 : bt a 0=2
  · rw [if_pos h2] at h ⊢
    by_cases h3 : a.size<9
    · left;rw [num_none _ _ _ (by omega)]
    rw [if_neg h3] at h
    by_cases h4 : bt a 1 > 127
    · right;right;right
      refine ⟨h2,?_⟩;rw [num_some _ _ _ (by omega),ext_ext _ _ _ _ (by omega)];simp only [show 1 + 0=1 from rfl,show 1 + 8=9 from rfl,rdv];have hl : (bytesOf (a.extract 1 9)).length=8:=by rw [bytesOf_length,ByteArray.size_extract];omega
      have hg:=bt_get (a.extract 1 9) 0 (by omega)
      have he : bt (a.extract 1 9) ((0 : Nat) : Int)=bt a 1:=by
        unfold bt;have e0 : (((0 : Nat) : Int)).toNat=0:=rfl;have e1 : ((1 : Int)).toNat=1:=rfl;simp only [e0,e1];rw [dif_pos (by rw [ByteArray.size_extract];omega),dif_pos (by omega)]
        congr 2
        rw [ByteArray.getElem_extract]
      cases hc : bytesOf (a.extract 1 9) with
      | nil => rw [hc] at hl;simp at hl
      | cons x r =>
        have hb:=bytes_in (a.extract 1 9);rw [he] at hg;simp only [hc,List.getElem_cons_zero] at hg;rw [hc] at hl hb;exact big8 _ x r rfl (by simpa using hl) hb (by omega)
    rw [if_neg h4] at h;simp at h
  rw [if_neg h2] at h ⊢
  by_cases h3 : bt a 0=3∨bt a 0=4∨bt a 0=5
  · rw [if_pos h3] at h ⊢
    left
    by_cases h4 : a.size<3
    · rw [num_none _ _ 2 (by omega)]
      unfold takV;simp
    rw [if_neg h4] at h;have hb:=bytes_ext2 a 1 (by omega);simp only [show 1 + 2=3 from rfl] at hb
    by_cases h5 : (a.size : Int)<3 + bigV (bytesOf (a.extract 1 3))
    · rw [num_some _ _ 2 (by omega),ext_ext _ _ _ _ (by omega),ext_tail _ _ _ (by omega)]
      simp only [show 1 + 0=1 from rfl,show 1 + 2=3 from rfl];unfold takV;rw [if_pos (by rw [tail_size];omega)]
    rw [if_neg h5] at h;simp at h
  rw [if_neg h3]
  right
  have:=bt_range a 0
  right;left
  show bt a 0 > 5
  omega
theorem num_mono (a : ByteArray) (f : Bool) (n : Nat) : (numV a f n).2.1.size≤a.size∧(f=true→(numV a f n).2.2=true):=by
  unfold numV
  by_cases h : a.size<n
  · rw [if_pos h];exact ⟨Nat.le_refl _,fun _ => rfl⟩
  rw [if_neg h];exact ⟨by simp only [tail_size];omega,fun h => h⟩
theorem tak_mono (a : ByteArray) (f : Bool) (n : Nat) : (takV a f n).2.1.size≤a.size∧(f=true→(takV a f n).2.2=true):=by
  unfold takV
  by_cases h : a.size<n
  · rw [if_pos h];exact ⟨Nat.le_refl _,fun _ => rfl⟩
  rw [if_neg h];exact ⟨by simp only [tail_size];omega,fun h => h⟩
theorem val_mono (a : ByteArray) (f : Bool) : (valV a f).2.2.2.1.size≤(numV a f 1).2.1.size∧(f=true→(valV a f).2.2.2.2=true):=by
  have hq:=num_mono a f 1;unfold valV;generalize numV a f 1=q at hq;simp only
  by_cases h1 : q.1=1
  · rw [if_pos h1]
    have:=num_mono q.2.1 q.2.2 1;exact ⟨this.1,fun h => this.2 (hq.2 h)⟩
  rw [if_neg h1]
  by_cases h2 : q.1=2
  · rw [if_pos h2]
    have:=num_mono q.2.1 q.2.2 8;exact ⟨this.1,fun h => this.2 (hq.2 h)⟩
  rw [if_neg h2]
  by_cases h3 : q.1=3∨q.1=4∨q.1=5
  · rw [if_pos h3]
    have hr:=num_mono q.2.1 q.2.2 2;have ht:=tak_mono (numV q.2.1 q.2.2 2).2.1 (numV q.2.1 q.2.2 2).2.2 (numV q.2.1 q.2.2 2).1.toNat;exact ⟨Nat.le_trans ht.1 hr.1,fun h => ht.2 (hr.2 (hq.2 h))⟩
  rw [if_neg h3];exact ⟨Nat.le_refl _,hq.2⟩
theorem val_less (a : ByteArray) (f : Bool) (h : 0<a.size) : (valV a f).2.2.2.1.size<a.size:=by
  have h1:=(val_mono a f).1;rw [num_one a f h] at h1;have:=tail_size a 1;simp only at h1
  omega
abbrev IFld:=S54
theorem emp (a : ByteArray) : a.toList=([] : List UInt8)↔a.size=0:=by
 rw [ba_toList,← data_length,List.length_eq_zero_iff]
def itS : Nat→ByteArray→Option (List IVal)
 | 0,a => if a.size=0 then some [] else none
 | m + 1,a => if a.size=0 then some [] else match nxtV a with
  | none => none
  | some (v,r) => (itS m r).map (v :: ·)
def toldL (acc : List IVal) (o : Option (List IVal)) : List IVal×Bool:=match o with|some l => (acc ++ l,true)|none => ([],false)
theorem items_spec : ∀ (m : Nat) (a : ByteArray) (acc : List IVal),a.size≤m→a.size≤1048576→acc.length + a.size≤1048576→Eve (fun k => Fk.l0 k a acc) (toldL acc (itS m a)):=by
 intro m
 induction m with
 | zero =>
  intro a acc h1 h2 h3;refine Eve.succ ?_;simp only [Fk.l0,itS];have hz : a.size=0:=by omega
  rw [if_pos hz];exact Eve.ite (fun h => absurd h (by omega)) (fun _ => Eve.one.eq (by simp [toldL]))
 | succ m ih =>
  intro a acc h1 h2 h3;refine Eve.succ ?_;simp only [Fk.l0,itS]
  by_cases hz : a.size=0
  ·
   rw [if_pos hz]
   exact Eve.ite (fun h => absurd h (by omega)) (fun _ => Eve.one.eq (by simp [toldL]))
  rw [if_neg hz];refine Eve.ite (fun _ => ?_) (fun h => absurd (by omega) h);refine Eve.bind (next_tells a h2) ?_
  cases hn : nxtV a with
  | none => simp only [told,Bool.false_eq_true,if_false];exact Eve.one
  | some p =>
   obtain ⟨v,r⟩:=p;have hs:=nxt_some a v r hn;simp only [told,if_true];refine Eve.ite (fun _ => ?_) (fun h => absurd (by omega) h);refine (ih r (acc ++ [⟨v.f0,v.f1,v.f2⟩]) (by omega) (by omega) (by simp;omega)).eq ?_
   cases itS m r with
   | none => rfl
   | some l => simp [toldL]
theorem tak_size (a : ByteArray) (f : Bool) (n : Nat) (_h : a.size≤1048576) (hn : n≤65535) : (takV a f n).1.size≤1048576:=by
 unfold takV
 by_cases h2 : a.size<n
 ·
  rw [if_pos h2];simp only [zer_size];omega
 rw [if_neg h2];simp only [ByteArray.size_extract];omega
theorem val_size (a : ByteArray) (f : Bool) (h : a.size≤1048576) : (rdv (valV a f)).f2.size≤1048576:=by
 have hq:=num_mono a f 1;unfold valV;generalize numV a f 1=q at hq;simp only [rdv]
 by_cases h1 : q.1=1
 ·
  rw [if_pos h1];exact Nat.zero_le _
 rw [if_neg h1]
 by_cases h2 : q.1=2
 ·
  rw [if_pos h2];exact Nat.zero_le _
 rw [if_neg h2]
 by_cases h3 : q.1=3∨q.1=4∨q.1=5
 ·
  rw [if_pos h3]
  have hr:=num_mono q.2.1 q.2.2 2;have hn:=num2_in q.2.1 q.2.2;exact tak_size _ _ _ (by omega) (by omega)
 rw [if_neg h3];exact Nat.zero_le _
theorem items_stop (acc : List IVal) (a : ByteArray) : Eve (fun k => Fi.l0 k acc a true) (acc,false):=by
 refine Eve.succ ?_;simp only [Fi.l0,if_true,Bool.not_true];exact Eve.ite (fun _ => Eve.one) (fun _ => Eve.one)
theorem items_end (acc : List IVal) (a : ByteArray) (h : a.size=0) : Eve (fun k => Fi.l0 k acc a false) (acc,true):=by
 refine Eve.succ ?_;simp only [Fi.l0,Bool.not_false];exact Eve.ite (fun _ => Eve.one) (fun h2 => absurd ((emp a).2 h) h2)
theorem items_step (acc : List IVal) (a : ByteArray) (h : 0<a.size) (hl : acc.length≤1048576) {x : List IVal×Bool}
  (hx : Eve (fun k => Fi.l0 k (acc ++ [rdv (valV a false)]) (valV a false).2.2.2.1 (valV a false).2.2.2.2) x) : Eve (fun k => Fi.l0 k acc a false) x:=by
 refine Eve.succ ?_;simp only [Fi.l0,Bool.false_eq_true,if_false];refine Eve.ite (fun h2 => absurd ((emp a).1 h2) (by omega)) (fun _ => ?_);refine Eve.bind (value_tells a false) ?_;exact Eve.ite (fun _ => hx) (fun h2 => absurd (by omega) h2)
theorem items_some : ∀ (m : Nat) (a : ByteArray) (acc l : List IVal),itS m a=some l→acc.length + a.size≤1048576→Eve (fun k => Fi.l0 k acc a false) (acc ++ l,true):=by
 intro m
 induction m with
 | zero =>
  intro a acc l h h2;simp only [itS] at h
  by_cases hz : a.size=0
  ·
   rw [if_pos hz] at h
   obtain rfl : []=l:=by simpa using h
   exact (items_end acc a hz).eq (by simp)
  rw [if_neg hz] at h;simp at h
 | succ m ih =>
  intro a acc l h h2;simp only [itS] at h
  by_cases hz : a.size=0
  ·
   rw [if_pos hz] at h
   obtain rfl : []=l:=by simpa using h
   exact (items_end acc a hz).eq (by simp)
  rw [if_neg hz] at h
  cases hn : nxtV a with
  | none => rw [hn] at h;simp at h
  | some p =>
   obtain ⟨v,r⟩:=p;rw [hn] at h;simp only [Option.map_eq_some_iff] at h;obtain ⟨l',h',rfl⟩:=h;obtain ⟨hs,hlt⟩:=nxt_some a v r hn;refine items_step acc a (by omega) (by omega) ?_;rw [hs];refine (ih r (acc ++ [rdv (v.f0,v.f1,v.f2,r,false)]) l' h' (by simp;omega)).eq ?_;simp [rdv]
theorem items_some_end : ∀ (m : Nat) (a : ByteArray) (acc : List IVal),a.size≤m→acc.length + a.size≤1048576 → ∃ l ok,Eve (fun k => Fi.l0 k acc a false) (acc ++ l,ok)∧(l.length≤a.size ∧ ∀ x ∈ l,x.f2.size≤1048576):=by
 intro m
 induction m with
 | zero => intro a acc h1 h2;exact ⟨[],true,(items_end acc a (by omega)).eq (by simp),by simp,by simp⟩
 | succ m ih =>
  intro a acc h1 h2
  by_cases hz : a.size=0
  ·
   exact ⟨[],true,(items_end acc a hz).eq (by simp),by simp,by simp⟩
  have hlt:=val_less a false (by omega);have hvs:=val_size a false (by omega)
  cases hf : (valV a false).2.2.2.2 with
  | true =>
   refine ⟨[rdv (valV a false)],false,items_step acc a (by omega) (by omega) ?_,by simp;omega,by simpa using hvs⟩;rw [hf];exact items_stop _ _
  | false =>
   obtain ⟨l,ok,hl,hl1,hl2⟩:=ih (valV a false).2.2.2.1 (acc ++ [rdv (valV a false)]) (by omega) (by simp;omega);refine ⟨rdv (valV a false) :: l,ok,items_step acc a (by omega) (by omega) ?_,by simp;omega,by simpa using ⟨hvs,hl2⟩⟩;rw [hf];exact hl.eq (by simp)
theorem items_none : ∀ (m : Nat) (a : ByteArray) (acc : List IVal),a.size≤m→itS m a=none→acc.length + a.size≤1048576 → ∃ l ok,Eve (fun k => Fi.l0 k acc a false) (acc ++ l,ok)∧(ok=false ∨ ∃ v ∈ l,Bad v)∧(l.length≤a.size ∧ ∀ x ∈ l,x.f2.size≤1048576):=by
 intro m
 induction m with
 | zero =>
  intro a acc h1 h h2;simp only [itS] at h;rw [if_pos (show a.size=0 by omega)] at h;simp at h
 | succ m ih =>
  intro a acc h1 h h2;simp only [itS] at h
  by_cases hz : a.size=0
  ·
   rw [if_pos hz] at h;simp at h
  rw [if_neg hz] at h;have hlt:=val_less a false (by omega);have hvs:=val_size a false (by omega)
  cases hn : nxtV a with
  | some p =>
   obtain ⟨v,r⟩:=p;rw [hn] at h;simp only [Option.map_eq_none_iff] at h;obtain ⟨hs,hlt⟩:=nxt_some a v r hn;rw [hs] at hvs;obtain ⟨l,ok,hl,hb,hl1,hl2⟩:=ih r (acc ++ [rdv (v.f0,v.f1,v.f2,r,false)]) (by omega) h (by simp;omega);refine ⟨rdv (v.f0,v.f1,v.f2,r,false) :: l,ok,?_,?_,by simp;omega,by simpa using ⟨hvs,hl2⟩⟩
   ·
    refine items_step acc a (by omega) (by omega) ?_
    rw [hs];exact hl.eq (by simp)
   rcases hb with hb|⟨x,hx,hb⟩
   ·
    exact .inl hb
   exact .inr ⟨x,by simp [hx],hb⟩
  | none =>
   have hv:=nxt_none a hn
   cases hf : (valV a false).2.2.2.2 with
   | true =>
    refine ⟨[rdv (valV a false)],false,items_step acc a (by omega) (by omega) ?_,.inl rfl,by simp;omega,by simpa using hvs⟩;rw [hf];exact items_stop _ _
   | false =>
    rw [hf] at hv;obtain ⟨l,ok,hl,hl1,hl2⟩:=items_some_end m (valV a false).2.2.2.1 (acc ++ [rdv (valV a false)]) (by omega) (by simp;omega);refine ⟨rdv (valV a false) :: l,ok,items_step acc a (by omega) (by omega) ?_,.inr ⟨_,by simp,hv.resolve_left (by simp)⟩,by simp;omega,by simpa using ⟨hvs,hl2⟩⟩;rw [hf];exact hl.eq (by simp)
def fdS : Nat→ByteArray→Option (List IFld)
 | 0,a => if a.size=0 then some [] else none
 | m + 1,a => if a.size=0 then some [] else if (a.size : Int)<1 + bt a 0 then none else match nxtV (a.extract (1 + bt a 0).toNat a.size) with
  | none => none
  | some (v,r) => (fdS m r).map ((⟨a.extract 1 (1 + bt a 0).toNat,v⟩ : IFld) :: ·)
def toldF (acc : List IFld) (o : Option (List IFld)) : List IFld×Bool:=match o with|some l => (acc ++ l,true)|none => ([],false)
theorem wb1 (a : ByteArray) : wrap64 (1 + bt a 0)=1 + bt a 0:=w64 (by have:=bt_range a 0;omega) (by have:=bt_range a 0;omega)
theorem fields_spec : ∀ (m : Nat) (a : ByteArray) (acc : List IFld),a.size≤m→a.size≤1048576→acc.length + a.size≤1048576→Eve (fun k => Ff.l0 k a acc) (toldF acc (fdS m a)):=by
 intro m
 induction m with
 | zero =>
  intro a acc h1 h2 h3;refine Eve.succ ?_;simp only [Ff.l0,fdS];have hz : a.size=0:=by omega
  rw [if_pos hz];exact Eve.ite (fun h => absurd h (by omega)) (fun _ => Eve.one.eq (by simp [toldF]))
 | succ m ih =>
  intro a acc h1 h2 h3;refine Eve.succ ?_;simp only [Ff.l0,fdS,wbt,wb1]
  by_cases hz : a.size=0
  ·
   rw [if_pos hz]
   exact Eve.ite (fun h => absurd h (by omega)) (fun _ => Eve.one.eq (by simp [toldF]))
  rw [if_neg hz];have hb:=bt_range a 0;refine Eve.ite (fun _ => ?_) (fun h => absurd (by omega) h);refine Eve.ite (fun _ => ?_) (fun h => absurd (by omega) h);refine Eve.ite (fun h => ?_) (fun h => ?_)
  ·
   rw [if_pos h];exact Eve.one
  rw [if_neg h];refine Eve.ite (fun _ => ?_) (fun h => absurd (by omega) h);refine Eve.ite (fun _ => ?_) (fun h => absurd (by omega) h);refine Eve.ite (fun _ => ?_) (fun h => absurd (by omega) h);have ht:=tail_size a (1 + bt a 0).toNat;refine Eve.bind (next_tells _ (by omega)) ?_
  cases hn : nxtV (a.extract (1 + bt a 0).toNat a.size) with
  | none => simp only [told,Bool.false_eq_true,if_false];exact Eve.one
  | some p =>
   obtain ⟨v,r⟩:=p;have hs:=nxt_some _ v r hn;simp only [told,if_true];refine Eve.ite (fun _ => ?_) (fun h => absurd (by omega) h);refine (ih r (acc ++ [⟨a.extract 1 (1 + bt a 0).toNat,⟨v.f0,v.f1,v.f2⟩⟩]) (by omega) (by omega) (by simp;omega)).eq ?_
   cases fdS m r with
   | none => rfl
   | some l => simp [toldF]
def fdV (a : ByteArray) : ByteArray×Rd :=
 let q:=numV a false 1
 let t:=takV q.2.1 q.2.2 q.1.toNat
 (t.1,valV t.2.1 t.2.2)
def fdv (x : ByteArray×Rd) : IFld:=⟨x.1,rdv x.2⟩
theorem fields_stop (acc : List IFld) (a : ByteArray) : Eve (fun k => F6.l0 k acc a true) (acc,false):=by
 have hj : Eve (fun k => F6.j1 k acc false a true) (acc,false):=Eve.succ (by simp only [F6.j1,Bool.false_eq_true,if_false,Bool.not_true];exact Eve.one);refine Eve.succ ?_;simp only [F6.l0,Bool.not_true];exact Eve.ite (fun _ => hj) (fun _ => hj)
theorem fields_end (acc : List IFld) (a : ByteArray) (h : a.size=0) : Eve (fun k => F6.l0 k acc a false) (acc,true):=by
 refine Eve.succ ?_;simp only [F6.l0];refine Eve.ite (fun _ => Eve.succ ?_) (fun h2 => absurd ((emp a).2 h) h2);simp only [F6.j1,Bool.false_eq_true,if_false,Bool.not_false];exact Eve.one
theorem fields_step (acc : List IFld) (a : ByteArray) (h : 0<a.size) (hl : acc.length≤1048576) {x : List IFld×Bool}
  (hx : Eve (fun k => F6.l0 k (acc ++ [fdv (fdV a)]) (fdV a).2.2.2.2.1 (fdV a).2.2.2.2.2) x) : Eve (fun k => F6.l0 k acc a false) x:=by
 refine Eve.succ ?_;simp only [F6.l0,Bool.not_false];refine Eve.ite (fun h2 => absurd ((emp a).1 h2) (by omega)) (fun _ => Eve.succ ?_);simp only [F6.j1,if_true];refine Eve.bind (num_tells a false 1 (by omega)) ?_
 have hb : 0≤(numV a false 1).1∧(numV a false 1).1≤65535:=by
  rw [num_one a false h];have:=bt_range a 0;simp only;omega
 have ht:=take_tells (numV a false 1).2.1 (numV a false 1).2.2 (numV a false 1).1.toNat (by omega);rw [show (((numV a false 1).1.toNat : Nat) : Int)=(numV a false 1).1 from Int.toNat_of_nonneg hb.1] at ht;simp only [ht,Option.bind_some];refine Eve.bind (value_tells _ _) ?_;exact Eve.ite (fun _ => hx) (fun h2 => absurd (by omega) h2)
theorem fdV_less (a : ByteArray) (h : 0<a.size) : (fdV a).2.2.2.2.1.size<a.size:=by
 unfold fdV;rw [num_one a false h];simp only;have h1:=tail_size a 1;have h2:=(tak_mono (a.extract 1 a.size) false (bt a 0).toNat).1;have h3:=(val_mono (takV (a.extract 1 a.size) false (bt a 0).toNat).2.1 (takV (a.extract 1 a.size) false (bt a 0).toNat).2.2).1;have h4:=(num_mono (takV (a.extract 1 a.size) false (bt a 0).toNat).2.1 (takV (a.extract 1 a.size) false (bt a 0).toNat).2.2 1).1
 omega
theorem fdV_ok (a : ByteArray) (h : 0<a.size) (h2 : ¬ (a.size : Int)<1 + bt a 0) : fdV a=(a.extract 1 (1 + bt a 0).toNat,valV (a.extract (1 + bt a 0).toNat a.size) false):=by
 unfold fdV;rw [num_one a false h];simp only;have hb:=bt_range a 0;have ht:=tail_size a 1;have e : (1 + bt a 0).toNat=1 + (bt a 0).toNat:=by omega
 unfold takV;rw [if_neg (by omega),e];simp only;rw [ext_ext _ _ _ _ (by omega),ext_tail _ _ _ (by omega)]
theorem fdV_bad (a : ByteArray) (h : 0<a.size) (h2 : (a.size : Int)<1 + bt a 0) : (fdV a).2.2.2.2.2=true:=by
 unfold fdV;rw [num_one a false h];simp only;have hb:=bt_range a 0;have ht:=tail_size a 1;refine (val_mono _ _).2 ?_;unfold takV;rw [if_pos (by omega)]
theorem fields_some : ∀ (m : Nat) (a : ByteArray) (acc l : List IFld),fdS m a=some l→acc.length + a.size≤1048576→Eve (fun k => F6.l0 k acc a false) (acc ++ l,true):=by
 intro m
 induction m with
 | zero =>
  intro a acc l h h2;simp only [fdS] at h
  by_cases hz : a.size=0
  ·
   rw [if_pos hz] at h
   obtain rfl : []=l:=by simpa using h
   exact (fields_end acc a hz).eq (by simp)
  rw [if_neg hz] at h;simp at h
 | succ m ih =>
  intro a acc l h h2;simp only [fdS] at h
  by_cases hz : a.size=0
  ·
   rw [if_pos hz] at h
   obtain rfl : []=l:=by simpa using h
   exact (fields_end acc a hz).eq (by simp)
  rw [if_neg hz] at h
  by_cases hy : (a.size : Int)<1 + bt a 0
  ·
   rw [if_pos hy] at h;simp at h
  rw [if_neg hy] at h
  cases hn : nxtV (a.extract (1 + bt a 0).toNat a.size) with
  | none => rw [hn] at h;simp at h
  | some p =>
   obtain ⟨v,r⟩:=p;rw [hn] at h;simp only [Option.map_eq_some_iff] at h;obtain ⟨l',h',rfl⟩:=h;obtain ⟨hs,hlt⟩:=nxt_some _ v r hn;have ht:=tail_size a (1 + bt a 0).toNat;have hb:=bt_range a 0;refine fields_step acc a (by omega) (by omega) ?_;rw [fdV_ok a (by omega) hy,hs];refine (ih r (acc ++ [fdv (a.extract 1 (1 + bt a 0).toNat,(v.f0,v.f1,v.f2,r,false))]) l' h' (by simp;omega)).eq ?_;simp [fdv,rdv]
theorem fdV_size (a : ByteArray) (h : 0<a.size) (h2 : a.size≤1048576) : (fdv (fdV a)).f0.size≤1048576∧(fdv (fdV a)).f1.f2.size≤1048576:=by
 unfold fdV fdv;rw [num_one a false h];have hb:=bt_range a 0;have ht:=tail_size a 1;have hm:=(tak_mono (a.extract 1 a.size) false (bt a 0).toNat).1;exact ⟨tak_size (a.extract 1 a.size) false (bt a 0).toNat (by omega) (by omega),val_size (takV (a.extract 1 a.size) false (bt a 0).toNat).2.1 (takV (a.extract 1 a.size) false (bt a 0).toNat).2.2 (by omega)⟩
theorem fields_some_end : ∀ (m : Nat) (a : ByteArray) (acc : List IFld),a.size≤m→acc.length + a.size≤1048576 → ∃ l ok,Eve (fun k => F6.l0 k acc a false) (acc ++ l,ok)∧(l.length≤a.size ∧ ∀ x ∈ l,x.f0.size≤1048576∧x.f1.f2.size≤1048576):=by
 intro m
 induction m with
 | zero => intro a acc h1 h2;exact ⟨[],true,(fields_end acc a (by omega)).eq (by simp),by simp,by simp⟩
 | succ m ih =>
  intro a acc h1 h2
  by_cases hz : a.size=0
  ·
   exact ⟨[],true,(fields_end acc a hz).eq (by simp),by simp,by simp⟩
  have hlt:=fdV_less a (by omega);have hvs:=fdV_size a (by omega) (by omega)
  cases hf : (fdV a).2.2.2.2.2 with
  | true =>
   refine ⟨[fdv (fdV a)],false,fields_step acc a (by omega) (by omega) ?_,by simp;omega,by simpa using hvs⟩;rw [hf];exact fields_stop _ _
  | false =>
   obtain ⟨l,ok,hl,hl1,hl2⟩:=ih (fdV a).2.2.2.2.1 (acc ++ [fdv (fdV a)]) (by omega) (by simp;omega);refine ⟨fdv (fdV a) :: l,ok,fields_step acc a (by omega) (by omega) ?_,by simp;omega,by simpa using ⟨hvs,hl2⟩⟩;rw [hf];exact hl.eq (by simp)
theorem fields_none : ∀ (m : Nat) (a : ByteArray) (acc : List IFld),a.size≤m→fdS m a=none→acc.length + a.size≤1048576 → ∃ l ok,Eve (fun k => F6.l0 k acc a false) (acc ++ l,ok)∧(ok=false ∨ ∃ v ∈ l,Bad v.f1)∧(l.length≤a.size ∧ ∀ x ∈ l,x.f0.size≤1048576∧x.f1.f2.size≤1048576):=by
 intro m
 induction m with
 | zero =>
  intro a acc h1 h h2;simp only [fdS] at h;rw [if_pos (show a.size=0 by omega)] at h;simp at h
 | succ m ih =>
  intro a acc h1 h h2;simp only [fdS] at h
  by_cases hz : a.size=0
  ·
   rw [if_pos hz] at h;simp at h
  rw [if_neg hz] at h;have hlt:=fdV_less a (by omega);have hvs:=fdV_size a (by omega) (by omega)
  by_cases hy : (a.size : Int)<1 + bt a 0
  ·
   refine ⟨[fdv (fdV a)],false,fields_step acc a (by omega) (by omega) ?_,.inl rfl,by simp;omega,by simpa using hvs⟩
   rw [fdV_bad a (by omega) hy];exact fields_stop _ _
  rw [if_neg hy] at h;have ht:=tail_size a (1 + bt a 0).toNat;have hb0:=bt_range a 0;have hok:=fdV_ok a (by omega) hy
  cases hn : nxtV (a.extract (1 + bt a 0).toNat a.size) with
  | some p =>
   obtain ⟨v,r⟩:=p;rw [hn] at h;simp only [Option.map_eq_none_iff] at h;obtain ⟨hs,hlt⟩:=nxt_some _ v r hn;rw [hok,hs] at hvs;obtain ⟨l,ok,hl,hb,hl1,hl2⟩:=ih r (acc ++ [fdv (a.extract 1 (1 + bt a 0).toNat,(v.f0,v.f1,v.f2,r,false))]) (by omega) h (by simp;omega);refine ⟨fdv (a.extract 1 (1 + bt a 0).toNat,(v.f0,v.f1,v.f2,r,false)) :: l,ok,?_,?_,by simp;omega,by simpa using ⟨hvs,hl2⟩⟩
   ·
    refine fields_step acc a (by omega) (by omega) ?_
    rw [hok,hs];exact hl.eq (by simp)
   rcases hb with hb|⟨x,hx,hb⟩
   ·
    exact .inl hb
   exact .inr ⟨x,by simp [hx],hb⟩
  | none =>
   have hv:=nxt_none _ hn
   cases hf : (fdV a).2.2.2.2.2 with
   | true =>
    refine ⟨[fdv (fdV a)],false,fields_step acc a (by omega) (by omega) ?_,.inl rfl,by simp;omega,by simpa using hvs⟩;rw [hf];exact fields_stop _ _
   | false =>
    obtain ⟨l,ok,hl,hl1,hl2⟩:=fields_some_end m (fdV a).2.2.2.2.1 (acc ++ [fdv (fdV a)]) (by omega) (by simp;omega);refine ⟨fdv (fdV a) :: l,ok,fields_step acc a (by omega) (by omega) ?_,.inr ⟨fdv (fdV a),by simp,?_⟩,by simp;omega,by simpa using ⟨hvs,hl2⟩⟩
    ·
     rw [hf]
     exact hl.eq (by simp)
    have e1 : (fdV a).2=valV (a.extract (1 + bt a 0).toNat a.size) false:=by rw [hok]
    have e2 : (fdv (fdV a)).f1=rdv (fdV a).2:=rfl;rw [e2,e1];rw [e1] at hf;rcases hv with hv|hv
    ·
     rw [hf] at hv;cases hv
    exact hv
end Go.Proofs.Ytaoihmompioncaa.Pure
end

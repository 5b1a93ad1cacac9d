/- Texts of this claim, merged by a program of this session. -/
import Derived.Test.YtjgcddjdmfcgoaaKLawFnCodecp25
import Derived.ProofKit
import Derived.OpenShut
import Derived.ShutString
import Derived.ChangeOld
import Derived.SizedLaws
import Derived.Deep.Slices
import Derived.Lib.SmallJoins
import Derived.Laws.Entries
section
namespace Go.Proofs.Ytjgcddjdmfcgoaa.Q
open Go.RowKit Go.Proofs.YtjgcddjdmfcgoaaW.PrintWords Go.Proofs.YtjgcddjdmfcgoaaW.PrintLast Go.Proofs.YtjgcddjdmfcgoaaW.PrintMore
attribute [local go_sem] max2_int min2_int max_two min_two max_three min_three max_four min_four max2_str min2_str str_geq str_gtr str_leq
set_option linter.unusedVariables false
set_option linter.unusedSimpArgs false

def Fw.f (k : Nat) (l0 : List Int) (a1_0 : Int) (a1_1 : Int) (a1_2 : ByteArray) : Option (List Int):=if l0.length<140737488355328 then ((some (l0 ++ [(a1_0) % 256] : List Int)).bind fun y627=>(if a1_0=1 then (if y627.length<140737488355328 then (some (y627 ++ [(a1_1) % 256])) else (none)) else (if a1_0=2 then ((Fm.f k (wrap64 (a1_1+4611686018427387904))).bind fun t633=>(if y627.length+t633.length<140737488355328 then (some (y627++t633)) else (none))) else (if a1_0=3 then ((some (([((a1_2.size : Int) / 256) % 256,((a1_2.size : Int)) % 256] : List Int) : List Int)).bind fun y639=>(if y627.length+y639.length<140737488355328 then ((some (y627++y639 : List Int)).bind fun y642=>(if y642.length+a1_2.size<140737488355328 then (some (y642++bytesOf a1_2)) else (none))) else (none))) else (if a1_0=4 then ((some (([((a1_2.size : Int) / 256) % 256,((a1_2.size : Int)) % 256] : List Int) : List Int)).bind fun y648=>(if y627.length+y648.length<140737488355328 then ((some (y627++y648 : List Int)).bind fun y651=>(if y651.length+a1_2.size<140737488355328 then (some (y651++bytesOf a1_2)) else (none))) else (none))) else (if a1_0=5 then ((some (([((a1_2.size : Int) / 256) % 256,((a1_2.size : Int)) % 256] : List Int) : List Int)).bind fun y657=>(if y627.length+y657.length<140737488355328 then ((some (y627++y657 : List Int)).bind fun y660=>(if y660.length+a1_2.size<140737488355328 then (some (y660++bytesOf a1_2)) else (none))) else (none))) else (some y627))))))) else (none)
theorem Fw.mono : ∀ a0 a1 a2 a3 k,LeO (Fw.f k a0 a1 a2 a3) (Fw.f (k+1) a0 a1 a2 a3):=by
 intro a0 a1 a2 a3 k;unfold Fw.f
 repeat' first|(with_reducible first|exact Fm.mono _ _|exact zQ _|exact zN _|refine zP ?_ ?_|refine zO ?_ (fun _=>?_))|refine zP ?_ ?_|refine zO ?_ (fun _=>?_)
def Fw.T10 : Bool×List (List Nat×List Nat):=(true,[([],[]),([],[]),([1],[1]),([2],[2]),([3],[3]),([4],[4]),([],[]),([6],[6]),([7],[7]),([8],[8]),([5,9],[5,9]),([0,10],[0,10]),([],[]),([12],[12]),([11,13,11],[11,13]),([14,14,0,1,2,3,4,5,6,7,8,9,10,11,12,13,14],[14])])
def Fw.B10 : List Nat:=[0,0,2,6,14,30,0,64,192,448,1022,2047,0,4096,16383,32767]
theorem Fw.tab10 : rtab .any (opsOf Try.f35 10)=Fw.T10:=by kernel_rfl
theorem Fw.bits10 : waitsOk Fw.T10.2 Fw.B10=true:=by kernel_rfl
set_option maxHeartbeats 8000000 in
set_option maxRecDepth 100000 in
theorem Fw.calls (k : Nat) (P0_ : Nat→Prop) (u9000_ : Value) (l0 : List Int) (a1_0 : Int) (a1_1 : Int) (a1_2 : ByteArray) (r : List Int) (w0 w : World) (hB : Below w0.heap.size w0 w) (ho0 : Kd.R (Kd.int .u8) 5 w w0.heap.size P0_ u9000_ l0) (h : Fw.f k l0 a1_0 a1_1 a1_2=some r) :
  Calls Try.prog 35 #[u9000_,.agg #[.int .i64 a1_0,.int .i64 a1_1,.string a1_2]] w fun e w' => ∃ v0_ : Value,e = .returned (v0_)∧Kd.R (Kd.int .u8) 5 w' w0.heap.size (fun k_=>(P0_ k_∨w.heap.size≤k_)) v0_ r∧Below w0.heap.size w0 w' ∧ Kept w w' (fun k_=>P0_ k_):=by
 have hu44:=Try.underlying44;have HO0:=zh (show Kd.R (Kd.int .u8) 5 w w0.heap.size (fun k_=>(P0_ k_∨w.heap.size≤k_)) u9000_ l0 from zM ho0 (fun k_ hk=>(.inl hk)));have HK:=zh (Kept.refl w (fun k_=>P0_ k_));have HW0:=zh hB.size;have HB:=zh hB;clear hB;have H : (if l0.length<140737488355328 then ((some (l0 ++ [(a1_0) % 256] : List Int)).bind fun y627=>(if a1_0=1 then (if y627.length<140737488355328 then (some (y627 ++ [(a1_1) % 256])) else (none)) else (if a1_0=2 then ((Fm.f k (wrap64 (a1_1+4611686018427387904))).bind fun t633=>(if y627.length+t633.length<140737488355328 then (some (y627++t633)) else (none))) else (if a1_0=3 then ((some (([((a1_2.size : Int) / 256) % 256,((a1_2.size : Int)) % 256] : List Int) : List Int)).bind fun y639=>(if y627.length+y639.length<140737488355328 then ((some (y627++y639 : List Int)).bind fun y642=>(if y642.length+a1_2.size<140737488355328 then (some (y642++bytesOf a1_2)) else (none))) else (none))) else (if a1_0=4 then ((some (([((a1_2.size : Int) / 256) % 256,((a1_2.size : Int)) % 256] : List Int) : List Int)).bind fun y648=>(if y627.length+y648.length<140737488355328 then ((some (y627++y648 : List Int)).bind fun y651=>(if y651.length+a1_2.size<140737488355328 then (some (y651++bytesOf a1_2)) else (none))) else (none))) else (if a1_0=5 then ((some (([((a1_2.size : Int) / 256) % 256,((a1_2.size : Int)) % 256] : List Int) : List Int)).bind fun y657=>(if y627.length+y657.length<140737488355328 then ((some (y627++y657 : List Int)).bind fun y660=>(if y660.length+a1_2.size<140737488355328 then (some (y660++bytesOf a1_2)) else (none))) else (none))) else (some y627))))))) else (none))=some r:=h;clear h
 by_cases c3 : l0.length<140737488355328
 ·
  rw [if_pos c3] at H
  have LMc3:=zh c3;clear c3;obtain ⟨y627,hy627⟩ : ∃ y_ : List Int,y_=(l0 ++ [(a1_0) % 256]):=⟨_,rfl⟩;replace H : (if a1_0=1 then (if y627.length<140737488355328 then (some (y627 ++ [(a1_1) % 256])) else (none)) else (if a1_0=2 then ((Fm.f k (wrap64 (a1_1+4611686018427387904))).bind fun t633=>(if y627.length+t633.length<140737488355328 then (some (y627++t633)) else (none))) else (if a1_0=3 then ((some (([((a1_2.size : Int) / 256) % 256,((a1_2.size : Int)) % 256] : List Int) : List Int)).bind fun y639=>(if y627.length+y639.length<140737488355328 then ((some (y627++y639 : List Int)).bind fun y642=>(if y642.length+a1_2.size<140737488355328 then (some (y642++bytesOf a1_2)) else (none))) else (none))) else (if a1_0=4 then ((some (([((a1_2.size : Int) / 256) % 256,((a1_2.size : Int)) % 256] : List Int) : List Int)).bind fun y648=>(if y627.length+y648.length<140737488355328 then ((some (y627++y648 : List Int)).bind fun y651=>(if y651.length+a1_2.size<140737488355328 then (some (y651++bytesOf a1_2)) else (none))) else (none))) else (if a1_0=5 then ((some (([((a1_2.size : Int) / 256) % 256,((a1_2.size : Int)) % 256] : List Int) : List Int)).bind fun y657=>(if y627.length+y657.length<140737488355328 then ((some (y627++y657 : List Int)).bind fun y660=>(if y660.length+a1_2.size<140737488355328 then (some (y660++bytesOf a1_2)) else (none))) else (none))) else (some y627))))))=some r:=by first|(rw [hy627];with_reducible exact H)|(have H2_:=(Option.bind_some _ _).symm.trans H;rw [hy627];with_reducible exact H2_)|(have H2_:=(Option.bind_some _ _).symm.trans H;with_reducible exact H2_)|with_reducible exact H|(rw [hy627];exact H)|exact H
  have Ny627:=zh hy627;clear hy627
  by_cases c4 : a1_0=1
  ·
   rw [if_pos c4] at H
   have c4b0 : (a1_0 == 1)=true:=ya.mpr c4;have c4b1 : (a1_0 != 1)=false:=zX.mpr c4;clear c4
   by_cases c5 : y627.length<140737488355328
   ·
    rw [if_pos c5] at H
    have LMc5:=zh c5;clear c5;obtain ⟨y630,hy630⟩ : ∃ y_ : List Int,y_=(y627 ++ [(a1_1) % 256]):=⟨_,rfl⟩;replace H : (some y630)=some r:=by first|(rw [hy630];with_reducible exact H)|(have H2_:=(Option.bind_some _ _).symm.trans H;rw [hy630];with_reducible exact H2_)|(have H2_:=(Option.bind_some _ _).symm.trans H;with_reducible exact H2_)|with_reducible exact H|(rw [hy630];exact H)|exact H
    have Ny630:=zh hy630;clear hy630;obtain rfl:=zU H
    go_enter Try.func35,Try.ntmps35
    go_wp2_with (first|((with_reducible refine zK (N:=3) rfl ?_);refine zI ?hg (N:=3) ?hd (cs:=#[.int .i64 a1_0,.int .i64 a1_1,.string a1_2]) (t:=44) ?hr ?_;(case hd=>rfl);(case hg=>rfl);(case hr=>go_simp <;> rfl);intro gb626 hg w6 hbox hb;replace HO0:=zh (yg (by (with_reducible repeat (first|apply zm|apply zn|apply zo));exact HO0.out) hb);have BK626:=zh (hbox);have GW626:=zh ((by rw [hg];exact (by first|exact HK.out.1|exact (show Kept w _ (fun k_=>P0_ k_) from by repeat (with_reducible first|exact HK.out|apply zr|apply zp|apply zq)).1) : w.heap.size≤gb626));replace HK:=zh (Kept.below (S:=(fun k_=>P0_ k_)) (by repeat (with_reducible first|exact HK.out|apply zr|apply zp|apply zq)) hb);have GE626:=zh ((by rw [hg];exact (zB (by repeat (with_reducible first|exact HB.out|apply za|apply zb|apply zc))) : w0.heap.size≤gb626));replace HB:=zh (zC (by repeat (with_reducible first|exact HB.out|apply za|apply zb|apply zc)) hb);clear hb hbox hg;obtain ⟨hcz7_0,hcz7_1,hcz7_2,hfz7_0,hfz7_1,hfz7_2⟩:=cB3 BK626.out)|((with_reducible refine yB (b:=.append) (xs:=#[.tmp 5,.tmp 9]) rfl ?_);at_builtin;refine Kd.R_append (Kd.int .u8) (w0:=w0) w0.heap.size rfl (.tmp 5) (.tmp 9) 22 5 (.int .u8 0) 1 rfl Try.underlying22 info5 rfl (by decide) (by omega) u9000_ l0 ((a1_0) % 256) [.int .u8 ((a1_0) % 256)] (fun k_=>(P0_ k_∨w.heap.size≤k_)) (fun _=>False) rfl rfl ?aP (fun _ hk=>hk.elim) ?aF ?aO ?aB ?aS ?aL ?_;(case aP=>exact rfl);(case aB=>exact (by repeat (with_reducible first|exact HB.out|apply za|apply zb|apply zc|refine zd ?_ GE626.out)));(case aF=>exact (fun k_ hk=>(.inr (Nat.le_trans (by first|exact HK.out.1|exact (show Kept w _ (fun k_=>P0_ k_) from by repeat (with_reducible first|exact HK.out|apply zr|apply zp|apply zq|refine zs ?_ (.inr GW626.out) _)).1) hk))));(case aO=>exact (by (with_reducible repeat (first|apply zm|apply zn|apply zo));exact HO0.out));(case aS=>exact (zB (by repeat (with_reducible first|exact HB.out|apply za|apply zb|apply zc|refine zd ?_ GE626.out))));(case aL=>have:=LMc3.out;omega);intro v628 w8 ho hb hg hat;rw [← Ny627.out] at ho;replace BK626:=zh (yw (g:=gb626) (o:=.cells #[.int .i64 a1_0,.int .i64 a1_1,.string a1_2] 44 (0,0)) (by (with_reducible repeat first|apply ze|apply zf|apply zg);exact BK626.out) hg (Kd.R_ne HO0.out BK626.out (by decide)));replace HB:=zh (hb);replace HK:=zh (yA (S:=(fun k_=>P0_ k_)) hg (by repeat (with_reducible first|exact HK.out|apply zr|apply zp|apply zq|refine zs ?_ (.inr GW626.out) _)) (fun k_ e_=>(HO0.out.1 k_ e_)));have HO629:=zh (ho);clear HO0 ho hb hg hat;obtain ⟨hcz9_0,hcz9_1,hcz9_2,hfz9_0,hfz9_1,hfz9_2⟩:=cB3 BK626.out)|((with_reducible refine yB (b:=.append) (xs:=#[.tmp 15,.tmp 19]) rfl ?_);at_builtin;refine Kd.R_append (Kd.int .u8) (w0:=w0) w0.heap.size rfl (.tmp 15) (.tmp 19) 22 5 (.int .u8 0) 1 rfl Try.underlying22 info5 rfl (by decide) (by omega) v628 y627 ((a1_1) % 256) [.int .u8 ((a1_1) % 256)] (fun k_=>(P0_ k_∨w.heap.size≤k_)) (fun _=>False) rfl rfl ?aP (fun _ hk=>hk.elim) ?aF ?aO ?aB ?aS ?aL ?_;(case aP=>exact rfl);(case aB=>exact (by repeat (with_reducible first|exact HB.out|apply za|apply zb|apply zc|refine zd ?_ GE626.out)));(case aF=>exact (fun k_ hk=>(.inr (Nat.le_trans (by first|exact HK.out.1|exact (show Kept w _ (fun k_=>P0_ k_) from by repeat (with_reducible first|exact HK.out|apply zr|apply zp|apply zq|refine zs ?_ (.inr GW626.out) _)).1) hk))));(case aO=>exact (by (with_reducible repeat (first|apply zm|apply zn|apply zo));exact HO629.out));(case aS=>exact (zB (by repeat (with_reducible first|exact HB.out|apply za|apply zb|apply zc|refine zd ?_ GE626.out))));(case aL=>have:=LMc5.out;omega);intro v631 w10 ho hb hg hat;rw [← Ny630.out] at ho;replace BK626:=zh (yw (g:=gb626) (o:=.cells #[.int .i64 a1_0,.int .i64 a1_1,.string a1_2] 44 (0,0)) (by (with_reducible repeat first|apply ze|apply zf|apply zg);exact BK626.out) hg (Kd.R_ne HO629.out BK626.out (by decide)));replace HB:=zh (hb);replace HK:=zh (yA (S:=(fun k_=>P0_ k_)) hg (by repeat (with_reducible first|exact HK.out|apply zr|apply zp|apply zq|refine zs ?_ (.inr GW626.out) _)) (fun k_ e_=>(HO629.out.1 k_ e_)));have HO632:=zh (ho);clear HO629 ho hb hg hat))
    go_ret
    exact ⟨_,by first|rfl|(simp [yt,yu] <;> rfl)|(simp [*,yt,yu] <;> rfl),by (with_reducible repeat (first|apply zm|apply zn|apply zo));exact HO632.out,by repeat (with_reducible first|exact HB.out|apply za|apply zb|apply zc|refine zd ?_ GE626.out),by repeat (with_reducible first|exact HK.out|apply zr|apply zp|apply zq|refine zs ?_ (.inr GW626.out) _)⟩
   rw [if_neg c5] at H;exact absurd H (by simp)
  rw [if_neg c4] at H;have c4b0 : (a1_0 == 1)=false:=zY.mpr c4;have c4b1 : (a1_0 != 1)=true:=zZ.mpr c4
  by_cases c11 : a1_0=2
  ·
   rw [if_pos c11] at H
   have c11b0 : (a1_0 == 2)=true:=ya.mpr c11;have c11b1 : (a1_0 != 2)=false:=zX.mpr c11;clear c11;replace H:=zT.mp H;obtain ⟨t633,A120,H⟩:=H;replace H : (if y627.length+t633.length<140737488355328 then (some (y627++t633)) else (none))=some r:=H;have A12:=zh A120;clear A120
   by_cases c13 : y627.length+t633.length<140737488355328
   ·
    rw [if_pos c13] at H
    have LMc13:=zh c13;clear c13;obtain ⟨y636,hy636⟩ : ∃ y_ : List Int,y_=(y627++t633):=⟨_,rfl⟩;replace H : (some y636)=some r:=by first|(rw [hy636];with_reducible exact H)|(have H2_:=(Option.bind_some _ _).symm.trans H;rw [hy636];with_reducible exact H2_)|(have H2_:=(Option.bind_some _ _).symm.trans H;with_reducible exact H2_)|with_reducible exact H|(rw [hy636];exact H)|exact H
    have Ny636:=zh hy636;clear hy636;obtain rfl:=zU H
    go_enter Try.func35,Try.ntmps35
    go_wp2_with (first|((with_reducible refine zK (N:=3) rfl ?_);refine zI ?hg (N:=3) ?hd (cs:=#[.int .i64 a1_0,.int .i64 a1_1,.string a1_2]) (t:=44) ?hr ?_;(case hd=>rfl);(case hg=>rfl);(case hr=>go_simp <;> rfl);intro gb626 hg w14 hbox hb;replace HO0:=zh (yg (by (with_reducible repeat (first|apply zm|apply zn|apply zo));exact HO0.out) hb);have BK626:=zh (hbox);have GW626:=zh ((by rw [hg];exact (by first|exact HK.out.1|exact (show Kept w _ (fun k_=>P0_ k_) from by repeat (with_reducible first|exact HK.out|apply zr|apply zp|apply zq)).1) : w.heap.size≤gb626));replace HK:=zh (Kept.below (S:=(fun k_=>P0_ k_)) (by repeat (with_reducible first|exact HK.out|apply zr|apply zp|apply zq)) hb);have GE626:=zh ((by rw [hg];exact (zB (by repeat (with_reducible first|exact HB.out|apply za|apply zb|apply zc))) : w0.heap.size≤gb626));replace HB:=zh (zC (by repeat (with_reducible first|exact HB.out|apply za|apply zb|apply zc)) hb);clear hb hbox hg;obtain ⟨hcz15_0,hcz15_1,hcz15_2,hfz15_0,hfz15_1,hfz15_2⟩:=cB3 BK626.out)|((with_reducible refine yB (b:=.append) (xs:=#[.tmp 5,.tmp 9]) rfl ?_);at_builtin;refine Kd.R_append (Kd.int .u8) (w0:=w0) w0.heap.size rfl (.tmp 5) (.tmp 9) 22 5 (.int .u8 0) 1 rfl Try.underlying22 info5 rfl (by decide) (by omega) u9000_ l0 ((a1_0) % 256) [.int .u8 ((a1_0) % 256)] (fun k_=>(P0_ k_∨w.heap.size≤k_)) (fun _=>False) rfl rfl ?aP (fun _ hk=>hk.elim) ?aF ?aO ?aB ?aS ?aL ?_;(case aP=>exact rfl);(case aB=>exact (by repeat (with_reducible first|exact HB.out|apply za|apply zb|apply zc|refine zd ?_ GE626.out)));(case aF=>exact (fun k_ hk=>(.inr (Nat.le_trans (by first|exact HK.out.1|exact (show Kept w _ (fun k_=>P0_ k_) from by repeat (with_reducible first|exact HK.out|apply zr|apply zp|apply zq|refine zs ?_ (.inr GW626.out) _)).1) hk))));(case aO=>exact (by (with_reducible repeat (first|apply zm|apply zn|apply zo));exact HO0.out));(case aS=>exact (zB (by repeat (with_reducible first|exact HB.out|apply za|apply zb|apply zc|refine zd ?_ GE626.out))));(case aL=>have:=LMc3.out;omega);intro v628 w16 ho hb hg hat;rw [← Ny627.out] at ho;replace BK626:=zh (yw (g:=gb626) (o:=.cells #[.int .i64 a1_0,.int .i64 a1_1,.string a1_2] 44 (0,0)) (by (with_reducible repeat first|apply ze|apply zf|apply zg);exact BK626.out) hg (Kd.R_ne HO0.out BK626.out (by decide)));replace HB:=zh (hb);replace HK:=zh (yA (S:=(fun k_=>P0_ k_)) hg (by repeat (with_reducible first|exact HK.out|apply zr|apply zp|apply zq|refine zs ?_ (.inr GW626.out) _)) (fun k_ e_=>(HO0.out.1 k_ e_)));have HO629:=zh (ho);clear HO0 ho hb hg hat;obtain ⟨hcz17_0,hcz17_1,hcz17_2,hfz17_0,hfz17_1,hfz17_2⟩:=cB3 BK626.out)|((with_reducible refine zJ (f:=64) rfl ?_);refine yj (some 27) rfl rfl Try.func64 (by kernel_rfl) rfl #[.int .i64 (wrap64 (a1_1+4611686018427387904))] rfl (by (try simp only [zt,zu,zv]);first|done|rfl|(simp only [zw,zx];rfl)|(simp only [yr,ys,zV,zW];rfl)) ?_;(with_reducible refine (Fm.calls k  (wrap64 (a1_1+4611686018427387904)) t633 _ A12.out).mono ?_);rintro e w18 ⟨v634,rfl,ho0,hb⟩;refine ⟨_,rfl,?_⟩;have HO635:=zh (yy (Kd.R_new' (Kd.R_newM (M:=fun k_=>(P0_ k_∨w.heap.size≤k_)) ho0 (by first|exact HK.out.1|exact (show Kept w _ (fun k_=>P0_ k_) from by repeat (with_reducible first|exact HK.out|apply zr|apply zp|apply zq|refine zs ?_ (.inr GW626.out) _)).1) (fun k_ h_ => .inr h_)) (Kd.R_lt (by (with_reducible repeat (first|apply zm|apply zn|apply zo));exact HO629.out))) (zB (by repeat (with_reducible first|exact HB.out|apply za|apply zb|apply zc|refine zd ?_ GE626.out))));replace HO629:=zh (Kd.R_elder' (by (with_reducible repeat (first|apply zm|apply zn|apply zo));exact HO629.out) (Kd.R_base ho0) hb);replace BK626:=zh (cD BK626.out (by (with_reducible repeat first|apply ze|apply zf|apply zg);exact BK626.out) hb);replace HK:=zh (Kept.below (S:=(fun k_=>P0_ k_)) (by repeat (with_reducible first|exact HK.out|apply zr|apply zp|apply zq|refine zs ?_ (.inr GW626.out) _)) hb);replace HB:=zh (zC (by repeat (with_reducible first|exact HB.out|apply za|apply zb|apply zc|refine zd ?_ GE626.out)) hb);(try clear hb);(try clear hb2);(try clear hk);(try clear hi);(try clear ho0);obtain ⟨Ao20,co20,eo20⟩:=yk HO635.out;subst eo20)|((with_reducible refine yB (b:=.append) (xs:=#[.tmp 23,.tmp 27]) rfl ?_);at_builtin;refine Kd.R_append_rows (Kd.int .u8) (w0:=w0) w0.heap.size rfl (.tmp 23) (.tmp 27) 22 5 (.int .u8 0) 1 rfl Try.underlying22 info5 rfl (by decide) (by omega) v628 y627 t633 _ _ _ (fun k_=>(P0_ k_∨w.heap.size≤k_)∧some k_≠(.slice Ao20 t633.length co20 : Value).ownBlock) (fun _=>False) rfl rfl ?aO ?aR (fun _ _ h=>h) (fun _ h=>h.elim) ?aF ?aB ?aS ?aL ?_;(case aR=>repeat (first|exact (yh HO635.out).2.2|(with_reducible refine Kd.C_alloc ?_ _)|(with_reducible refine Kd.C_drewN ?_ _)|(with_reducible refine Kd.C_drew ?_)));(case aB=>exact (by repeat (with_reducible first|exact HB.out|apply za|apply zb|apply zc|refine zd ?_ GE626.out)));(case aF=>exact (fun k_ hk=>⟨(.inr (Nat.le_trans (by first|exact HK.out.1|exact (show Kept w _ (fun k_=>P0_ k_) from by repeat (with_reducible first|exact HK.out|apply zr|apply zp|apply zq|refine zs ?_ (.inr GW626.out) _)).1) hk)),Kd.fresh' (Kd.R_lt (by (with_reducible repeat (first|apply zm|apply zn|apply zo));exact HO635.out)) k_ hk⟩));(case aO=>exact (by (with_reducible repeat (first|apply zm|apply zn|apply zo));exact HO629.out));(case aS=>exact (zB (by repeat (with_reducible first|exact HB.out|apply za|apply zb|apply zc|refine zd ?_ GE626.out))));(case aL=>have:=LMc13.out;omega);intro v637 w19 ho hb hg hat;rw [← Ny636.out] at ho;replace BK626:=zh (yw (g:=gb626) (o:=.cells #[.int .i64 a1_0,.int .i64 a1_1,.string a1_2] 44 (0,0)) (by (with_reducible repeat first|apply ze|apply zf|apply zg);exact BK626.out) hg (Kd.R_ne HO629.out BK626.out (by decide)));replace HO635:=zh (Kd.R_after (ok:=(fun k_=>(P0_ k_∨w.heap.size≤k_))) (by (with_reducible repeat (first|apply zm|apply zn|apply zo));exact zM HO635.out (fun _ hk=>⟨hk.1.1,hk.2⟩)) hg hat);replace HB:=zh (hb);replace HK:=zh (yA (S:=(fun k_=>P0_ k_)) hg (by repeat (with_reducible first|exact HK.out|apply zr|apply zp|apply zq|refine zs ?_ (.inr GW626.out) _)) (fun k_ e_=>(HO629.out.1 k_ e_).1));have HO638:=zh (ho);clear HO629 ho hb hg hat))
    go_ret
    exact ⟨_,by first|rfl|(simp [yt,yu] <;> rfl)|(simp [*,yt,yu] <;> rfl),by (with_reducible repeat (first|apply zm|apply zn|apply zo));exact zM HO638.out (fun _ hk=>hk.1),by repeat (with_reducible first|exact HB.out|apply za|apply zb|apply zc|refine zd ?_ GE626.out),by repeat (with_reducible first|exact HK.out|apply zr|apply zp|apply zq|refine zs ?_ (.inr GW626.out) _)⟩
   rw [if_neg c13] at H;exact absurd H (by simp)
  rw [if_neg c11] at H;have c11b0 : (a1_0 == 2)=false:=zY.mpr c11;have c11b1 : (a1_0 != 2)=true:=zZ.mpr c11
  by_cases c21 : a1_0=3
  ·
   rw [if_pos c21] at H
   have c21b0 : (a1_0 == 3)=true:=ya.mpr c21;have c21b1 : (a1_0 != 3)=false:=zX.mpr c21;clear c21;obtain ⟨y639,hy639⟩ : ∃ y_ : List Int,y_=(([((a1_2.size : Int) / 256) % 256,((a1_2.size : Int)) % 256] : List Int)):=⟨_,rfl⟩;replace H : (if y627.length+y639.length<140737488355328 then ((some (y627++y639 : List Int)).bind fun y642=>(if y642.length+a1_2.size<140737488355328 then (some (y642++bytesOf a1_2)) else (none))) else (none))=some r:=by first|(rw [hy639];with_reducible exact H)|(have H2_:=(Option.bind_some _ _).symm.trans H;rw [hy639];with_reducible exact H2_)|(have H2_:=(Option.bind_some _ _).symm.trans H;with_reducible exact H2_)|with_reducible exact H|(rw [hy639];exact H)|exact H
   have Ny639:=zh hy639;clear hy639
   by_cases c22 : y627.length+y639.length<140737488355328
   ·
    rw [if_pos c22] at H
    have LMc22:=zh c22;clear c22;obtain ⟨y642,hy642⟩ : ∃ y_ : List Int,y_=(y627++y639):=⟨_,rfl⟩;replace H : (if y642.length+a1_2.size<140737488355328 then (some (y642++bytesOf a1_2)) else (none))=some r:=by first|(rw [hy642];with_reducible exact H)|(have H2_:=(Option.bind_some _ _).symm.trans H;rw [hy642];with_reducible exact H2_)|(have H2_:=(Option.bind_some _ _).symm.trans H;with_reducible exact H2_)|with_reducible exact H|(rw [hy642];exact H)|exact H
    have Ny642:=zh hy642;clear hy642
    by_cases c23 : y642.length+a1_2.size<140737488355328
    ·
     rw [if_pos c23] at H
     have LMc23:=zh c23;clear c23;obtain ⟨y645,hy645⟩ : ∃ y_ : List Int,y_=(y642++bytesOf a1_2):=⟨_,rfl⟩;replace H : (some y645)=some r:=by first|(rw [hy645];with_reducible exact H)|(have H2_:=(Option.bind_some _ _).symm.trans H;rw [hy645];with_reducible exact H2_)|(have H2_:=(Option.bind_some _ _).symm.trans H;with_reducible exact H2_)|with_reducible exact H|(rw [hy645];exact H)|exact H
     have Ny645:=zh hy645;clear hy645;obtain rfl:=zU H
     go_enter Try.func35,Try.ntmps35
     try go_wp2_with (first|((with_reducible refine zK (N:=3) rfl ?_);refine zI ?hg (N:=3) ?hd (cs:=#[.int .i64 a1_0,.int .i64 a1_1,.string a1_2]) (t:=44) ?hr ?_;(case hd=>rfl);(case hg=>rfl);(case hr=>go_simp <;> rfl);intro gb626 hg w24 hbox hb;replace HO0:=zh (yg (by (with_reducible repeat (first|apply zm|apply zn|apply zo));exact HO0.out) hb);have BK626:=zh (hbox);have GW626:=zh ((by rw [hg];exact (by first|exact HK.out.1|exact (show Kept w _ (fun k_=>P0_ k_) from by repeat (with_reducible first|exact HK.out|apply zr|apply zp|apply zq)).1) : w.heap.size≤gb626));replace HK:=zh (Kept.below (S:=(fun k_=>P0_ k_)) (by repeat (with_reducible first|exact HK.out|apply zr|apply zp|apply zq)) hb);have GE626:=zh ((by rw [hg];exact (zB (by repeat (with_reducible first|exact HB.out|apply za|apply zb|apply zc))) : w0.heap.size≤gb626));replace HB:=zh (zC (by repeat (with_reducible first|exact HB.out|apply za|apply zb|apply zc)) hb);clear hb hbox hg;obtain ⟨hcz25_0,hcz25_1,hcz25_2,hfz25_0,hfz25_1,hfz25_2⟩:=cB3 BK626.out)|((with_reducible refine yB (b:=.append) (xs:=#[.tmp 5,.tmp 9]) rfl ?_);at_builtin;refine Kd.R_append (Kd.int .u8) (w0:=w0) w0.heap.size rfl (.tmp 5) (.tmp 9) 22 5 (.int .u8 0) 1 rfl Try.underlying22 info5 rfl (by decide) (by omega) u9000_ l0 ((a1_0) % 256) [.int .u8 ((a1_0) % 256)] (fun k_=>(P0_ k_∨w.heap.size≤k_)) (fun _=>False) rfl rfl ?aP (fun _ hk=>hk.elim) ?aF ?aO ?aB ?aS ?aL ?_;(case aP=>exact rfl);(case aB=>exact (by repeat (with_reducible first|exact HB.out|apply za|apply zb|apply zc|refine zd ?_ GE626.out)));(case aF=>exact (fun k_ hk=>(.inr (Nat.le_trans (by first|exact HK.out.1|exact (show Kept w _ (fun k_=>P0_ k_) from by repeat (with_reducible first|exact HK.out|apply zr|apply zp|apply zq|refine zs ?_ (.inr GW626.out) _)).1) hk))));(case aO=>exact (by (with_reducible repeat (first|apply zm|apply zn|apply zo));exact HO0.out));(case aS=>exact (zB (by repeat (with_reducible first|exact HB.out|apply za|apply zb|apply zc|refine zd ?_ GE626.out))));(case aL=>have:=LMc3.out;omega);intro v628 w26 ho hb hg hat;rw [← Ny627.out] at ho;replace BK626:=zh (yw (g:=gb626) (o:=.cells #[.int .i64 a1_0,.int .i64 a1_1,.string a1_2] 44 (0,0)) (by (with_reducible repeat first|apply ze|apply zf|apply zg);exact BK626.out) hg (Kd.R_ne HO0.out BK626.out (by decide)));replace HB:=zh (hb);replace HK:=zh (yA (S:=(fun k_=>P0_ k_)) hg (by repeat (with_reducible first|exact HK.out|apply zr|apply zp|apply zq|refine zs ?_ (.inr GW626.out) _)) (fun k_ e_=>(HO0.out.1 k_ e_)));have HO629:=zh (ho);clear HO0 ho hb hg hat;obtain ⟨hcz27_0,hcz27_1,hcz27_2,hfz27_0,hfz27_1,hfz27_2⟩:=cB3 BK626.out))
     replace HO629:=zh (zo HO629.out);replace BK626:=zh (zf BK626.out);replace HK:=zh (zq HK.out);replace HB:=zh (zc HB.out);refine start_ (n:=16) (S:=fun w' => w'.cell? ⟨gb626,0,none⟩=some (.int .i64 a1_0)∧w'.cell? ⟨gb626,1,none⟩=some (.int .i64 a1_1)∧w'.cell? ⟨gb626,2,none⟩=some (.string a1_2)) (ds:=[]) (bm_ 0 16) (by kernel_rfl) rfl rfl ⟨(zz BK626.out 0).trans rfl,(zz BK626.out 1).trans rfl,(zz BK626.out 2).trans rfl⟩ (fun hHeld=>?_);refine with_tabW Fw.tab10 Fw.bits10 (fun HT_ HW_=>?_);generalize w26.drew=w28 at HO629 BK626 HK HB hHeld ⊢;refine pure_ (i:=0) (N:=some 33) (v:=?_) (a':=?_) (bm_ 1 16) rfl rfl (any_of HT_.out (by kernel_rfl)) (fun _ _ _ h=>h) (Or.inl ⟨by rfl,?_⟩) ?_ ?_;rotate_left
     ·
      intro w'
      go_simp
      with_reducible rfl
     rotate_left
     ·
      simp only [Act.put,zi,zj,zk,zG,zH]
      rfl
     refine pure_ (i:=1) (N:=some 34) (v:=?_) (a':=?_) (bm_ 2 16) rfl rfl (any_of HT_.out (by kernel_rfl)) (fun _ _ _ h=>h) (Or.inl ⟨by rfl,?_⟩) ?_ ?_;rotate_left
     ·
      intro w'
      go_simp
      with_reducible rfl
     rotate_left
     ·
      simp only [Act.put,zi,zj,zk,zG,zH]
      rfl
     refine pure_ (i:=6) (N:=some 39) (v:=?_) (a':=?_) #[true,true,false,false,false,false,true,false,false,false,false,false,false,false,false,false] rfl rfl (any_of HT_.out (by kernel_rfl)) (fun _ _ _ h=>h) (Or.inl ⟨by rfl,?_⟩) ?_ ?_;rotate_left
     ·
      intro w'
      go_simp
      with_reducible rfl
     rotate_left
     ·
      simp only [Act.put,zi,zj,zk,zG,zH]
      rfl
     refine pure_ (i:=12) (N:=some 45) (v:=?_) (a':=?_) #[true,true,false,false,false,false,true,false,false,false,false,false,true,false,false,false] rfl rfl (any_of HT_.out (by kernel_rfl)) (fun _ _ _ h=>h) (Or.inl ⟨by rfl,?_⟩) ?_ ?_;rotate_left
     ·
      intro w'
      go_simp
      with_reducible rfl
     rotate_left
     ·
      simp only [Act.put,zi,zj,zk,zG,zH]
      rfl
     refine take_ (i:=2) (N:=some 35) (v:=?_) (a':=?_) #[true,true,true,false,false,false,true,false,false,false,false,false,true,false,false,false] rfl rfl (yo HT_.out HW_.out (by kernel_rfl)) (fun _ _ _ h=>h) (Or.inl ⟨by rfl,?_⟩) hHeld ?_ ?_;rotate_left
     ·
      rintro w' ⟨s0,s1,s2⟩
      go_simp
      with_reducible rfl
     rotate_left
     ·
      simp only [Act.put,zi,zj,zk,zG,zH]
      rfl
     refine pure_ (i:=3) (N:=some 36) (v:=?_) (a':=?_) #[true,true,true,true,false,false,true,false,false,false,false,false,true,false,false,false] rfl rfl (any_of HT_.out (by kernel_rfl)) (fun _ _ _ h=>h) (Or.inl ⟨by rfl,?_⟩) ?_ ?_;rotate_left
     ·
      intro w'
      go_simp
      with_reducible rfl
     rotate_left
     ·
      simp only [Act.put,zi,zj,zk,zG,zH]
      rfl
     refine pure_ (i:=4) (N:=some 37) (v:=?_) (a':=?_) #[true,true,true,true,true,false,true,false,false,false,false,false,true,false,false,false] rfl rfl (any_of HT_.out (by kernel_rfl)) (fun _ _ _ h=>h) (Or.inl ⟨by rfl,?_⟩) ?_ ?_;rotate_left
     ·
      intro w'
      go_simp
      with_reducible rfl
     rotate_left
     ·
      simp only [Act.put,zi,zj,zk,zG,zH]
      rfl
     refine pure_ (i:=5) (N:=some 38) (v:=?_) (a':=?_) #[true,true,true,true,true,true,true,false,false,false,false,false,true,false,false,false] rfl rfl (any_of HT_.out (by kernel_rfl)) (fun _ _ _ h=>h) (Or.inl ⟨by rfl,?_⟩) ?_ ?_;rotate_left
     ·
      intro w'
      go_simp
      with_reducible rfl
     rotate_left
     ·
      simp only [Act.put,zi,zj,zk,zG,zH]
      rfl
     refine take_ (i:=7) (N:=some 40) (v:=?_) (a':=?_) #[true,true,true,true,true,true,true,true,false,false,false,false,true,false,false,false] rfl rfl (yo HT_.out HW_.out (by kernel_rfl)) (fun _ _ _ h=>h) (Or.inl ⟨by rfl,?_⟩) hHeld ?_ ?_;rotate_left
     ·
      rintro w' ⟨s0,s1,s2⟩
      go_simp
      with_reducible rfl
     rotate_left
     ·
      simp only [Act.put,zi,zj,zk,zG,zH]
      rfl
     refine pure_ (i:=8) (N:=some 41) (v:=?_) (a':=?_) #[true,true,true,true,true,true,true,true,true,false,false,false,true,false,false,false] rfl rfl (any_of HT_.out (by kernel_rfl)) (fun _ _ _ h=>h) (Or.inl ⟨by rfl,?_⟩) ?_ ?_;rotate_left
     ·
      intro w'
      go_simp
      with_reducible rfl
     rotate_left
     ·
      simp only [Act.put,zi,zj,zk,zG,zH]
      rfl
     refine pure_ (i:=9) (N:=some 42) (v:=?_) (a':=?_) #[true,true,true,true,true,true,true,true,true,true,false,false,true,false,false,false] rfl rfl (any_of HT_.out (by kernel_rfl)) (fun _ _ _ h=>h) (Or.inl ⟨by rfl,?_⟩) ?_ ?_;rotate_left
     ·
      intro w'
      go_simp
      with_reducible rfl
     rotate_left
     ·
      simp only [Act.put,zi,zj,zk,zG,zH]
      rfl
     refine take_ (i:=13) (N:=some 46) (v:=?_) (a':=?_) #[true,true,true,true,true,true,true,true,true,true,false,false,true,true,false,false] rfl rfl (yo HT_.out HW_.out (by kernel_rfl)) (fun _ _ _ h=>h) (Or.inl ⟨by rfl,?_⟩) hHeld ?_ ?_;rotate_left
     ·
      rintro w' ⟨s0,s1,s2⟩
      go_simp
      with_reducible rfl
     rotate_left
     ·
      simp only [Act.put,zi,zj,zk,zG,zH]
      rfl
     refine one_ (i:=10) (N:=some 43) #[true,true,true,true,true,true,true,true,true,true,true,false,true,true,false,false] rfl rfl (one_of HT_.out (by kernel_rfl)) (by decide) (fun K hK=>?_);refine Kd.R_lit_step (Kd.int .u8) _ 5 ?hg (N:=43) ?hd (xs:=([((a1_2.size : Int) / 256) % 256,((a1_2.size : Int)) % 256] : List Int)) (inner:=[.int .u8 (((a1_2.size : Int) / 256) % 256),.int .u8 (((a1_2.size : Int)) % 256)]) (ok:=fun _=>True) (okp:=fun _=>True) ?hr ?hp (fun _ hk=>hk) trivial (Below.refl _ _) (ye _) (by simp) ?_;(case hd=>rfl);(case hg=>rfl);(case hr=>go_simp <;> rfl);(case hp=>exact (Reps.one (show Kd.M (Kd.int .u8) _ _ _ (((a1_2.size : Int) / 256) % 256) [.int .u8 (((a1_2.size : Int) / 256) % 256)] from rfl) (Reps.one (show Kd.M (Kd.int .u8) _ _ _ (((a1_2.size : Int)) % 256) [.int .u8 (((a1_2.size : Int)) % 256)] from rfl) (Reps.none _ _))));intro v640 w29 ho30 hb hg_ hnew_;clear hg_ hnew_;(first|rw [← Ny639.out] at ho30|(simp only [Int.reduceToNat] at ho30;rw [← Ny639.out] at ho30));have HO641:=zh (yy (Kd.R_new' (Kd.R_newM (M:=fun k_=>(P0_ k_∨w.heap.size≤k_)) ho30 (by first|exact HK.out.1|exact (show Kept w _ (fun k_=>P0_ k_) from by repeat (with_reducible first|exact HK.out|apply zr|apply zp|apply zq|refine zs ?_ (.inr GW626.out) _)).1) (fun k_ h_ => .inr h_)) (Kd.R_lt (by (with_reducible repeat (first|apply zm|apply zn|apply zo));exact HO629.out))) (zB (by repeat (with_reducible first|exact HB.out|apply za|apply zb|apply zc|refine zd ?_ GE626.out))));replace HO629:=zh (Kd.R_elder' (by (with_reducible repeat (first|apply zm|apply zn|apply zo));exact HO629.out) (Kd.R_base ho30) hb);replace BK626:=zh (cD BK626.out (by (with_reducible repeat first|apply ze|apply zf|apply zg);exact BK626.out) hb);replace HK:=zh (Kept.below (S:=(fun k_=>P0_ k_)) (by repeat (with_reducible first|exact HK.out|apply zr|apply zp|apply zq|refine zs ?_ (.inr GW626.out) _)) hb);replace HB:=zh (zC (by repeat (with_reducible first|exact HB.out|apply za|apply zb|apply zc|refine zd ?_ GE626.out)) hb);clear hb ho30;obtain ⟨Ao32,co32,eo32⟩:=yk HO641.out;(first|subst eo32|(injection eo32 with f1_ f2_ f3_;have f4_:=f1_.symm;have f5_:=f3_.symm;clear f1_ f2_ f3_;subst f4_;subst f5_));refine hK.out _ _ ⟨(zz BK626.out 0).trans rfl,(zz BK626.out 1).trans rfl,(zz BK626.out 2).trans rfl⟩ (fun hHeld=>?_);clear hK K;refine norm_ (a':=?_) ?_ ?_;rotate_left
     ·
      show Act.put _ (some 43) _=_
      simp only [Act.put,zi,zj,zk,zG,zH]
      rfl
     refine one_ (i:=11) (N:=some 44) (bm_ 14 16) rfl rfl (one_of HT_.out (by kernel_rfl)) (by decide) (fun K hK=>?_);refine Kd.R_append_rows_step (Kd.int .u8) (w0:=w0) w0.heap.size (by rfl) (.tmp 33) (.tmp 43) 22 5 (.int .u8 0) 1 rfl Try.underlying22 info5 rfl (by decide) (by omega) v628 y627 y639 _ _ _ (fun k_=>(P0_ k_∨w.heap.size≤k_)∧some k_≠(.slice Ao32 y639.length co32 : Value).ownBlock) (fun _=>False) rfl rfl ?aO ?aR (fun _ _ h=>h) (fun _ h=>h.elim) ?aF ?aB ?aS ?aL ?_;(case aR=>repeat (first|exact (yh HO641.out).2.2|(with_reducible refine Kd.C_alloc ?_ _)|(with_reducible refine Kd.C_drewN ?_ _)|(with_reducible refine Kd.C_drew ?_)))
     (case aB=>exact (by repeat (with_reducible first|exact HB.out|apply za|apply zb|apply zc|refine zd ?_ GE626.out)))
     (case aF=>exact (fun k_ hk=>⟨(.inr (Nat.le_trans (by first|exact HK.out.1|exact (show Kept w _ (fun k_=>P0_ k_) from by repeat (with_reducible first|exact HK.out|apply zr|apply zp|apply zq|refine zs ?_ (.inr GW626.out) _)).1) hk)),Kd.fresh' (Kd.R_lt (by (with_reducible repeat (first|apply zm|apply zn|apply zo));exact HO641.out)) k_ hk⟩))
     (case aO=>exact (by (with_reducible repeat (first|apply zm|apply zn|apply zo));exact HO629.out))
     (case aS=>exact (zB (by repeat (with_reducible first|exact HB.out|apply za|apply zb|apply zc|refine zd ?_ GE626.out))))
     (case aL=>have:=LMc22.out;omega)
     intro v643 w31 ho hb hg hat;rw [← Ny642.out] at ho;replace BK626:=zh (yw (g:=gb626) (o:=.cells #[.int .i64 a1_0,.int .i64 a1_1,.string a1_2] 44 (0,0)) (by (with_reducible repeat first|apply ze|apply zf|apply zg);exact BK626.out) hg (Kd.R_ne HO629.out BK626.out (by decide)));replace HO641:=zh (Kd.R_after (ok:=(fun k_=>(P0_ k_∨w.heap.size≤k_))) (by (with_reducible repeat (first|apply zm|apply zn|apply zo));exact zM HO641.out (fun _ hk=>⟨hk.1.1,hk.2⟩)) hg hat);replace HB:=zh (hb);replace HK:=zh (yA (S:=(fun k_=>P0_ k_)) hg (by repeat (with_reducible first|exact HK.out|apply zr|apply zp|apply zq|refine zs ?_ (.inr GW626.out) _)) (fun k_ e_=>(HO629.out.1 k_ e_).1));have HO644:=zh (ho);clear HO629 ho hb hg hat;refine hK.out _ _ ⟨(zz BK626.out 0).trans rfl,(zz BK626.out 1).trans rfl,(zz BK626.out 2).trans rfl⟩ (fun hHeld=>?_);clear hK K;refine norm_ (a':=?_) ?_ ?_;rotate_left
     ·
      show Act.put _ (some 44) _=_
      simp only [Act.put,zi,zj,zk,zG,zH]
      rfl
     refine one_ (i:=14) (N:=some 47) (bm_ 15 16) rfl rfl (one_of HT_.out (by kernel_rfl)) (by decide) (fun K hK=>?_);refine print_append_str_go (w0:=w0) w0.heap.size (by rfl) (.tmp 44) _ 22 9 5 rfl Try.underlying22 Try.underlying9 info5 v643 y642 a1_2 rfl rfl ?aO ?aB ?aS ?aL ?_;(case aB=>exact (by repeat (with_reducible first|exact HB.out|apply za|apply zb|apply zc|refine zd ?_ GE626.out)))
     (case aO=>exact (Kd.own_of_R (by (with_reducible repeat (first|apply zm|apply zn|apply zo));exact zM HO644.out (fun _ hk=>hk.1))))
     (case aS=>exact (zB (by repeat (with_reducible first|exact HB.out|apply za|apply zb|apply zc|refine zd ?_ GE626.out))))
     (case aL=>have:=LMc23.out;omega)
     intro v646 w33 ho0 hb hg hat;have ho:=Kd.R_of_own (h1:=fun _=>rfl) (ok:=(fun k_=>(P0_ k_∨w.heap.size≤k_))) ho0 (fun k_ e_=>hat.elim (fun h_=>(zM HO644.out (fun _ hk=>hk.1)).1 k_ (h_.symm.trans e_)) (fun ⟨b_,h_,hb_⟩=>(fun k_ hk=>(.inr (Nat.le_trans (by first|exact HK.out.1|exact (show Kept w _ (fun k_=>P0_ k_) from by repeat (with_reducible first|exact HK.out|apply zr|apply zp|apply zq|refine zs ?_ (.inr GW626.out) _)).1) hk))) k_ (zU (h_.symm.trans e_) ▸ hb_)));clear ho0;rw [← Ny645.out] at ho;change Kd.R (Kd.int .u8) 5 w33 w0.heap.size (fun k_=>(P0_ k_∨w.heap.size≤k_)) v646 y645 at ho;replace BK626:=zh (yw (g:=gb626) (o:=.cells #[.int .i64 a1_0,.int .i64 a1_1,.string a1_2] 44 (0,0)) (by (with_reducible repeat first|apply ze|apply zf|apply zg);exact BK626.out) hg (Kd.R_ne HO644.out BK626.out (by decide)));replace HB:=zh (hb);replace HK:=zh (yA (S:=(fun k_=>P0_ k_)) hg (by repeat (with_reducible first|exact HK.out|apply zr|apply zp|apply zq|refine zs ?_ (.inr GW626.out) _)) (fun k_ e_=>(HO644.out.1 k_ e_).1));have HO647:=zh (ho);clear HO644 ho hb hg hat;refine hK.out _ _ ⟨(zz BK626.out 0).trans rfl,(zz BK626.out 1).trans rfl,(zz BK626.out 2).trans rfl⟩ (fun hHeld=>?_);clear hK K;refine norm_ (a':=?_) ?_ ?_;rotate_left
     ·
      show Act.put _ (some 47) _=_
      simp only [Act.put,zi,zj,zk,zG,zH]
      rfl
     refine pure_ (i:=15) (N:=some 4) (v:=?_) (a':=?_) (bm_ 16 16) rfl rfl (any_of HT_.out (by kernel_rfl)) (fun _ _ _ h=>h) (Or.inl ⟨by rfl,?_⟩) ?_ ?_;rotate_left
     ·
      intro w'
      go_simp
      with_reducible rfl
     rotate_left
     ·
      simp only [Act.put,zi,zj,zk,zG,zH]
      rfl
     refine done_ (done_of HT_.out (by kernel_rfl)) ?_
     try go_wp2
     go_ret
     exact ⟨_,by first|rfl|(simp [yt,yu] <;> rfl)|(simp [*,yt,yu] <;> rfl),by (with_reducible repeat (first|apply zm|apply zn|apply zo));exact HO647.out,by repeat (with_reducible first|exact HB.out|apply za|apply zb|apply zc|refine zd ?_ GE626.out),by repeat (with_reducible first|exact HK.out|apply zr|apply zp|apply zq|refine zs ?_ (.inr GW626.out) _)⟩
    rw [if_neg c23] at H;exact absurd H (by simp)
   rw [if_neg c22] at H;exact absurd H (by simp)
  rw [if_neg c21] at H;have c21b0 : (a1_0 == 3)=false:=zY.mpr c21;have c21b1 : (a1_0 != 3)=true:=zZ.mpr c21
  by_cases c34 : a1_0=4
  ·
   rw [if_pos c34] at H
   have c34b0 : (a1_0 == 4)=true:=ya.mpr c34;have c34b1 : (a1_0 != 4)=false:=zX.mpr c34;clear c34;obtain ⟨y648,hy648⟩ : ∃ y_ : List Int,y_=(([((a1_2.size : Int) / 256) % 256,((a1_2.size : Int)) % 256] : List Int)):=⟨_,rfl⟩;replace H : (if y627.length+y648.length<140737488355328 then ((some (y627++y648 : List Int)).bind fun y651=>(if y651.length+a1_2.size<140737488355328 then (some (y651++bytesOf a1_2)) else (none))) else (none))=some r:=by first|(rw [hy648];with_reducible exact H)|(have H2_:=(Option.bind_some _ _).symm.trans H;rw [hy648];with_reducible exact H2_)|(have H2_:=(Option.bind_some _ _).symm.trans H;with_reducible exact H2_)|with_reducible exact H|(rw [hy648];exact H)|exact H
   have Ny648:=zh hy648;clear hy648
   by_cases c35 : y627.length+y648.length<140737488355328
   ·
    rw [if_pos c35] at H
    have LMc35:=zh c35;clear c35;obtain ⟨y651,hy651⟩ : ∃ y_ : List Int,y_=(y627++y648):=⟨_,rfl⟩;replace H : (if y651.length+a1_2.size<140737488355328 then (some (y651++bytesOf a1_2)) else (none))=some r:=by first|(rw [hy651];with_reducible exact H)|(have H2_:=(Option.bind_some _ _).symm.trans H;rw [hy651];with_reducible exact H2_)|(have H2_:=(Option.bind_some _ _).symm.trans H;with_reducible exact H2_)|with_reducible exact H|(rw [hy651];exact H)|exact H
    have Ny651:=zh hy651;clear hy651
    by_cases c36 : y651.length+a1_2.size<140737488355328
    ·
     rw [if_pos c36] at H
     have LMc36:=zh c36;clear c36;obtain ⟨y654,hy654⟩ : ∃ y_ : List Int,y_=(y651++bytesOf a1_2):=⟨_,rfl⟩;replace H : (some y654)=some r:=by first|(rw [hy654];with_reducible exact H)|(have H2_:=(Option.bind_some _ _).symm.trans H;rw [hy654];with_reducible exact H2_)|(have H2_:=(Option.bind_some _ _).symm.trans H;with_reducible exact H2_)|with_reducible exact H|(rw [hy654];exact H)|exact H
     have Ny654:=zh hy654;clear hy654;obtain rfl:=zU H
     go_enter Try.func35,Try.ntmps35
     try go_wp2_with (first|((with_reducible refine zK (N:=3) rfl ?_);refine zI ?hg (N:=3) ?hd (cs:=#[.int .i64 a1_0,.int .i64 a1_1,.string a1_2]) (t:=44) ?hr ?_;(case hd=>rfl);(case hg=>rfl);(case hr=>go_simp <;> rfl);intro gb626 hg w37 hbox hb;replace HO0:=zh (yg (by (with_reducible repeat (first|apply zm|apply zn|apply zo));exact HO0.out) hb);have BK626:=zh (hbox);have GW626:=zh ((by rw [hg];exact (by first|exact HK.out.1|exact (show Kept w _ (fun k_=>P0_ k_) from by repeat (with_reducible first|exact HK.out|apply zr|apply zp|apply zq)).1) : w.heap.size≤gb626));replace HK:=zh (Kept.below (S:=(fun k_=>P0_ k_)) (by repeat (with_reducible first|exact HK.out|apply zr|apply zp|apply zq)) hb);have GE626:=zh ((by rw [hg];exact (zB (by repeat (with_reducible first|exact HB.out|apply za|apply zb|apply zc))) : w0.heap.size≤gb626));replace HB:=zh (zC (by repeat (with_reducible first|exact HB.out|apply za|apply zb|apply zc)) hb);clear hb hbox hg;obtain ⟨hcz38_0,hcz38_1,hcz38_2,hfz38_0,hfz38_1,hfz38_2⟩:=cB3 BK626.out)|((with_reducible refine yB (b:=.append) (xs:=#[.tmp 5,.tmp 9]) rfl ?_);at_builtin;refine Kd.R_append (Kd.int .u8) (w0:=w0) w0.heap.size rfl (.tmp 5) (.tmp 9) 22 5 (.int .u8 0) 1 rfl Try.underlying22 info5 rfl (by decide) (by omega) u9000_ l0 ((a1_0) % 256) [.int .u8 ((a1_0) % 256)] (fun k_=>(P0_ k_∨w.heap.size≤k_)) (fun _=>False) rfl rfl ?aP (fun _ hk=>hk.elim) ?aF ?aO ?aB ?aS ?aL ?_;(case aP=>exact rfl);(case aB=>exact (by repeat (with_reducible first|exact HB.out|apply za|apply zb|apply zc|refine zd ?_ GE626.out)));(case aF=>exact (fun k_ hk=>(.inr (Nat.le_trans (by first|exact HK.out.1|exact (show Kept w _ (fun k_=>P0_ k_) from by repeat (with_reducible first|exact HK.out|apply zr|apply zp|apply zq|refine zs ?_ (.inr GW626.out) _)).1) hk))));(case aO=>exact (by (with_reducible repeat (first|apply zm|apply zn|apply zo));exact HO0.out));(case aS=>exact (zB (by repeat (with_reducible first|exact HB.out|apply za|apply zb|apply zc|refine zd ?_ GE626.out))));(case aL=>have:=LMc3.out;omega);intro v628 w39 ho hb hg hat;rw [← Ny627.out] at ho;replace BK626:=zh (yw (g:=gb626) (o:=.cells #[.int .i64 a1_0,.int .i64 a1_1,.string a1_2] 44 (0,0)) (by (with_reducible repeat first|apply ze|apply zf|apply zg);exact BK626.out) hg (Kd.R_ne HO0.out BK626.out (by decide)));replace HB:=zh (hb);replace HK:=zh (yA (S:=(fun k_=>P0_ k_)) hg (by repeat (with_reducible first|exact HK.out|apply zr|apply zp|apply zq|refine zs ?_ (.inr GW626.out) _)) (fun k_ e_=>(HO0.out.1 k_ e_)));have HO629:=zh (ho);clear HO0 ho hb hg hat;obtain ⟨hcz40_0,hcz40_1,hcz40_2,hfz40_0,hfz40_1,hfz40_2⟩:=cB3 BK626.out))
     replace HO629:=zh (zo HO629.out);replace BK626:=zh (zf BK626.out);replace HK:=zh (zq HK.out);replace HB:=zh (zc HB.out);refine start_ (n:=16) (S:=fun w' => w'.cell? ⟨gb626,0,none⟩=some (.int .i64 a1_0)∧w'.cell? ⟨gb626,1,none⟩=some (.int .i64 a1_1)∧w'.cell? ⟨gb626,2,none⟩=some (.string a1_2)) (ds:=[]) (bm_ 0 16) (by kernel_rfl) rfl rfl ⟨(zz BK626.out 0).trans rfl,(zz BK626.out 1).trans rfl,(zz BK626.out 2).trans rfl⟩ (fun hHeld=>?_);refine with_tabW Fw.tab10 Fw.bits10 (fun HT_ HW_=>?_);generalize w39.drew=w41 at HO629 BK626 HK HB hHeld ⊢;refine pure_ (i:=0) (N:=some 33) (v:=?_) (a':=?_) (bm_ 1 16) rfl rfl (any_of HT_.out (by kernel_rfl)) (fun _ _ _ h=>h) (Or.inl ⟨by rfl,?_⟩) ?_ ?_;rotate_left
     ·
      intro w'
      go_simp
      with_reducible rfl
     rotate_left
     ·
      simp only [Act.put,zi,zj,zk,zG,zH]
      rfl
     refine pure_ (i:=1) (N:=some 34) (v:=?_) (a':=?_) (bm_ 2 16) rfl rfl (any_of HT_.out (by kernel_rfl)) (fun _ _ _ h=>h) (Or.inl ⟨by rfl,?_⟩) ?_ ?_;rotate_left
     ·
      intro w'
      go_simp
      with_reducible rfl
     rotate_left
     ·
      simp only [Act.put,zi,zj,zk,zG,zH]
      rfl
     refine pure_ (i:=6) (N:=some 39) (v:=?_) (a':=?_) #[true,true,false,false,false,false,true,false,false,false,false,false,false,false,false,false] rfl rfl (any_of HT_.out (by kernel_rfl)) (fun _ _ _ h=>h) (Or.inl ⟨by rfl,?_⟩) ?_ ?_;rotate_left
     ·
      intro w'
      go_simp
      with_reducible rfl
     rotate_left
     ·
      simp only [Act.put,zi,zj,zk,zG,zH]
      rfl
     refine pure_ (i:=12) (N:=some 45) (v:=?_) (a':=?_) #[true,true,false,false,false,false,true,false,false,false,false,false,true,false,false,false] rfl rfl (any_of HT_.out (by kernel_rfl)) (fun _ _ _ h=>h) (Or.inl ⟨by rfl,?_⟩) ?_ ?_;rotate_left
     ·
      intro w'
      go_simp
      with_reducible rfl
     rotate_left
     ·
      simp only [Act.put,zi,zj,zk,zG,zH]
      rfl
     refine take_ (i:=2) (N:=some 35) (v:=?_) (a':=?_) #[true,true,true,false,false,false,true,false,false,false,false,false,true,false,false,false] rfl rfl (yo HT_.out HW_.out (by kernel_rfl)) (fun _ _ _ h=>h) (Or.inl ⟨by rfl,?_⟩) hHeld ?_ ?_;rotate_left
     ·
      rintro w' ⟨s0,s1,s2⟩
      go_simp
      with_reducible rfl
     rotate_left
     ·
      simp only [Act.put,zi,zj,zk,zG,zH]
      rfl
     refine pure_ (i:=3) (N:=some 36) (v:=?_) (a':=?_) #[true,true,true,true,false,false,true,false,false,false,false,false,true,false,false,false] rfl rfl (any_of HT_.out (by kernel_rfl)) (fun _ _ _ h=>h) (Or.inl ⟨by rfl,?_⟩) ?_ ?_;rotate_left
     ·
      intro w'
      go_simp
      with_reducible rfl
     rotate_left
     ·
      simp only [Act.put,zi,zj,zk,zG,zH]
      rfl
     refine pure_ (i:=4) (N:=some 37) (v:=?_) (a':=?_) #[true,true,true,true,true,false,true,false,false,false,false,false,true,false,false,false] rfl rfl (any_of HT_.out (by kernel_rfl)) (fun _ _ _ h=>h) (Or.inl ⟨by rfl,?_⟩) ?_ ?_;rotate_left
     ·
      intro w'
      go_simp
      with_reducible rfl
     rotate_left
     ·
      simp only [Act.put,zi,zj,zk,zG,zH]
      rfl
     refine pure_ (i:=5) (N:=some 38) (v:=?_) (a':=?_) #[true,true,true,true,true,true,true,false,false,false,false,false,true,false,false,false] rfl rfl (any_of HT_.out (by kernel_rfl)) (fun _ _ _ h=>h) (Or.inl ⟨by rfl,?_⟩) ?_ ?_;rotate_left
     ·
      intro w'
      go_simp
      with_reducible rfl
     rotate_left
     ·
      simp only [Act.put,zi,zj,zk,zG,zH]
      rfl
     refine take_ (i:=7) (N:=some 40) (v:=?_) (a':=?_) #[true,true,true,true,true,true,true,true,false,false,false,false,true,false,false,false] rfl rfl (yo HT_.out HW_.out (by kernel_rfl)) (fun _ _ _ h=>h) (Or.inl ⟨by rfl,?_⟩) hHeld ?_ ?_;rotate_left
     ·
      rintro w' ⟨s0,s1,s2⟩
      go_simp
      with_reducible rfl
     rotate_left
     ·
      simp only [Act.put,zi,zj,zk,zG,zH]
      rfl
     refine pure_ (i:=8) (N:=some 41) (v:=?_) (a':=?_) #[true,true,true,true,true,true,true,true,true,false,false,false,true,false,false,false] rfl rfl (any_of HT_.out (by kernel_rfl)) (fun _ _ _ h=>h) (Or.inl ⟨by rfl,?_⟩) ?_ ?_;rotate_left
     ·
      intro w'
      go_simp
      with_reducible rfl
     rotate_left
     ·
      simp only [Act.put,zi,zj,zk,zG,zH]
      rfl
     refine pure_ (i:=9) (N:=some 42) (v:=?_) (a':=?_) #[true,true,true,true,true,true,true,true,true,true,false,false,true,false,false,false] rfl rfl (any_of HT_.out (by kernel_rfl)) (fun _ _ _ h=>h) (Or.inl ⟨by rfl,?_⟩) ?_ ?_;rotate_left
     ·
      intro w'
      go_simp
      with_reducible rfl
     rotate_left
     ·
      simp only [Act.put,zi,zj,zk,zG,zH]
      rfl
     refine take_ (i:=13) (N:=some 46) (v:=?_) (a':=?_) #[true,true,true,true,true,true,true,true,true,true,false,false,true,true,false,false] rfl rfl (yo HT_.out HW_.out (by kernel_rfl)) (fun _ _ _ h=>h) (Or.inl ⟨by rfl,?_⟩) hHeld ?_ ?_;rotate_left
     ·
      rintro w' ⟨s0,s1,s2⟩
      go_simp
      with_reducible rfl
     rotate_left
     ·
      simp only [Act.put,zi,zj,zk,zG,zH]
      rfl
     refine one_ (i:=10) (N:=some 43) #[true,true,true,true,true,true,true,true,true,true,true,false,true,true,false,false] rfl rfl (one_of HT_.out (by kernel_rfl)) (by decide) (fun K hK=>?_);refine Kd.R_lit_step (Kd.int .u8) _ 5 ?hg (N:=43) ?hd (xs:=([((a1_2.size : Int) / 256) % 256,((a1_2.size : Int)) % 256] : List Int)) (inner:=[.int .u8 (((a1_2.size : Int) / 256) % 256),.int .u8 (((a1_2.size : Int)) % 256)]) (ok:=fun _=>True) (okp:=fun _=>True) ?hr ?hp (fun _ hk=>hk) trivial (Below.refl _ _) (ye _) (by simp) ?_;(case hd=>rfl);(case hg=>rfl);(case hr=>go_simp <;> rfl);(case hp=>exact (Reps.one (show Kd.M (Kd.int .u8) _ _ _ (((a1_2.size : Int) / 256) % 256) [.int .u8 (((a1_2.size : Int) / 256) % 256)] from rfl) (Reps.one (show Kd.M (Kd.int .u8) _ _ _ (((a1_2.size : Int)) % 256) [.int .u8 (((a1_2.size : Int)) % 256)] from rfl) (Reps.none _ _))));intro v649 w42 ho43 hb hg_ hnew_;clear hg_ hnew_;(first|rw [← Ny648.out] at ho43|(simp only [Int.reduceToNat] at ho43;rw [← Ny648.out] at ho43));have HO650:=zh (yy (Kd.R_new' (Kd.R_newM (M:=fun k_=>(P0_ k_∨w.heap.size≤k_)) ho43 (by first|exact HK.out.1|exact (show Kept w _ (fun k_=>P0_ k_) from by repeat (with_reducible first|exact HK.out|apply zr|apply zp|apply zq|refine zs ?_ (.inr GW626.out) _)).1) (fun k_ h_ => .inr h_)) (Kd.R_lt (by (with_reducible repeat (first|apply zm|apply zn|apply zo));exact HO629.out))) (zB (by repeat (with_reducible first|exact HB.out|apply za|apply zb|apply zc|refine zd ?_ GE626.out))));replace HO629:=zh (Kd.R_elder' (by (with_reducible repeat (first|apply zm|apply zn|apply zo));exact HO629.out) (Kd.R_base ho43) hb);replace BK626:=zh (cD BK626.out (by (with_reducible repeat first|apply ze|apply zf|apply zg);exact BK626.out) hb);replace HK:=zh (Kept.below (S:=(fun k_=>P0_ k_)) (by repeat (with_reducible first|exact HK.out|apply zr|apply zp|apply zq|refine zs ?_ (.inr GW626.out) _)) hb);replace HB:=zh (zC (by repeat (with_reducible first|exact HB.out|apply za|apply zb|apply zc|refine zd ?_ GE626.out)) hb);clear hb ho43;obtain ⟨Ao45,co45,eo45⟩:=yk HO650.out;(first|subst eo45|(injection eo45 with f1_ f2_ f3_;have f4_:=f1_.symm;have f5_:=f3_.symm;clear f1_ f2_ f3_;subst f4_;subst f5_));refine hK.out _ _ ⟨(zz BK626.out 0).trans rfl,(zz BK626.out 1).trans rfl,(zz BK626.out 2).trans rfl⟩ (fun hHeld=>?_);clear hK K;refine norm_ (a':=?_) ?_ ?_;rotate_left
     ·
      show Act.put _ (some 43) _=_
      simp only [Act.put,zi,zj,zk,zG,zH]
      rfl
     refine one_ (i:=11) (N:=some 44) (bm_ 14 16) rfl rfl (one_of HT_.out (by kernel_rfl)) (by decide) (fun K hK=>?_);refine Kd.R_append_rows_step (Kd.int .u8) (w0:=w0) w0.heap.size (by rfl) (.tmp 33) (.tmp 43) 22 5 (.int .u8 0) 1 rfl Try.underlying22 info5 rfl (by decide) (by omega) v628 y627 y648 _ _ _ (fun k_=>(P0_ k_∨w.heap.size≤k_)∧some k_≠(.slice Ao45 y648.length co45 : Value).ownBlock) (fun _=>False) rfl rfl ?aO ?aR (fun _ _ h=>h) (fun _ h=>h.elim) ?aF ?aB ?aS ?aL ?_;(case aR=>repeat (first|exact (yh HO650.out).2.2|(with_reducible refine Kd.C_alloc ?_ _)|(with_reducible refine Kd.C_drewN ?_ _)|(with_reducible refine Kd.C_drew ?_)))
     (case aB=>exact (by repeat (with_reducible first|exact HB.out|apply za|apply zb|apply zc|refine zd ?_ GE626.out)))
     (case aF=>exact (fun k_ hk=>⟨(.inr (Nat.le_trans (by first|exact HK.out.1|exact (show Kept w _ (fun k_=>P0_ k_) from by repeat (with_reducible first|exact HK.out|apply zr|apply zp|apply zq|refine zs ?_ (.inr GW626.out) _)).1) hk)),Kd.fresh' (Kd.R_lt (by (with_reducible repeat (first|apply zm|apply zn|apply zo));exact HO650.out)) k_ hk⟩))
     (case aO=>exact (by (with_reducible repeat (first|apply zm|apply zn|apply zo));exact HO629.out))
     (case aS=>exact (zB (by repeat (with_reducible first|exact HB.out|apply za|apply zb|apply zc|refine zd ?_ GE626.out))))
     (case aL=>have:=LMc35.out;omega)
     intro v652 w44 ho hb hg hat;rw [← Ny651.out] at ho;replace BK626:=zh (yw (g:=gb626) (o:=.cells #[.int .i64 a1_0,.int .i64 a1_1,.string a1_2] 44 (0,0)) (by (with_reducible repeat first|apply ze|apply zf|apply zg);exact BK626.out) hg (Kd.R_ne HO629.out BK626.out (by decide)));replace HO650:=zh (Kd.R_after (ok:=(fun k_=>(P0_ k_∨w.heap.size≤k_))) (by (with_reducible repeat (first|apply zm|apply zn|apply zo));exact zM HO650.out (fun _ hk=>⟨hk.1.1,hk.2⟩)) hg hat);replace HB:=zh (hb);replace HK:=zh (yA (S:=(fun k_=>P0_ k_)) hg (by repeat (with_reducible first|exact HK.out|apply zr|apply zp|apply zq|refine zs ?_ (.inr GW626.out) _)) (fun k_ e_=>(HO629.out.1 k_ e_).1));have HO653:=zh (ho);clear HO629 ho hb hg hat;refine hK.out _ _ ⟨(zz BK626.out 0).trans rfl,(zz BK626.out 1).trans rfl,(zz BK626.out 2).trans rfl⟩ (fun hHeld=>?_);clear hK K;refine norm_ (a':=?_) ?_ ?_;rotate_left
     ·
      show Act.put _ (some 44) _=_
      simp only [Act.put,zi,zj,zk,zG,zH]
      rfl
     refine one_ (i:=14) (N:=some 47) (bm_ 15 16) rfl rfl (one_of HT_.out (by kernel_rfl)) (by decide) (fun K hK=>?_);refine print_append_str_go (w0:=w0) w0.heap.size (by rfl) (.tmp 44) _ 22 9 5 rfl Try.underlying22 Try.underlying9 info5 v652 y651 a1_2 rfl rfl ?aO ?aB ?aS ?aL ?_;(case aB=>exact (by repeat (with_reducible first|exact HB.out|apply za|apply zb|apply zc|refine zd ?_ GE626.out)))
     (case aO=>exact (Kd.own_of_R (by (with_reducible repeat (first|apply zm|apply zn|apply zo));exact zM HO653.out (fun _ hk=>hk.1))))
     (case aS=>exact (zB (by repeat (with_reducible first|exact HB.out|apply za|apply zb|apply zc|refine zd ?_ GE626.out))))
     (case aL=>have:=LMc36.out;omega)
     intro v655 w46 ho0 hb hg hat;have ho:=Kd.R_of_own (h1:=fun _=>rfl) (ok:=(fun k_=>(P0_ k_∨w.heap.size≤k_))) ho0 (fun k_ e_=>hat.elim (fun h_=>(zM HO653.out (fun _ hk=>hk.1)).1 k_ (h_.symm.trans e_)) (fun ⟨b_,h_,hb_⟩=>(fun k_ hk=>(.inr (Nat.le_trans (by first|exact HK.out.1|exact (show Kept w _ (fun k_=>P0_ k_) from by repeat (with_reducible first|exact HK.out|apply zr|apply zp|apply zq|refine zs ?_ (.inr GW626.out) _)).1) hk))) k_ (zU (h_.symm.trans e_) ▸ hb_)));clear ho0;rw [← Ny654.out] at ho;change Kd.R (Kd.int .u8) 5 w46 w0.heap.size (fun k_=>(P0_ k_∨w.heap.size≤k_)) v655 y654 at ho;replace BK626:=zh (yw (g:=gb626) (o:=.cells #[.int .i64 a1_0,.int .i64 a1_1,.string a1_2] 44 (0,0)) (by (with_reducible repeat first|apply ze|apply zf|apply zg);exact BK626.out) hg (Kd.R_ne HO653.out BK626.out (by decide)));replace HB:=zh (hb);replace HK:=zh (yA (S:=(fun k_=>P0_ k_)) hg (by repeat (with_reducible first|exact HK.out|apply zr|apply zp|apply zq|refine zs ?_ (.inr GW626.out) _)) (fun k_ e_=>(HO653.out.1 k_ e_).1));have HO656:=zh (ho);clear HO653 ho hb hg hat;refine hK.out _ _ ⟨(zz BK626.out 0).trans rfl,(zz BK626.out 1).trans rfl,(zz BK626.out 2).trans rfl⟩ (fun hHeld=>?_);clear hK K;refine norm_ (a':=?_) ?_ ?_;rotate_left
     ·
      show Act.put _ (some 47) _=_
      simp only [Act.put,zi,zj,zk,zG,zH]
      rfl
     refine pure_ (i:=15) (N:=some 4) (v:=?_) (a':=?_) (bm_ 16 16) rfl rfl (any_of HT_.out (by kernel_rfl)) (fun _ _ _ h=>h) (Or.inl ⟨by rfl,?_⟩) ?_ ?_;rotate_left
     ·
      intro w'
      go_simp
      with_reducible rfl
     rotate_left
     ·
      simp only [Act.put,zi,zj,zk,zG,zH]
      rfl
     refine done_ (done_of HT_.out (by kernel_rfl)) ?_
     try go_wp2
     go_ret
     exact ⟨_,by first|rfl|(simp [yt,yu] <;> rfl)|(simp [*,yt,yu] <;> rfl),by (with_reducible repeat (first|apply zm|apply zn|apply zo));exact HO656.out,by repeat (with_reducible first|exact HB.out|apply za|apply zb|apply zc|refine zd ?_ GE626.out),by repeat (with_reducible first|exact HK.out|apply zr|apply zp|apply zq|refine zs ?_ (.inr GW626.out) _)⟩
    rw [if_neg c36] at H;exact absurd H (by simp)
   rw [if_neg c35] at H;exact absurd H (by simp)
  rw [if_neg c34] at H;have c34b0 : (a1_0 == 4)=false:=zY.mpr c34;have c34b1 : (a1_0 != 4)=true:=zZ.mpr c34
  by_cases c47 : a1_0=5
  ·
   rw [if_pos c47] at H
   have c47b0 : (a1_0 == 5)=true:=ya.mpr c47;have c47b1 : (a1_0 != 5)=false:=zX.mpr c47;clear c47;obtain ⟨y657,hy657⟩ : ∃ y_ : List Int,y_=(([((a1_2.size : Int) / 256) % 256,((a1_2.size : Int)) % 256] : List Int)):=⟨_,rfl⟩;replace H : (if y627.length+y657.length<140737488355328 then ((some (y627++y657 : List Int)).bind fun y660=>(if y660.length+a1_2.size<140737488355328 then (some (y660++bytesOf a1_2)) else (none))) else (none))=some r:=by first|(rw [hy657];with_reducible exact H)|(have H2_:=(Option.bind_some _ _).symm.trans H;rw [hy657];with_reducible exact H2_)|(have H2_:=(Option.bind_some _ _).symm.trans H;with_reducible exact H2_)|with_reducible exact H|(rw [hy657];exact H)|exact H
   have Ny657:=zh hy657;clear hy657
   by_cases c48 : y627.length+y657.length<140737488355328
   ·
    rw [if_pos c48] at H
    have LMc48:=zh c48;clear c48;obtain ⟨y660,hy660⟩ : ∃ y_ : List Int,y_=(y627++y657):=⟨_,rfl⟩;replace H : (if y660.length+a1_2.size<140737488355328 then (some (y660++bytesOf a1_2)) else (none))=some r:=by first|(rw [hy660];with_reducible exact H)|(have H2_:=(Option.bind_some _ _).symm.trans H;rw [hy660];with_reducible exact H2_)|(have H2_:=(Option.bind_some _ _).symm.trans H;with_reducible exact H2_)|with_reducible exact H|(rw [hy660];exact H)|exact H
    have Ny660:=zh hy660;clear hy660
    by_cases c49 : y660.length+a1_2.size<140737488355328
    ·
     rw [if_pos c49] at H
     have LMc49:=zh c49;clear c49;obtain ⟨y663,hy663⟩ : ∃ y_ : List Int,y_=(y660++bytesOf a1_2):=⟨_,rfl⟩;replace H : (some y663)=some r:=by first|(rw [hy663];with_reducible exact H)|(have H2_:=(Option.bind_some _ _).symm.trans H;rw [hy663];with_reducible exact H2_)|(have H2_:=(Option.bind_some _ _).symm.trans H;with_reducible exact H2_)|with_reducible exact H|(rw [hy663];exact H)|exact H
     have Ny663:=zh hy663;clear hy663;obtain rfl:=zU H
     go_enter Try.func35,Try.ntmps35
     try go_wp2_with (first|((with_reducible refine zK (N:=3) rfl ?_);refine zI ?hg (N:=3) ?hd (cs:=#[.int .i64 a1_0,.int .i64 a1_1,.string a1_2]) (t:=44) ?hr ?_;(case hd=>rfl);(case hg=>rfl);(case hr=>go_simp <;> rfl);intro gb626 hg w50 hbox hb;replace HO0:=zh (yg (by (with_reducible repeat (first|apply zm|apply zn|apply zo));exact HO0.out) hb);have BK626:=zh (hbox);have GW626:=zh ((by rw [hg];exact (by first|exact HK.out.1|exact (show Kept w _ (fun k_=>P0_ k_) from by repeat (with_reducible first|exact HK.out|apply zr|apply zp|apply zq)).1) : w.heap.size≤gb626));replace HK:=zh (Kept.below (S:=(fun k_=>P0_ k_)) (by repeat (with_reducible first|exact HK.out|apply zr|apply zp|apply zq)) hb);have GE626:=zh ((by rw [hg];exact (zB (by repeat (with_reducible first|exact HB.out|apply za|apply zb|apply zc))) : w0.heap.size≤gb626));replace HB:=zh (zC (by repeat (with_reducible first|exact HB.out|apply za|apply zb|apply zc)) hb);clear hb hbox hg;obtain ⟨hcz51_0,hcz51_1,hcz51_2,hfz51_0,hfz51_1,hfz51_2⟩:=cB3 BK626.out)|((with_reducible refine yB (b:=.append) (xs:=#[.tmp 5,.tmp 9]) rfl ?_);at_builtin;refine Kd.R_append (Kd.int .u8) (w0:=w0) w0.heap.size rfl (.tmp 5) (.tmp 9) 22 5 (.int .u8 0) 1 rfl Try.underlying22 info5 rfl (by decide) (by omega) u9000_ l0 ((a1_0) % 256) [.int .u8 ((a1_0) % 256)] (fun k_=>(P0_ k_∨w.heap.size≤k_)) (fun _=>False) rfl rfl ?aP (fun _ hk=>hk.elim) ?aF ?aO ?aB ?aS ?aL ?_;(case aP=>exact rfl);(case aB=>exact (by repeat (with_reducible first|exact HB.out|apply za|apply zb|apply zc|refine zd ?_ GE626.out)));(case aF=>exact (fun k_ hk=>(.inr (Nat.le_trans (by first|exact HK.out.1|exact (show Kept w _ (fun k_=>P0_ k_) from by repeat (with_reducible first|exact HK.out|apply zr|apply zp|apply zq|refine zs ?_ (.inr GW626.out) _)).1) hk))));(case aO=>exact (by (with_reducible repeat (first|apply zm|apply zn|apply zo));exact HO0.out));(case aS=>exact (zB (by repeat (with_reducible first|exact HB.out|apply za|apply zb|apply zc|refine zd ?_ GE626.out))));(case aL=>have:=LMc3.out;omega);intro v628 w52 ho hb hg hat;rw [← Ny627.out] at ho;replace BK626:=zh (yw (g:=gb626) (o:=.cells #[.int .i64 a1_0,.int .i64 a1_1,.string a1_2] 44 (0,0)) (by (with_reducible repeat first|apply ze|apply zf|apply zg);exact BK626.out) hg (Kd.R_ne HO0.out BK626.out (by decide)));replace HB:=zh (hb);replace HK:=zh (yA (S:=(fun k_=>P0_ k_)) hg (by repeat (with_reducible first|exact HK.out|apply zr|apply zp|apply zq|refine zs ?_ (.inr GW626.out) _)) (fun k_ e_=>(HO0.out.1 k_ e_)));have HO629:=zh (ho);clear HO0 ho hb hg hat;obtain ⟨hcz53_0,hcz53_1,hcz53_2,hfz53_0,hfz53_1,hfz53_2⟩:=cB3 BK626.out))
     replace HO629:=zh (zo HO629.out);replace BK626:=zh (zf BK626.out);replace HK:=zh (zq HK.out);replace HB:=zh (zc HB.out);refine start_ (n:=16) (S:=fun w' => w'.cell? ⟨gb626,0,none⟩=some (.int .i64 a1_0)∧w'.cell? ⟨gb626,1,none⟩=some (.int .i64 a1_1)∧w'.cell? ⟨gb626,2,none⟩=some (.string a1_2)) (ds:=[]) (bm_ 0 16) (by kernel_rfl) rfl rfl ⟨(zz BK626.out 0).trans rfl,(zz BK626.out 1).trans rfl,(zz BK626.out 2).trans rfl⟩ (fun hHeld=>?_);refine with_tabW Fw.tab10 Fw.bits10 (fun HT_ HW_=>?_);generalize w52.drew=w54 at HO629 BK626 HK HB hHeld ⊢;refine pure_ (i:=0) (N:=some 33) (v:=?_) (a':=?_) (bm_ 1 16) rfl rfl (any_of HT_.out (by kernel_rfl)) (fun _ _ _ h=>h) (Or.inl ⟨by rfl,?_⟩) ?_ ?_;rotate_left
     ·
      intro w'
      go_simp
      with_reducible rfl
     rotate_left
     ·
      simp only [Act.put,zi,zj,zk,zG,zH]
      rfl
     refine pure_ (i:=1) (N:=some 34) (v:=?_) (a':=?_) (bm_ 2 16) rfl rfl (any_of HT_.out (by kernel_rfl)) (fun _ _ _ h=>h) (Or.inl ⟨by rfl,?_⟩) ?_ ?_;rotate_left
     ·
      intro w'
      go_simp
      with_reducible rfl
     rotate_left
     ·
      simp only [Act.put,zi,zj,zk,zG,zH]
      rfl
     refine pure_ (i:=6) (N:=some 39) (v:=?_) (a':=?_) #[true,true,false,false,false,false,true,false,false,false,false,false,false,false,false,false] rfl rfl (any_of HT_.out (by kernel_rfl)) (fun _ _ _ h=>h) (Or.inl ⟨by rfl,?_⟩) ?_ ?_;rotate_left
     ·
      intro w'
      go_simp
      with_reducible rfl
     rotate_left
     ·
      simp only [Act.put,zi,zj,zk,zG,zH]
      rfl
     refine pure_ (i:=12) (N:=some 45) (v:=?_) (a':=?_) #[true,true,false,false,false,false,true,false,false,false,false,false,true,false,false,false] rfl rfl (any_of HT_.out (by kernel_rfl)) (fun _ _ _ h=>h) (Or.inl ⟨by rfl,?_⟩) ?_ ?_;rotate_left
     ·
      intro w'
      go_simp
      with_reducible rfl
     rotate_left
     ·
      simp only [Act.put,zi,zj,zk,zG,zH]
      rfl
     refine take_ (i:=2) (N:=some 35) (v:=?_) (a':=?_) #[true,true,true,false,false,false,true,false,false,false,false,false,true,false,false,false] rfl rfl (yo HT_.out HW_.out (by kernel_rfl)) (fun _ _ _ h=>h) (Or.inl ⟨by rfl,?_⟩) hHeld ?_ ?_;rotate_left
     ·
      rintro w' ⟨s0,s1,s2⟩
      go_simp
      with_reducible rfl
     rotate_left
     ·
      simp only [Act.put,zi,zj,zk,zG,zH]
      rfl
     refine pure_ (i:=3) (N:=some 36) (v:=?_) (a':=?_) #[true,true,true,true,false,false,true,false,false,false,false,false,true,false,false,false] rfl rfl (any_of HT_.out (by kernel_rfl)) (fun _ _ _ h=>h) (Or.inl ⟨by rfl,?_⟩) ?_ ?_;rotate_left
     ·
      intro w'
      go_simp
      with_reducible rfl
     rotate_left
     ·
      simp only [Act.put,zi,zj,zk,zG,zH]
      rfl
     refine pure_ (i:=4) (N:=some 37) (v:=?_) (a':=?_) #[true,true,true,true,true,false,true,false,false,false,false,false,true,false,false,false] rfl rfl (any_of HT_.out (by kernel_rfl)) (fun _ _ _ h=>h) (Or.inl ⟨by rfl,?_⟩) ?_ ?_;rotate_left
     ·
      intro w'
      go_simp
      with_reducible rfl
     rotate_left
     ·
      simp only [Act.put,zi,zj,zk,zG,zH]
      rfl
     refine pure_ (i:=5) (N:=some 38) (v:=?_) (a':=?_) #[true,true,true,true,true,true,true,false,false,false,false,false,true,false,false,false] rfl rfl (any_of HT_.out (by kernel_rfl)) (fun _ _ _ h=>h) (Or.inl ⟨by rfl,?_⟩) ?_ ?_;rotate_left
     ·
      intro w'
      go_simp
      with_reducible rfl
     rotate_left
     ·
      simp only [Act.put,zi,zj,zk,zG,zH]
      rfl
     refine take_ (i:=7) (N:=some 40) (v:=?_) (a':=?_) #[true,true,true,true,true,true,true,true,false,false,false,false,true,false,false,false] rfl rfl (yo HT_.out HW_.out (by kernel_rfl)) (fun _ _ _ h=>h) (Or.inl ⟨by rfl,?_⟩) hHeld ?_ ?_;rotate_left
     ·
      rintro w' ⟨s0,s1,s2⟩
      go_simp
      with_reducible rfl
     rotate_left
     ·
      simp only [Act.put,zi,zj,zk,zG,zH]
      rfl
     refine pure_ (i:=8) (N:=some 41) (v:=?_) (a':=?_) #[true,true,true,true,true,true,true,true,true,false,false,false,true,false,false,false] rfl rfl (any_of HT_.out (by kernel_rfl)) (fun _ _ _ h=>h) (Or.inl ⟨by rfl,?_⟩) ?_ ?_;rotate_left
     ·
      intro w'
      go_simp
      with_reducible rfl
     rotate_left
     ·
      simp only [Act.put,zi,zj,zk,zG,zH]
      rfl
     refine pure_ (i:=9) (N:=some 42) (v:=?_) (a':=?_) #[true,true,true,true,true,true,true,true,true,true,false,false,true,false,false,false] rfl rfl (any_of HT_.out (by kernel_rfl)) (fun _ _ _ h=>h) (Or.inl ⟨by rfl,?_⟩) ?_ ?_;rotate_left
     ·
      intro w'
      go_simp
      with_reducible rfl
     rotate_left
     ·
      simp only [Act.put,zi,zj,zk,zG,zH]
      rfl
     refine take_ (i:=13) (N:=some 46) (v:=?_) (a':=?_) #[true,true,true,true,true,true,true,true,true,true,false,false,true,true,false,false] rfl rfl (yo HT_.out HW_.out (by kernel_rfl)) (fun _ _ _ h=>h) (Or.inl ⟨by rfl,?_⟩) hHeld ?_ ?_;rotate_left
     ·
      rintro w' ⟨s0,s1,s2⟩
      go_simp
      with_reducible rfl
     rotate_left
     ·
      simp only [Act.put,zi,zj,zk,zG,zH]
      rfl
     refine one_ (i:=10) (N:=some 43) #[true,true,true,true,true,true,true,true,true,true,true,false,true,true,false,false] rfl rfl (one_of HT_.out (by kernel_rfl)) (by decide) (fun K hK=>?_);refine Kd.R_lit_step (Kd.int .u8) _ 5 ?hg (N:=43) ?hd (xs:=([((a1_2.size : Int) / 256) % 256,((a1_2.size : Int)) % 256] : List Int)) (inner:=[.int .u8 (((a1_2.size : Int) / 256) % 256),.int .u8 (((a1_2.size : Int)) % 256)]) (ok:=fun _=>True) (okp:=fun _=>True) ?hr ?hp (fun _ hk=>hk) trivial (Below.refl _ _) (ye _) (by simp) ?_;(case hd=>rfl);(case hg=>rfl);(case hr=>go_simp <;> rfl);(case hp=>exact (Reps.one (show Kd.M (Kd.int .u8) _ _ _ (((a1_2.size : Int) / 256) % 256) [.int .u8 (((a1_2.size : Int) / 256) % 256)] from rfl) (Reps.one (show Kd.M (Kd.int .u8) _ _ _ (((a1_2.size : Int)) % 256) [.int .u8 (((a1_2.size : Int)) % 256)] from rfl) (Reps.none _ _))));intro v658 w55 ho56 hb hg_ hnew_;clear hg_ hnew_;(first|rw [← Ny657.out] at ho56|(simp only [Int.reduceToNat] at ho56;rw [← Ny657.out] at ho56));have HO659:=zh (yy (Kd.R_new' (Kd.R_newM (M:=fun k_=>(P0_ k_∨w.heap.size≤k_)) ho56 (by first|exact HK.out.1|exact (show Kept w _ (fun k_=>P0_ k_) from by repeat (with_reducible first|exact HK.out|apply zr|apply zp|apply zq|refine zs ?_ (.inr GW626.out) _)).1) (fun k_ h_ => .inr h_)) (Kd.R_lt (by (with_reducible repeat (first|apply zm|apply zn|apply zo));exact HO629.out))) (zB (by repeat (with_reducible first|exact HB.out|apply za|apply zb|apply zc|refine zd ?_ GE626.out))));replace HO629:=zh (Kd.R_elder' (by (with_reducible repeat (first|apply zm|apply zn|apply zo));exact HO629.out) (Kd.R_base ho56) hb);replace BK626:=zh (cD BK626.out (by (with_reducible repeat first|apply ze|apply zf|apply zg);exact BK626.out) hb);replace HK:=zh (Kept.below (S:=(fun k_=>P0_ k_)) (by repeat (with_reducible first|exact HK.out|apply zr|apply zp|apply zq|refine zs ?_ (.inr GW626.out) _)) hb);replace HB:=zh (zC (by repeat (with_reducible first|exact HB.out|apply za|apply zb|apply zc|refine zd ?_ GE626.out)) hb);clear hb ho56;obtain ⟨Ao58,co58,eo58⟩:=yk HO659.out;(first|subst eo58|(injection eo58 with f1_ f2_ f3_;have f4_:=f1_.symm;have f5_:=f3_.symm;clear f1_ f2_ f3_;subst f4_;subst f5_));refine hK.out _ _ ⟨(zz BK626.out 0).trans rfl,(zz BK626.out 1).trans rfl,(zz BK626.out 2).trans rfl⟩ (fun hHeld=>?_);clear hK K;refine norm_ (a':=?_) ?_ ?_;rotate_left
     ·
      show Act.put _ (some 43) _=_
      simp only [Act.put,zi,zj,zk,zG,zH]
      rfl
     refine one_ (i:=11) (N:=some 44) (bm_ 14 16) rfl rfl (one_of HT_.out (by kernel_rfl)) (by decide) (fun K hK=>?_);refine Kd.R_append_rows_step (Kd.int .u8) (w0:=w0) w0.heap.size (by rfl) (.tmp 33) (.tmp 43) 22 5 (.int .u8 0) 1 rfl Try.underlying22 info5 rfl (by decide) (by omega) v628 y627 y657 _ _ _ (fun k_=>(P0_ k_∨w.heap.size≤k_)∧some k_≠(.slice Ao58 y657.length co58 : Value).ownBlock) (fun _=>False) rfl rfl ?aO ?aR (fun _ _ h=>h) (fun _ h=>h.elim) ?aF ?aB ?aS ?aL ?_;(case aR=>repeat (first|exact (yh HO659.out).2.2|(with_reducible refine Kd.C_alloc ?_ _)|(with_reducible refine Kd.C_drewN ?_ _)|(with_reducible refine Kd.C_drew ?_)))
     (case aB=>exact (by repeat (with_reducible first|exact HB.out|apply za|apply zb|apply zc|refine zd ?_ GE626.out)))
     (case aF=>exact (fun k_ hk=>⟨(.inr (Nat.le_trans (by first|exact HK.out.1|exact (show Kept w _ (fun k_=>P0_ k_) from by repeat (with_reducible first|exact HK.out|apply zr|apply zp|apply zq|refine zs ?_ (.inr GW626.out) _)).1) hk)),Kd.fresh' (Kd.R_lt (by (with_reducible repeat (first|apply zm|apply zn|apply zo));exact HO659.out)) k_ hk⟩))
     (case aO=>exact (by (with_reducible repeat (first|apply zm|apply zn|apply zo));exact HO629.out))
     (case aS=>exact (zB (by repeat (with_reducible first|exact HB.out|apply za|apply zb|apply zc|refine zd ?_ GE626.out))))
     (case aL=>have:=LMc48.out;omega)
     intro v661 w57 ho hb hg hat;rw [← Ny660.out] at ho;replace BK626:=zh (yw (g:=gb626) (o:=.cells #[.int .i64 a1_0,.int .i64 a1_1,.string a1_2] 44 (0,0)) (by (with_reducible repeat first|apply ze|apply zf|apply zg);exact BK626.out) hg (Kd.R_ne HO629.out BK626.out (by decide)));replace HO659:=zh (Kd.R_after (ok:=(fun k_=>(P0_ k_∨w.heap.size≤k_))) (by (with_reducible repeat (first|apply zm|apply zn|apply zo));exact zM HO659.out (fun _ hk=>⟨hk.1.1,hk.2⟩)) hg hat);replace HB:=zh (hb);replace HK:=zh (yA (S:=(fun k_=>P0_ k_)) hg (by repeat (with_reducible first|exact HK.out|apply zr|apply zp|apply zq|refine zs ?_ (.inr GW626.out) _)) (fun k_ e_=>(HO629.out.1 k_ e_).1));have HO662:=zh (ho);clear HO629 ho hb hg hat;refine hK.out _ _ ⟨(zz BK626.out 0).trans rfl,(zz BK626.out 1).trans rfl,(zz BK626.out 2).trans rfl⟩ (fun hHeld=>?_);clear hK K;refine norm_ (a':=?_) ?_ ?_;rotate_left
     ·
      show Act.put _ (some 44) _=_
      simp only [Act.put,zi,zj,zk,zG,zH]
      rfl
     refine one_ (i:=14) (N:=some 47) (bm_ 15 16) rfl rfl (one_of HT_.out (by kernel_rfl)) (by decide) (fun K hK=>?_);refine print_append_str_go (w0:=w0) w0.heap.size (by rfl) (.tmp 44) _ 22 9 5 rfl Try.underlying22 Try.underlying9 info5 v661 y660 a1_2 rfl rfl ?aO ?aB ?aS ?aL ?_;(case aB=>exact (by repeat (with_reducible first|exact HB.out|apply za|apply zb|apply zc|refine zd ?_ GE626.out)))
     (case aO=>exact (Kd.own_of_R (by (with_reducible repeat (first|apply zm|apply zn|apply zo));exact zM HO662.out (fun _ hk=>hk.1))))
     (case aS=>exact (zB (by repeat (with_reducible first|exact HB.out|apply za|apply zb|apply zc|refine zd ?_ GE626.out))))
     (case aL=>have:=LMc49.out;omega)
     intro v664 w59 ho0 hb hg hat;have ho:=Kd.R_of_own (h1:=fun _=>rfl) (ok:=(fun k_=>(P0_ k_∨w.heap.size≤k_))) ho0 (fun k_ e_=>hat.elim (fun h_=>(zM HO662.out (fun _ hk=>hk.1)).1 k_ (h_.symm.trans e_)) (fun ⟨b_,h_,hb_⟩=>(fun k_ hk=>(.inr (Nat.le_trans (by first|exact HK.out.1|exact (show Kept w _ (fun k_=>P0_ k_) from by repeat (with_reducible first|exact HK.out|apply zr|apply zp|apply zq|refine zs ?_ (.inr GW626.out) _)).1) hk))) k_ (zU (h_.symm.trans e_) ▸ hb_)));clear ho0;rw [← Ny663.out] at ho;change Kd.R (Kd.int .u8) 5 w59 w0.heap.size (fun k_=>(P0_ k_∨w.heap.size≤k_)) v664 y663 at ho;replace BK626:=zh (yw (g:=gb626) (o:=.cells #[.int .i64 a1_0,.int .i64 a1_1,.string a1_2] 44 (0,0)) (by (with_reducible repeat first|apply ze|apply zf|apply zg);exact BK626.out) hg (Kd.R_ne HO662.out BK626.out (by decide)));replace HB:=zh (hb);replace HK:=zh (yA (S:=(fun k_=>P0_ k_)) hg (by repeat (with_reducible first|exact HK.out|apply zr|apply zp|apply zq|refine zs ?_ (.inr GW626.out) _)) (fun k_ e_=>(HO662.out.1 k_ e_).1));have HO665:=zh (ho);clear HO662 ho hb hg hat;refine hK.out _ _ ⟨(zz BK626.out 0).trans rfl,(zz BK626.out 1).trans rfl,(zz BK626.out 2).trans rfl⟩ (fun hHeld=>?_);clear hK K;refine norm_ (a':=?_) ?_ ?_;rotate_left
     ·
      show Act.put _ (some 47) _=_
      simp only [Act.put,zi,zj,zk,zG,zH]
      rfl
     refine pure_ (i:=15) (N:=some 4) (v:=?_) (a':=?_) (bm_ 16 16) rfl rfl (any_of HT_.out (by kernel_rfl)) (fun _ _ _ h=>h) (Or.inl ⟨by rfl,?_⟩) ?_ ?_;rotate_left
     ·
      intro w'
      go_simp
      with_reducible rfl
     rotate_left
     ·
      simp only [Act.put,zi,zj,zk,zG,zH]
      rfl
     refine done_ (done_of HT_.out (by kernel_rfl)) ?_
     try go_wp2
     go_ret
     exact ⟨_,by first|rfl|(simp [yt,yu] <;> rfl)|(simp [*,yt,yu] <;> rfl),by (with_reducible repeat (first|apply zm|apply zn|apply zo));exact HO665.out,by repeat (with_reducible first|exact HB.out|apply za|apply zb|apply zc|refine zd ?_ GE626.out),by repeat (with_reducible first|exact HK.out|apply zr|apply zp|apply zq|refine zs ?_ (.inr GW626.out) _)⟩
    rw [if_neg c49] at H;exact absurd H (by simp)
   rw [if_neg c48] at H;exact absurd H (by simp)
  rw [if_neg c47] at H;have c47b0 : (a1_0 == 5)=false:=zY.mpr c47;have c47b1 : (a1_0 != 5)=true:=zZ.mpr c47;obtain rfl:=zU H
  go_enter Try.func35,Try.ntmps35
  go_wp2_with (first|((with_reducible refine zK (N:=3) rfl ?_);refine zI ?hg (N:=3) ?hd (cs:=#[.int .i64 a1_0,.int .i64 a1_1,.string a1_2]) (t:=44) ?hr ?_;(case hd=>rfl);(case hg=>rfl);(case hr=>go_simp <;> rfl);intro gb626 hg w60 hbox hb;replace HO0:=zh (yg (by (with_reducible repeat (first|apply zm|apply zn|apply zo));exact HO0.out) hb);have BK626:=zh (hbox);have GW626:=zh ((by rw [hg];exact (by first|exact HK.out.1|exact (show Kept w _ (fun k_=>P0_ k_) from by repeat (with_reducible first|exact HK.out|apply zr|apply zp|apply zq)).1) : w.heap.size≤gb626));replace HK:=zh (Kept.below (S:=(fun k_=>P0_ k_)) (by repeat (with_reducible first|exact HK.out|apply zr|apply zp|apply zq)) hb);have GE626:=zh ((by rw [hg];exact (zB (by repeat (with_reducible first|exact HB.out|apply za|apply zb|apply zc))) : w0.heap.size≤gb626));replace HB:=zh (zC (by repeat (with_reducible first|exact HB.out|apply za|apply zb|apply zc)) hb);clear hb hbox hg;obtain ⟨hcz61_0,hcz61_1,hcz61_2,hfz61_0,hfz61_1,hfz61_2⟩:=cB3 BK626.out)|((with_reducible refine yB (b:=.append) (xs:=#[.tmp 5,.tmp 9]) rfl ?_);at_builtin;refine Kd.R_append (Kd.int .u8) (w0:=w0) w0.heap.size rfl (.tmp 5) (.tmp 9) 22 5 (.int .u8 0) 1 rfl Try.underlying22 info5 rfl (by decide) (by omega) u9000_ l0 ((a1_0) % 256) [.int .u8 ((a1_0) % 256)] (fun k_=>(P0_ k_∨w.heap.size≤k_)) (fun _=>False) rfl rfl ?aP (fun _ hk=>hk.elim) ?aF ?aO ?aB ?aS ?aL ?_;(case aP=>exact rfl);(case aB=>exact (by repeat (with_reducible first|exact HB.out|apply za|apply zb|apply zc|refine zd ?_ GE626.out)));(case aF=>exact (fun k_ hk=>(.inr (Nat.le_trans (by first|exact HK.out.1|exact (show Kept w _ (fun k_=>P0_ k_) from by repeat (with_reducible first|exact HK.out|apply zr|apply zp|apply zq|refine zs ?_ (.inr GW626.out) _)).1) hk))));(case aO=>exact (by (with_reducible repeat (first|apply zm|apply zn|apply zo));exact HO0.out));(case aS=>exact (zB (by repeat (with_reducible first|exact HB.out|apply za|apply zb|apply zc|refine zd ?_ GE626.out))));(case aL=>have:=LMc3.out;omega);intro v628 w62 ho hb hg hat;rw [← Ny627.out] at ho;replace BK626:=zh (yw (g:=gb626) (o:=.cells #[.int .i64 a1_0,.int .i64 a1_1,.string a1_2] 44 (0,0)) (by (with_reducible repeat first|apply ze|apply zf|apply zg);exact BK626.out) hg (Kd.R_ne HO0.out BK626.out (by decide)));replace HB:=zh (hb);replace HK:=zh (yA (S:=(fun k_=>P0_ k_)) hg (by repeat (with_reducible first|exact HK.out|apply zr|apply zp|apply zq|refine zs ?_ (.inr GW626.out) _)) (fun k_ e_=>(HO0.out.1 k_ e_)));have HO629:=zh (ho);clear HO0 ho hb hg hat;obtain ⟨hcz63_0,hcz63_1,hcz63_2,hfz63_0,hfz63_1,hfz63_2⟩:=cB3 BK626.out))
  go_ret
  exact ⟨_,by first|rfl|(simp [yt,yu] <;> rfl)|(simp [*,yt,yu] <;> rfl),by (with_reducible repeat (first|apply zm|apply zn|apply zo));exact HO629.out,by repeat (with_reducible first|exact HB.out|apply za|apply zb|apply zc|refine zd ?_ GE626.out),by repeat (with_reducible first|exact HK.out|apply zr|apply zp|apply zq|refine zs ?_ (.inr GW626.out) _)⟩
 rw [if_neg c3] at H;exact absurd H (by simp)


def F04.f (k : Nat) (a0_0 : Int) (a0_1 : Int) (a0_2 : ByteArray) : Option (List Int×Int):=(Fh.f k a0_0 a0_1 a0_2).bind fun t667=>(if t667=true then ((Fw.f k ([] : List Int) a0_0 a0_1 a0_2).bind fun t668=>(some (t668,0))) else (some (([] : List Int),1)))
theorem F04.mono : ∀ a0 a1 a2 k,LeO (F04.f k a0 a1 a2) (F04.f (k+1) a0 a1 a2):=by
 intro a0 a1 a2 k;unfold F04.f
 repeat' first|(with_reducible first|exact Fh.mono _ _ _ _|exact Fw.mono _ _ _ _ _|exact zQ _|exact zN _|refine zP ?_ ?_|refine zO ?_ (fun _=>?_))|refine zP ?_ ?_|refine zO ?_ (fun _=>?_)
set_option maxHeartbeats 8000000 in
set_option maxRecDepth 100000 in
theorem F04.calls (k : Nat) (a0_0 : Int) (a0_1 : Int) (a0_2 : ByteArray) (r1 : List Int) (r2 : Int) (w : World) (h : F04.f k a0_0 a0_1 a0_2=some (r1,r2)) :
  Calls Try.prog 15 #[.agg #[.int .i64 a0_0,.int .i64 a0_1,.string a0_2]] w fun e w' => ∃ v0_ : Value,e = .returned (.tuple #[v0_,.int .i64 r2])∧Kd.R (Kd.int .u8) 5 w' w.heap.size (fun _=>True) v0_ r1∧Below w.heap.size w w':=by
 have hu44:=Try.underlying44;have HB:=zh (Below.refl w.heap.size w);have H : ((Fh.f k a0_0 a0_1 a0_2).bind fun t667=>(if t667=true then ((Fw.f k ([] : List Int) a0_0 a0_1 a0_2).bind fun t668=>(some (t668,0))) else (some (([] : List Int),1))))=some (r1,r2):=h;clear h;replace H:=zT.mp H;obtain ⟨t667,A20,H⟩:=H;replace H : (if t667=true then ((Fw.f k ([] : List Int) a0_0 a0_1 a0_2).bind fun t668=>(some (t668,0))) else (some (([] : List Int),1)))=some (r1,r2):=H;have A2:=zh A20;clear A20
 by_cases c3 : t667=true
 ·
  subst c3
  have H1 : ((Fw.f k ([] : List Int) a0_0 a0_1 a0_2).bind fun t668=>(some (t668,0)))=some (r1,r2):=by rw [if_pos rfl] at H;exact H
  clear H;have H:=H1;clear H1;replace H:=zT.mp H;obtain ⟨t668,A40,H⟩:=H;replace H : (some (t668,0))=some (r1,r2):=H;have A4:=zh A40;clear A40;simp only [Option.some.injEq,Prod.mk.injEq] at H;obtain ⟨rfl,rfl⟩:=H
  go_enter Try.func15,Try.ntmps15
  go_wp2_with (first|((with_reducible refine zK (N:=1) rfl ?_);refine zI ?hg (N:=1) ?hd (cs:=#[.int .i64 a0_0,.int .i64 a0_1,.string a0_2]) (t:=44) ?hr ?_;(case hd=>rfl);(case hg=>rfl);(case hr=>go_simp <;> rfl);intro gb666 hg w5 hbox hb;have BK666:=zh (hbox);have hH_:=cH (by repeat (with_reducible first|exact HB.out|apply za|apply zb|apply zc)) hb hg;have GW666:=zh hH_.1;have GE666:=GW666;replace HB:=zh hH_.2;clear hb hbox hg hH_;obtain ⟨hcz6_0,hcz6_1,hcz6_2,hfz6_0,hfz6_1,hfz6_2⟩:=cB3 BK666.out)|((with_reducible refine zJ (f:=17) rfl ?_);refine yj (some 5) rfl rfl Try.func17 (by kernel_rfl) rfl #[.agg #[.int .i64 a0_0,.int .i64 a0_1,.string a0_2]] rfl (by (try simp only [zt,zu,zv]);first|done|rfl|(simp only [zw,zx];rfl)|(simp only [yr,ys,zV,zW];rfl)) ?_;(with_reducible refine (Fh.calls k  a0_0 a0_1 a0_2 true _ A2.out).mono ?_);rintro e w7 ⟨rfl,hb⟩;refine ⟨_,rfl,?_⟩;replace BK666:=zh (cD BK666.out (by (with_reducible repeat first|apply ze|apply zf|apply zg);exact BK666.out) hb);replace HB:=zh (zC (by repeat (with_reducible first|exact HB.out|apply za|apply zb|apply zc|refine zd ?_ GE666.out)) hb);(try clear hb);(try clear hb2);(try clear hk);(try clear hi);obtain ⟨hcz8_0,hcz8_1,hcz8_2,hfz8_0,hfz8_1,hfz8_2⟩:=cB3 BK666.out)|((with_reducible refine zJ (f:=35) rfl ?_);refine yj (some 8) rfl rfl Try.func35 (by kernel_rfl) rfl #[.slice none 0 0,.agg #[.int .i64 a0_0,.int .i64 a0_1,.string a0_2]] rfl (by (try simp only [zt,zu,zv]);first|done|rfl|(simp only [zw,zx];rfl)|(simp only [yr,ys,zV,zW];rfl)) ?_;(refine (Fw.calls k  (fun k_=>some k_=(.slice none 0 0 : Value).ownBlock) (.slice none 0 0) ([] : List Int) a0_0 a0_1 a0_2 t668 w _ ?side1 ?side2 A4.out).mono ?_);(case side1=>repeat (with_reducible first|exact HB.out|apply za|apply zb|apply zc|refine zd ?_ GE666.out));(case side2=>exact Kd.R_nil _ _ _ _ _);rintro e w9 ⟨v669,rfl,ho0,hb,hkp⟩;refine ⟨_,rfl,?_⟩;replace BK666:=zh (blk_kept (by (with_reducible repeat first|apply ze|apply zf|apply zg);exact BK666.out) hkp (fun hs_=>(fun e_=>by simp [Value.ownBlock] at e_) hs_));have HO670:=zh (zM (ok':=fun k_=>True) ho0 (fun k_ hk_=>trivial));replace HB:=zh (hb);(try clear hb);(try clear hkp);(try clear ho0)))
  go_ret2
  exact ⟨_,by first|rfl|(simp [yt,yu] <;> rfl)|(simp [*,yt,yu] <;> rfl),by (with_reducible repeat (first|apply zm|apply zn|apply zo));exact HO670.out,by repeat (with_reducible first|exact HB.out|apply za|apply zb|apply zc|refine zd ?_ GE666.out)⟩
 replace c3:=yb.mpr c3;subst c3;have H1 : (some (([] : List Int),1))=some (r1,r2):=by rw [if_neg (show ¬ (false=true) by decide)] at H;exact H
 clear H;have H:=H1;clear H1;simp only [Option.some.injEq,Prod.mk.injEq] at H;obtain ⟨rfl,rfl⟩:=H
 go_enter Try.func15,Try.ntmps15
 go_wp2_with (first|((with_reducible refine zK (N:=1) rfl ?_);refine zI ?hg (N:=1) ?hd (cs:=#[.int .i64 a0_0,.int .i64 a0_1,.string a0_2]) (t:=44) ?hr ?_;(case hd=>rfl);(case hg=>rfl);(case hr=>go_simp <;> rfl);intro gb666 hg w10 hbox hb;have BK666:=zh (hbox);have hH_:=cH (by repeat (with_reducible first|exact HB.out|apply za|apply zb|apply zc)) hb hg;have GW666:=zh hH_.1;have GE666:=GW666;replace HB:=zh hH_.2;clear hb hbox hg hH_;obtain ⟨hcz11_0,hcz11_1,hcz11_2,hfz11_0,hfz11_1,hfz11_2⟩:=cB3 BK666.out)|((with_reducible refine zJ (f:=17) rfl ?_);refine yj (some 5) rfl rfl Try.func17 (by kernel_rfl) rfl #[.agg #[.int .i64 a0_0,.int .i64 a0_1,.string a0_2]] rfl (by (try simp only [zt,zu,zv]);first|done|rfl|(simp only [zw,zx];rfl)|(simp only [yr,ys,zV,zW];rfl)) ?_;(with_reducible refine (Fh.calls k  a0_0 a0_1 a0_2 false _ A2.out).mono ?_);rintro e w12 ⟨rfl,hb⟩;refine ⟨_,rfl,?_⟩;replace BK666:=zh (cD BK666.out (by (with_reducible repeat first|apply ze|apply zf|apply zg);exact BK666.out) hb);replace HB:=zh (zC (by repeat (with_reducible first|exact HB.out|apply za|apply zb|apply zc|refine zd ?_ GE666.out)) hb);(try clear hb);(try clear hb2);(try clear hk);(try clear hi)))
 go_ret2
 exact ⟨_,by first|rfl|(simp [yt,yu] <;> rfl)|(simp [*,yt,yu] <;> rfl),by first|exact Kd.R_nil _ _ _ _ _|exact Kd.N_nil _ _ _ _ _|exact Kd.V_nil _ _ _ _ _|exact Kd.Q_nil _ _ _ _ _|exact Kd.S_nil _ _ _ _ _,by repeat (with_reducible first|exact HB.out|apply za|apply zb|apply zc|refine zd ?_ GE666.out)⟩


def F03.f (k : Nat) (a0_0 : Int) (a0_1 : Int) (a0_2 : ByteArray) : Option (List Int×Int):=(Fo.f k a0_0 a0_1 a0_2).bind fun t672=>(if t672=true then ((Fr.f k a0_0 a0_1 a0_2).bind fun t673=>(if t673.size≤9223372036854775807 then (some ((bytesOf t673),0)) else (none))) else (some ((([] : List Int)),1)))
theorem F03.mono : ∀ a0 a1 a2 k,LeO (F03.f k a0 a1 a2) (F03.f (k+1) a0 a1 a2):=by
 intro a0 a1 a2 k;unfold F03.f
 repeat' first|(with_reducible first|exact Fo.mono _ _ _ _|exact Fr.mono _ _ _ _|exact zQ _|exact zN _|refine zP ?_ ?_|refine zO ?_ (fun _=>?_))|refine zP ?_ ?_|refine zO ?_ (fun _=>?_)
set_option maxHeartbeats 8000000 in
set_option maxRecDepth 100000 in
theorem F03.calls (k : Nat) (a0_0 : Int) (a0_1 : Int) (a0_2 : ByteArray) (r1 : List Int) (r2 : Int) (w : World) (h : F03.f k a0_0 a0_1 a0_2=some (r1,r2)) :
  Calls Try.prog 16 #[.agg #[.int .i64 a0_0,.int .i64 a0_1,.string a0_2]] w fun e w' => ∃ v0_ : Value,e = .returned (.tuple #[v0_,.int .i64 r2])∧Kd.V (Kd.int .u8) 5 w' w.heap.size (fun k_=>(w.heap.size≤k_)) v0_ r1∧Below w.heap.size w w':=by
 have hu44:=Try.underlying44;have HB:=zh (Below.refl w.heap.size w);have H : ((Fo.f k a0_0 a0_1 a0_2).bind fun t672=>(if t672=true then ((Fr.f k a0_0 a0_1 a0_2).bind fun t673=>(if t673.size≤9223372036854775807 then (some ((bytesOf t673),0)) else (none))) else (some ((([] : List Int)),1))))=some (r1,r2):=h;clear h;replace H:=zT.mp H;obtain ⟨t672,A20,H⟩:=H;replace H : (if t672=true then ((Fr.f k a0_0 a0_1 a0_2).bind fun t673=>(if t673.size≤9223372036854775807 then (some ((bytesOf t673),0)) else (none))) else (some ((([] : List Int)),1)))=some (r1,r2):=H;have A2:=zh A20;clear A20
 by_cases c3 : t672=true
 ·
  subst c3
  have H1 : ((Fr.f k a0_0 a0_1 a0_2).bind fun t673=>(if t673.size≤9223372036854775807 then (some ((bytesOf t673),0)) else (none)))=some (r1,r2):=by rw [if_pos rfl] at H;exact H
  clear H;have H:=H1;clear H1;replace H:=zT.mp H;obtain ⟨t673,A40,H⟩:=H;replace H : (if t673.size≤9223372036854775807 then (some ((bytesOf t673),0)) else (none))=some (r1,r2):=H;have A4:=zh A40;clear A40
  by_cases c5 : t673.size≤9223372036854775807
  ·
   rw [if_pos c5] at H
   have c5b0:=eq_true c5;have c5b1 : decide (t673.size≤9223372036854775807)=true:=decide_eq_true c5
   try have c5b2 : (9223372036854775807<t673.size)=False:=eq_false (Nat.not_lt.2 c5)
   clear c5;obtain ⟨y674,hy674⟩ : ∃ y_ : List Int,y_=(bytesOf t673):=⟨_,rfl⟩;replace H : (some (y674,0))=some (r1,r2):=by first|(rw [hy674];with_reducible exact H)|(have H2_:=(Option.bind_some _ _).symm.trans H;rw [hy674];with_reducible exact H2_)|(have H2_:=(Option.bind_some _ _).symm.trans H;with_reducible exact H2_)|with_reducible exact H|(rw [hy674];exact H)|exact H
   have Ny674:=zh hy674;clear hy674;simp only [Option.some.injEq,Prod.mk.injEq] at H;obtain ⟨rfl,rfl⟩:=H
   go_enter Try.func16,Try.ntmps16
   go_wp2_with (first|((with_reducible refine zK (N:=1) rfl ?_);refine zI ?hg (N:=1) ?hd (cs:=#[.int .i64 a0_0,.int .i64 a0_1,.string a0_2]) (t:=44) ?hr ?_;(case hd=>rfl);(case hg=>rfl);(case hr=>go_simp <;> rfl);intro gb671 hg w6 hbox hb;have BK671:=zh (hbox);have hH_:=cH (by repeat (with_reducible first|exact HB.out|apply za|apply zb|apply zc)) hb hg;have GW671:=zh hH_.1;have GE671:=GW671;replace HB:=zh hH_.2;clear hb hbox hg hH_;obtain ⟨hcz7_0,hcz7_1,hcz7_2,hfz7_0,hfz7_1,hfz7_2⟩:=cB3 BK671.out)|((with_reducible refine zJ (f:=36) rfl ?_);refine yj (some 5) rfl rfl Try.func36 (by kernel_rfl) rfl #[.agg #[.int .i64 a0_0,.int .i64 a0_1,.string a0_2]] rfl (by (try simp only [zt,zu,zv]);first|done|rfl|(simp only [zw,zx];rfl)|(simp only [yr,ys,zV,zW];rfl)) ?_;(with_reducible refine (Fo.calls k  a0_0 a0_1 a0_2 true _ A2.out).mono ?_);rintro e w8 ⟨rfl,hb⟩;refine ⟨_,rfl,?_⟩;replace BK671:=zh (cD BK671.out (by (with_reducible repeat first|apply ze|apply zf|apply zg);exact BK671.out) hb);replace HB:=zh (zC (by repeat (with_reducible first|exact HB.out|apply za|apply zb|apply zc|refine zd ?_ GE671.out)) hb);(try clear hb);(try clear hb2);(try clear hk);(try clear hi);obtain ⟨hcz9_0,hcz9_1,hcz9_2,hfz9_0,hfz9_1,hfz9_2⟩:=cB3 BK671.out)|((with_reducible refine zJ (f:=37) rfl ?_);refine yj (some 9) rfl rfl Try.func37 (by kernel_rfl) rfl #[.agg #[.int .i64 a0_0,.int .i64 a0_1,.string a0_2]] rfl (by (try simp only [zt,zu,zv]);first|done|rfl|(simp only [zw,zx];rfl)|(simp only [yr,ys,zV,zW];rfl)) ?_;(with_reducible refine (Fr.calls k  a0_0 a0_1 a0_2 t673 _ A4.out).mono ?_);rintro e w10 ⟨rfl,hb⟩;refine ⟨_,rfl,?_⟩;replace BK671:=zh (cD BK671.out (by (with_reducible repeat first|apply ze|apply zf|apply zg);exact BK671.out) hb);replace HB:=zh (zC (by repeat (with_reducible first|exact HB.out|apply za|apply zb|apply zc|refine zd ?_ GE671.out)) hb);(try clear hb);(try clear hb2);(try clear hk);(try clear hi))|((with_reducible refine zK (N:=10) rfl ?_);refine conv_event (base:=w10.heap.size) ?hg (N:=10) ?hd 9 22 5 t673 rfl ?hx Try.underlying9 Try.underlying22 Try.underlying5 (zy (by first|(with_reducible assumption)|assumption)) ?_;(case hd=>rfl);(case hg=>rfl);(case hx=>first|(go_simp;done)|(go_simp;rfl)|rfl);intro v675 w11 ho12 hb;(first|rw [← Ny674.out] at ho12|(simp only [Int.reduceToNat] at ho12;rw [← Ny674.out] at ho12));have HO676:=zh (Kd.V_lower (Kd.V_mono (ok':=fun k_=>(w.heap.size≤k_)∧k_≠gb671) ho12 (fun k_ hk_=>⟨(Nat.le_trans (zB (by repeat (with_reducible first|exact HB.out|apply za|apply zb|apply zc|refine zd ?_ GE671.out))) hk_),(Kd.freshB (g:=gb671) (o:=.cells #[.int .i64 a0_0,.int .i64 a0_1,.string a0_2] 44 (0,0)) (by (with_reducible repeat first|apply ze|apply zf|apply zg);exact BK671.out) k_ hk_)⟩)) (zB (by repeat (with_reducible first|exact HB.out|apply za|apply zb|apply zc|refine zd ?_ GE671.out))));replace BK671:=zh (cD BK671.out (by (with_reducible repeat first|apply ze|apply zf|apply zg);exact BK671.out) hb);replace HB:=zh (zC (by repeat (with_reducible first|exact HB.out|apply za|apply zb|apply zc|refine zd ?_ GE671.out)) hb);clear hb ho12))
   go_ret2
   exact ⟨_,by first|rfl|(simp [yt,yu] <;> rfl)|(simp [*,yt,yu] <;> rfl),by (with_reducible repeat (first|apply Kd.V_alloc|apply Kd.V_drewN|apply Kd.V_drew));exact Kd.V_mono HO676.out (fun _ hk=>hk.1),by repeat (with_reducible first|exact HB.out|apply za|apply zb|apply zc|refine zd ?_ GE671.out)⟩
  rw [if_neg c5] at H;exact absurd H (by simp)
 replace c3:=yb.mpr c3;subst c3;have H1 : (some ((([] : List Int)),1))=some (r1,r2):=by rw [if_neg (show ¬ (false=true) by decide)] at H;exact H
 clear H;have H:=H1;clear H1;obtain ⟨y677,hy677⟩ : ∃ y_ : List Int,y_=(([] : List Int)):=⟨_,rfl⟩;replace H : (some (y677,1))=some (r1,r2):=by first|(rw [hy677];with_reducible exact H)|(have H2_:=(Option.bind_some _ _).symm.trans H;rw [hy677];with_reducible exact H2_)|(have H2_:=(Option.bind_some _ _).symm.trans H;with_reducible exact H2_)|with_reducible exact H|(rw [hy677];exact H)|exact H
 have Ny677:=zh hy677;clear hy677;simp only [Option.some.injEq,Prod.mk.injEq] at H;obtain ⟨rfl,rfl⟩:=H
 go_enter Try.func16,Try.ntmps16
 go_wp2_with (first|((with_reducible refine zK (N:=1) rfl ?_);refine zI ?hg (N:=1) ?hd (cs:=#[.int .i64 a0_0,.int .i64 a0_1,.string a0_2]) (t:=44) ?hr ?_;(case hd=>rfl);(case hg=>rfl);(case hr=>go_simp <;> rfl);intro gb671 hg w13 hbox hb;have BK671:=zh (hbox);have hH_:=cH (by repeat (with_reducible first|exact HB.out|apply za|apply zb|apply zc)) hb hg;have GW671:=zh hH_.1;have GE671:=GW671;replace HB:=zh hH_.2;clear hb hbox hg hH_;obtain ⟨hcz14_0,hcz14_1,hcz14_2,hfz14_0,hfz14_1,hfz14_2⟩:=cB3 BK671.out)|((with_reducible refine zJ (f:=36) rfl ?_);refine yj (some 5) rfl rfl Try.func36 (by kernel_rfl) rfl #[.agg #[.int .i64 a0_0,.int .i64 a0_1,.string a0_2]] rfl (by (try simp only [zt,zu,zv]);first|done|rfl|(simp only [zw,zx];rfl)|(simp only [yr,ys,zV,zW];rfl)) ?_;(with_reducible refine (Fo.calls k  a0_0 a0_1 a0_2 false _ A2.out).mono ?_);rintro e w15 ⟨rfl,hb⟩;refine ⟨_,rfl,?_⟩;replace BK671:=zh (cD BK671.out (by (with_reducible repeat first|apply ze|apply zf|apply zg);exact BK671.out) hb);replace HB:=zh (zC (by repeat (with_reducible first|exact HB.out|apply za|apply zb|apply zc|refine zd ?_ GE671.out)) hb);(try clear hb);(try clear hb2);(try clear hk);(try clear hi))|((with_reducible refine zK (N:=7) rfl ?_);refine Kd.R_lit (Kd.int .u8) _ 5 ?hg (N:=7) ?hd (xs:=([] : List Int)) (inner:=[]) (ok:=fun _=>True) (okp:=fun _=>True) ?hr ?hp (fun _ hk=>hk) trivial (Below.refl _ _) (ye _) (by simp) ?_;(case hd=>rfl);(case hg=>rfl);(case hr=>go_simp <;> rfl);(case hp=>exact (Reps.none _ _));intro v678 w16 ho17 hb hg_ hnew_;clear hg_ hnew_;(first|rw [← Ny677.out] at ho17|(simp only [Int.reduceToNat] at ho17;rw [← Ny677.out] at ho17));have HO679:=zh (yy (Kd.R_newM (M:=fun k_=>(w.heap.size≤k_)) ho17 (zB (by repeat (with_reducible first|exact HB.out|apply za|apply zb|apply zc|refine zd ?_ GE671.out))) (fun k_ h_=>h_)) (zB (by repeat (with_reducible first|exact HB.out|apply za|apply zb|apply zc|refine zd ?_ GE671.out))));replace BK671:=zh (cD BK671.out (by (with_reducible repeat first|apply ze|apply zf|apply zg);exact BK671.out) hb);replace HB:=zh (zC (by repeat (with_reducible first|exact HB.out|apply za|apply zb|apply zc|refine zd ?_ GE671.out)) hb);clear hb ho17))
 go_ret2
 exact ⟨_,by first|rfl|(simp [yt,yu] <;> rfl)|(simp [*,yt,yu] <;> rfl),Kd.R_V (by (with_reducible repeat (first|apply zm|apply zn|apply zo));exact zM HO679.out (fun _ hk=>hk.1)),by repeat (with_reducible first|exact HB.out|apply za|apply zb|apply zc|refine zd ?_ GE671.out)⟩


def Ft.f (k : Nat) (l0 : List Int) : Option (Int×Int×ByteArray×Int):=if (l0.length : Int) > 65536 then (some (0,0,(⟨#[]⟩ : ByteArray),2)) else ((F8.f k (strOfNums l0) false).bind fun bt682=>(if bt682.2.2.2.2=true then (some (0,0,(⟨#[]⟩ : ByteArray),3)) else (if bt682.2.2.2.1.toList=([] : List UInt8) then ((Fh.f k bt682.1 bt682.2.1 bt682.2.2.1).bind fun t688=>(if t688=true then (some (bt682.1,bt682.2.1,bt682.2.2.1,0)) else (some (0,0,(⟨#[]⟩ : ByteArray),3)))) else (some (0,0,(⟨#[]⟩ : ByteArray),3)))))
theorem Ft.mono : ∀ a0 k,LeO (Ft.f k a0) (Ft.f (k+1) a0):=by
 intro a0 k;unfold Ft.f
 repeat' first|(with_reducible first|exact Fh.mono _ _ _ _|exact F8.mono _ _ _|exact zQ _|exact zN _|refine zP ?_ ?_|refine zO ?_ (fun _=>?_))|refine zP ?_ ?_|refine zO ?_ (fun _=>?_)
set_option maxHeartbeats 8000000 in
set_option maxRecDepth 100000 in
theorem Ft.calls (k : Nat) (A0 : Option Addr) (c0 : Nat) (l0 : List Int) (r1 : Int) (r2 : Int) (r3 : ByteArray) (r4 : Int) (w : World) (hr0 : Kd.C (Kd.int .u8) w A0 l0.length l0) (hc0 : l0.length≤c0) (h : Ft.f k l0=some (r1,r2,r3,r4)) :
  Calls Try.prog 18 #[.slice A0 l0.length c0] w fun e w' => e = .returned (.tuple #[.agg #[.int .i64 r1,.int .i64 r2,.string r3],.int .i64 r4])∧Below w.heap.size w w':=by
 have hu44:=Try.underlying44;have hu73:=Try.underlying73;have HR0:=zh hr0;have HC0:=zh hc0;clear hr0 hc0;have HB:=zh (Below.refl w.heap.size w);have H : (if (l0.length : Int) > 65536 then (some (0,0,(⟨#[]⟩ : ByteArray),2)) else ((F8.f k (strOfNums l0) false).bind fun bt682=>(if bt682.2.2.2.2=true then (some (0,0,(⟨#[]⟩ : ByteArray),3)) else (if bt682.2.2.2.1.toList=([] : List UInt8) then ((Fh.f k bt682.1 bt682.2.1 bt682.2.2.1).bind fun t688=>(if t688=true then (some (bt682.1,bt682.2.1,bt682.2.2.1,0)) else (some (0,0,(⟨#[]⟩ : ByteArray),3)))) else (some (0,0,(⟨#[]⟩ : ByteArray),3))))))=some (r1,r2,r3,r4):=h;clear h
 by_cases c2 : (l0.length : Int) > 65536
 ·
  rw [if_pos c2] at H
  have c2b0 : decide (65536<(l0.length : Int))=true:=decide_eq_true c2;have c2b1 : decide (65536<l0.length)=true:=decide_eq_true (by omega);clear c2;simp only [Option.some.injEq,Prod.mk.injEq] at H;obtain ⟨rfl,rfl,rfl,rfl⟩:=H
  go_enter Try.func18,Try.ntmps18
  go_wp2_with (first|((with_reducible refine zK (N:=2) rfl ?_);refine zI ?hg (N:=2) ?hd (cs:=#[.int .i64 0,.int .i64 0,.string (⟨#[]⟩ : ByteArray)]) (t:=44) ?hr ?_;(case hd=>rfl);(case hg=>rfl);(case hr=>go_simp <;> rfl);intro gb680 hg w3 hbox hb;have BK680:=zh (hbox);have hH_:=cH (by repeat (with_reducible first|exact HB.out|apply za|apply zb|apply zc)) hb hg;have GW680:=zh hH_.1;have GE680:=GW680;replace HB:=zh hH_.2;clear hb hbox hg hH_;obtain ⟨hcz4_0,hcz4_1,hcz4_2,hfz4_0,hfz4_1,hfz4_2⟩:=cB3 BK680.out))
  refine bodyPost_ret (results_ct rfl _ _ gb680 44 #[.int .i64 0,.int .i64 0,.string (⟨#[]⟩ : ByteArray)] (0,0) _ rfl (by (with_reducible repeat first|apply ze|apply zf|apply zg);refine zL (cs:=#[.int .i64 0,.int .i64 0,.string (⟨#[]⟩ : ByteArray)]) ?_ 2 _ rfl;(with_reducible repeat first|apply ze|apply zf|apply zg);refine zL (cs:=#[.int .i64 0,.int .i64 0,.string (⟨#[]⟩ : ByteArray)]) ?_ 1 _ rfl;(with_reducible repeat first|apply ze|apply zf|apply zg);refine zL (cs:=#[.int .i64 0,.int .i64 0,.string (⟨#[]⟩ : ByteArray)]) ?_ 0 _ rfl;(with_reducible repeat first|apply ze|apply zf|apply zg);exact BK680.out) Try.underlying44 rfl (by kernel_rfl)) rfl ?_;exact ⟨by first|rfl|(simp [yt,yu] <;> rfl)|(simp [*,yt,yu] <;> rfl),by repeat (with_reducible first|exact HB.out|apply za|apply zb|apply zc|refine zd ?_ GE680.out)⟩
 rw [if_neg c2] at H;have c2b0 : decide (65536<(l0.length : Int))=false:=decide_eq_false c2;have c2b1 : decide (65536<l0.length)=false:=decide_eq_false (by omega);clear c2;replace H:=zT.mp H;obtain ⟨⟨t682,t683,t684,t685,t686⟩,A50,H⟩:=H;replace H : (if t686=true then (some (0,0,(⟨#[]⟩ : ByteArray),3)) else (if t685.toList=([] : List UInt8) then ((Fh.f k t682 t683 t684).bind fun t688=>(if t688=true then (some (t682,t683,t684,0)) else (some (0,0,(⟨#[]⟩ : ByteArray),3)))) else (some (0,0,(⟨#[]⟩ : ByteArray),3))))=some (r1,r2,r3,r4):=H;have A5:=zh A50;clear A50
 by_cases c6 : t686=true
 ·
  subst c6
  have H1 : (some (0,0,(⟨#[]⟩ : ByteArray),3))=some (r1,r2,r3,r4):=by rw [if_pos rfl] at H;exact H
  clear H;have H:=H1;clear H1;simp only [Option.some.injEq,Prod.mk.injEq] at H;obtain ⟨rfl,rfl,rfl,rfl⟩:=H
  go_enter Try.func18,Try.ntmps18
  go_wp2_with (first|((with_reducible refine zK (N:=2) rfl ?_);refine zI ?hg (N:=2) ?hd (cs:=#[.int .i64 0,.int .i64 0,.string (⟨#[]⟩ : ByteArray)]) (t:=44) ?hr ?_;(case hd=>rfl);(case hg=>rfl);(case hr=>go_simp <;> rfl);intro gb680 hg w7 hbox hb;have BK680:=zh (hbox);have hH_:=cH (by repeat (with_reducible first|exact HB.out|apply za|apply zb|apply zc)) hb hg;have GW680:=zh hH_.1;have GE680:=GW680;replace HB:=zh hH_.2;clear hb hbox hg hH_;have hcv8:=Kd.C_string (P:=Try.prog) (A:=A0) (c:=c0) Try.underlying22 Try.underlying5 Try.underlying9 (Kd.C_below HR0.out HB.out))|((with_reducible refine zK (N:=13) rfl ?_);refine zI ?hg (N:=13) ?hd (cs:=#[.string (strOfNums l0),.bool false]) (t:=73) ?hr ?_;(case hd=>rfl);(case hg=>rfl);(case hr=>go_simp <;> rfl);intro gb681 hg w9 hbox hb;have BK681:=zh (hbox);have hH_:=cH (by repeat (with_reducible first|exact HB.out|apply za|apply zb|apply zc|refine zd ?_ GE680.out)) hb hg;have GW681:=zh hH_.1;have GE681:=GW681;replace HB:=zh hH_.2;have NB680_681:=zh ((by rw [hg];exact yc (yi (g:=gb680) (o:=.cells #[.int .i64 0,.int .i64 0,.string (⟨#[]⟩ : ByteArray)] 44 (0,0)) (by (with_reducible repeat first|apply ze|apply zf|apply zg);exact BK680.out)) : gb680≠gb681));have NB681_680:=zh NB680_681.out.symm;replace BK680:=zh (cD BK680.out (by (with_reducible repeat first|apply ze|apply zf|apply zg);exact BK680.out) hb);clear hb hbox hg hH_;have HI681:=zh (show IsS73 w w9 gb681 (strOfNums l0) false from ⟨BK681.out,GE681.out⟩))|((with_reducible refine zJ (f:=39) rfl ?_);refine yj (some 15) rfl rfl Try.func39 (by kernel_rfl) rfl #[.pointer (some ⟨gb681,0,none⟩)] rfl (by (try simp only [zt,zu,zv]);first|done|rfl|(simp only [zw,zx];rfl)|(simp only [yr,ys,zV,zW];rfl)) ?_;(with_reducible refine (F8.calls k  gb681 (strOfNums l0) false t682 t683 t684 t685 true w _ ?side1 ?side2 A5.out).mono ?_);(case side1=>repeat (with_reducible first|exact HI681.out|apply IsS73.alloc|apply IsS73.drewN|apply IsS73.drew|apply IsS73.set_0|apply IsS73.set_1|refine IsS73.far ?_ NB681_680.out _));(case side2=>repeat (with_reducible first|exact HB.out|apply za|apply zb|apply zc|refine zd ?_ (IsS73.ge HI681.out)|refine zd ?_ GE680.out));rintro e w10 ⟨rfl,hi,hb,hk⟩;refine ⟨_,rfl,?_⟩;replace BK680:=zh (KeepBut.blk hk (g':=gb680) (o:=.cells #[.int .i64 0,.int .i64 0,.string (⟨#[]⟩ : ByteArray)] 44 (0,0)) (by (with_reducible repeat first|apply ze|apply zf|apply zg);exact BK680.out) NB680_681.out (by simp));replace HB:=zh (hb);replace BK681:=zh ((show _∧_ from hi).1);clear HI681;(try clear hb);(try clear hb2);(try clear hk);(try clear hi))|((with_reducible refine zK (N:=5) rfl ?_);refine zI ?hg (N:=5) ?hd (cs:=#[.int .i64 0,.int .i64 0,.string (⟨#[]⟩ : ByteArray)]) (t:=44) ?hr ?_;(case hd=>rfl);(case hg=>rfl);(case hr=>go_simp <;> rfl);intro gb687 hg w11 hbox hb;have BK687:=zh (hbox);have hH_:=cH (by repeat (with_reducible first|exact HB.out|apply za|apply zb|apply zc|refine zd ?_ GE680.out|refine zd ?_ GE681.out)) hb hg;have GW687:=zh hH_.1;have GE687:=GW687;replace HB:=zh hH_.2;have NB680_687:=zh ((by rw [hg];exact yc (yi (g:=gb680) (o:=.cells #[.int .i64 0,.int .i64 0,.string (⟨#[]⟩ : ByteArray)] 44 (0,0)) (by (with_reducible repeat first|apply ze|apply zf|apply zg);exact BK680.out)) : gb680≠gb687));have NB687_680:=zh NB680_687.out.symm;replace BK680:=zh (cD BK680.out (by (with_reducible repeat first|apply ze|apply zf|apply zg);exact BK680.out) hb);have NB681_687:=zh ((by rw [hg];exact yc (yi (g:=gb681) (o:=.cells #[.string t685,.bool true] 73 (0,0)) (by (with_reducible repeat first|apply ze|apply zf|apply zg);exact BK681.out)) : gb681≠gb687));have NB687_681:=zh NB681_687.out.symm;replace BK681:=zh (cD BK681.out (by (with_reducible repeat first|apply ze|apply zf|apply zg);exact BK681.out) hb);clear hb hbox hg hH_;have hnb12:=NB687_680.out;have hnc12:=NB680_687.out;have hnb13:=NB687_681.out;have hnc13:=NB681_687.out;obtain ⟨hcz14_0,hcz14_1,hcz14_2,hfz14_0,hfz14_1,hfz14_2⟩:=cB3 BK687.out;have hnb15:=NB681_680.out;have hnc15:=NB680_681.out;obtain ⟨hcz16_0,hcz16_1,hfz16_0,hfz16_1⟩:=cB2 BK681.out;obtain ⟨hcz17_0,hcz17_1,hcz17_2,hfz17_0,hfz17_1,hfz17_2⟩:=cB3 BK680.out))
  refine bodyPost_ret (results_ct rfl _ _ gb680 44 #[.int .i64 0,.int .i64 0,.string (⟨#[]⟩ : ByteArray)] (0,0) _ rfl (by (with_reducible repeat first|apply ze|apply zf|apply zg);refine zL (cs:=#[.int .i64 0,.int .i64 0,.string (⟨#[]⟩ : ByteArray)]) ?_ 2 _ rfl;(with_reducible repeat first|apply ze|apply zf|apply zg);refine zL (cs:=#[.int .i64 0,.int .i64 0,.string (⟨#[]⟩ : ByteArray)]) ?_ 1 _ rfl;(with_reducible repeat first|apply ze|apply zf|apply zg);refine zL (cs:=#[.int .i64 0,.int .i64 0,.string (⟨#[]⟩ : ByteArray)]) ?_ 0 _ rfl;(with_reducible repeat first|apply ze|apply zf|apply zg);refine cS3 ?_ NB680_687.out;(with_reducible repeat first|apply ze|apply zf|apply zg);exact BK680.out) Try.underlying44 rfl (by kernel_rfl)) rfl ?_;exact ⟨by first|rfl|(simp [yt,yu] <;> rfl)|(simp [*,yt,yu] <;> rfl),by repeat (with_reducible first|exact HB.out|apply za|apply zb|apply zc|refine zd ?_ GE680.out|refine zd ?_ GE681.out|refine zd ?_ GE687.out)⟩
 replace c6:=yb.mpr c6;subst c6;have H1 : (if t685.toList=([] : List UInt8) then ((Fh.f k t682 t683 t684).bind fun t688=>(if t688=true then (some (t682,t683,t684,0)) else (some (0,0,(⟨#[]⟩ : ByteArray),3)))) else (some (0,0,(⟨#[]⟩ : ByteArray),3)))=some (r1,r2,r3,r4):=by rw [if_neg (show ¬ (false=true) by decide)] at H;exact H
 clear H;have H:=H1;clear H1
 by_cases c18 : t685.toList=([] : List UInt8)
 ·
  rw [if_pos c18] at H
  have c18b0 : (t685.toList == ([] : List UInt8))=true:=ya.mpr c18;have c18b1 : (t685.toList != ([] : List UInt8))=false:=zX.mpr c18;clear c18;replace H:=zT.mp H;obtain ⟨t688,A190,H⟩:=H;replace H : (if t688=true then (some (t682,t683,t684,0)) else (some (0,0,(⟨#[]⟩ : ByteArray),3)))=some (r1,r2,r3,r4):=H;have A19:=zh A190;clear A190
  by_cases c20 : t688=true
  ·
   subst c20
   have H1 : (some (t682,t683,t684,0))=some (r1,r2,r3,r4):=by rw [if_pos rfl] at H;exact H
   clear H;have H:=H1;clear H1;simp only [Option.some.injEq,Prod.mk.injEq] at H;obtain ⟨rfl,rfl,rfl,rfl⟩:=H
   go_enter Try.func18,Try.ntmps18
   go_wp2_with (first|((with_reducible refine zK (N:=2) rfl ?_);refine zI ?hg (N:=2) ?hd (cs:=#[.int .i64 0,.int .i64 0,.string (⟨#[]⟩ : ByteArray)]) (t:=44) ?hr ?_;(case hd=>rfl);(case hg=>rfl);(case hr=>go_simp <;> rfl);intro gb680 hg w21 hbox hb;have BK680:=zh (hbox);have hH_:=cH (by repeat (with_reducible first|exact HB.out|apply za|apply zb|apply zc)) hb hg;have GW680:=zh hH_.1;have GE680:=GW680;replace HB:=zh hH_.2;clear hb hbox hg hH_;have hcv22:=Kd.C_string (P:=Try.prog) (A:=A0) (c:=c0) Try.underlying22 Try.underlying5 Try.underlying9 (Kd.C_below HR0.out HB.out))|((with_reducible refine zK (N:=13) rfl ?_);refine zI ?hg (N:=13) ?hd (cs:=#[.string (strOfNums l0),.bool false]) (t:=73) ?hr ?_;(case hd=>rfl);(case hg=>rfl);(case hr=>go_simp <;> rfl);intro gb681 hg w23 hbox hb;have BK681:=zh (hbox);have hH_:=cH (by repeat (with_reducible first|exact HB.out|apply za|apply zb|apply zc|refine zd ?_ GE680.out)) hb hg;have GW681:=zh hH_.1;have GE681:=GW681;replace HB:=zh hH_.2;have NB680_681:=zh ((by rw [hg];exact yc (yi (g:=gb680) (o:=.cells #[.int .i64 0,.int .i64 0,.string (⟨#[]⟩ : ByteArray)] 44 (0,0)) (by (with_reducible repeat first|apply ze|apply zf|apply zg);exact BK680.out)) : gb680≠gb681));have NB681_680:=zh NB680_681.out.symm;replace BK680:=zh (cD BK680.out (by (with_reducible repeat first|apply ze|apply zf|apply zg);exact BK680.out) hb);clear hb hbox hg hH_;have HI681:=zh (show IsS73 w w23 gb681 (strOfNums l0) false from ⟨BK681.out,GE681.out⟩))|((with_reducible refine zJ (f:=39) rfl ?_);refine yj (some 15) rfl rfl Try.func39 (by kernel_rfl) rfl #[.pointer (some ⟨gb681,0,none⟩)] rfl (by (try simp only [zt,zu,zv]);first|done|rfl|(simp only [zw,zx];rfl)|(simp only [yr,ys,zV,zW];rfl)) ?_;(with_reducible refine (F8.calls k  gb681 (strOfNums l0) false t682 t683 t684 t685 false w _ ?side1 ?side2 A5.out).mono ?_);(case side1=>repeat (with_reducible first|exact HI681.out|apply IsS73.alloc|apply IsS73.drewN|apply IsS73.drew|apply IsS73.set_0|apply IsS73.set_1|refine IsS73.far ?_ NB681_680.out _));(case side2=>repeat (with_reducible first|exact HB.out|apply za|apply zb|apply zc|refine zd ?_ (IsS73.ge HI681.out)|refine zd ?_ GE680.out));rintro e w24 ⟨rfl,hi,hb,hk⟩;refine ⟨_,rfl,?_⟩;replace BK680:=zh (KeepBut.blk hk (g':=gb680) (o:=.cells #[.int .i64 0,.int .i64 0,.string (⟨#[]⟩ : ByteArray)] 44 (0,0)) (by (with_reducible repeat first|apply ze|apply zf|apply zg);exact BK680.out) NB680_681.out (by simp));replace HB:=zh (hb);replace BK681:=zh ((show _∧_ from hi).1);clear HI681;(try clear hb);(try clear hb2);(try clear hk);(try clear hi))|((with_reducible refine zK (N:=5) rfl ?_);refine zI ?hg (N:=5) ?hd (cs:=#[.int .i64 0,.int .i64 0,.string (⟨#[]⟩ : ByteArray)]) (t:=44) ?hr ?_;(case hd=>rfl);(case hg=>rfl);(case hr=>go_simp <;> rfl);intro gb687 hg w25 hbox hb;have BK687:=zh (hbox);have hH_:=cH (by repeat (with_reducible first|exact HB.out|apply za|apply zb|apply zc|refine zd ?_ GE680.out|refine zd ?_ GE681.out)) hb hg;have GW687:=zh hH_.1;have GE687:=GW687;replace HB:=zh hH_.2;have NB680_687:=zh ((by rw [hg];exact yc (yi (g:=gb680) (o:=.cells #[.int .i64 0,.int .i64 0,.string (⟨#[]⟩ : ByteArray)] 44 (0,0)) (by (with_reducible repeat first|apply ze|apply zf|apply zg);exact BK680.out)) : gb680≠gb687));have NB687_680:=zh NB680_687.out.symm;replace BK680:=zh (cD BK680.out (by (with_reducible repeat first|apply ze|apply zf|apply zg);exact BK680.out) hb);have NB681_687:=zh ((by rw [hg];exact yc (yi (g:=gb681) (o:=.cells #[.string t685,.bool false] 73 (0,0)) (by (with_reducible repeat first|apply ze|apply zf|apply zg);exact BK681.out)) : gb681≠gb687));have NB687_681:=zh NB681_687.out.symm;replace BK681:=zh (cD BK681.out (by (with_reducible repeat first|apply ze|apply zf|apply zg);exact BK681.out) hb);clear hb hbox hg hH_;have hnb26:=NB687_680.out;have hnc26:=NB680_687.out;have hnb27:=NB687_681.out;have hnc27:=NB681_687.out;obtain ⟨hcz28_0,hcz28_1,hcz28_2,hfz28_0,hfz28_1,hfz28_2⟩:=cB3 BK687.out;have hnb29:=NB681_680.out;have hnc29:=NB680_681.out;obtain ⟨hcz30_0,hcz30_1,hfz30_0,hfz30_1⟩:=cB2 BK681.out)|(go_at_call 17;(with_reducible refine (Fh.calls k  t682 t683 t684 true _ A19.out).mono ?_);rintro e w31 ⟨rfl,hb⟩;replace BK680:=zh (cD BK680.out (by (with_reducible repeat first|apply ze|apply zf|apply zg);refine cS3 ?_ NB680_687.out;(with_reducible repeat first|apply ze|apply zf|apply zg);exact BK680.out) hb);replace BK681:=zh (cD BK681.out (by (with_reducible repeat first|apply ze|apply zf|apply zg);refine cS3 ?_ NB681_687.out;(with_reducible repeat first|apply ze|apply zf|apply zg);exact BK681.out) hb);replace BK687:=zh (zD (g:=gb687) (o:=.cells #[.int .i64 t682,.int .i64 t683,.string t684] 44 (0,0)) (by (with_reducible repeat first|apply ze|apply zf|apply zg);refine zL (cs:=#[.int .i64 t682,.int .i64 t683,.string (⟨#[]⟩ : ByteArray)]) ?_ 2 _ rfl;(with_reducible repeat first|apply ze|apply zf|apply zg);refine zL (cs:=#[.int .i64 t682,.int .i64 0,.string (⟨#[]⟩ : ByteArray)]) ?_ 1 _ rfl;(with_reducible repeat first|apply ze|apply zf|apply zg);refine zL (cs:=#[.int .i64 0,.int .i64 0,.string (⟨#[]⟩ : ByteArray)]) ?_ 0 _ rfl;(with_reducible repeat first|apply ze|apply zf|apply zg);exact BK687.out) hb);replace HB:=zh (zC (by repeat (with_reducible first|exact HB.out|apply za|apply zb|apply zc|refine zd ?_ GE680.out|refine zd ?_ GE681.out|refine zd ?_ GE687.out)) hb);(try clear hb);(try clear hb2);(try clear hk);(try clear hi);obtain ⟨hcz32_0,hcz32_1,hcz32_2,hfz32_0,hfz32_1,hfz32_2⟩:=cB3 BK687.out;obtain ⟨hcz33_0,hcz33_1,hcz33_2,hfz33_0,hfz33_1,hfz33_2⟩:=cB3 BK680.out))
   refine bodyPost_ret (results_ct rfl _ _ gb680 44 #[.int .i64 t682,.int .i64 t683,.string t684] (0,0) _ rfl (by (with_reducible repeat first|apply ze|apply zf|apply zg);refine zL (cs:=#[.int .i64 t682,.int .i64 t683,.string (⟨#[]⟩ : ByteArray)]) ?_ 2 _ rfl;(with_reducible repeat first|apply ze|apply zf|apply zg);refine zL (cs:=#[.int .i64 t682,.int .i64 0,.string (⟨#[]⟩ : ByteArray)]) ?_ 1 _ rfl;(with_reducible repeat first|apply ze|apply zf|apply zg);refine zL (cs:=#[.int .i64 0,.int .i64 0,.string (⟨#[]⟩ : ByteArray)]) ?_ 0 _ rfl;(with_reducible repeat first|apply ze|apply zf|apply zg);exact BK680.out) Try.underlying44 rfl (by kernel_rfl)) rfl ?_;exact ⟨by first|rfl|(simp [yt,yu] <;> rfl)|(simp [*,yt,yu] <;> rfl),by repeat (with_reducible first|exact HB.out|apply za|apply zb|apply zc|refine zd ?_ GE680.out|refine zd ?_ GE681.out|refine zd ?_ GE687.out)⟩
  replace c20:=yb.mpr c20;subst c20;have H1 : (some (0,0,(⟨#[]⟩ : ByteArray),3))=some (r1,r2,r3,r4):=by rw [if_neg (show ¬ (false=true) by decide)] at H;exact H
  clear H;have H:=H1;clear H1;simp only [Option.some.injEq,Prod.mk.injEq] at H;obtain ⟨rfl,rfl,rfl,rfl⟩:=H
  go_enter Try.func18,Try.ntmps18
  go_wp2_with (first|((with_reducible refine zK (N:=2) rfl ?_);refine zI ?hg (N:=2) ?hd (cs:=#[.int .i64 0,.int .i64 0,.string (⟨#[]⟩ : ByteArray)]) (t:=44) ?hr ?_;(case hd=>rfl);(case hg=>rfl);(case hr=>go_simp <;> rfl);intro gb680 hg w34 hbox hb;have BK680:=zh (hbox);have hH_:=cH (by repeat (with_reducible first|exact HB.out|apply za|apply zb|apply zc)) hb hg;have GW680:=zh hH_.1;have GE680:=GW680;replace HB:=zh hH_.2;clear hb hbox hg hH_;have hcv35:=Kd.C_string (P:=Try.prog) (A:=A0) (c:=c0) Try.underlying22 Try.underlying5 Try.underlying9 (Kd.C_below HR0.out HB.out))|((with_reducible refine zK (N:=13) rfl ?_);refine zI ?hg (N:=13) ?hd (cs:=#[.string (strOfNums l0),.bool false]) (t:=73) ?hr ?_;(case hd=>rfl);(case hg=>rfl);(case hr=>go_simp <;> rfl);intro gb681 hg w36 hbox hb;have BK681:=zh (hbox);have hH_:=cH (by repeat (with_reducible first|exact HB.out|apply za|apply zb|apply zc|refine zd ?_ GE680.out)) hb hg;have GW681:=zh hH_.1;have GE681:=GW681;replace HB:=zh hH_.2;have NB680_681:=zh ((by rw [hg];exact yc (yi (g:=gb680) (o:=.cells #[.int .i64 0,.int .i64 0,.string (⟨#[]⟩ : ByteArray)] 44 (0,0)) (by (with_reducible repeat first|apply ze|apply zf|apply zg);exact BK680.out)) : gb680≠gb681));have NB681_680:=zh NB680_681.out.symm;replace BK680:=zh (cD BK680.out (by (with_reducible repeat first|apply ze|apply zf|apply zg);exact BK680.out) hb);clear hb hbox hg hH_;have HI681:=zh (show IsS73 w w36 gb681 (strOfNums l0) false from ⟨BK681.out,GE681.out⟩))|((with_reducible refine zJ (f:=39) rfl ?_);refine yj (some 15) rfl rfl Try.func39 (by kernel_rfl) rfl #[.pointer (some ⟨gb681,0,none⟩)] rfl (by (try simp only [zt,zu,zv]);first|done|rfl|(simp only [zw,zx];rfl)|(simp only [yr,ys,zV,zW];rfl)) ?_;(with_reducible refine (F8.calls k  gb681 (strOfNums l0) false t682 t683 t684 t685 false w _ ?side1 ?side2 A5.out).mono ?_);(case side1=>repeat (with_reducible first|exact HI681.out|apply IsS73.alloc|apply IsS73.drewN|apply IsS73.drew|apply IsS73.set_0|apply IsS73.set_1|refine IsS73.far ?_ NB681_680.out _));(case side2=>repeat (with_reducible first|exact HB.out|apply za|apply zb|apply zc|refine zd ?_ (IsS73.ge HI681.out)|refine zd ?_ GE680.out));rintro e w37 ⟨rfl,hi,hb,hk⟩;refine ⟨_,rfl,?_⟩;replace BK680:=zh (KeepBut.blk hk (g':=gb680) (o:=.cells #[.int .i64 0,.int .i64 0,.string (⟨#[]⟩ : ByteArray)] 44 (0,0)) (by (with_reducible repeat first|apply ze|apply zf|apply zg);exact BK680.out) NB680_681.out (by simp));replace HB:=zh (hb);replace BK681:=zh ((show _∧_ from hi).1);clear HI681;(try clear hb);(try clear hb2);(try clear hk);(try clear hi))|((with_reducible refine zK (N:=5) rfl ?_);refine zI ?hg (N:=5) ?hd (cs:=#[.int .i64 0,.int .i64 0,.string (⟨#[]⟩ : ByteArray)]) (t:=44) ?hr ?_;(case hd=>rfl);(case hg=>rfl);(case hr=>go_simp <;> rfl);intro gb687 hg w38 hbox hb;have BK687:=zh (hbox);have hH_:=cH (by repeat (with_reducible first|exact HB.out|apply za|apply zb|apply zc|refine zd ?_ GE680.out|refine zd ?_ GE681.out)) hb hg;have GW687:=zh hH_.1;have GE687:=GW687;replace HB:=zh hH_.2;have NB680_687:=zh ((by rw [hg];exact yc (yi (g:=gb680) (o:=.cells #[.int .i64 0,.int .i64 0,.string (⟨#[]⟩ : ByteArray)] 44 (0,0)) (by (with_reducible repeat first|apply ze|apply zf|apply zg);exact BK680.out)) : gb680≠gb687));have NB687_680:=zh NB680_687.out.symm;replace BK680:=zh (cD BK680.out (by (with_reducible repeat first|apply ze|apply zf|apply zg);exact BK680.out) hb);have NB681_687:=zh ((by rw [hg];exact yc (yi (g:=gb681) (o:=.cells #[.string t685,.bool false] 73 (0,0)) (by (with_reducible repeat first|apply ze|apply zf|apply zg);exact BK681.out)) : gb681≠gb687));have NB687_681:=zh NB681_687.out.symm;replace BK681:=zh (cD BK681.out (by (with_reducible repeat first|apply ze|apply zf|apply zg);exact BK681.out) hb);clear hb hbox hg hH_;have hnb39:=NB687_680.out;have hnc39:=NB680_687.out;have hnb40:=NB687_681.out;have hnc40:=NB681_687.out;obtain ⟨hcz41_0,hcz41_1,hcz41_2,hfz41_0,hfz41_1,hfz41_2⟩:=cB3 BK687.out;have hnb42:=NB681_680.out;have hnc42:=NB680_681.out;obtain ⟨hcz43_0,hcz43_1,hfz43_0,hfz43_1⟩:=cB2 BK681.out)|(go_at_call 17;(with_reducible refine (Fh.calls k  t682 t683 t684 false _ A19.out).mono ?_);rintro e w44 ⟨rfl,hb⟩;replace BK680:=zh (cD BK680.out (by (with_reducible repeat first|apply ze|apply zf|apply zg);refine cS3 ?_ NB680_687.out;(with_reducible repeat first|apply ze|apply zf|apply zg);exact BK680.out) hb);replace BK681:=zh (cD BK681.out (by (with_reducible repeat first|apply ze|apply zf|apply zg);refine cS3 ?_ NB681_687.out;(with_reducible repeat first|apply ze|apply zf|apply zg);exact BK681.out) hb);replace BK687:=zh (zD (g:=gb687) (o:=.cells #[.int .i64 t682,.int .i64 t683,.string t684] 44 (0,0)) (by (with_reducible repeat first|apply ze|apply zf|apply zg);refine zL (cs:=#[.int .i64 t682,.int .i64 t683,.string (⟨#[]⟩ : ByteArray)]) ?_ 2 _ rfl;(with_reducible repeat first|apply ze|apply zf|apply zg);refine zL (cs:=#[.int .i64 t682,.int .i64 0,.string (⟨#[]⟩ : ByteArray)]) ?_ 1 _ rfl;(with_reducible repeat first|apply ze|apply zf|apply zg);refine zL (cs:=#[.int .i64 0,.int .i64 0,.string (⟨#[]⟩ : ByteArray)]) ?_ 0 _ rfl;(with_reducible repeat first|apply ze|apply zf|apply zg);exact BK687.out) hb);replace HB:=zh (zC (by repeat (with_reducible first|exact HB.out|apply za|apply zb|apply zc|refine zd ?_ GE680.out|refine zd ?_ GE681.out|refine zd ?_ GE687.out)) hb);(try clear hb);(try clear hb2);(try clear hk);(try clear hi);obtain ⟨hcz45_0,hcz45_1,hcz45_2,hfz45_0,hfz45_1,hfz45_2⟩:=cB3 BK680.out))
  refine bodyPost_ret (results_ct rfl _ _ gb680 44 #[.int .i64 0,.int .i64 0,.string (⟨#[]⟩ : ByteArray)] (0,0) _ rfl (by (with_reducible repeat first|apply ze|apply zf|apply zg);refine zL (cs:=#[.int .i64 0,.int .i64 0,.string (⟨#[]⟩ : ByteArray)]) ?_ 2 _ rfl;(with_reducible repeat first|apply ze|apply zf|apply zg);refine zL (cs:=#[.int .i64 0,.int .i64 0,.string (⟨#[]⟩ : ByteArray)]) ?_ 1 _ rfl;(with_reducible repeat first|apply ze|apply zf|apply zg);refine zL (cs:=#[.int .i64 0,.int .i64 0,.string (⟨#[]⟩ : ByteArray)]) ?_ 0 _ rfl;(with_reducible repeat first|apply ze|apply zf|apply zg);exact BK680.out) Try.underlying44 rfl (by kernel_rfl)) rfl ?_;exact ⟨by first|rfl|(simp [yt,yu] <;> rfl)|(simp [*,yt,yu] <;> rfl),by repeat (with_reducible first|exact HB.out|apply za|apply zb|apply zc|refine zd ?_ GE680.out|refine zd ?_ GE681.out|refine zd ?_ GE687.out)⟩
 rw [if_neg c18] at H;have c18b0 : (t685.toList == ([] : List UInt8))=false:=zY.mpr c18;have c18b1 : (t685.toList != ([] : List UInt8))=true:=zZ.mpr c18;simp only [Option.some.injEq,Prod.mk.injEq] at H;obtain ⟨rfl,rfl,rfl,rfl⟩:=H
 go_enter Try.func18,Try.ntmps18
 go_wp2_with (first|((with_reducible refine zK (N:=2) rfl ?_);refine zI ?hg (N:=2) ?hd (cs:=#[.int .i64 0,.int .i64 0,.string (⟨#[]⟩ : ByteArray)]) (t:=44) ?hr ?_;(case hd=>rfl);(case hg=>rfl);(case hr=>go_simp <;> rfl);intro gb680 hg w46 hbox hb;have BK680:=zh (hbox);have hH_:=cH (by repeat (with_reducible first|exact HB.out|apply za|apply zb|apply zc)) hb hg;have GW680:=zh hH_.1;have GE680:=GW680;replace HB:=zh hH_.2;clear hb hbox hg hH_;have hcv47:=Kd.C_string (P:=Try.prog) (A:=A0) (c:=c0) Try.underlying22 Try.underlying5 Try.underlying9 (Kd.C_below HR0.out HB.out))|((with_reducible refine zK (N:=13) rfl ?_);refine zI ?hg (N:=13) ?hd (cs:=#[.string (strOfNums l0),.bool false]) (t:=73) ?hr ?_;(case hd=>rfl);(case hg=>rfl);(case hr=>go_simp <;> rfl);intro gb681 hg w48 hbox hb;have BK681:=zh (hbox);have hH_:=cH (by repeat (with_reducible first|exact HB.out|apply za|apply zb|apply zc|refine zd ?_ GE680.out)) hb hg;have GW681:=zh hH_.1;have GE681:=GW681;replace HB:=zh hH_.2;have NB680_681:=zh ((by rw [hg];exact yc (yi (g:=gb680) (o:=.cells #[.int .i64 0,.int .i64 0,.string (⟨#[]⟩ : ByteArray)] 44 (0,0)) (by (with_reducible repeat first|apply ze|apply zf|apply zg);exact BK680.out)) : gb680≠gb681));have NB681_680:=zh NB680_681.out.symm;replace BK680:=zh (cD BK680.out (by (with_reducible repeat first|apply ze|apply zf|apply zg);exact BK680.out) hb);clear hb hbox hg hH_;have HI681:=zh (show IsS73 w w48 gb681 (strOfNums l0) false from ⟨BK681.out,GE681.out⟩))|((with_reducible refine zJ (f:=39) rfl ?_);refine yj (some 15) rfl rfl Try.func39 (by kernel_rfl) rfl #[.pointer (some ⟨gb681,0,none⟩)] rfl (by (try simp only [zt,zu,zv]);first|done|rfl|(simp only [zw,zx];rfl)|(simp only [yr,ys,zV,zW];rfl)) ?_;(with_reducible refine (F8.calls k  gb681 (strOfNums l0) false t682 t683 t684 t685 false w _ ?side1 ?side2 A5.out).mono ?_);(case side1=>repeat (with_reducible first|exact HI681.out|apply IsS73.alloc|apply IsS73.drewN|apply IsS73.drew|apply IsS73.set_0|apply IsS73.set_1|refine IsS73.far ?_ NB681_680.out _));(case side2=>repeat (with_reducible first|exact HB.out|apply za|apply zb|apply zc|refine zd ?_ (IsS73.ge HI681.out)|refine zd ?_ GE680.out));rintro e w49 ⟨rfl,hi,hb,hk⟩;refine ⟨_,rfl,?_⟩;replace BK680:=zh (KeepBut.blk hk (g':=gb680) (o:=.cells #[.int .i64 0,.int .i64 0,.string (⟨#[]⟩ : ByteArray)] 44 (0,0)) (by (with_reducible repeat first|apply ze|apply zf|apply zg);exact BK680.out) NB680_681.out (by simp));replace HB:=zh (hb);replace BK681:=zh ((show _∧_ from hi).1);clear HI681;(try clear hb);(try clear hb2);(try clear hk);(try clear hi))|((with_reducible refine zK (N:=5) rfl ?_);refine zI ?hg (N:=5) ?hd (cs:=#[.int .i64 0,.int .i64 0,.string (⟨#[]⟩ : ByteArray)]) (t:=44) ?hr ?_;(case hd=>rfl);(case hg=>rfl);(case hr=>go_simp <;> rfl);intro gb687 hg w50 hbox hb;have BK687:=zh (hbox);have hH_:=cH (by repeat (with_reducible first|exact HB.out|apply za|apply zb|apply zc|refine zd ?_ GE680.out|refine zd ?_ GE681.out)) hb hg;have GW687:=zh hH_.1;have GE687:=GW687;replace HB:=zh hH_.2;have NB680_687:=zh ((by rw [hg];exact yc (yi (g:=gb680) (o:=.cells #[.int .i64 0,.int .i64 0,.string (⟨#[]⟩ : ByteArray)] 44 (0,0)) (by (with_reducible repeat first|apply ze|apply zf|apply zg);exact BK680.out)) : gb680≠gb687));have NB687_680:=zh NB680_687.out.symm;replace BK680:=zh (cD BK680.out (by (with_reducible repeat first|apply ze|apply zf|apply zg);exact BK680.out) hb);have NB681_687:=zh ((by rw [hg];exact yc (yi (g:=gb681) (o:=.cells #[.string t685,.bool false] 73 (0,0)) (by (with_reducible repeat first|apply ze|apply zf|apply zg);exact BK681.out)) : gb681≠gb687));have NB687_681:=zh NB681_687.out.symm;replace BK681:=zh (cD BK681.out (by (with_reducible repeat first|apply ze|apply zf|apply zg);exact BK681.out) hb);clear hb hbox hg hH_;have hnb51:=NB687_680.out;have hnc51:=NB680_687.out;have hnb52:=NB687_681.out;have hnc52:=NB681_687.out;obtain ⟨hcz53_0,hcz53_1,hcz53_2,hfz53_0,hfz53_1,hfz53_2⟩:=cB3 BK687.out;have hnb54:=NB681_680.out;have hnc54:=NB680_681.out;obtain ⟨hcz55_0,hcz55_1,hfz55_0,hfz55_1⟩:=cB2 BK681.out;obtain ⟨hcz56_0,hcz56_1,hcz56_2,hfz56_0,hfz56_1,hfz56_2⟩:=cB3 BK680.out))
 refine bodyPost_ret (results_ct rfl _ _ gb680 44 #[.int .i64 0,.int .i64 0,.string (⟨#[]⟩ : ByteArray)] (0,0) _ rfl (by (with_reducible repeat first|apply ze|apply zf|apply zg);refine zL (cs:=#[.int .i64 0,.int .i64 0,.string (⟨#[]⟩ : ByteArray)]) ?_ 2 _ rfl;(with_reducible repeat first|apply ze|apply zf|apply zg);refine zL (cs:=#[.int .i64 0,.int .i64 0,.string (⟨#[]⟩ : ByteArray)]) ?_ 1 _ rfl;(with_reducible repeat first|apply ze|apply zf|apply zg);refine zL (cs:=#[.int .i64 0,.int .i64 0,.string (⟨#[]⟩ : ByteArray)]) ?_ 0 _ rfl;(with_reducible repeat first|apply ze|apply zf|apply zg);refine cS3 ?_ NB680_687.out;(with_reducible repeat first|apply ze|apply zf|apply zg);exact BK680.out) Try.underlying44 rfl (by kernel_rfl)) rfl ?_;exact ⟨by first|rfl|(simp [yt,yu] <;> rfl)|(simp [*,yt,yu] <;> rfl),by repeat (with_reducible first|exact HB.out|apply za|apply zb|apply zc|refine zd ?_ GE680.out|refine zd ?_ GE681.out|refine zd ?_ GE687.out)⟩

end Go.Proofs.Ytjgcddjdmfcgoaa.Q
end
section
namespace Go.Proofs.Ytjgcddjdmfcgoaa.Q
open Go.RowKit Go.Proofs.YtjgcddjdmfcgoaaW.PrintWords Go.Proofs.YtjgcddjdmfcgoaaW.PrintLast Go.Proofs.YtjgcddjdmfcgoaaW.PrintMore
attribute [local go_sem] max2_int min2_int max_two min_two max_three min_three max_four min_four max2_str min2_str str_geq str_gtr str_leq   -- for this text's walks alone
set_option linter.unusedVariables false
set_option linter.unusedSimpArgs false

mutual
def F5.j0 : Nat→Bool→Int→Int→ByteArray→Option (Int)
 | 0,_,_,_,_=>none
 | k+1,x14,x690000,x690001,x690002=>if x14=true then (some 0) else ((F3.f k x690000 x690001 x690002).bind fun bt693=>(if (bt693.1.length : Int) > 0 then (F5.l0 k 0 bt693.1 (bt693.1.length : Int) 0) else (some (0+1))))
def F5.l0 : Nat→Int→List (S44)→Int→Int→Option (Int)
 | 0,_,_,_,_=>none
 | k+1,x3,x24,x25,x26=>if x26<x25 then (if 0≤x26 then (if x26<(x24.length : Int) then ((F5.f k ((rd_T44 x24 x26).f0) ((rd_T44 x24 x26).f1) ((rd_T44 x24 x26).f2)).bind fun t699=>(F5.l0 k (mx x3 t699) x24 x25 (wrap64 (x26+1)))) else (none)) else (none)) else (some (wrap64 (x3+1)))
def F5.f : Nat→Int→Int→ByteArray→Option (Int)
 | 0,_,_,_=>none
 | k+1,a0_0,a0_1,a0_2=>if a0_0=4 then (F5.j0 k false a0_0 a0_1 a0_2) else (F5.j0 k (a0_0 != 5) a0_0 a0_1 a0_2)
end
theorem F5.mono_l : ∀ k,(∀ y0 y1 y2,LeO (F5.f k y0 y1 y2) (F5.f (k+1) y0 y1 y2))∧(∀ y0 y1 y2 y3,LeO (F5.j0 k y0 y1 y2 y3) (F5.j0 (k+1) y0 y1 y2 y3))∧(∀ y0 y1 y2 y3,LeO (F5.l0 k y0 y1 y2 y3) (F5.l0 (k+1) y0 y1 y2 y3))
 | 0=>⟨fun _ _ _ r h=>by simp [F5.f] at h,fun _ _ _ _ r h=>by simp [F5.j0] at h,fun _ _ _ _ r h=>by simp [F5.l0] at h⟩
 | k+1=>by
  obtain ⟨ih0,ih1,ih2⟩:=F5.mono_l k;refine ⟨?_,?_,?_⟩
  ·
   intro y0 y1 y2
   unfold F5.f
   repeat' first|(with_reducible first|exact ih0 _ _ _|exact ih1 _ _ _ _|exact ih2 _ _ _ _|exact F3.mono _ _ _ _|exact zQ _|exact zN _|refine zP ?_ ?_|refine zO ?_ (fun _=>?_))|refine zP ?_ ?_|refine zO ?_ (fun _=>?_)
  ·
   intro y0 y1 y2 y3
   unfold F5.j0
   repeat' first|(with_reducible first|exact ih0 _ _ _|exact ih1 _ _ _ _|exact ih2 _ _ _ _|exact F3.mono _ _ _ _|exact zQ _|exact zN _|refine zP ?_ ?_|refine zO ?_ (fun _=>?_))|refine zP ?_ ?_|refine zO ?_ (fun _=>?_)
  intro y0 y1 y2 y3;unfold F5.l0
  repeat' first|(with_reducible first|exact ih0 _ _ _|exact ih1 _ _ _ _|exact ih2 _ _ _ _|exact F3.mono _ _ _ _|exact zQ _|exact zN _|refine zP ?_ ?_|refine zO ?_ (fun _=>?_))|refine zP ?_ ?_|refine zO ?_ (fun _=>?_)
theorem F5.mono : ∀ a0 a1 a2 k,LeO (F5.f k a0 a1 a2) (F5.f (k+1) a0 a1 a2):=by
 intro a0 a1 a2 k;obtain ⟨ih0,ih1,ih2⟩:=F5.mono_l k;exact ih0 a0 a1 a2
set_option maxHeartbeats 8000000 in
set_option maxRecDepth 100000 in
theorem F5.calls (k : Nat) : ∀ (a0_0 : Int) (a0_1 : Int) (a0_2 : ByteArray) (r : Int) (w : World) (h : F5.f k a0_0 a0_1 a0_2=some r),
  Calls Try.prog 40 #[.agg #[.int .i64 a0_0,.int .i64 a0_1,.string a0_2]] w fun e w' => e = .returned (.int .i64 r)∧Below w.heap.size w w':=by
 induction k using Nat.strongRecOn with
 | _ k ih =>
 intro a0_0 a0_1 a0_2 r w h
 cases k with
 | zero=>exact absurd h (by simp [F5.f])
 | succ k =>
 simp only [F5.f] at h;have hu44:=Try.underlying44;have HB:=zh (Below.refl w.heap.size w);have H : (if a0_0=4 then (F5.j0 k false a0_0 a0_1 a0_2) else (F5.j0 k (a0_0 != 5) a0_0 a0_1 a0_2))=some r:=h;clear h;have HC2:=zh H;clear H
 go_enter Try.func40,Try.ntmps40
 go_upto_region 1 with (first|((with_reducible refine zK (N:=1) rfl ?_);refine zI ?hg (N:=1) ?hd (cs:=#[.int .i64 a0_0,.int .i64 a0_1,.string a0_2]) (t:=44) ?hr ?_;(case hd=>rfl);(case hg=>rfl);(case hr=>go_simp <;> rfl);intro gb689 hg w3 hbox hb;have BK689:=zh (hbox);have hH_:=cH (by repeat (with_reducible first|exact HB.out|apply za|apply zb|apply zc)) hb hg;have GW689:=zh hH_.1;have GE689:=GW689;replace HB:=zh hH_.2;clear hb hbox hg hH_))
 (try simp only [Act.put,zi,zj,zk])
 go_cut [14] (fun v14 wc => ∃ (kq : Nat) (x14_1 : Bool),v14 = .bool x14_1∧Aside0 (F5.j0 kq x14_1 a0_0 a0_1 a0_2=some r)∧Aside0 (kq≤k)∧Aside0 (wc.heap[gb689]? = some (.cells #[.int .i64 a0_0,.int .i64 a0_1,.string a0_2] 44 (0,0)))∧Aside0 (Below w.heap.size w wc))
 case first =>
  have H:=HC2.out;clear HC2
  by_cases c4 : a0_0=4
  ·
   rw [if_pos c4] at H
   have c4b0 : (a0_0 == 4)=true:=ya.mpr c4;have c4b1 : (a0_0 != 4)=false:=zX.mpr c4;clear c4;(first|rw [c4b0]|(simp only [zG,zH];rw [c4b0])|skip);have H':=zh H;clear H;obtain ⟨hcz5_0,hcz5_1,hcz5_2,hfz5_0,hfz5_1,hfz5_2⟩:=cB3 BK689.out
   go_wp2
   go_meet
   case rel=>exact ⟨_,(false),(by first|rfl|(simp;done)|(simp [*];done)),H',⟨by first|omega|exact ye _⟩,⟨by (with_reducible repeat first|apply ze|apply zf|apply zg);exact BK689.out⟩,⟨by repeat (with_reducible first|exact HB.out|apply za|apply zb|apply zc|refine zd ?_ GE689.out)⟩⟩
  rw [if_neg c4] at H;have c4b0 : (a0_0 == 4)=false:=zY.mpr c4;have c4b1 : (a0_0 != 4)=true:=zZ.mpr c4;(first|rw [c4b0]|(simp only [zG,zH];rw [c4b0])|skip);have H':=zh H;clear H;obtain ⟨hcz6_0,hcz6_1,hcz6_2,hfz6_0,hfz6_1,hfz6_2⟩:=cB3 BK689.out
  go_wp2
  go_meet
  case rel=>exact ⟨_,((a0_0 != 5)),(by first|rfl|(simp;done)|(simp [*];done)),H',⟨by first|omega|exact ye _⟩,⟨by (with_reducible repeat first|apply ze|apply zf|apply zg);exact BK689.out⟩,⟨by repeat (with_reducible first|exact HB.out|apply za|apply zb|apply zc|refine zd ?_ GE689.out)⟩⟩
 case rest =>
  clear HC2
  try clear p2
  try clear c4 c4b0 c4b1
  try clear hcz5_0 hcz5_1 hcz5_2
  try clear hcz6_0 hcz6_1 hcz6_2
  try clear hfz5_0 hfz5_1 hfz5_2
  try clear hfz6_0 hfz6_1 hfz6_2
  obtain ⟨kq,x14_1,rfl,HA,HJ1,BK689,HB⟩:=hcut
  cases kq with
  | zero=>exact absurd HA.out (by simp [F5.j0])
  | succ kj1 =>
   have H:=HA.out;clear HA;simp only [F5.j0] at H
   by_cases c7 : x14_1=true
   ·
    subst c7
    have H1 : (some 0)=some r:=by rw [if_pos rfl] at H;exact H
    clear H;have H:=H1;clear H1;obtain rfl:=zU H
    go_wp2
    go_ret
    exact ⟨by first|rfl|(simp [yt,yu] <;> rfl)|(simp [*,yt,yu] <;> rfl),by repeat (with_reducible first|exact HB.out|apply za|apply zb|apply zc|refine zd ?_ GE689.out)⟩
   replace c7:=yb.mpr c7;subst c7;have H1 : ((F3.f kj1 a0_0 a0_1 a0_2).bind fun bt693=>(if (bt693.1.length : Int) > 0 then (F5.l0 kj1 0 bt693.1 (bt693.1.length : Int) 0) else (some (0+1))))=some r:=by rw [if_neg (show ¬ (false=true) by decide)] at H;exact H
   clear H;have H:=H1;clear H1;obtain ⟨y690,hy690⟩ : ∃ y_ : List (S44),y_=(([] : List (S44))):=⟨_,rfl⟩;replace H : ((F3.f kj1 a0_0 a0_1 a0_2).bind fun bt693=>(if (bt693.1.length : Int) > 0 then (F5.l0 kj1 0 bt693.1 (bt693.1.length : Int) 0) else (some (0+1))))=some r:=by first|(rw [hy690];with_reducible exact H)|(have H2_:=(Option.bind_some _ _).symm.trans H;rw [hy690];with_reducible exact H2_)|(have H2_:=(Option.bind_some _ _).symm.trans H;with_reducible exact H2_)|with_reducible exact H|(rw [hy690];exact H)|exact H
   have Ny690:=zh hy690;clear hy690;replace H:=zT.mp H;obtain ⟨⟨t693,t696⟩,A80,H⟩:=H;replace H : (if (t693.length : Int) > 0 then (F5.l0 kj1 0 t693 (t693.length : Int) 0) else (some (0+1)))=some r:=H;have A8:=zh A80;clear A80
   by_cases c9 : (t693.length : Int) > 0
   ·
    rw [if_pos c9] at H
    have c9b0 : decide (0<(t693.length : Int))=true:=decide_eq_true c9;have c9b1 : decide (0<t693.length)=true:=decide_eq_true (by omega);clear c9;have H':=zh H;clear H
    go_wp2_with (first|((with_reducible refine zK (N:=15) rfl ?_);refine Kd.R_lit k44 _ 44 ?hg (N:=15) ?hd (xs:=([] : List (S44))) (inner:=[]) (ok:=fun _=>True) (okp:=fun _=>True) ?hr ?hp (fun _ hk=>hk) trivial (Below.refl _ _) (ye _) (by simp) ?_;(case hd=>rfl);(case hg=>rfl);(case hr=>go_simp <;> rfl);(case hp=>exact (Reps.none _ _));intro v691 w10 ho11 hb hg_ hnew_;clear hg_ hnew_;(first|rw [← Ny690.out] at ho11|(simp only [Int.reduceToNat] at ho11;rw [← Ny690.out] at ho11));have HO692:=zh (yy (Kd.R_newB ho11 (g:=gb689) (o:=.cells #[.int .i64 a0_0,.int .i64 a0_1,.string a0_2] 44 (0,0)) (by (with_reducible repeat first|apply ze|apply zf|apply zg);exact BK689.out)) (zB (by repeat (with_reducible first|exact HB.out|apply za|apply zb|apply zc|refine zd ?_ GE689.out))));replace BK689:=zh (cD BK689.out (by (with_reducible repeat first|apply ze|apply zf|apply zg);exact BK689.out) hb);replace HB:=zh (zC (by repeat (with_reducible first|exact HB.out|apply za|apply zb|apply zc|refine zd ?_ GE689.out)) hb);clear hb ho11;obtain ⟨hcz12_0,hcz12_1,hcz12_2,hfz12_0,hfz12_1,hfz12_2⟩:=cB3 BK689.out)|((with_reducible refine zJ (f:=68) rfl ?_);refine yj (some 18) rfl rfl Try.func68 (by kernel_rfl) rfl #[.agg #[.int .i64 a0_0,.int .i64 a0_1,.string a0_2]] rfl (by (try simp only [zt,zu,zv]);first|done|rfl|(simp only [zw,zx];rfl)|(simp only [yr,ys,zV,zW];rfl)) ?_;(with_reducible refine (F3.calls kj1  a0_0 a0_1 a0_2 t693 t696 _ A8.out).mono ?_);rintro e w13 ⟨v694,rfl,ho0,hb⟩;refine ⟨_,rfl,?_⟩;have HO695:=zh (yy (Kd.R_newB (Kd.R_new' ho0 (Kd.R_lt (by (with_reducible repeat (first|apply zm|apply zn|apply zo));exact HO692.out))) (g:=gb689) (o:=.cells #[.int .i64 a0_0,.int .i64 a0_1,.string a0_2] 44 (0,0)) (by (with_reducible repeat first|apply ze|apply zf|apply zg);exact BK689.out)) (zB (by repeat (with_reducible first|exact HB.out|apply za|apply zb|apply zc|refine zd ?_ GE689.out))));replace HO692:=zh (Kd.R_elder' (by (with_reducible repeat (first|apply zm|apply zn|apply zo));exact HO692.out) (Kd.R_base ho0) hb);replace BK689:=zh (cD BK689.out (by (with_reducible repeat first|apply ze|apply zf|apply zg);exact BK689.out) hb);replace HB:=zh (zC (by repeat (with_reducible first|exact HB.out|apply za|apply zb|apply zc|refine zd ?_ GE689.out)) hb);(try clear hb);(try clear hb2);(try clear hk);(try clear hi);(try clear ho0);obtain ⟨Ao14,co14,eo14⟩:=yk HO695.out;subst eo14))
    go_loopg [3,26] kj1 (fun kq v3 v26 w' => ∃ (x3_2 : Int) (x26_2 : Int),v3 = .int .i64 x3_2∧v26 = .int .i64 x26_2∧Aside0 (F5.l0 kq x3_2 t693 (t693.length : Int) x26_2=some r)∧Aside0 (kq≤kj1)∧Aside0 (Kd.R k44 44 w' w.heap.size (fun k_=>k_≠gb689) (.slice Ao14 t693.length co14) t693)∧Aside0 (w'.heap[gb689]? = some (.cells #[.int .i64 a0_0,.int .i64 a0_1,.string a0_2] 44 (0,0)))∧Aside0 (Below w.heap.size w w'))
    case atStart=>exact ⟨(0),(0),(by first|rfl|(simp;done)|(simp [*];done)),(by first|rfl|(simp;done)|(simp [*];done)),H',⟨ye _⟩,⟨by (with_reducible repeat (first|apply zm|apply zn|apply zo));exact zM HO695.out (fun _ hk=>hk.2)⟩,⟨by (with_reducible repeat first|apply ze|apply zf|apply zg);exact BK689.out⟩,⟨by repeat (with_reducible first|exact HB.out|apply za|apply zb|apply zc|refine zd ?_ GE689.out)⟩⟩
    case round =>
     clear H'
     try clear p2
     try clear c4 c4b0 c4b1 c6 c7 c9 c9b0 c9b1
     try clear hcz12_0 hcz12_1 hcz12_2
     try clear hcz5_0 hcz5_1 hcz5_2
     try clear hcz6_0 hcz6_1 hcz6_2
     try clear hfz12_0 hfz12_1 hfz12_2
     try clear hfz5_0 hfz5_1 hfz5_2
     try clear hfz6_0 hfz6_1 hfz6_2
     try clear p2
     obtain ⟨x3_2,x26_2,rfl,rfl,HA,HK2,HO_24,BK689,HB⟩:=hrel
     cases gk with
     | zero=>exact absurd HA.out (by simp [F5.l0])
     | succ k2 =>
      have H:=HA.out;clear HA;simp only [F5.l0] at H
      by_cases c15 : x26_2<(t693.length : Int)
      ·
       rw [if_pos c15] at H
       have c15b0 : decide (x26_2<(t693.length : Int))=true:=decide_eq_true c15;clear c15
       by_cases c16 : 0≤x26_2
       ·
        rw [if_pos c16] at H
        have c16b0 : decide (0≤x26_2)=true:=decide_eq_true c16;clear c16
        by_cases c17 : x26_2<(t693.length : Int)
        ·
         rw [if_pos c17] at H
         have c17b0 : decide (x26_2<(t693.length : Int))=true:=decide_eq_true c17;clear c17;replace H:=zT.mp H;obtain ⟨t699,A180,H⟩:=H;replace H : (F5.l0 k2 (mx x3_2 t699) t693 (t693.length : Int) (wrap64 (x26_2+1)))=some r:=H;have A18:=zh A180;clear A180;obtain ⟨ji19,hji19⟩ : ∃ j_ : Int,(mx x3_2 t699)=j_:=⟨_,rfl⟩;replace H : (F5.l0 k2 ji19 t693 (t693.length : Int) (wrap64 (x26_2+1)))=some r:=by first|(rw [hji19] at H;exact H)|(simp only [hji19] at H ⊢;exact H)
         (try rw [hji19] at A18);have hji19_ : (if x3_2<t699 then t699 else x3_2)=ji19:=hji19;have H':=zh H;clear H;have p697 : 0≤(x26_2 : Int):=zy (by first|(with_reducible assumption)|assumption);have q697 : x26_2<(t693.length : Int):=zy (by first|(with_reducible assumption)|assumption);obtain ⟨ad697,e697,hx697_0,hx697_1,hx697_2⟩:=at_T44 (yh HO_24.out).2.2 x26_2 p697 q697
         cases e697
         replace p697:=eq_true p697;replace q697:=eq_true q697
         go_wp2_with (first|((with_reducible refine zK (N:=6) rfl ?_);refine zI ?hg (N:=6) ?hd (cs:=#[.int .i64 0,.int .i64 0,.string (⟨#[]⟩ : ByteArray)]) (t:=44) ?hr ?_;(case hd=>rfl);(case hg=>rfl);(case hr=>go_simp <;> rfl);intro gb698 hg w20 hbox hb;replace HO_24:=zh (yg (Kd.R_elderB (by (with_reducible repeat (first|apply zm|apply zn|apply zo));exact HO_24.out) gb698 (Nat.le_of_eq hg.symm)) hb);have BK698:=zh (hbox);have hH_:=cH (by repeat (with_reducible first|exact HB.out|apply za|apply zb|apply zc|refine zd ?_ GE689.out)) hb hg;have GW698:=zh hH_.1;have GE698:=GW698;replace HB:=zh hH_.2;have NB689_698:=zh ((by rw [hg];exact yc (yi (g:=gb689) (o:=.cells #[.int .i64 a0_0,.int .i64 a0_1,.string a0_2] 44 (0,0)) (by (with_reducible repeat first|apply ze|apply zf|apply zg);exact BK689.out)) : gb689≠gb698));have NB698_689:=zh NB689_698.out.symm;replace BK689:=zh (cD BK689.out (by (with_reducible repeat first|apply ze|apply zf|apply zg);exact BK689.out) hb);clear hb hbox hg hH_;have hnb21:=NB698_689.out;have hnc21:=NB689_698.out;obtain ⟨hcz22_0,hcz22_1,hcz22_2,hfz22_0,hfz22_1,hfz22_2⟩:=cB3 BK698.out)|((with_reducible refine zJ (f:=40) rfl ?_);refine yj (some 32) rfl rfl Try.func40 (by kernel_rfl) rfl #[.agg #[.int .i64 ((rd_T44 t693 x26_2).f0),.int .i64 ((rd_T44 t693 x26_2).f1),.string ((rd_T44 t693 x26_2).f2)]] rfl (by (try simp only [zt,zu,zv]);first|done|rfl|(simp only [zw,zx];rfl)|(simp only [yr,ys,zV,zW];rfl)) ?_;(with_reducible refine (ih k2 (by have:=HJ1.out;have:=HK2.out;omega)  ((rd_T44 t693 x26_2).f0) ((rd_T44 t693 x26_2).f1) ((rd_T44 t693 x26_2).f2) t699 _ A18.out).mono ?_);rintro e w23 ⟨rfl,hb⟩;refine ⟨_,rfl,?_⟩;replace HO_24:=zh (yg (by (with_reducible repeat (first|apply zm|apply zn|apply zo));exact (zM (zE (p:=⟨gb698,2,none⟩) (zE (p:=⟨gb698,1,none⟩) (zE (p:=⟨gb698,0,none⟩) (zM HO_24.out (fun k_ hk=>(⟨hk,hk.2⟩ : _∧k_≠gb698))) (fun _ hk=>hk.2) (.int .i64 ((rd_T44 t693 x26_2).f0))) (fun _ hk=>hk.2) (.int .i64 ((rd_T44 t693 x26_2).f1))) (fun _ hk=>hk.2) (.string ((rd_T44 t693 x26_2).f2))) (fun _ h_=>h_.1))) hb);replace BK689:=zh (cD BK689.out (by (with_reducible repeat first|apply ze|apply zf|apply zg);refine cS3 ?_ NB689_698.out;(with_reducible repeat first|apply ze|apply zf|apply zg);exact BK689.out) hb);replace BK698:=zh (zD (g:=gb698) (o:=.cells #[.int .i64 ((rd_T44 t693 x26_2).f0),.int .i64 ((rd_T44 t693 x26_2).f1),.string ((rd_T44 t693 x26_2).f2)] 44 (0,0)) (by (with_reducible repeat first|apply ze|apply zf|apply zg);refine zL (cs:=#[.int .i64 ((rd_T44 t693 x26_2).f0),.int .i64 ((rd_T44 t693 x26_2).f1),.string (⟨#[]⟩ : ByteArray)]) ?_ 2 _ rfl;(with_reducible repeat first|apply ze|apply zf|apply zg);refine zL (cs:=#[.int .i64 ((rd_T44 t693 x26_2).f0),.int .i64 0,.string (⟨#[]⟩ : ByteArray)]) ?_ 1 _ rfl;(with_reducible repeat first|apply ze|apply zf|apply zg);refine zL (cs:=#[.int .i64 0,.int .i64 0,.string (⟨#[]⟩ : ByteArray)]) ?_ 0 _ rfl;(with_reducible repeat first|apply ze|apply zf|apply zg);exact BK698.out) hb);replace HB:=zh (zC (by repeat (with_reducible first|exact HB.out|apply za|apply zb|apply zc|refine zd ?_ GE689.out|refine zd ?_ GE698.out)) hb);(try clear hb);(try clear hb2);(try clear hk);(try clear hi)))
         go_roundg k2
         case measure=>have:=HJ1.out;have:=HK2.out;omega
         case rel=>exact ⟨(ji19),(wrap64 (x26_2+1)),(by first|rfl|(simp;done)|(simp only [← hji19] <;> (first|rfl|simp))|(simp [*];done)),(by first|rfl|(simp;done)|(simp [*];done)),H',⟨by have:=HJ1.out;have:=HK2.out;omega⟩,⟨by (with_reducible repeat (first|apply zm|apply zn|apply zo));exact zM HO_24.out (fun _ hk=>hk.1)⟩,⟨by (with_reducible repeat first|apply ze|apply zf|apply zg);exact BK689.out⟩,⟨by repeat (with_reducible first|exact HB.out|apply za|apply zb|apply zc|refine zd ?_ GE689.out|refine zd ?_ GE698.out)⟩⟩
        rw [if_neg c17] at H;exact absurd H (by simp)
       rw [if_neg c16] at H;exact absurd H (by simp)
      rw [if_neg c15] at H;have c15b0 : decide (x26_2<(t693.length : Int))=false:=decide_eq_false c15;clear c15;obtain rfl:=zU H
      go_wp2
      go_ret
      exact ⟨by first|rfl|(simp [yt,yu] <;> rfl)|(simp [*,yt,yu] <;> rfl),by repeat (with_reducible first|exact HB.out|apply za|apply zb|apply zc|refine zd ?_ GE689.out)⟩
   rw [if_neg c9] at H;have c9b0 : decide (0<(t693.length : Int))=false:=decide_eq_false c9;have c9b1 : decide (0<t693.length)=false:=decide_eq_false (by omega);clear c9;obtain rfl:=zU H
   go_wp2_with (first|((with_reducible refine zK (N:=15) rfl ?_);refine Kd.R_lit k44 _ 44 ?hg (N:=15) ?hd (xs:=([] : List (S44))) (inner:=[]) (ok:=fun _=>True) (okp:=fun _=>True) ?hr ?hp (fun _ hk=>hk) trivial (Below.refl _ _) (ye _) (by simp) ?_;(case hd=>rfl);(case hg=>rfl);(case hr=>go_simp <;> rfl);(case hp=>exact (Reps.none _ _));intro v691 w24 ho25 hb hg_ hnew_;clear hg_ hnew_;(first|rw [← Ny690.out] at ho25|(simp only [Int.reduceToNat] at ho25;rw [← Ny690.out] at ho25));have HO692:=zh (yy (Kd.R_newB ho25 (g:=gb689) (o:=.cells #[.int .i64 a0_0,.int .i64 a0_1,.string a0_2] 44 (0,0)) (by (with_reducible repeat first|apply ze|apply zf|apply zg);exact BK689.out)) (zB (by repeat (with_reducible first|exact HB.out|apply za|apply zb|apply zc|refine zd ?_ GE689.out))));replace BK689:=zh (cD BK689.out (by (with_reducible repeat first|apply ze|apply zf|apply zg);exact BK689.out) hb);replace HB:=zh (zC (by repeat (with_reducible first|exact HB.out|apply za|apply zb|apply zc|refine zd ?_ GE689.out)) hb);clear hb ho25;obtain ⟨hcz26_0,hcz26_1,hcz26_2,hfz26_0,hfz26_1,hfz26_2⟩:=cB3 BK689.out)|((with_reducible refine zJ (f:=68) rfl ?_);refine yj (some 18) rfl rfl Try.func68 (by kernel_rfl) rfl #[.agg #[.int .i64 a0_0,.int .i64 a0_1,.string a0_2]] rfl (by (try simp only [zt,zu,zv]);first|done|rfl|(simp only [zw,zx];rfl)|(simp only [yr,ys,zV,zW];rfl)) ?_;(with_reducible refine (F3.calls kj1  a0_0 a0_1 a0_2 t693 t696 _ A8.out).mono ?_);rintro e w27 ⟨v694,rfl,ho0,hb⟩;refine ⟨_,rfl,?_⟩;have HO695:=zh (yy (Kd.R_newB (Kd.R_new' ho0 (Kd.R_lt (by (with_reducible repeat (first|apply zm|apply zn|apply zo));exact HO692.out))) (g:=gb689) (o:=.cells #[.int .i64 a0_0,.int .i64 a0_1,.string a0_2] 44 (0,0)) (by (with_reducible repeat first|apply ze|apply zf|apply zg);exact BK689.out)) (zB (by repeat (with_reducible first|exact HB.out|apply za|apply zb|apply zc|refine zd ?_ GE689.out))));replace HO692:=zh (Kd.R_elder' (by (with_reducible repeat (first|apply zm|apply zn|apply zo));exact HO692.out) (Kd.R_base ho0) hb);replace BK689:=zh (cD BK689.out (by (with_reducible repeat first|apply ze|apply zf|apply zg);exact BK689.out) hb);replace HB:=zh (zC (by repeat (with_reducible first|exact HB.out|apply za|apply zb|apply zc|refine zd ?_ GE689.out)) hb);(try clear hb);(try clear hb2);(try clear hk);(try clear hi);(try clear ho0);obtain ⟨Ao28,co28,eo28⟩:=yk HO695.out;subst eo28))
   go_ret
   exact ⟨by first|rfl|(simp [yt,yu] <;> rfl)|(simp [*,yt,yu] <;> rfl),by repeat (with_reducible first|exact HB.out|apply za|apply zb|apply zc|refine zd ?_ GE689.out)⟩

end Go.Proofs.Ytjgcddjdmfcgoaa.Q
end
section
namespace Go.Proofs.Ytjgcddjdmfcgoaa.Q
open Go.RowKit Go.Proofs.YtjgcddjdmfcgoaaW.PrintWords Go.Proofs.YtjgcddjdmfcgoaaW.PrintLast Go.Proofs.YtjgcddjdmfcgoaaW.PrintMore
attribute [local go_sem] max2_int min2_int max_two min_two max_three min_three max_four min_four max2_str min2_str str_geq str_gtr str_leq
set_option linter.unusedVariables false
set_option linter.unusedSimpArgs false

def Fy.f (k : Nat) (a0_0 : Int) (a0_1 : Int) (a0_2 : ByteArray) : Option (Int×Int):=(Fh.f k a0_0 a0_1 a0_2).bind fun t701=>(if t701=true then ((F5.f k a0_0 a0_1 a0_2).bind fun t702=>(some (t702,0))) else (some (0,1)))
theorem Fy.mono : ∀ a0 a1 a2 k,LeO (Fy.f k a0 a1 a2) (Fy.f (k+1) a0 a1 a2):=by
 intro a0 a1 a2 k;unfold Fy.f
 repeat' first|(with_reducible first|exact Fh.mono _ _ _ _|exact F5.mono _ _ _ _|exact zQ _|exact zN _|refine zP ?_ ?_|refine zO ?_ (fun _=>?_))|refine zP ?_ ?_|refine zO ?_ (fun _=>?_)
set_option maxHeartbeats 8000000 in
set_option maxRecDepth 100000 in
theorem Fy.calls (k : Nat) (a0_0 : Int) (a0_1 : Int) (a0_2 : ByteArray) (r1 : Int) (r2 : Int) (w : World) (h : Fy.f k a0_0 a0_1 a0_2=some (r1,r2)) :
  Calls Try.prog 19 #[.agg #[.int .i64 a0_0,.int .i64 a0_1,.string a0_2]] w fun e w' => e = .returned (.tuple #[.int .i64 r1,.int .i64 r2])∧Below w.heap.size w w':=by
 have hu44:=Try.underlying44;have HB:=zh (Below.refl w.heap.size w);have H : ((Fh.f k a0_0 a0_1 a0_2).bind fun t701=>(if t701=true then ((F5.f k a0_0 a0_1 a0_2).bind fun t702=>(some (t702,0))) else (some (0,1))))=some (r1,r2):=h;clear h;replace H:=zT.mp H;obtain ⟨t701,A20,H⟩:=H;replace H : (if t701=true then ((F5.f k a0_0 a0_1 a0_2).bind fun t702=>(some (t702,0))) else (some (0,1)))=some (r1,r2):=H;have A2:=zh A20;clear A20
 by_cases c3 : t701=true
 ·
  subst c3
  have H1 : ((F5.f k a0_0 a0_1 a0_2).bind fun t702=>(some (t702,0)))=some (r1,r2):=by rw [if_pos rfl] at H;exact H
  clear H;have H:=H1;clear H1;replace H:=zT.mp H;obtain ⟨t702,A40,H⟩:=H;replace H : (some (t702,0))=some (r1,r2):=H;have A4:=zh A40;clear A40;simp only [Option.some.injEq,Prod.mk.injEq] at H;obtain ⟨rfl,rfl⟩:=H
  go_enter Try.func19,Try.ntmps19
  go_wp2_with (first|((with_reducible refine zK (N:=1) rfl ?_);refine zI ?hg (N:=1) ?hd (cs:=#[.int .i64 a0_0,.int .i64 a0_1,.string a0_2]) (t:=44) ?hr ?_;(case hd=>rfl);(case hg=>rfl);(case hr=>go_simp <;> rfl);intro gb700 hg w5 hbox hb;have BK700:=zh (hbox);have hH_:=cH (by repeat (with_reducible first|exact HB.out|apply za|apply zb|apply zc)) hb hg;have GW700:=zh hH_.1;have GE700:=GW700;replace HB:=zh hH_.2;clear hb hbox hg hH_;obtain ⟨hcz6_0,hcz6_1,hcz6_2,hfz6_0,hfz6_1,hfz6_2⟩:=cB3 BK700.out)|((with_reducible refine zJ (f:=17) rfl ?_);refine yj (some 5) rfl rfl Try.func17 (by kernel_rfl) rfl #[.agg #[.int .i64 a0_0,.int .i64 a0_1,.string a0_2]] rfl (by (try simp only [zt,zu,zv]);first|done|rfl|(simp only [zw,zx];rfl)|(simp only [yr,ys,zV,zW];rfl)) ?_;(with_reducible refine (Fh.calls k  a0_0 a0_1 a0_2 true _ A2.out).mono ?_);rintro e w7 ⟨rfl,hb⟩;refine ⟨_,rfl,?_⟩;replace BK700:=zh (cD BK700.out (by (with_reducible repeat first|apply ze|apply zf|apply zg);exact BK700.out) hb);replace HB:=zh (zC (by repeat (with_reducible first|exact HB.out|apply za|apply zb|apply zc|refine zd ?_ GE700.out)) hb);(try clear hb);(try clear hb2);(try clear hk);(try clear hi);obtain ⟨hcz8_0,hcz8_1,hcz8_2,hfz8_0,hfz8_1,hfz8_2⟩:=cB3 BK700.out)|((with_reducible refine zJ (f:=40) rfl ?_);refine yj (some 8) rfl rfl Try.func40 (by kernel_rfl) rfl #[.agg #[.int .i64 a0_0,.int .i64 a0_1,.string a0_2]] rfl (by (try simp only [zt,zu,zv]);first|done|rfl|(simp only [zw,zx];rfl)|(simp only [yr,ys,zV,zW];rfl)) ?_;(with_reducible refine (F5.calls k  a0_0 a0_1 a0_2 t702 _ A4.out).mono ?_);rintro e w9 ⟨rfl,hb⟩;refine ⟨_,rfl,?_⟩;replace BK700:=zh (cD BK700.out (by (with_reducible repeat first|apply ze|apply zf|apply zg);exact BK700.out) hb);replace HB:=zh (zC (by repeat (with_reducible first|exact HB.out|apply za|apply zb|apply zc|refine zd ?_ GE700.out)) hb);(try clear hb);(try clear hb2);(try clear hk);(try clear hi)))
  go_ret2
  exact ⟨by first|rfl|(simp [yt,yu] <;> rfl)|(simp [*,yt,yu] <;> rfl),by repeat (with_reducible first|exact HB.out|apply za|apply zb|apply zc|refine zd ?_ GE700.out)⟩
 replace c3:=yb.mpr c3;subst c3;have H1 : (some (0,1))=some (r1,r2):=by rw [if_neg (show ¬ (false=true) by decide)] at H;exact H
 clear H;have H:=H1;clear H1;simp only [Option.some.injEq,Prod.mk.injEq] at H;obtain ⟨rfl,rfl⟩:=H
 go_enter Try.func19,Try.ntmps19
 go_wp2_with (first|((with_reducible refine zK (N:=1) rfl ?_);refine zI ?hg (N:=1) ?hd (cs:=#[.int .i64 a0_0,.int .i64 a0_1,.string a0_2]) (t:=44) ?hr ?_;(case hd=>rfl);(case hg=>rfl);(case hr=>go_simp <;> rfl);intro gb700 hg w10 hbox hb;have BK700:=zh (hbox);have hH_:=cH (by repeat (with_reducible first|exact HB.out|apply za|apply zb|apply zc)) hb hg;have GW700:=zh hH_.1;have GE700:=GW700;replace HB:=zh hH_.2;clear hb hbox hg hH_;obtain ⟨hcz11_0,hcz11_1,hcz11_2,hfz11_0,hfz11_1,hfz11_2⟩:=cB3 BK700.out)|((with_reducible refine zJ (f:=17) rfl ?_);refine yj (some 5) rfl rfl Try.func17 (by kernel_rfl) rfl #[.agg #[.int .i64 a0_0,.int .i64 a0_1,.string a0_2]] rfl (by (try simp only [zt,zu,zv]);first|done|rfl|(simp only [zw,zx];rfl)|(simp only [yr,ys,zV,zW];rfl)) ?_;(with_reducible refine (Fh.calls k  a0_0 a0_1 a0_2 false _ A2.out).mono ?_);rintro e w12 ⟨rfl,hb⟩;refine ⟨_,rfl,?_⟩;replace BK700:=zh (cD BK700.out (by (with_reducible repeat first|apply ze|apply zf|apply zg);exact BK700.out) hb);replace HB:=zh (zC (by repeat (with_reducible first|exact HB.out|apply za|apply zb|apply zc|refine zd ?_ GE700.out)) hb);(try clear hb);(try clear hb2);(try clear hk);(try clear hi)))
 go_ret2
 exact ⟨by first|rfl|(simp [yt,yu] <;> rfl)|(simp [*,yt,yu] <;> rfl),by repeat (with_reducible first|exact HB.out|apply za|apply zb|apply zc|refine zd ?_ GE700.out)⟩

end Go.Proofs.Ytjgcddjdmfcgoaa.Q
end
section
namespace Go.Proofs.Ytjgcddjdmfcgoaa.Q
open Go.RowKit Go.Proofs.YtjgcddjdmfcgoaaW.PrintWords Go.Proofs.YtjgcddjdmfcgoaaW.PrintLast Go.Proofs.YtjgcddjdmfcgoaaW.PrintMore
attribute [local go_sem] max2_int min2_int max_two min_two max_three min_three max_four min_four max2_str min2_str str_geq str_gtr str_leq   -- for this text's walks alone
set_option linter.unusedVariables false
set_option linter.unusedSimpArgs false

mutual
def F6.l0 : Nat→Int→List (S44)→Int→Option (Int)
 | 0,_,_,_=>none
 | k+1,x3,x4,x6=>if x6<(x4.length : Int) then (if 0≤x6 then ((F6.f k ((rd_T44 x4 x6).f0) ((rd_T44 x4 x6).f1) ((rd_T44 x4 x6).f2)).bind fun t709=>(F6.l0 k (mx x3 t709) x4 (wrap64 (x6+1)))) else (none)) else (some (wrap64 (x3+1)))
def F6.l1 : Nat→Int→List (S109)→Int→Option (Int)
 | 0,_,_,_=>none
 | k+1,x3,x7,x9=>if x9<(x7.length : Int) then (if 0≤x9 then ((F6.f k ((rd_T109 x7 x9).f1.f0) ((rd_T109 x7 x9).f1.f1) ((rd_T109 x7 x9).f1.f2)).bind fun t715=>(F6.l1 k (mx x3 t715) x7 (wrap64 (x9+1)))) else (none)) else (some (wrap64 (x3+1)))
def F6.f : Nat→Int→Int→ByteArray→Option (Int)
 | 0,_,_,_=>none
 | k+1,a0_0,a0_1,a0_2=>if a0_0=4 then ((Fi.f k a0_2).bind fun bt704=>(F6.l0 k 0 bt704.1 0)) else (if a0_0=5 then ((Fg.f k a0_2).bind fun bt710=>(F6.l1 k 0 bt710.1 0)) else (some 0))
end
theorem F6.mono_l : ∀ k,(∀ y0 y1 y2,LeO (F6.f k y0 y1 y2) (F6.f (k+1) y0 y1 y2))∧(∀ y0 y1 y2,LeO (F6.l0 k y0 y1 y2) (F6.l0 (k+1) y0 y1 y2))∧(∀ y0 y1 y2,LeO (F6.l1 k y0 y1 y2) (F6.l1 (k+1) y0 y1 y2))
 | 0=>⟨fun _ _ _ r h=>by simp [F6.f] at h,fun _ _ _ r h=>by simp [F6.l0] at h,fun _ _ _ r h=>by simp [F6.l1] at h⟩
 | k+1=>by
  obtain ⟨ih0,ih1,ih2⟩:=F6.mono_l k;refine ⟨?_,?_,?_⟩
  ·
   intro y0 y1 y2
   unfold F6.f
   repeat' first|(with_reducible first|exact ih0 _ _ _|exact ih1 _ _ _|exact ih2 _ _ _|exact Fi.mono _ _|exact Fg.mono _ _|exact zQ _|exact zN _|refine zP ?_ ?_|refine zO ?_ (fun _=>?_))|refine zP ?_ ?_|refine zO ?_ (fun _=>?_)
  ·
   intro y0 y1 y2
   unfold F6.l0
   repeat' first|(with_reducible first|exact ih0 _ _ _|exact ih1 _ _ _|exact ih2 _ _ _|exact Fi.mono _ _|exact Fg.mono _ _|exact zQ _|exact zN _|refine zP ?_ ?_|refine zO ?_ (fun _=>?_))|refine zP ?_ ?_|refine zO ?_ (fun _=>?_)
  intro y0 y1 y2;unfold F6.l1
  repeat' first|(with_reducible first|exact ih0 _ _ _|exact ih1 _ _ _|exact ih2 _ _ _|exact Fi.mono _ _|exact Fg.mono _ _|exact zQ _|exact zN _|refine zP ?_ ?_|refine zO ?_ (fun _=>?_))|refine zP ?_ ?_|refine zO ?_ (fun _=>?_)
theorem F6.mono : ∀ a0 a1 a2 k,LeO (F6.f k a0 a1 a2) (F6.f (k+1) a0 a1 a2):=by
 intro a0 a1 a2 k;obtain ⟨ih0,ih1,ih2⟩:=F6.mono_l k;exact ih0 a0 a1 a2
set_option maxHeartbeats 8000000 in
set_option maxRecDepth 100000 in
theorem F6.calls (k : Nat) : ∀ (a0_0 : Int) (a0_1 : Int) (a0_2 : ByteArray) (r : Int) (w : World) (h : F6.f k a0_0 a0_1 a0_2=some r),
  Calls Try.prog 41 #[.agg #[.int .i64 a0_0,.int .i64 a0_1,.string a0_2]] w fun e w' => e = .returned (.int .i64 r)∧Below w.heap.size w w':=by
 induction k using Nat.strongRecOn with
 | _ k ih =>
 intro a0_0 a0_1 a0_2 r w h
 cases k with
 | zero=>exact absurd h (by simp [F6.f])
 | succ k =>
 simp only [F6.f] at h;have hu44:=Try.underlying44;have HB:=zh (Below.refl w.heap.size w);have H : (if a0_0=4 then ((Fi.f k a0_2).bind fun bt704=>(F6.l0 k 0 bt704.1 0)) else (if a0_0=5 then ((Fg.f k a0_2).bind fun bt710=>(F6.l1 k 0 bt710.1 0)) else (some 0)))=some r:=h;clear h
 by_cases c2 : a0_0=4
 ·
  rw [if_pos c2] at H
  have c2b0 : (a0_0 == 4)=true:=ya.mpr c2;have c2b1 : (a0_0 != 4)=false:=zX.mpr c2;clear c2;replace H:=zT.mp H;obtain ⟨⟨t704,t705⟩,A30,H⟩:=H;replace H : (F6.l0 k 0 t704 0)=some r:=H;have A3:=zh A30;clear A30;have H':=zh H;clear H
  go_enter Try.func41,Try.ntmps41
  go_wp2_with (first|((with_reducible refine zK (N:=1) rfl ?_);refine zI ?hg (N:=1) ?hd (cs:=#[.int .i64 a0_0,.int .i64 a0_1,.string a0_2]) (t:=44) ?hr ?_;(case hd=>rfl);(case hg=>rfl);(case hr=>go_simp <;> rfl);intro gb703 hg w4 hbox hb;have BK703:=zh (hbox);have hH_:=cH (by repeat (with_reducible first|exact HB.out|apply za|apply zb|apply zc)) hb hg;have GW703:=zh hH_.1;have GE703:=GW703;replace HB:=zh hH_.2;clear hb hbox hg hH_;obtain ⟨hcz5_0,hcz5_1,hcz5_2,hfz5_0,hfz5_1,hfz5_2⟩:=cB3 BK703.out)|((with_reducible refine zJ (f:=73) rfl ?_);refine yj (some 16) rfl rfl Try.func73 (by kernel_rfl) rfl #[.string a0_2] rfl (by (try simp only [zt,zu,zv]);first|done|rfl|(simp only [zw,zx];rfl)|(simp only [yr,ys,zV,zW];rfl)) ?_;(with_reducible refine (Fi.calls k  a0_2 t704 t705 _ A3.out).mono ?_);rintro e w6 ⟨v706,rfl,ho0,hb⟩;refine ⟨_,rfl,?_⟩;have HO707:=zh (yy (Kd.R_newB ho0 (g:=gb703) (o:=.cells #[.int .i64 a0_0,.int .i64 a0_1,.string a0_2] 44 (0,0)) (by (with_reducible repeat first|apply ze|apply zf|apply zg);exact BK703.out)) (zB (by repeat (with_reducible first|exact HB.out|apply za|apply zb|apply zc|refine zd ?_ GE703.out))));replace BK703:=zh (cD BK703.out (by (with_reducible repeat first|apply ze|apply zf|apply zg);exact BK703.out) hb);replace HB:=zh (zC (by repeat (with_reducible first|exact HB.out|apply za|apply zb|apply zc|refine zd ?_ GE703.out)) hb);(try clear hb);(try clear hb2);(try clear hk);(try clear hi);(try clear ho0)))
  go_loopg [3,6] k (fun kq v3 v6 w' => ∃ (x3_1 : Int) (x6_1 : Int),v3 = .int .i64 x3_1∧v6 = .int .i64 x6_1∧Aside0 (F6.l0 kq x3_1 t704 x6_1=some r)∧Aside0 (kq≤k)∧Aside0 (Kd.R k44 44 w' w.heap.size (fun k_=>k_≠gb703) v706 t704)∧Aside0 (w'.heap[gb703]? = some (.cells #[.int .i64 a0_0,.int .i64 a0_1,.string a0_2] 44 (0,0)))∧Aside0 (Below w.heap.size w w'))
  case atStart=>exact ⟨(0),(0),(by first|rfl|(simp;done)|(simp [*];done)),(by first|rfl|(simp;done)|(simp [*];done)),H',⟨ye _⟩,⟨by (with_reducible repeat (first|apply zm|apply zn|apply zo));exact zM HO707.out (fun _ hk=>hk.2)⟩,⟨by (with_reducible repeat first|apply ze|apply zf|apply zg);exact BK703.out⟩,⟨by repeat (with_reducible first|exact HB.out|apply za|apply zb|apply zc|refine zd ?_ GE703.out)⟩⟩
  case round =>
   clear H'
   try clear c2 c2b0 c2b1
   try clear p2
   try clear c4
   try clear hcz5_0 hcz5_1 hcz5_2 hfz5_0 hfz5_1 hfz5_2
   obtain ⟨x3_1,x6_1,rfl,rfl,HA,HK1,HO_4,BK703,HB⟩:=hrel
   cases gk with
   | zero=>exact absurd HA.out (by simp [F6.l0])
   | succ k1 =>
    have H:=HA.out;clear HA;simp only [F6.l0] at H
    by_cases c7 : x6_1<(t704.length : Int)
    ·
     rw [if_pos c7] at H
     have c7b0 : decide (x6_1<(t704.length : Int))=true:=decide_eq_true c7;clear c7
     by_cases c8 : 0≤x6_1
     ·
      rw [if_pos c8] at H
      have c8b0 : decide (0≤x6_1)=true:=decide_eq_true c8;clear c8;replace H:=zT.mp H;obtain ⟨t709,A90,H⟩:=H;replace H : (F6.l0 k1 (mx x3_1 t709) t704 (wrap64 (x6_1+1)))=some r:=H;have A9:=zh A90;clear A90;obtain ⟨ji10,hji10⟩ : ∃ j_ : Int,(mx x3_1 t709)=j_:=⟨_,rfl⟩;replace H : (F6.l0 k1 ji10 t704 (wrap64 (x6_1+1)))=some r:=by first|(rw [hji10] at H;exact H)|(simp only [hji10] at H ⊢;exact H)
      (try rw [hji10] at A9);have hji10_ : (if x3_1<t709 then t709 else x3_1)=ji10:=hji10;have H':=zh H;clear H;obtain ⟨Ao11,co11,eo11⟩:=yk HO_4.out;subst eo11;have p708 : 0≤(x6_1 : Int):=zy (by first|(with_reducible assumption)|assumption);have q708 : x6_1<(t704.length : Int):=zy (by first|(with_reducible assumption)|assumption);obtain ⟨ad708,e708,hx708_0,hx708_1,hx708_2⟩:=at_T44 (yh HO_4.out).2.2 x6_1 p708 q708
      cases e708
      replace p708:=eq_true p708;replace q708:=eq_true q708
      go_wp2_with (first|((with_reducible refine zJ (f:=41) rfl ?_);refine yj (some 30) rfl rfl Try.func41 (by kernel_rfl) rfl #[.agg #[.int .i64 ((rd_T44 t704 x6_1).f0),.int .i64 ((rd_T44 t704 x6_1).f1),.string ((rd_T44 t704 x6_1).f2)]] rfl (by (try simp only [zt,zu,zv]);first|done|rfl|(simp only [zw,zx];rfl)|(simp only [yr,ys,zV,zW];rfl)) ?_;(with_reducible refine (ih k1 (by have:=HK1.out;omega)  ((rd_T44 t704 x6_1).f0) ((rd_T44 t704 x6_1).f1) ((rd_T44 t704 x6_1).f2) t709 _ A9.out).mono ?_);rintro e w12 ⟨rfl,hb⟩;refine ⟨_,rfl,?_⟩;replace HO_4:=zh (yg (by (with_reducible repeat (first|apply zm|apply zn|apply zo));exact HO_4.out) hb);replace BK703:=zh (cD BK703.out (by (with_reducible repeat first|apply ze|apply zf|apply zg);exact BK703.out) hb);replace HB:=zh (zC (by repeat (with_reducible first|exact HB.out|apply za|apply zb|apply zc|refine zd ?_ GE703.out)) hb);(try clear hb);(try clear hb2);(try clear hk);(try clear hi)))
      go_roundg k1
      case measure=>have:=HK1.out;omega
      case rel=>exact ⟨(ji10),(wrap64 (x6_1+1)),(by first|rfl|(simp;done)|(simp only [← hji10] <;> (first|rfl|simp))|(simp [*];done)),(by first|rfl|(simp;done)|(simp [*];done)),H',⟨by have:=HK1.out;omega⟩,⟨by (with_reducible repeat (first|apply zm|apply zn|apply zo));exact HO_4.out⟩,⟨by (with_reducible repeat first|apply ze|apply zf|apply zg);exact BK703.out⟩,⟨by repeat (with_reducible first|exact HB.out|apply za|apply zb|apply zc|refine zd ?_ GE703.out)⟩⟩
     rw [if_neg c8] at H;exact absurd H (by simp)
    rw [if_neg c7] at H;have c7b0 : decide (x6_1<(t704.length : Int))=false:=decide_eq_false c7;clear c7;obtain rfl:=zU H;obtain ⟨Ao13,co13,eo13⟩:=yk HO_4.out;subst eo13
    go_wp2
    go_ret
    exact ⟨by first|rfl|(simp [yt,yu] <;> rfl)|(simp [*,yt,yu] <;> rfl),by repeat (with_reducible first|exact HB.out|apply za|apply zb|apply zc|refine zd ?_ GE703.out)⟩
 rw [if_neg c2] at H;have c2b0 : (a0_0 == 4)=false:=zY.mpr c2;have c2b1 : (a0_0 != 4)=true:=zZ.mpr c2
 by_cases c14 : a0_0=5
 ·
  rw [if_pos c14] at H
  have c14b0 : (a0_0 == 5)=true:=ya.mpr c14;have c14b1 : (a0_0 != 5)=false:=zX.mpr c14;clear c14;replace H:=zT.mp H;obtain ⟨⟨t710,t711⟩,A150,H⟩:=H;replace H : (F6.l1 k 0 t710 0)=some r:=H;have A15:=zh A150;clear A150;have H':=zh H;clear H
  go_enter Try.func41,Try.ntmps41
  go_wp2_with (first|((with_reducible refine zK (N:=1) rfl ?_);refine zI ?hg (N:=1) ?hd (cs:=#[.int .i64 a0_0,.int .i64 a0_1,.string a0_2]) (t:=44) ?hr ?_;(case hd=>rfl);(case hg=>rfl);(case hr=>go_simp <;> rfl);intro gb703 hg w16 hbox hb;have BK703:=zh (hbox);have hH_:=cH (by repeat (with_reducible first|exact HB.out|apply za|apply zb|apply zc)) hb hg;have GW703:=zh hH_.1;have GE703:=GW703;replace HB:=zh hH_.2;clear hb hbox hg hH_;obtain ⟨hcz17_0,hcz17_1,hcz17_2,hfz17_0,hfz17_1,hfz17_2⟩:=cB3 BK703.out)|((with_reducible refine zJ (f:=74) rfl ?_);refine yj (some 40) rfl rfl Try.func74 (by kernel_rfl) rfl #[.string a0_2] rfl (by (try simp only [zt,zu,zv]);first|done|rfl|(simp only [zw,zx];rfl)|(simp only [yr,ys,zV,zW];rfl)) ?_;(with_reducible refine (Fg.calls k  a0_2 t710 t711 _ A15.out).mono ?_);rintro e w18 ⟨v712,rfl,ho0,hb⟩;refine ⟨_,rfl,?_⟩;have HO713:=zh (yy ho0 (zB (by repeat (with_reducible first|exact HB.out|apply za|apply zb|apply zc|refine zd ?_ GE703.out))));replace BK703:=zh (cD BK703.out (by (with_reducible repeat first|apply ze|apply zf|apply zg);exact BK703.out) hb);replace HB:=zh (zC (by repeat (with_reducible first|exact HB.out|apply za|apply zb|apply zc|refine zd ?_ GE703.out)) hb);(try clear hb);(try clear hb2);(try clear hk);(try clear hi);(try clear ho0)))
  go_loopg [3,9] k (fun kq v3 v9 w' => ∃ (x3_1 : Int) (x9_1 : Int),v3 = .int .i64 x3_1∧v9 = .int .i64 x9_1∧Aside0 (F6.l1 kq x3_1 t710 x9_1=some r)∧Aside0 (kq≤k)∧Aside0 (Kd.R k109 109 w' w.heap.size (fun _=>True) v712 t710)∧Aside0 (w'.heap[gb703]? = some (.cells #[.int .i64 a0_0,.int .i64 a0_1,.string a0_2] 44 (0,0)))∧Aside0 (Below w.heap.size w w'))
  case atStart=>exact ⟨(0),(0),(by first|rfl|(simp;done)|(simp [*];done)),(by first|rfl|(simp;done)|(simp [*];done)),H',⟨ye _⟩,⟨by (with_reducible repeat (first|apply zm|apply zn|apply zo));exact HO713.out⟩,⟨by (with_reducible repeat first|apply ze|apply zf|apply zg);exact BK703.out⟩,⟨by repeat (with_reducible first|exact HB.out|apply za|apply zb|apply zc|refine zd ?_ GE703.out)⟩⟩
  case round =>
   clear H'
   try clear c1 c2 c2b0 c2b1
   try clear p2
   try clear c4
   try clear p6
   try clear c7 c7b0
   try clear p7
   try clear q7
   try clear hx7
   try clear c8 c8b0 c14 c14b0 c14b1
   try clear hcz17_0 hcz17_1 hcz17_2
   try clear hcz5_0 hcz5_1 hcz5_2
   try clear hfz17_0 hfz17_1 hfz17_2
   try clear hfz5_0 hfz5_1 hfz5_2
   try clear hx708_0
   try clear hx708_1
   try clear hx708_2
   try clear p2
   try clear p708
   try clear q708
   obtain ⟨x3_1,x9_1,rfl,rfl,HA,HK1,HO_7,BK703,HB⟩:=hrel
   cases gk with
   | zero=>exact absurd HA.out (by simp [F6.l1])
   | succ k1 =>
    have H:=HA.out;clear HA;simp only [F6.l1] at H
    by_cases c19 : x9_1<(t710.length : Int)
    ·
     rw [if_pos c19] at H
     have c19b0 : decide (x9_1<(t710.length : Int))=true:=decide_eq_true c19;clear c19
     by_cases c20 : 0≤x9_1
     ·
      rw [if_pos c20] at H
      have c20b0 : decide (0≤x9_1)=true:=decide_eq_true c20;clear c20;replace H:=zT.mp H;obtain ⟨t715,A210,H⟩:=H;replace H : (F6.l1 k1 (mx x3_1 t715) t710 (wrap64 (x9_1+1)))=some r:=H;have A21:=zh A210;clear A210;obtain ⟨ji22,hji22⟩ : ∃ j_ : Int,(mx x3_1 t715)=j_:=⟨_,rfl⟩;replace H : (F6.l1 k1 ji22 t710 (wrap64 (x9_1+1)))=some r:=by first|(rw [hji22] at H;exact H)|(simp only [hji22] at H ⊢;exact H)
      (try rw [hji22] at A21);have hji22_ : (if x3_1<t715 then t715 else x3_1)=ji22:=hji22;have H':=zh H;clear H;obtain ⟨Ao23,co23,eo23⟩:=yk HO_7.out;subst eo23;have p714 : 0≤(x9_1 : Int):=zy (by first|(with_reducible assumption)|assumption);have q714 : x9_1<(t710.length : Int):=zy (by first|(with_reducible assumption)|assumption);obtain ⟨ad714,e714,hx714_0,hx714_1,hx714_2,hx714_3⟩:=at_T109 (yh HO_7.out).2.2 x9_1 p714 q714
      cases e714
      replace p714:=eq_true p714;replace q714:=eq_true q714
      go_wp2_with (first|((with_reducible refine zJ (f:=41) rfl ?_);refine yj (some 55) rfl rfl Try.func41 (by kernel_rfl) rfl #[.agg #[.int .i64 ((rd_T109 t710 x9_1).f1.f0),.int .i64 ((rd_T109 t710 x9_1).f1.f1),.string ((rd_T109 t710 x9_1).f1.f2)]] rfl (by (try simp only [zt,zu,zv]);first|done|rfl|(simp only [zw,zx];rfl)|(simp only [yr,ys,zV,zW];rfl)) ?_;(with_reducible refine (ih k1 (by have:=HK1.out;omega)  ((rd_T109 t710 x9_1).f1.f0) ((rd_T109 t710 x9_1).f1.f1) ((rd_T109 t710 x9_1).f1.f2) t715 _ A21.out).mono ?_);rintro e w24 ⟨rfl,hb⟩;refine ⟨_,rfl,?_⟩;replace HO_7:=zh (yg (by (with_reducible repeat (first|apply zm|apply zn|apply zo));exact HO_7.out) hb);replace BK703:=zh (cD BK703.out (by (with_reducible repeat first|apply ze|apply zf|apply zg);exact BK703.out) hb);replace HB:=zh (zC (by repeat (with_reducible first|exact HB.out|apply za|apply zb|apply zc|refine zd ?_ GE703.out)) hb);(try clear hb);(try clear hb2);(try clear hk);(try clear hi)))
      go_roundg k1
      case measure=>have:=HK1.out;omega
      case rel=>exact ⟨(ji22),(wrap64 (x9_1+1)),(by first|rfl|(simp;done)|(simp only [← hji22] <;> (first|rfl|simp))|(simp [*];done)),(by first|rfl|(simp;done)|(simp [*];done)),H',⟨by have:=HK1.out;omega⟩,⟨by (with_reducible repeat (first|apply zm|apply zn|apply zo));exact HO_7.out⟩,⟨by (with_reducible repeat first|apply ze|apply zf|apply zg);exact BK703.out⟩,⟨by repeat (with_reducible first|exact HB.out|apply za|apply zb|apply zc|refine zd ?_ GE703.out)⟩⟩
     rw [if_neg c20] at H;exact absurd H (by simp)
    rw [if_neg c19] at H;have c19b0 : decide (x9_1<(t710.length : Int))=false:=decide_eq_false c19;clear c19;obtain rfl:=zU H;obtain ⟨Ao25,co25,eo25⟩:=yk HO_7.out;subst eo25
    go_wp2
    go_ret
    exact ⟨by first|rfl|(simp [yt,yu] <;> rfl)|(simp [*,yt,yu] <;> rfl),by repeat (with_reducible first|exact HB.out|apply za|apply zb|apply zc|refine zd ?_ GE703.out)⟩
 rw [if_neg c14] at H;have c14b0 : (a0_0 == 5)=false:=zY.mpr c14;have c14b1 : (a0_0 != 5)=true:=zZ.mpr c14;obtain rfl:=zU H
 go_enter Try.func41,Try.ntmps41
 go_wp2_with (first|((with_reducible refine zK (N:=1) rfl ?_);refine zI ?hg (N:=1) ?hd (cs:=#[.int .i64 a0_0,.int .i64 a0_1,.string a0_2]) (t:=44) ?hr ?_;(case hd=>rfl);(case hg=>rfl);(case hr=>go_simp <;> rfl);intro gb703 hg w26 hbox hb;have BK703:=zh (hbox);have hH_:=cH (by repeat (with_reducible first|exact HB.out|apply za|apply zb|apply zc)) hb hg;have GW703:=zh hH_.1;have GE703:=GW703;replace HB:=zh hH_.2;clear hb hbox hg hH_;obtain ⟨hcz27_0,hcz27_1,hcz27_2,hfz27_0,hfz27_1,hfz27_2⟩:=cB3 BK703.out))
 go_ret
 exact ⟨by first|rfl|(simp [yt,yu] <;> rfl)|(simp [*,yt,yu] <;> rfl),by repeat (with_reducible first|exact HB.out|apply za|apply zb|apply zc|refine zd ?_ GE703.out)⟩

end Go.Proofs.Ytjgcddjdmfcgoaa.Q
end
section
namespace Go.Proofs.Ytjgcddjdmfcgoaa.Q
open Go.RowKit Go.Proofs.YtjgcddjdmfcgoaaW.PrintWords Go.Proofs.YtjgcddjdmfcgoaaW.PrintLast Go.Proofs.YtjgcddjdmfcgoaaW.PrintMore
attribute [local go_sem] max2_int min2_int max_two min_two max_three min_three max_four min_four max2_str min2_str str_geq str_gtr str_leq
set_option linter.unusedVariables false
set_option linter.unusedSimpArgs false

def Fx.f (k : Nat) (a0_0 : Int) (a0_1 : Int) (a0_2 : ByteArray) : Option (Int×Int):=(Fo.f k a0_0 a0_1 a0_2).bind fun t717=>(if t717=true then ((F6.f k a0_0 a0_1 a0_2).bind fun t718=>(some (t718,0))) else (some (0,1)))
theorem Fx.mono : ∀ a0 a1 a2 k,LeO (Fx.f k a0 a1 a2) (Fx.f (k+1) a0 a1 a2):=by
 intro a0 a1 a2 k;unfold Fx.f
 repeat' first|(with_reducible first|exact Fo.mono _ _ _ _|exact F6.mono _ _ _ _|exact zQ _|exact zN _|refine zP ?_ ?_|refine zO ?_ (fun _=>?_))|refine zP ?_ ?_|refine zO ?_ (fun _=>?_)
set_option maxHeartbeats 8000000 in
set_option maxRecDepth 100000 in
theorem Fx.calls (k : Nat) (a0_0 : Int) (a0_1 : Int) (a0_2 : ByteArray) (r1 : Int) (r2 : Int) (w : World) (h : Fx.f k a0_0 a0_1 a0_2=some (r1,r2)) :
  Calls Try.prog 20 #[.agg #[.int .i64 a0_0,.int .i64 a0_1,.string a0_2]] w fun e w' => e = .returned (.tuple #[.int .i64 r1,.int .i64 r2])∧Below w.heap.size w w':=by
 have hu44:=Try.underlying44;have HB:=zh (Below.refl w.heap.size w);have H : ((Fo.f k a0_0 a0_1 a0_2).bind fun t717=>(if t717=true then ((F6.f k a0_0 a0_1 a0_2).bind fun t718=>(some (t718,0))) else (some (0,1))))=some (r1,r2):=h;clear h;replace H:=zT.mp H;obtain ⟨t717,A20,H⟩:=H;replace H : (if t717=true then ((F6.f k a0_0 a0_1 a0_2).bind fun t718=>(some (t718,0))) else (some (0,1)))=some (r1,r2):=H;have A2:=zh A20;clear A20
 by_cases c3 : t717=true
 ·
  subst c3
  have H1 : ((F6.f k a0_0 a0_1 a0_2).bind fun t718=>(some (t718,0)))=some (r1,r2):=by rw [if_pos rfl] at H;exact H
  clear H;have H:=H1;clear H1;replace H:=zT.mp H;obtain ⟨t718,A40,H⟩:=H;replace H : (some (t718,0))=some (r1,r2):=H;have A4:=zh A40;clear A40;simp only [Option.some.injEq,Prod.mk.injEq] at H;obtain ⟨rfl,rfl⟩:=H
  go_enter Try.func20,Try.ntmps20
  go_wp2_with (first|((with_reducible refine zK (N:=1) rfl ?_);refine zI ?hg (N:=1) ?hd (cs:=#[.int .i64 a0_0,.int .i64 a0_1,.string a0_2]) (t:=44) ?hr ?_;(case hd=>rfl);(case hg=>rfl);(case hr=>go_simp <;> rfl);intro gb716 hg w5 hbox hb;have BK716:=zh (hbox);have hH_:=cH (by repeat (with_reducible first|exact HB.out|apply za|apply zb|apply zc)) hb hg;have GW716:=zh hH_.1;have GE716:=GW716;replace HB:=zh hH_.2;clear hb hbox hg hH_;obtain ⟨hcz6_0,hcz6_1,hcz6_2,hfz6_0,hfz6_1,hfz6_2⟩:=cB3 BK716.out)|((with_reducible refine zJ (f:=36) rfl ?_);refine yj (some 5) rfl rfl Try.func36 (by kernel_rfl) rfl #[.agg #[.int .i64 a0_0,.int .i64 a0_1,.string a0_2]] rfl (by (try simp only [zt,zu,zv]);first|done|rfl|(simp only [zw,zx];rfl)|(simp only [yr,ys,zV,zW];rfl)) ?_;(with_reducible refine (Fo.calls k  a0_0 a0_1 a0_2 true _ A2.out).mono ?_);rintro e w7 ⟨rfl,hb⟩;refine ⟨_,rfl,?_⟩;replace BK716:=zh (cD BK716.out (by (with_reducible repeat first|apply ze|apply zf|apply zg);exact BK716.out) hb);replace HB:=zh (zC (by repeat (with_reducible first|exact HB.out|apply za|apply zb|apply zc|refine zd ?_ GE716.out)) hb);(try clear hb);(try clear hb2);(try clear hk);(try clear hi);obtain ⟨hcz8_0,hcz8_1,hcz8_2,hfz8_0,hfz8_1,hfz8_2⟩:=cB3 BK716.out)|((with_reducible refine zJ (f:=41) rfl ?_);refine yj (some 8) rfl rfl Try.func41 (by kernel_rfl) rfl #[.agg #[.int .i64 a0_0,.int .i64 a0_1,.string a0_2]] rfl (by (try simp only [zt,zu,zv]);first|done|rfl|(simp only [zw,zx];rfl)|(simp only [yr,ys,zV,zW];rfl)) ?_;(with_reducible refine (F6.calls k  a0_0 a0_1 a0_2 t718 _ A4.out).mono ?_);rintro e w9 ⟨rfl,hb⟩;refine ⟨_,rfl,?_⟩;replace BK716:=zh (cD BK716.out (by (with_reducible repeat first|apply ze|apply zf|apply zg);exact BK716.out) hb);replace HB:=zh (zC (by repeat (with_reducible first|exact HB.out|apply za|apply zb|apply zc|refine zd ?_ GE716.out)) hb);(try clear hb);(try clear hb2);(try clear hk);(try clear hi)))
  go_ret2
  exact ⟨by first|rfl|(simp [yt,yu] <;> rfl)|(simp [*,yt,yu] <;> rfl),by repeat (with_reducible first|exact HB.out|apply za|apply zb|apply zc|refine zd ?_ GE716.out)⟩
 replace c3:=yb.mpr c3;subst c3;have H1 : (some (0,1))=some (r1,r2):=by rw [if_neg (show ¬ (false=true) by decide)] at H;exact H
 clear H;have H:=H1;clear H1;simp only [Option.some.injEq,Prod.mk.injEq] at H;obtain ⟨rfl,rfl⟩:=H
 go_enter Try.func20,Try.ntmps20
 go_wp2_with (first|((with_reducible refine zK (N:=1) rfl ?_);refine zI ?hg (N:=1) ?hd (cs:=#[.int .i64 a0_0,.int .i64 a0_1,.string a0_2]) (t:=44) ?hr ?_;(case hd=>rfl);(case hg=>rfl);(case hr=>go_simp <;> rfl);intro gb716 hg w10 hbox hb;have BK716:=zh (hbox);have hH_:=cH (by repeat (with_reducible first|exact HB.out|apply za|apply zb|apply zc)) hb hg;have GW716:=zh hH_.1;have GE716:=GW716;replace HB:=zh hH_.2;clear hb hbox hg hH_;obtain ⟨hcz11_0,hcz11_1,hcz11_2,hfz11_0,hfz11_1,hfz11_2⟩:=cB3 BK716.out)|((with_reducible refine zJ (f:=36) rfl ?_);refine yj (some 5) rfl rfl Try.func36 (by kernel_rfl) rfl #[.agg #[.int .i64 a0_0,.int .i64 a0_1,.string a0_2]] rfl (by (try simp only [zt,zu,zv]);first|done|rfl|(simp only [zw,zx];rfl)|(simp only [yr,ys,zV,zW];rfl)) ?_;(with_reducible refine (Fo.calls k  a0_0 a0_1 a0_2 false _ A2.out).mono ?_);rintro e w12 ⟨rfl,hb⟩;refine ⟨_,rfl,?_⟩;replace BK716:=zh (cD BK716.out (by (with_reducible repeat first|apply ze|apply zf|apply zg);exact BK716.out) hb);replace HB:=zh (zC (by repeat (with_reducible first|exact HB.out|apply za|apply zb|apply zc|refine zd ?_ GE716.out)) hb);(try clear hb);(try clear hb2);(try clear hk);(try clear hi)))
 go_ret2
 exact ⟨by first|rfl|(simp [yt,yu] <;> rfl)|(simp [*,yt,yu] <;> rfl),by repeat (with_reducible first|exact HB.out|apply za|apply zb|apply zc|refine zd ?_ GE716.out)⟩


def F0d.f (l0 : List Int) (a1 : Int) (a2 : Int) : Option (Int):=if a2≤1 then (some 0) else (if (l0.length : Int)=0 then (if a2=0 then (none) else (some (Int.tmod (wrap64 (a1*7)) a2))) else (if 0≤(Int.tmod a1 (l0.length : Int)) then (if (Int.tmod a1 (l0.length : Int))<(l0.length : Int) then (if 0≤(Int.tmod (wrap64 (a1+1)) (l0.length : Int)) then (if (Int.tmod (wrap64 (a1+1)) (l0.length : Int))<(l0.length : Int) then (if a2=0 then (none) else (some (Int.tmod (wrap64 ((wrap64 ((wrap64 ((wrap64 (rd l0 (Int.tmod a1 (l0.length : Int))))*31))+(wrap64 (rd l0 (Int.tmod (wrap64 (a1+1)) (l0.length : Int))))))+(wrap64 (Int.tdiv a1 (l0.length : Int))))) a2))) else (none)) else (none)) else (none)) else (none)))
set_option maxHeartbeats 8000000 in
set_option maxRecDepth 100000 in
theorem F0d.calls (A0 : Option Addr) (c0 : Nat) (l0 : List Int) (a1 : Int) (a2 : Int) (r : Int) (w : World) (hr0 : Kd.C (Kd.int .u8) w A0 l0.length l0) (hc0 : l0.length≤c0) (h : F0d.f l0 a1 a2=some r) :
  Calls Try.prog 7 #[.slice A0 l0.length c0,.int .i64 a1,.int .i64 a2] w fun e w' => e = .returned (.int .i64 r)∧Drawn0 w w':=by
 have HR0:=zh hr0;have HC0:=zh hc0;clear hr0 hc0;have H : (if a2≤1 then (some 0) else (if (l0.length : Int)=0 then (if a2=0 then (none) else (some (Int.tmod (wrap64 (a1*7)) a2))) else (if 0≤(Int.tmod a1 (l0.length : Int)) then (if (Int.tmod a1 (l0.length : Int))<(l0.length : Int) then (if 0≤(Int.tmod (wrap64 (a1+1)) (l0.length : Int)) then (if (Int.tmod (wrap64 (a1+1)) (l0.length : Int))<(l0.length : Int) then (if a2=0 then (none) else (some (Int.tmod (wrap64 ((wrap64 ((wrap64 ((wrap64 (rd l0 (Int.tmod a1 (l0.length : Int))))*31))+(wrap64 (rd l0 (Int.tmod (wrap64 (a1+1)) (l0.length : Int))))))+(wrap64 (Int.tdiv a1 (l0.length : Int))))) a2))) else (none)) else (none)) else (none)) else (none))))=some r:=h;clear h
 by_cases c4 : a2≤1
 ·
  rw [if_pos c4] at H
  have c4b0 : decide (a2≤1)=true:=decide_eq_true c4;clear c4;obtain rfl:=zU H
  go_enter Try.func7,Try.ntmps7
  go_wp2
  repeat (go_quiet (fail);try go_wp2)
  go_ret
  exact ⟨by first|rfl|(simp;done)|(simp [*];done),by repeat (first|exact yp _|apply yq)⟩
 rw [if_neg c4] at H;have c4b0 : decide (a2≤1)=false:=decide_eq_false c4;clear c4
 by_cases c5 : (l0.length : Int)=0
 ·
  rw [if_pos c5] at H
  have c5b0 : ((l0.length : Int) == 0)=true:=ya.mpr c5;have c5b1 : ((l0.length : Int) != 0)=false:=zX.mpr c5;clear c5
  by_cases c6 : a2=0
  ·
   rw [if_pos c6] at H
   exact absurd H (by simp)
  rw [if_neg c6] at H;have c6b0 : (a2 == 0)=false:=zY.mpr c6;have c6b1 : (a2 != 0)=true:=zZ.mpr c6;obtain rfl:=zU H
  go_enter Try.func7,Try.ntmps7
  go_wp2
  repeat (go_quiet (fail);try go_wp2)
  go_ret
  exact ⟨by first|rfl|(simp;done)|(simp [*];done),by repeat (first|exact yp _|apply yq)⟩
 rw [if_neg c5] at H;have c5b0 : ((l0.length : Int) == 0)=false:=zY.mpr c5;have c5b1 : ((l0.length : Int) != 0)=true:=zZ.mpr c5;have c5b2 : ¬ (l0=[]):=fun h_=>c5 (by rw [h_];rfl);obtain ⟨ji7,hji7⟩ : ∃ j_ : Int,(Int.tmod a1 (l0.length : Int))=j_:=⟨_,rfl⟩;replace H : (if 0≤(ji7) then (if (ji7)<(l0.length : Int) then (if 0≤(Int.tmod (wrap64 (a1+1)) (l0.length : Int)) then (if (Int.tmod (wrap64 (a1+1)) (l0.length : Int))<(l0.length : Int) then (if a2=0 then (none) else (some (Int.tmod (wrap64 ((wrap64 ((wrap64 ((wrap64 (rd l0 (ji7)))*31))+(wrap64 (rd l0 (Int.tmod (wrap64 (a1+1)) (l0.length : Int))))))+(wrap64 (Int.tdiv a1 (l0.length : Int))))) a2))) else (none)) else (none)) else (none)) else (none))=some r:=by first|(rw [hji7] at H;exact H)|(simp only [hji7] at H ⊢;exact H)
 by_cases c8 : 0≤(ji7)
 ·
  rw [if_pos c8] at H
  have c8b0 : decide (0≤(ji7))=true:=decide_eq_true c8;clear c8
  by_cases c9 : (ji7)<(l0.length : Int)
  ·
   rw [if_pos c9] at H
   have c9b0 : decide ((ji7)<(l0.length : Int))=true:=decide_eq_true c9;clear c9;obtain ⟨ji10,hji10⟩ : ∃ j_ : Int,(Int.tmod (wrap64 (a1+1)) (l0.length : Int))=j_:=⟨_,rfl⟩;replace H : (if 0≤(ji10) then (if (ji10)<(l0.length : Int) then (if a2=0 then (none) else (some (Int.tmod (wrap64 ((wrap64 ((wrap64 ((wrap64 (rd l0 (ji7)))*31))+(wrap64 (rd l0 (ji10)))))+(wrap64 (Int.tdiv a1 (l0.length : Int))))) a2))) else (none)) else (none))=some r:=by first|(rw [hji10] at H;exact H)|(simp only [hji10] at H ⊢;exact H)
   by_cases c11 : 0≤(ji10)
   ·
    rw [if_pos c11] at H
    have c11b0 : decide (0≤(ji10))=true:=decide_eq_true c11;clear c11
    by_cases c12 : (ji10)<(l0.length : Int)
    ·
     rw [if_pos c12] at H
     have c12b0 : decide ((ji10)<(l0.length : Int))=true:=decide_eq_true c12;clear c12
     by_cases c13 : a2=0
     ·
      rw [if_pos c13] at H
      exact absurd H (by simp)
     rw [if_neg c13] at H;have c13b0 : (a2 == 0)=false:=zY.mpr c13;have c13b1 : (a2 != 0)=true:=zZ.mpr c13;obtain rfl:=zU H;have p220 : 0≤((ji7) : Int):=zy (by first|(with_reducible assumption)|assumption);have q220 : (ji7)<(l0.length : Int):=zy (by first|(with_reducible assumption)|assumption);obtain ⟨ad220,e220,hx220_0⟩:=Kd.at_int HR0.out (ji7) p220 q220
     cases e220
     replace p220:=eq_true p220;replace q220:=eq_true q220;have p221 : 0≤((ji10) : Int):=zy (by first|(with_reducible assumption)|assumption);have q221 : (ji10)<(l0.length : Int):=zy (by first|(with_reducible assumption)|assumption);obtain ⟨ad221,e221,hx221_0⟩:=Kd.at_int HR0.out (ji10) p221 q221;obtain rfl : ad220=ad221:=(by injection e221);replace p221:=eq_true p221;replace q221:=eq_true q221
     go_enter Try.func7,Try.ntmps7
     go_wp2
     repeat (go_quiet (fail);try go_wp2)
     go_ret
     exact ⟨by first|rfl|(simp;done)|(simp only [← hji7,← hji10] <;> (first|rfl|simp))|(simp [*];done),by repeat (first|exact yp _|apply yq)⟩
    rw [if_neg c12] at H;exact absurd H (by simp)
   rw [if_neg c11] at H;exact absurd H (by simp)
  rw [if_neg c9] at H;exact absurd H (by simp)
 rw [if_neg c8] at H;exact absurd H (by simp)

end Go.Proofs.Ytjgcddjdmfcgoaa.Q
end
section
namespace Go.Proofs.Ytjgcddjdmfcgoaa.Q
open Go.RowKit Go.Proofs.YtjgcddjdmfcgoaaW.PrintWords Go.Proofs.YtjgcddjdmfcgoaaW.PrintLast Go.Proofs.YtjgcddjdmfcgoaaW.PrintMore
attribute [local go_sem] max2_int min2_int max_two min_two max_three min_three max_four min_four max2_str min2_str str_geq str_gtr str_leq   -- for this text's walks alone
set_option linter.unusedVariables false
set_option linter.unusedSimpArgs false

attribute [local go_sem high] eqA44
mutual
def Fc.j0 : Nat→List Int→List Int→Bool→Option (Bool)
 | 0,_,_,_=>none
 | k+1,x0,x1,x27=>if x27=true then (some true) else ((F05.f k x0).bind fun bt719=>((F04.f k bt719.1 bt719.2.1 bt719.2.2).bind fun bt723=>((F03.f k bt719.1 bt719.2.1 bt719.2.2).bind fun bt727=>(if bt723.2=bt727.2 then (Fc.j1 k x1 bt723.1 bt723.2 ((strOfNums bt723.1).toList != (strOfNums bt727.1).toList) bt719.1 bt719.2.1 bt719.2.2) else (Fc.j1 k x1 bt723.1 bt723.2 true bt719.1 bt719.2.1 bt719.2.2)))))
def Fc.j1 : Nat→List Int→List Int→Int→Bool→Int→Int→ByteArray→Option (Bool)
 | 0,_,_,_,_,_,_,_=>none
 | k+1,x1,x6,x7,x49,x723000,x723001,x723002=>if x49=true then (some false) else (if x7=0 then ((Ft.f k x6).bind fun bt732=>((F0d.f x1 0 (x6.length : Int)).bind fun t737=>(if 0≤t737 then (if t737≤(x6.length : Int) then ((Ft.f k (x6.take (t737 : Int).toNat)).bind fun bt742=>((some (([] : List Int) : List Int)).bind fun y747=>(if y747.length+x6.length<140737488355328 then ((some (y747++x6 : List Int)).bind fun y750=>(if y750.length<140737488355328 then ((Ft.f k (y750 ++ [0])).bind fun bt756=>((Fy.f k x723000 x723001 x723002).bind fun bt761=>((Fx.f k x723000 x723001 x723002).bind fun bt763=>(if bt732.2.2.2=0 then (if (bt732.1 == x723000 && (bt732.2.1 == x723001 && (bt732.2.2.1.toList == x723002.toList)))=true then ((Fh.f k x723000 x723001 x723002).bind fun t765=>(if t765=true then (if bt742.2.2.2=3 then (if bt756.2.2.2=3 then (if bt761.2=0 then (if bt761.1=bt763.1 then (some (decide (bt761.1≤5))) else (some false)) else (some false)) else (some false)) else (some false)) else (some false))) else (some false)) else (some false))))) else (none))) else (none)))) else (none)) else (none)))) else (if x7=1 then ((Fh.f k x723000 x723001 x723002).bind fun t731=>(some (!t731))) else (some false)))
end
def Fc.f (k : Nat) (l0 : List Int) (l1 : List Int) : Option (Bool):=if (l0.length : Int) > 1048576 then (Fc.j0 k l0 l1 true) else (Fc.j0 k l0 l1 (decide ((l1.length : Int) > 1048576)))
theorem Fc.mono_l : ∀ k,(∀ y0 y1 y2,LeO (Fc.j0 k y0 y1 y2) (Fc.j0 (k+1) y0 y1 y2))∧(∀ y0 y1 y2 y3 y4 y5 y6,LeO (Fc.j1 k y0 y1 y2 y3 y4 y5 y6) (Fc.j1 (k+1) y0 y1 y2 y3 y4 y5 y6))
 | 0=>⟨fun _ _ _ r h=>by simp [Fc.j0] at h,fun _ _ _ _ _ _ _ r h=>by simp [Fc.j1] at h⟩
 | k+1=>by
  obtain ⟨ih0,ih1⟩:=Fc.mono_l k;refine ⟨?_,?_⟩
  ·
   intro y0 y1 y2
   unfold Fc.j0
   repeat' first|(with_reducible first|exact ih0 _ _ _|exact ih1 _ _ _ _ _ _ _|exact F05.mono _ _|exact F04.mono _ _ _ _|exact F03.mono _ _ _ _|exact Fh.mono _ _ _ _|exact Ft.mono _ _|exact Fy.mono _ _ _ _|exact Fx.mono _ _ _ _|exact zQ _|exact zN _|refine zP ?_ ?_|refine zO ?_ (fun _=>?_))|refine zP ?_ ?_|refine zO ?_ (fun _=>?_)
  intro y0 y1 y2 y3 y4 y5 y6;unfold Fc.j1
  repeat' first|(with_reducible first|exact ih0 _ _ _|exact ih1 _ _ _ _ _ _ _|exact F05.mono _ _|exact F04.mono _ _ _ _|exact F03.mono _ _ _ _|exact Fh.mono _ _ _ _|exact Ft.mono _ _|exact Fy.mono _ _ _ _|exact Fx.mono _ _ _ _|exact zQ _|exact zN _|refine zP ?_ ?_|refine zO ?_ (fun _=>?_))|refine zP ?_ ?_|refine zO ?_ (fun _=>?_)
theorem Fc.mono : ∀ a0 a1 k,LeO (Fc.f k a0 a1) (Fc.f (k+1) a0 a1):=by
 intro a0 a1 k;obtain ⟨ih0,ih1⟩:=Fc.mono_l k;unfold Fc.f
 repeat' first|(with_reducible first|exact ih0 _ _ _|exact ih1 _ _ _ _ _ _ _|exact F05.mono _ _|exact F04.mono _ _ _ _|exact F03.mono _ _ _ _|exact Fh.mono _ _ _ _|exact Ft.mono _ _|exact Fy.mono _ _ _ _|exact Fx.mono _ _ _ _|exact zQ _|exact zN _|refine zP ?_ ?_|refine zO ?_ (fun _=>?_))|refine zP ?_ ?_|refine zO ?_ (fun _=>?_)
set_option maxHeartbeats 8000000 in
set_option maxRecDepth 100000 in
theorem Fc.calls (k : Nat) (A0 : Option Addr) (c0 : Nat) (l0 : List Int) (A1 : Option Addr) (c1 : Nat) (l1 : List Int) (r : Bool) (w : World) (hr0 : Kd.C (Kd.int .u8) w A0 l0.length l0) (hc0 : l0.length≤c0) (hr1 : Kd.C (Kd.int .u8) w A1 l1.length l1) (hc1 : l1.length≤c1) (h : Fc.f k l0 l1=some r) (hr_ : r=true) :
  Calls Try.prog 4 #[.slice A0 l0.length c0,.slice A1 l1.length c1] w fun e w' => e = .returned (.bool r)∧Below w.heap.size w w':=by
 have hu44:=Try.underlying44;have HR0:=zh hr0;have HC0:=zh hc0;clear hr0 hc0;have HR1:=zh hr1;have HC1:=zh hc1;clear hr1 hc1;have HB:=zh (Below.refl w.heap.size w);have H : (if (l0.length : Int) > 1048576 then (Fc.j0 k l0 l1 true) else (Fc.j0 k l0 l1 (decide ((l1.length : Int) > 1048576))))=some r:=h;clear h;have HC3:=zh H;clear H
 go_enter Try.func4,Try.ntmps4
 go_upto_region 1 with (fail)
 go_cut [27] (fun v27 wc => ∃ (kq : Nat) (x27_2 : Bool),v27 = .bool x27_2∧Aside0 (Fc.j0 kq l0 l1 x27_2=some r)∧Aside0 (kq≤k)∧Aside0 (Below w.heap.size w wc))
 case first =>
  have H:=HC3.out;clear HC3
  by_cases c4 : (l0.length : Int) > 1048576
  ·
   rw [if_pos c4] at H
   have c4b0 : decide (1048576<(l0.length : Int))=true:=decide_eq_true c4;have c4b1 : decide (1048576<l0.length)=true:=decide_eq_true (by omega);clear c4;(first|rw [c4b0]|(simp only [zG,zH];rw [c4b0])|skip);have H':=zh H;clear H
   go_wp2
   go_meet
   case rel=>exact ⟨_,(true),(by first|rfl|(simp;done)|(simp [*];done)),H',⟨by first|omega|exact ye _⟩,⟨by repeat (with_reducible first|exact HB.out|apply za|apply zb|apply zc)⟩⟩
  rw [if_neg c4] at H;have c4b0 : decide (1048576<(l0.length : Int))=false:=decide_eq_false c4;have c4b1 : decide (1048576<l0.length)=false:=decide_eq_false (by omega);clear c4;(first|rw [c4b0]|(simp only [zG,zH];rw [c4b0])|skip);have H':=zh H;clear H
  go_wp2
  go_meet
  case rel=>exact ⟨_,(decide ((l1.length : Int) > 1048576)),(by first|rfl|(simp;done)|(simp [*];done)),H',⟨by first|omega|exact ye _⟩,⟨by repeat (with_reducible first|exact HB.out|apply za|apply zb|apply zc)⟩⟩
 case rest =>
  clear HC3
  try clear c1
  try clear p2
  try clear c4 c4b0 c4b1
  obtain ⟨kq,x27_2,rfl,HA,HJ2,HB⟩:=hcut
  cases kq with
  | zero=>exact absurd HA.out (by simp [Fc.j0])
  | succ kj2 =>
   have H:=HA.out;clear HA;simp only [Fc.j0] at H
   by_cases c5 : x27_2=true
   ·
    subst c5
    have H1 : (some true)=some r:=by rw [if_pos rfl] at H;exact H
    clear H;have H:=H1;clear H1;obtain rfl:=zU H
    go_wp2
    go_ret
    exact ⟨by first|rfl|(simp [yt,yu] <;> rfl)|(simp [*,yt,yu] <;> rfl),by repeat (with_reducible first|exact HB.out|apply za|apply zb|apply zc)⟩
   replace c5:=yb.mpr c5;subst c5;have H1 : ((F05.f kj2 l0).bind fun bt719=>((F04.f kj2 bt719.1 bt719.2.1 bt719.2.2).bind fun bt723=>((F03.f kj2 bt719.1 bt719.2.1 bt719.2.2).bind fun bt727=>(if bt723.2=bt727.2 then (Fc.j1 kj2 l1 bt723.1 bt723.2 ((strOfNums bt723.1).toList != (strOfNums bt727.1).toList) bt719.1 bt719.2.1 bt719.2.2) else (Fc.j1 kj2 l1 bt723.1 bt723.2 true bt719.1 bt719.2.1 bt719.2.2)))))=some r:=by rw [if_neg (show ¬ (false=true) by decide)] at H;exact H
   clear H;have H:=H1;clear H1;replace H:=zT.mp H;obtain ⟨⟨t719,t720,t721⟩,A60,H⟩:=H;replace H : ((F04.f kj2 t719 t720 t721).bind fun bt723=>((F03.f kj2 t719 t720 t721).bind fun bt727=>(if bt723.2=bt727.2 then (Fc.j1 kj2 l1 bt723.1 bt723.2 ((strOfNums bt723.1).toList != (strOfNums bt727.1).toList) t719 t720 t721) else (Fc.j1 kj2 l1 bt723.1 bt723.2 true t719 t720 t721))))=some r:=H;have A6:=zh A60;clear A60;replace H:=zT.mp H;obtain ⟨⟨t723,t726⟩,A70,H⟩:=H;replace H : ((F03.f kj2 t719 t720 t721).bind fun bt727=>(if t726=bt727.2 then (Fc.j1 kj2 l1 t723 t726 ((strOfNums t723).toList != (strOfNums bt727.1).toList) t719 t720 t721) else (Fc.j1 kj2 l1 t723 t726 true t719 t720 t721)))=some r:=H;have A7:=zh A70;clear A70;replace H:=zT.mp H;obtain ⟨⟨t727,t730⟩,A80,H⟩:=H;replace H : (if t726=t730 then (Fc.j1 kj2 l1 t723 t726 ((strOfNums t723).toList != (strOfNums t727).toList) t719 t720 t721) else (Fc.j1 kj2 l1 t723 t726 true t719 t720 t721))=some r:=H;have A8:=zh A80;clear A80;have HC9:=zh H;clear H
   go_upto_region 6 with (first|((with_reducible refine zJ (f:=14) rfl ?_);refine yj (some 29) rfl rfl Try.func14 (by kernel_rfl) rfl #[.slice A0 l0.length c0] rfl (by (try simp only [zt,zu,zv]);first|done|rfl|(simp only [zw,zx];rfl)|(simp only [yr,ys,zV,zW];rfl)) ?_;(with_reducible refine (F05.calls kj2  _ _ l0 t719 t720 t721 _ ?side1 ?side2 A6.out).mono ?_);(case side1=>repeat (first|exact (Kd.C_below HR0.out HB.out)|(with_reducible refine Kd.C_alloc ?_ _)|(with_reducible refine Kd.C_drewN ?_ _)|(with_reducible refine Kd.C_drew ?_)));(case side2=>exact HC0.out);rintro e w10 ⟨rfl,hb⟩;refine ⟨_,rfl,?_⟩;replace HB:=zh (zC (by repeat (with_reducible first|exact HB.out|apply za|apply zb|apply zc)) hb);(try clear hb);(try clear hb2);(try clear hk);(try clear hi))|((with_reducible refine zK (N:=5) rfl ?_);(try (refine yz (by rfl) ?_;dsimp only));refine zI ?hg (N:=5) ?hd (cs:=#[.int .i64 0,.int .i64 0,.string (⟨#[]⟩ : ByteArray)]) (t:=44) ?hr ?_;(case hd=>rfl);(case hg=>rfl);(case hr=>go_simp <;> rfl);intro gb722 hg w11 hbox hb;have BK722:=zh (hbox);have hH_:=cH (by repeat (with_reducible first|exact HB.out|apply za|apply zb|apply zc)) hb hg;have GW722:=zh hH_.1;have GE722:=GW722;replace HB:=zh hH_.2;clear hb hbox hg hH_;obtain ⟨hcz12_0,hcz12_1,hcz12_2,hfz12_0,hfz12_1,hfz12_2⟩:=cB3 BK722.out)|((with_reducible refine zJ (f:=15) rfl ?_);refine yj (some 32) rfl rfl Try.func15 (by kernel_rfl) rfl #[.agg #[.int .i64 t719,.int .i64 t720,.string t721]] rfl (by (try simp only [zt,zu,zv]);first|done|rfl|(simp only [zw,zx];rfl)|(simp only [yr,ys,zV,zW];rfl)) ?_;(with_reducible refine (F04.calls kj2  t719 t720 t721 t723 t726 _ A7.out).mono ?_);rintro e w13 ⟨v724,rfl,ho0,hb⟩;refine ⟨_,rfl,?_⟩;have HO725:=zh (yy ho0 (zB (by repeat (with_reducible first|exact HB.out|apply za|apply zb|apply zc|refine zd ?_ GE722.out))));replace BK722:=zh (zD (g:=gb722) (o:=.cells #[.int .i64 t719,.int .i64 t720,.string t721] 44 (0,0)) (by (with_reducible repeat first|apply ze|apply zf|apply zg);refine zL (cs:=#[.int .i64 t719,.int .i64 t720,.string (⟨#[]⟩ : ByteArray)]) ?_ 2 _ rfl;(with_reducible repeat first|apply ze|apply zf|apply zg);refine zL (cs:=#[.int .i64 t719,.int .i64 0,.string (⟨#[]⟩ : ByteArray)]) ?_ 1 _ rfl;(with_reducible repeat first|apply ze|apply zf|apply zg);refine zL (cs:=#[.int .i64 0,.int .i64 0,.string (⟨#[]⟩ : ByteArray)]) ?_ 0 _ rfl;(with_reducible repeat first|apply ze|apply zf|apply zg);exact BK722.out) hb);replace HB:=zh (zC (by repeat (with_reducible first|exact HB.out|apply za|apply zb|apply zc|refine zd ?_ GE722.out)) hb);(try clear hb);(try clear hb2);(try clear hk);(try clear hi);(try clear ho0);obtain ⟨hcz14_0,hcz14_1,hcz14_2,hfz14_0,hfz14_1,hfz14_2⟩:=cB3 BK722.out)|((with_reducible refine zJ (f:=16) rfl ?_);refine yj (some 37) rfl rfl Try.func16 (by kernel_rfl) rfl #[.agg #[.int .i64 t719,.int .i64 t720,.string t721]] rfl (by (try simp only [zt,zu,zv]);first|done|rfl|(simp only [zw,zx];rfl)|(simp only [yr,ys,zV,zW];rfl)) ?_;(with_reducible refine (F03.calls kj2  t719 t720 t721 t727 t730 _ A8.out).mono ?_);rintro e w15 ⟨v728,rfl,ho0,hb⟩;refine ⟨_,rfl,?_⟩;have HO729:=zh (Kd.V_lower (Kd.V_mono (ok':=fun k_=>some k_≠(v724 : Value).ownBlock∧k_≠gb722) ho0 (fun k_ hk_=>⟨(Kd.fresh' (Kd.R_lt (by (with_reducible repeat (first|apply zm|apply zn|apply zo));exact HO725.out)) k_ hk_),(Kd.freshB (g:=gb722) (o:=.cells #[.int .i64 t719,.int .i64 t720,.string t721] 44 (0,0)) (by (with_reducible repeat first|apply ze|apply zf|apply zg);exact BK722.out) k_ hk_)⟩)) (zB (by repeat (with_reducible first|exact HB.out|apply za|apply zb|apply zc|refine zd ?_ GE722.out))));replace HO725:=zh (yg (by (with_reducible repeat (first|apply zm|apply zn|apply zo));exact HO725.out) hb);replace BK722:=zh (cD BK722.out (by (with_reducible repeat first|apply ze|apply zf|apply zg);exact BK722.out) hb);replace HB:=zh (zC (by repeat (with_reducible first|exact HB.out|apply za|apply zb|apply zc|refine zd ?_ GE722.out)) hb);(try clear hb);(try clear hb2);(try clear hk);(try clear hi);(try clear ho0)))
   (try simp only [Act.put,zi,zj,zk])
   go_cut [49] (fun v49 wc => ∃ (kq : Nat) (x49_8 : Bool),v49 = .bool x49_8∧Aside0 (Fc.j1 kq l1 t723 t726 x49_8 t719 t720 t721=some r)∧Aside0 (kq≤kj2)∧Aside0 (Kd.R (Kd.int .u8) 5 wc w.heap.size (fun _=>True) v724 t723)∧Aside0 (wc.heap[gb722]? = some (.cells #[.int .i64 t719,.int .i64 t720,.string t721] 44 (0,0)))∧Aside0 (Below w.heap.size w wc))
   case first =>
    have H:=HC9.out;clear HC9
    by_cases c16 : t726=t730
    ·
     rw [if_pos c16] at H
     have c16b0 : (t726 == t730)=true:=ya.mpr c16;have c16b1 : (t726 != t730)=false:=zX.mpr c16;clear c16;(first|rw [c16b0]|(simp only [zG,zH];rw [c16b0])|skip);have H':=zh H;clear H;have hcv17:=own_string (P:=Try.prog) Try.underlying22 Try.underlying5 Try.underlying9 (Kd.own_of_R HO725.out);obtain ⟨A18_,c18_,e18_⟩:=Kd.V_slice HO729.out;subst e18_;have hcv18:=Kd.C_string (P:=Try.prog) (A:=A18_) (c:=c18_) Try.underlying22 Try.underlying5 Try.underlying9 (Kd.V_reads' HO729.out).2.2
     go_wp2
     go_meet
     case rel=>exact ⟨_,(((strOfNums t723).toList != (strOfNums t727).toList)),(by first|rfl|(simp;done)|(simp [*];done)),H',⟨by have:=HJ2.out;first|omega|exact ye _⟩,⟨by (with_reducible repeat (first|apply zm|apply zn|apply zo));exact HO725.out⟩,⟨by (with_reducible repeat first|apply ze|apply zf|apply zg);exact BK722.out⟩,⟨by repeat (with_reducible first|exact HB.out|apply za|apply zb|apply zc|refine zd ?_ GE722.out)⟩⟩
    rw [if_neg c16] at H;have c16b0 : (t726 == t730)=false:=zY.mpr c16;have c16b1 : (t726 != t730)=true:=zZ.mpr c16;(first|rw [c16b0]|(simp only [zG,zH];rw [c16b0])|skip);have H':=zh H;clear H
    go_wp2
    go_meet
    case rel=>exact ⟨_,(true),(by first|rfl|(simp;done)|(simp [*];done)),H',⟨by have:=HJ2.out;first|omega|exact ye _⟩,⟨by (with_reducible repeat (first|apply zm|apply zn|apply zo));exact HO725.out⟩,⟨by (with_reducible repeat first|apply ze|apply zf|apply zg);exact BK722.out⟩,⟨by repeat (with_reducible first|exact HB.out|apply za|apply zb|apply zc|refine zd ?_ GE722.out)⟩⟩
   case rest =>
    clear HC9
    try clear c1
    try clear hcv1
    try clear p2
    try clear c4 c4b0 c4b1 c5 c14 c15 c16 c16b0 c16b1
    try clear hcv17
    try clear hcv18
    try clear hcz12_0 hcz12_1 hcz12_2
    try clear hcz14_0 hcz14_1 hcz14_2
    try clear hfz12_0 hfz12_1 hfz12_2
    try clear hfz14_0 hfz14_1 hfz14_2
    try clear p2
    obtain ⟨kq,x49_8,rfl,HA,HJ8,HO_6,BK722,HB⟩:=hcut
    cases kq with
    | zero=>exact absurd HA.out (by simp [Fc.j1])
    | succ kj8 =>
     have H:=HA.out;clear HA;simp only [Fc.j1] at H
     by_cases c19 : x49_8=true
     ·
      subst c19
      have H1 : (some false)=some r:=by rw [if_pos rfl] at H;exact H
      exact absurd H1 (by rw [hr_];decide)
     replace c19:=yb.mpr c19;subst c19;have H1 : (if t726=0 then ((Ft.f kj8 t723).bind fun bt732=>((F0d.f l1 0 (t723.length : Int)).bind fun t737=>(if 0≤t737 then (if t737≤(t723.length : Int) then ((Ft.f kj8 (t723.take (t737 : Int).toNat)).bind fun bt742=>((some (([] : List Int) : List Int)).bind fun y747=>(if y747.length+t723.length<140737488355328 then ((some (y747++t723 : List Int)).bind fun y750=>(if y750.length<140737488355328 then ((Ft.f kj8 (y750 ++ [0])).bind fun bt756=>((Fy.f kj8 t719 t720 t721).bind fun bt761=>((Fx.f kj8 t719 t720 t721).bind fun bt763=>(if bt732.2.2.2=0 then (if (bt732.1 == t719 && (bt732.2.1 == t720 && (bt732.2.2.1.toList == t721.toList)))=true then ((Fh.f kj8 t719 t720 t721).bind fun t765=>(if t765=true then (if bt742.2.2.2=3 then (if bt756.2.2.2=3 then (if bt761.2=0 then (if bt761.1=bt763.1 then (some (decide (bt761.1≤5))) else (some false)) else (some false)) else (some false)) else (some false)) else (some false))) else (some false)) else (some false))))) else (none))) else (none)))) else (none)) else (none)))) else (if t726=1 then ((Fh.f kj8 t719 t720 t721).bind fun t731=>(some (!t731))) else (some false)))=some r:=by rw [if_neg (show ¬ (false=true) by decide)] at H;exact H
     clear H;have H:=H1;clear H1
     by_cases c20 : t726=0
     ·
      rw [if_pos c20] at H
      have c20b0 : (t726 == 0)=true:=ya.mpr c20;have c20b1 : (t726 != 0)=false:=zX.mpr c20;clear c20;replace H:=zT.mp H;obtain ⟨⟨t732,t733,t734,t735⟩,A210,H⟩:=H;replace H : ((F0d.f l1 0 (t723.length : Int)).bind fun t737=>(if 0≤t737 then (if t737≤(t723.length : Int) then ((Ft.f kj8 (t723.take (t737 : Int).toNat)).bind fun bt742=>((some (([] : List Int) : List Int)).bind fun y747=>(if y747.length+t723.length<140737488355328 then ((some (y747++t723 : List Int)).bind fun y750=>(if y750.length<140737488355328 then ((Ft.f kj8 (y750 ++ [0])).bind fun bt756=>((Fy.f kj8 t719 t720 t721).bind fun bt761=>((Fx.f kj8 t719 t720 t721).bind fun bt763=>(if t735=0 then (if (t732 == t719 && (t733 == t720 && (t734.toList == t721.toList)))=true then ((Fh.f kj8 t719 t720 t721).bind fun t765=>(if t765=true then (if bt742.2.2.2=3 then (if bt756.2.2.2=3 then (if bt761.2=0 then (if bt761.1=bt763.1 then (some (decide (bt761.1≤5))) else (some false)) else (some false)) else (some false)) else (some false)) else (some false))) else (some false)) else (some false))))) else (none))) else (none)))) else (none)) else (none)))=some r:=H;have A21:=zh A210;clear A210;replace H:=zT.mp H;obtain ⟨t737,A220,H⟩:=H;replace H : (if 0≤t737 then (if t737≤(t723.length : Int) then ((Ft.f kj8 (t723.take (t737 : Int).toNat)).bind fun bt742=>((some (([] : List Int) : List Int)).bind fun y747=>(if y747.length+t723.length<140737488355328 then ((some (y747++t723 : List Int)).bind fun y750=>(if y750.length<140737488355328 then ((Ft.f kj8 (y750 ++ [0])).bind fun bt756=>((Fy.f kj8 t719 t720 t721).bind fun bt761=>((Fx.f kj8 t719 t720 t721).bind fun bt763=>(if t735=0 then (if (t732 == t719 && (t733 == t720 && (t734.toList == t721.toList)))=true then ((Fh.f kj8 t719 t720 t721).bind fun t765=>(if t765=true then (if bt742.2.2.2=3 then (if bt756.2.2.2=3 then (if bt761.2=0 then (if bt761.1=bt763.1 then (some (decide (bt761.1≤5))) else (some false)) else (some false)) else (some false)) else (some false)) else (some false))) else (some false)) else (some false))))) else (none))) else (none)))) else (none)) else (none))=some r:=H;have A22:=zh A220;clear A220
      by_cases c23 : 0≤t737
      ·
       rw [if_pos c23] at H
       have c23b0:=eq_true c23;have c23b1 : decide (0≤t737)=true:=decide_eq_true c23;clear c23
       by_cases c24 : t737≤(t723.length : Int)
       ·
        rw [if_pos c24] at H
        have c24b0:=eq_true c24;have c24b1 : decide (t737≤(t723.length : Int))=true:=decide_eq_true c24;clear c24;obtain ⟨y738,hy738⟩ : ∃ y_ : List Int,y_=(t723.take (t737 : Int).toNat):=⟨_,rfl⟩;replace H : ((Ft.f kj8 y738).bind fun bt742=>((some (([] : List Int) : List Int)).bind fun y747=>(if y747.length+t723.length<140737488355328 then ((some (y747++t723 : List Int)).bind fun y750=>(if y750.length<140737488355328 then ((Ft.f kj8 (y750 ++ [0])).bind fun bt756=>((Fy.f kj8 t719 t720 t721).bind fun bt761=>((Fx.f kj8 t719 t720 t721).bind fun bt763=>(if t735=0 then (if (t732 == t719 && (t733 == t720 && (t734.toList == t721.toList)))=true then ((Fh.f kj8 t719 t720 t721).bind fun t765=>(if t765=true then (if bt742.2.2.2=3 then (if bt756.2.2.2=3 then (if bt761.2=0 then (if bt761.1=bt763.1 then (some (decide (bt761.1≤5))) else (some false)) else (some false)) else (some false)) else (some false)) else (some false))) else (some false)) else (some false))))) else (none))) else (none))))=some r:=by first|(rw [hy738];with_reducible exact H)|(have H2_:=(Option.bind_some _ _).symm.trans H;rw [hy738];with_reducible exact H2_)|(have H2_:=(Option.bind_some _ _).symm.trans H;with_reducible exact H2_)|with_reducible exact H|(rw [hy738];exact H)|exact H
        have Ny738:=zh hy738;clear hy738;replace H:=zT.mp H;obtain ⟨⟨t742,t743,t744,t745⟩,A250,H⟩:=H;replace H : ((some (([] : List Int) : List Int)).bind fun y747=>(if y747.length+t723.length<140737488355328 then ((some (y747++t723 : List Int)).bind fun y750=>(if y750.length<140737488355328 then ((Ft.f kj8 (y750 ++ [0])).bind fun bt756=>((Fy.f kj8 t719 t720 t721).bind fun bt761=>((Fx.f kj8 t719 t720 t721).bind fun bt763=>(if t735=0 then (if (t732 == t719 && (t733 == t720 && (t734.toList == t721.toList)))=true then ((Fh.f kj8 t719 t720 t721).bind fun t765=>(if t765=true then (if t745=3 then (if bt756.2.2.2=3 then (if bt761.2=0 then (if bt761.1=bt763.1 then (some (decide (bt761.1≤5))) else (some false)) else (some false)) else (some false)) else (some false)) else (some false))) else (some false)) else (some false))))) else (none))) else (none)))=some r:=H;have A25:=zh A250;clear A250;obtain ⟨y747,hy747⟩ : ∃ y_ : List Int,y_=(([] : List Int)):=⟨_,rfl⟩;replace H : (if y747.length+t723.length<140737488355328 then ((some (y747++t723 : List Int)).bind fun y750=>(if y750.length<140737488355328 then ((Ft.f kj8 (y750 ++ [0])).bind fun bt756=>((Fy.f kj8 t719 t720 t721).bind fun bt761=>((Fx.f kj8 t719 t720 t721).bind fun bt763=>(if t735=0 then (if (t732 == t719 && (t733 == t720 && (t734.toList == t721.toList)))=true then ((Fh.f kj8 t719 t720 t721).bind fun t765=>(if t765=true then (if t745=3 then (if bt756.2.2.2=3 then (if bt761.2=0 then (if bt761.1=bt763.1 then (some (decide (bt761.1≤5))) else (some false)) else (some false)) else (some false)) else (some false)) else (some false))) else (some false)) else (some false))))) else (none))) else (none))=some r:=by first|(rw [hy747];with_reducible exact H)|(have H2_:=(Option.bind_some _ _).symm.trans H;rw [hy747];with_reducible exact H2_)|(have H2_:=(Option.bind_some _ _).symm.trans H;with_reducible exact H2_)|with_reducible exact H|(rw [hy747];exact H)|exact H
        have Ny747:=zh hy747;clear hy747
        by_cases c26 : y747.length+t723.length<140737488355328
        ·
         rw [if_pos c26] at H
         have LMc26:=zh c26;clear c26;obtain ⟨y750,hy750⟩ : ∃ y_ : List Int,y_=(y747++t723):=⟨_,rfl⟩;replace H : (if y750.length<140737488355328 then ((Ft.f kj8 (y750 ++ [0])).bind fun bt756=>((Fy.f kj8 t719 t720 t721).bind fun bt761=>((Fx.f kj8 t719 t720 t721).bind fun bt763=>(if t735=0 then (if (t732 == t719 && (t733 == t720 && (t734.toList == t721.toList)))=true then ((Fh.f kj8 t719 t720 t721).bind fun t765=>(if t765=true then (if t745=3 then (if bt756.2.2.2=3 then (if bt761.2=0 then (if bt761.1=bt763.1 then (some (decide (bt761.1≤5))) else (some false)) else (some false)) else (some false)) else (some false)) else (some false))) else (some false)) else (some false))))) else (none))=some r:=by first|(rw [hy750];with_reducible exact H)|(have H2_:=(Option.bind_some _ _).symm.trans H;rw [hy750];with_reducible exact H2_)|(have H2_:=(Option.bind_some _ _).symm.trans H;with_reducible exact H2_)|with_reducible exact H|(rw [hy750];exact H)|exact H
         have Ny750:=zh hy750;clear hy750
         by_cases c27 : y750.length<140737488355328
         ·
          rw [if_pos c27] at H
          have LMc27:=zh c27;clear c27;obtain ⟨y753,hy753⟩ : ∃ y_ : List Int,y_=(y750 ++ [0]):=⟨_,rfl⟩;replace H : ((Ft.f kj8 y753).bind fun bt756=>((Fy.f kj8 t719 t720 t721).bind fun bt761=>((Fx.f kj8 t719 t720 t721).bind fun bt763=>(if t735=0 then (if (t732 == t719 && (t733 == t720 && (t734.toList == t721.toList)))=true then ((Fh.f kj8 t719 t720 t721).bind fun t765=>(if t765=true then (if t745=3 then (if bt756.2.2.2=3 then (if bt761.2=0 then (if bt761.1=bt763.1 then (some (decide (bt761.1≤5))) else (some false)) else (some false)) else (some false)) else (some false)) else (some false))) else (some false)) else (some false)))))=some r:=by first|(rw [hy753];with_reducible exact H)|(have H2_:=(Option.bind_some _ _).symm.trans H;rw [hy753];with_reducible exact H2_)|(have H2_:=(Option.bind_some _ _).symm.trans H;with_reducible exact H2_)|with_reducible exact H|(rw [hy753];exact H)|exact H
          have Ny753:=zh hy753;clear hy753;replace H:=zT.mp H;obtain ⟨⟨t756,t757,t758,t759⟩,A280,H⟩:=H;replace H : ((Fy.f kj8 t719 t720 t721).bind fun bt761=>((Fx.f kj8 t719 t720 t721).bind fun bt763=>(if t735=0 then (if (t732 == t719 && (t733 == t720 && (t734.toList == t721.toList)))=true then ((Fh.f kj8 t719 t720 t721).bind fun t765=>(if t765=true then (if t745=3 then (if t759=3 then (if bt761.2=0 then (if bt761.1=bt763.1 then (some (decide (bt761.1≤5))) else (some false)) else (some false)) else (some false)) else (some false)) else (some false))) else (some false)) else (some false))))=some r:=H;have A28:=zh A280;clear A280;replace H:=zT.mp H;obtain ⟨⟨t761,t762⟩,A290,H⟩:=H;replace H : ((Fx.f kj8 t719 t720 t721).bind fun bt763=>(if t735=0 then (if (t732 == t719 && (t733 == t720 && (t734.toList == t721.toList)))=true then ((Fh.f kj8 t719 t720 t721).bind fun t765=>(if t765=true then (if t745=3 then (if t759=3 then (if t762=0 then (if t761=bt763.1 then (some (decide (t761≤5))) else (some false)) else (some false)) else (some false)) else (some false)) else (some false))) else (some false)) else (some false)))=some r:=H;have A29:=zh A290;clear A290;replace H:=zT.mp H;obtain ⟨⟨t763,t764⟩,A300,H⟩:=H;replace H : (if t735=0 then (if (t732 == t719 && (t733 == t720 && (t734.toList == t721.toList)))=true then ((Fh.f kj8 t719 t720 t721).bind fun t765=>(if t765=true then (if t745=3 then (if t759=3 then (if t762=0 then (if t761=t763 then (some (decide (t761≤5))) else (some false)) else (some false)) else (some false)) else (some false)) else (some false))) else (some false)) else (some false))=some r:=H;have A30:=zh A300;clear A300
          by_cases c31 : t735=0
          ·
           rw [if_pos c31] at H
           have c31b0 : (t735 == 0)=true:=ya.mpr c31;have c31b1 : (t735 != 0)=false:=zX.mpr c31;clear c31
           by_cases c32 : (t732 == t719 && (t733 == t720 && (t734.toList == t721.toList)))=true
           ·
            rw [if_pos c32] at H
            have c32b0 : (t732 == t719 && (t733 == t720 && (t734.toList == t721.toList)))=true:=c32;(try (have c32b1 : decide (t732=t719 && (t733 == t720 && (t734.toList == t721.toList)))=true:=by simpa using c32));(try (have c32b2 : (t732 == t719 && (t733 == t720 && (t734.toList == t721.toList)))=true:=by simpa using c32));clear c32;replace H:=zT.mp H;obtain ⟨t765,A330,H⟩:=H;replace H : (if t765=true then (if t745=3 then (if t759=3 then (if t762=0 then (if t761=t763 then (some (decide (t761≤5))) else (some false)) else (some false)) else (some false)) else (some false)) else (some false))=some r:=H;have A33:=zh A330;clear A330
            by_cases c34 : t765=true
            ·
             subst c34
             have H1 : (if t745=3 then (if t759=3 then (if t762=0 then (if t761=t763 then (some (decide (t761≤5))) else (some false)) else (some false)) else (some false)) else (some false))=some r:=by rw [if_pos rfl] at H;exact H
             clear H;have H:=H1;clear H1
             by_cases c35 : t745=3
             ·
              rw [if_pos c35] at H
              have c35b0 : (t745 == 3)=true:=ya.mpr c35;have c35b1 : (t745 != 3)=false:=zX.mpr c35;clear c35
              by_cases c36 : t759=3
              ·
               rw [if_pos c36] at H
               have c36b0 : (t759 == 3)=true:=ya.mpr c36;have c36b1 : (t759 != 3)=false:=zX.mpr c36;clear c36
               by_cases c37 : t762=0
               ·
                rw [if_pos c37] at H
                have c37b0 : (t762 == 0)=true:=ya.mpr c37;have c37b1 : (t762 != 0)=false:=zX.mpr c37;clear c37
                by_cases c38 : t761=t763
                ·
                 rw [if_pos c38] at H
                 have c38b0 : (t761 == t763)=true:=ya.mpr c38;have c38b1 : (t761 != t763)=false:=zX.mpr c38;clear c38;obtain rfl:=zU H;obtain ⟨Ao39,co39,eo39⟩:=yk HO_6.out;subst eo39
                 go_wp2_with (first|((with_reducible refine zJ (f:=18) rfl ?_);refine yj (some 61) rfl rfl Try.func18 (by kernel_rfl) rfl #[.slice Ao39 t723.length co39] rfl (by (try simp only [zt,zu,zv]);first|done|rfl|(simp only [zw,zx];rfl)|(simp only [yr,ys,zV,zW];rfl)) ?_;(with_reducible refine (Ft.calls kj8  _ _ t723 t732 t733 t734 t735 _ ?side1 ?side2 A21.out).mono ?_);(case side1=>repeat (first|exact (yh HO_6.out).2.2|(with_reducible refine Kd.C_alloc ?_ _)|(with_reducible refine Kd.C_drewN ?_ _)|(with_reducible refine Kd.C_drew ?_)));(case side2=>exact (yh HO_6.out).2.1);rintro e w40 ⟨rfl,hb⟩;refine ⟨_,rfl,?_⟩;replace HO_6:=zh (yg (by (with_reducible repeat (first|apply zm|apply zn|apply zo));exact HO_6.out) hb);replace BK722:=zh (cD BK722.out (by (with_reducible repeat first|apply ze|apply zf|apply zg);exact BK722.out) hb);replace HB:=zh (zC (by repeat (with_reducible first|exact HB.out|apply za|apply zb|apply zc|refine zd ?_ GE722.out)) hb);(try clear hb);(try clear hb2);(try clear hk);(try clear hi))|((with_reducible refine zK (N:=10) rfl ?_);(try (refine yz (by rfl) ?_;dsimp only));refine zI ?hg (N:=10) ?hd (cs:=#[.int .i64 0,.int .i64 0,.string (⟨#[]⟩ : ByteArray)]) (t:=44) ?hr ?_;(case hd=>rfl);(case hg=>rfl);(case hr=>go_simp <;> rfl);intro gb736 hg w41 hbox hb;replace HO_6:=zh (yg (by (with_reducible repeat (first|apply zm|apply zn|apply zo));exact HO_6.out) hb);have BK736:=zh (hbox);have hH_:=cH (by repeat (with_reducible first|exact HB.out|apply za|apply zb|apply zc|refine zd ?_ GE722.out)) hb hg;have GW736:=zh hH_.1;have GE736:=GW736;replace HB:=zh hH_.2;have NB722_736:=zh ((by rw [hg];exact yc (yi (g:=gb722) (o:=.cells #[.int .i64 t719,.int .i64 t720,.string t721] 44 (0,0)) (by (with_reducible repeat first|apply ze|apply zf|apply zg);exact BK722.out)) : gb722≠gb736));have NB736_722:=zh NB722_736.out.symm;replace BK722:=zh (cD BK722.out (by (with_reducible repeat first|apply ze|apply zf|apply zg);exact BK722.out) hb);clear hb hbox hg hH_;have hnb42:=NB736_722.out;have hnc42:=NB722_736.out;obtain ⟨hcz43_0,hcz43_1,hcz43_2,hfz43_0,hfz43_1,hfz43_2⟩:=cB3 BK736.out)|((with_reducible refine gate_store (t:=44) (p:=10) rfl ?_);refine store_event (t:=44) (p:=10) (v:=?vo_w44) (w1:=(((w41.setCell ⟨gb736,0,none⟩ (.int .i64 t732)).setCell ⟨gb736,1,none⟩ (.int .i64 t733)).setCell ⟨gb736,2,none⟩ (.string t734))) ?hg ?ho ?hn ?hr ?_;(case ho=>rfl);(case hg=>rfl);(case hn=>rfl);(case hr=>go_simp <;> rfl);intro w44 hw;replace HO_6 : Aside0 (Kd.R (Kd.int .u8) 5 w44 w.heap.size (fun _=>True) (.slice Ao39 t723.length co39) t723):=⟨(by rw [hw];exact (by (with_reducible repeat (first|apply zm|apply zn|apply zo));exact zM (zE (p:=⟨gb736,2,none⟩) (zE (p:=⟨gb736,1,none⟩) (zE (p:=⟨gb736,0,none⟩) (yf HO_6.out BK736.out (by decide)) (fun _ hk=>hk.2) (.int .i64 t732)) (fun _ hk=>hk.2) (.int .i64 t733)) (fun _ hk=>hk.2) (.string t734)) (fun _ hk=>trivial)))⟩;replace BK722 : Aside0 (w44.heap[gb722]? = some (.cells #[.int .i64 t719,.int .i64 t720,.string t721] 44 (0,0))):=⟨(by rw [hw];exact (by (with_reducible repeat first|apply ze|apply zf|apply zg);refine cS3 ?_ NB722_736.out;(with_reducible repeat first|apply ze|apply zf|apply zg);exact BK722.out))⟩;replace BK736 : Aside0 (w44.heap[gb736]? = some (.cells #[.int .i64 t732,.int .i64 t733,.string t734] 44 (0,0))):=⟨(by rw [hw];exact (by (with_reducible repeat first|apply ze|apply zf|apply zg);refine zL (cs:=#[.int .i64 t732,.int .i64 t733,.string (⟨#[]⟩ : ByteArray)]) ?_ 2 _ rfl;(with_reducible repeat first|apply ze|apply zf|apply zg);refine zL (cs:=#[.int .i64 t732,.int .i64 0,.string (⟨#[]⟩ : ByteArray)]) ?_ 1 _ rfl;(with_reducible repeat first|apply ze|apply zf|apply zg);refine zL (cs:=#[.int .i64 0,.int .i64 0,.string (⟨#[]⟩ : ByteArray)]) ?_ 0 _ rfl;(with_reducible repeat first|apply ze|apply zf|apply zg);exact BK736.out))⟩;replace HB : Aside0 (Below w.heap.size w w44):=⟨(by rw [hw];exact (by repeat (with_reducible first|exact HB.out|apply za|apply zb|apply zc|refine zd ?_ GE722.out|refine zd ?_ GE736.out)))⟩;clear hw)|((with_reducible refine zJ (f:=7) rfl ?_);refine yj (some 69) rfl rfl Try.func7 (by kernel_rfl) rfl #[.slice A1 l1.length c1,.int .i64 0,.int .i64 (t723.length : Int)] rfl (by (try simp only [zt,zu,zv]);first|done|rfl|(simp only [zw,zx];rfl)|(simp only [yr,ys,zV,zW];rfl)) ?_;(with_reducible refine (F0d.calls  _ _ l1 0 (t723.length : Int) t737 _ ?side1 ?side2 A22.out).mono ?_);(case side1=>repeat (first|exact (Kd.C_below HR1.out HB.out)|(with_reducible refine Kd.C_alloc ?_ _)|(with_reducible refine Kd.C_drewN ?_ _)|(with_reducible refine Kd.C_drew ?_)));(case side2=>exact HC1.out);rintro e w' ⟨rfl,⟨nd,rfl⟩⟩;refine ⟨_,rfl,?_⟩;(try (rw [drewN_self w44];generalize hq_ : World.drewN w44 _=w44;replace HO_6 : Aside0 (Kd.R (Kd.int .u8) 5 w44 w.heap.size (fun _=>True) (.slice Ao39 t723.length co39) t723):=⟨by rw [← hq_];exact (by (with_reducible repeat (first|apply zm|apply zn|apply zo));exact HO_6.out)⟩;replace BK722 : Aside0 (w44.heap[gb722]? = some (.cells #[.int .i64 t719,.int .i64 t720,.string t721] 44 (0,0))):=⟨by rw [← hq_];exact (by (with_reducible repeat first|apply ze|apply zf|apply zg);exact BK722.out)⟩;replace BK736 : Aside0 (w44.heap[gb736]? = some (.cells #[.int .i64 t732,.int .i64 t733,.string t734] 44 (0,0))):=⟨by rw [← hq_];exact (by (with_reducible repeat first|apply ze|apply zf|apply zg);exact BK736.out)⟩;replace HB : Aside0 (Below w.heap.size w w44):=⟨by rw [← hq_];exact (by repeat (with_reducible first|exact HB.out|apply za|apply zb|apply zc|refine zd ?_ GE722.out|refine zd ?_ GE736.out))⟩;clear hq_));have q45 : (t737 : Int)≤((t723.length : Int) : Int):=zy (by first|(with_reducible assumption)|assumption);obtain ⟨i045,hi045,_,hsz45,_⟩:=info_parts info5;have hroom45 : t723.length≤co39:=(yh HO_6.out).2.1;have hC45 : Kd.C (Kd.int .u8) _ Ao39 t723.length t723:=(yh HO_6.out).2.2;have hcut45:=cut_to (P:=Try.prog) 22 5 .i64 Try.underlying22 hi045 Ao39 t723.length co39 t737 (zy (by first|(with_reducible assumption)|assumption)) q45 hroom45;have hr45:=Kd.C_take (m:=(t737 : Int).toNat) hC45 (by omega);have hy45 : y738.length=(t737 : Int).toNat:=(by rw [Ny738.out,zx];omega);rw [← Ny738.out] at hr45;rw [← hy45] at hcut45;have HR741:=zh hr45;have HC741:=zh (show y738.length≤co39 from by omega);clear hr45 hC45 hroom45 hi045 hsz45;have KY45:=zh hy45;clear hy45;have KL45:=zh (show (t737 : Int).toNat≤t723.length from by omega);replace q45:=eq_true q45)|((with_reducible refine zJ (f:=18) rfl ?_);refine yj (some 71) rfl rfl Try.func18 (by kernel_rfl) rfl #[.slice Ao39 y738.length co39] rfl (by (try simp only [zt,zu,zv]);first|done|rfl|(simp only [zw,zx];rfl)|(simp only [yr,ys,zV,zW];rfl)) ?_;(with_reducible refine (Ft.calls kj8  _ _ y738 t742 t743 t744 t745 _ ?side1 ?side2 A25.out).mono ?_);(case side1=>repeat (first|exact (by repeat (first|(with_reducible exact HR741.out)|(with_reducible refine Kd.C_alloc ?_ _)|(with_reducible refine Kd.C_drewN ?_ _)|(with_reducible refine Kd.C_drew ?_)|exact HR741.out))|(with_reducible refine Kd.C_alloc ?_ _)|(with_reducible refine Kd.C_drewN ?_ _)|(with_reducible refine Kd.C_drew ?_)));(case side2=>exact HC741.out);rintro e w46 ⟨rfl,hb⟩;refine ⟨_,rfl,?_⟩;replace HO_6:=zh (yg (by (with_reducible repeat (first|apply zm|apply zn|apply zo));exact HO_6.out) hb);replace BK722:=zh (cD BK722.out (by (with_reducible repeat first|apply ze|apply zf|apply zg);exact BK722.out) hb);replace BK736:=zh (cD BK736.out (by (with_reducible repeat first|apply ze|apply zf|apply zg);exact BK736.out) hb);replace HR741:=zh (Kd.C_below (by repeat (first|(with_reducible exact HR741.out)|(with_reducible refine Kd.C_alloc ?_ _)|(with_reducible refine Kd.C_drewN ?_ _)|(with_reducible refine Kd.C_drew ?_)|exact HR741.out)) hb);replace HB:=zh (zC (by repeat (with_reducible first|exact HB.out|apply za|apply zb|apply zc|refine zd ?_ GE722.out|refine zd ?_ GE736.out)) hb);(try clear hb);(try clear hb2);(try clear hk);(try clear hi))|((with_reducible refine zK (N:=12) rfl ?_);(try (refine yz (by rfl) ?_;dsimp only));refine zI ?hg (N:=12) ?hd (cs:=#[.int .i64 0,.int .i64 0,.string (⟨#[]⟩ : ByteArray)]) (t:=44) ?hr ?_;(case hd=>rfl);(case hg=>rfl);(case hr=>go_simp <;> rfl);intro gb746 hg w47 hbox hb;replace HO_6:=zh (yg (by (with_reducible repeat (first|apply zm|apply zn|apply zo));exact HO_6.out) hb);replace HR741:=zh (Kd.C_below (by repeat (first|(with_reducible exact HR741.out)|(with_reducible refine Kd.C_alloc ?_ _)|(with_reducible refine Kd.C_drewN ?_ _)|(with_reducible refine Kd.C_drew ?_)|exact HR741.out)) hb);have BK746:=zh (hbox);have hH_:=cH (by repeat (with_reducible first|exact HB.out|apply za|apply zb|apply zc|refine zd ?_ GE722.out|refine zd ?_ GE736.out)) hb hg;have GW746:=zh hH_.1;have GE746:=GW746;replace HB:=zh hH_.2;have NB722_746:=zh ((by rw [hg];exact yc (yi (g:=gb722) (o:=.cells #[.int .i64 t719,.int .i64 t720,.string t721] 44 (0,0)) (by (with_reducible repeat first|apply ze|apply zf|apply zg);exact BK722.out)) : gb722≠gb746));have NB746_722:=zh NB722_746.out.symm;replace BK722:=zh (cD BK722.out (by (with_reducible repeat first|apply ze|apply zf|apply zg);exact BK722.out) hb);have NB736_746:=zh ((by rw [hg];exact yc (yi (g:=gb736) (o:=.cells #[.int .i64 t732,.int .i64 t733,.string t734] 44 (0,0)) (by (with_reducible repeat first|apply ze|apply zf|apply zg);exact BK736.out)) : gb736≠gb746));have NB746_736:=zh NB736_746.out.symm;replace BK736:=zh (cD BK736.out (by (with_reducible repeat first|apply ze|apply zf|apply zg);exact BK736.out) hb);clear hb hbox hg hH_;have hnb48:=NB746_722.out;have hnc48:=NB722_746.out;have hnb49:=NB746_736.out;have hnc49:=NB736_746.out;obtain ⟨hcz50_0,hcz50_1,hcz50_2,hfz50_0,hfz50_1,hfz50_2⟩:=cB3 BK746.out)|((with_reducible refine zK (N:=75) rfl ?_);(try (refine yz (by rfl) ?_;dsimp only));refine Kd.R_lit (Kd.int .u8) _ 5 ?hg (N:=75) ?hd (xs:=([] : List Int)) (inner:=[]) (ok:=fun _=>True) (okp:=fun _=>True) ?hr ?hp (fun _ hk=>hk) trivial (Below.refl _ _) (ye _) (by simp) ?_;(case hd=>rfl);(case hg=>rfl);(case hr=>go_simp <;> rfl);(case hp=>exact (Reps.none _ _));intro v748 w51 ho52 hb hg_ hnew_;clear hg_ hnew_;(first|rw [← Ny747.out] at ho52|(simp only [Int.reduceToNat] at ho52;rw [← Ny747.out] at ho52));have HO749:=zh (yy (Kd.R_new' ho52 (Kd.R_lt (by (with_reducible repeat (first|apply zm|apply zn|apply zo));exact (zM (zE (p:=⟨gb746,2,none⟩) (zE (p:=⟨gb746,1,none⟩) (zE (p:=⟨gb746,0,none⟩) (yf HO_6.out BK746.out (by decide)) (fun _ hk=>hk.2) (.int .i64 t742)) (fun _ hk=>hk.2) (.int .i64 t743)) (fun _ hk=>hk.2) (.string t744)) (fun _ h_=>h_.1))))) (zB (by repeat (with_reducible first|exact HB.out|apply za|apply zb|apply zc|refine zd ?_ GE722.out|refine zd ?_ GE736.out|refine zd ?_ GE746.out))));replace HO_6:=zh (Kd.R_elder' (by (with_reducible repeat (first|apply zm|apply zn|apply zo));exact (zM (zE (p:=⟨gb746,2,none⟩) (zE (p:=⟨gb746,1,none⟩) (zE (p:=⟨gb746,0,none⟩) (yf HO_6.out BK746.out (by decide)) (fun _ hk=>hk.2) (.int .i64 t742)) (fun _ hk=>hk.2) (.int .i64 t743)) (fun _ hk=>hk.2) (.string t744)) (fun _ h_=>h_.1))) (Kd.R_base ho52) hb);replace BK722:=zh (cD BK722.out (by (with_reducible repeat first|apply ze|apply zf|apply zg);refine cS3 ?_ NB722_746.out;(with_reducible repeat first|apply ze|apply zf|apply zg);exact BK722.out) hb);replace BK736:=zh (cD BK736.out (by (with_reducible repeat first|apply ze|apply zf|apply zg);refine cS3 ?_ NB736_746.out;(with_reducible repeat first|apply ze|apply zf|apply zg);exact BK736.out) hb);replace HR741:=zh trivial;replace BK746:=zh (zD (g:=gb746) (o:=.cells #[.int .i64 t742,.int .i64 t743,.string t744] 44 (0,0)) (by (with_reducible repeat first|apply ze|apply zf|apply zg);refine zL (cs:=#[.int .i64 t742,.int .i64 t743,.string (⟨#[]⟩ : ByteArray)]) ?_ 2 _ rfl;(with_reducible repeat first|apply ze|apply zf|apply zg);refine zL (cs:=#[.int .i64 t742,.int .i64 0,.string (⟨#[]⟩ : ByteArray)]) ?_ 1 _ rfl;(with_reducible repeat first|apply ze|apply zf|apply zg);refine zL (cs:=#[.int .i64 0,.int .i64 0,.string (⟨#[]⟩ : ByteArray)]) ?_ 0 _ rfl;(with_reducible repeat first|apply ze|apply zf|apply zg);exact BK746.out) hb);replace HB:=zh (zC (by repeat (with_reducible first|exact HB.out|apply za|apply zb|apply zc|refine zd ?_ GE722.out|refine zd ?_ GE736.out|refine zd ?_ GE746.out)) hb);clear hb ho52)|((with_reducible refine yB (b:=.append) (xs:=#[.tmp 75,.tmp 76]) rfl ?_);(try (refine yz (by rfl) ?_;dsimp only));at_builtin;refine Kd.R_append_rows (Kd.int .u8) (w0:=w) w.heap.size rfl (.tmp 75) (.tmp 76) 22 5 (.int .u8 0) 1 rfl Try.underlying22 info5 rfl (by decide) (by omega) v748 y747 t723 _ _ _ (fun k_=>some k_≠(.slice Ao39 t723.length co39 : Value).ownBlock) (fun _=>False) rfl rfl ?aO ?aR (fun _ _ h=>h) (fun _ h=>h.elim) ?aF ?aB ?aS ?aL ?_;(case aR=>repeat (first|exact (yh HO_6.out).2.2|(with_reducible refine Kd.C_alloc ?_ _)|(with_reducible refine Kd.C_drewN ?_ _)|(with_reducible refine Kd.C_drew ?_)));(case aB=>exact (by repeat (with_reducible first|exact HB.out|apply za|apply zb|apply zc|refine zd ?_ GE722.out|refine zd ?_ GE736.out|refine zd ?_ GE746.out)));(case aF=>exact (fun k_ hk=>Kd.fresh' (Kd.R_lt (by (with_reducible repeat (first|apply zm|apply zn|apply zo));exact HO_6.out)) k_ hk));(case aO=>exact (by (with_reducible repeat (first|apply zm|apply zn|apply zo));exact zM HO749.out (fun _ hk=>hk.2)));(case aS=>exact (zB (by repeat (with_reducible first|exact HB.out|apply za|apply zb|apply zc|refine zd ?_ GE722.out|refine zd ?_ GE736.out|refine zd ?_ GE746.out))));(case aL=>have:=LMc26.out;omega);intro v751 w53 ho hb hg hat;rw [← Ny750.out] at ho;replace BK722:=zh (yw (g:=gb722) (o:=.cells #[.int .i64 t719,.int .i64 t720,.string t721] 44 (0,0)) (by (with_reducible repeat first|apply ze|apply zf|apply zg);exact BK722.out) hg (Kd.R_ne HO749.out BK722.out (by decide)));replace BK736:=zh (yw (g:=gb736) (o:=.cells #[.int .i64 t732,.int .i64 t733,.string t734] 44 (0,0)) (by (with_reducible repeat first|apply ze|apply zf|apply zg);exact BK736.out) hg (Kd.R_ne HO749.out BK736.out (by decide)));replace BK746:=zh (yw (g:=gb746) (o:=.cells #[.int .i64 t742,.int .i64 t743,.string t744] 44 (0,0)) (by (with_reducible repeat first|apply ze|apply zf|apply zg);exact BK746.out) hg (Kd.R_ne HO749.out BK746.out (by decide)));replace HB:=zh (hb);replace HR741:=zh ((show Kd.C (Kd.int .u8) w53 Ao39 y738.length y738 from by rw [Ny738.out];exact Kd.C_take (m:=(t737 : Int).toNat) ((yh (Kd.R_after (ok:=(fun _=>True)) (by (with_reducible repeat (first|apply zm|apply zn|apply zo));exact HO_6.out) hg hat)).2.2) KL45.out));replace HO_6:=zh (Kd.R_after (ok:=(fun _=>True)) (by (with_reducible repeat (first|apply zm|apply zn|apply zo));exact HO_6.out) hg hat);have HO752:=zh (ho);clear HO749 ho hb hg hat)|((with_reducible refine yB (b:=.append) (xs:=#[.tmp 77,.tmp 78]) rfl ?_);(try (refine yz (by rfl) ?_;dsimp only));at_builtin;refine Kd.R_append (Kd.int .u8) (w0:=w) w.heap.size rfl (.tmp 77) (.tmp 78) 22 5 (.int .u8 0) 1 rfl Try.underlying22 info5 rfl (by decide) (by omega) v751 y750 0 [.int .u8 0] (fun k_=>some k_≠(.slice Ao39 t723.length co39 : Value).ownBlock) (fun _=>False) rfl rfl ?aP (fun _ hk=>hk.elim) ?aF ?aO ?aB ?aS ?aL ?_;(case aP=>exact rfl);(case aB=>exact (by repeat (with_reducible first|exact HB.out|apply za|apply zb|apply zc|refine zd ?_ GE722.out|refine zd ?_ GE736.out|refine zd ?_ GE746.out)));(case aF=>exact (fun k_ hk=>Kd.fresh' (Kd.R_lt (by (with_reducible repeat (first|apply zm|apply zn|apply zo));exact HO_6.out)) k_ hk));(case aO=>exact (by (with_reducible repeat (first|apply zm|apply zn|apply zo));exact HO752.out));(case aS=>exact (zB (by repeat (with_reducible first|exact HB.out|apply za|apply zb|apply zc|refine zd ?_ GE722.out|refine zd ?_ GE736.out|refine zd ?_ GE746.out))));(case aL=>have:=LMc27.out;omega);intro v754 w54 ho hb hg hat;rw [← Ny753.out] at ho;replace BK722:=zh (yw (g:=gb722) (o:=.cells #[.int .i64 t719,.int .i64 t720,.string t721] 44 (0,0)) (by (with_reducible repeat first|apply ze|apply zf|apply zg);exact BK722.out) hg (Kd.R_ne HO752.out BK722.out (by decide)));replace BK736:=zh (yw (g:=gb736) (o:=.cells #[.int .i64 t732,.int .i64 t733,.string t734] 44 (0,0)) (by (with_reducible repeat first|apply ze|apply zf|apply zg);exact BK736.out) hg (Kd.R_ne HO752.out BK736.out (by decide)));replace BK746:=zh (yw (g:=gb746) (o:=.cells #[.int .i64 t742,.int .i64 t743,.string t744] 44 (0,0)) (by (with_reducible repeat first|apply ze|apply zf|apply zg);exact BK746.out) hg (Kd.R_ne HO752.out BK746.out (by decide)));replace HB:=zh (hb);replace HR741:=zh ((show Kd.C (Kd.int .u8) w54 Ao39 y738.length y738 from by rw [Ny738.out];exact Kd.C_take (m:=(t737 : Int).toNat) ((yh (Kd.R_after (ok:=(fun _=>True)) (by (with_reducible repeat (first|apply zm|apply zn|apply zo));exact HO_6.out) hg hat)).2.2) KL45.out));replace HO_6:=zh (Kd.R_after (ok:=(fun _=>True)) (by (with_reducible repeat (first|apply zm|apply zn|apply zo));exact HO_6.out) hg hat);have HO755:=zh (ho);clear HO752 ho hb hg hat;obtain ⟨Ao55,co55,eo55⟩:=yk HO755.out;subst eo55)|((with_reducible refine zJ (f:=18) rfl ?_);refine yj (some 80) rfl rfl Try.func18 (by kernel_rfl) rfl #[.slice Ao55 y753.length co55] rfl (by (try simp only [zt,zu,zv]);first|done|rfl|(simp only [zw,zx];rfl)|(simp only [yr,ys,zV,zW];rfl)) ?_;(with_reducible refine (Ft.calls kj8  _ _ y753 t756 t757 t758 t759 _ ?side1 ?side2 A28.out).mono ?_);(case side1=>repeat (first|exact (yh HO755.out).2.2|(with_reducible refine Kd.C_alloc ?_ _)|(with_reducible refine Kd.C_drewN ?_ _)|(with_reducible refine Kd.C_drew ?_)));(case side2=>exact (yh HO755.out).2.1);rintro e w56 ⟨rfl,hb⟩;refine ⟨_,rfl,?_⟩;replace HO_6:=zh (yg (by (with_reducible repeat (first|apply zm|apply zn|apply zo));exact HO_6.out) hb);replace HO755:=zh (yg (by (with_reducible repeat (first|apply zm|apply zn|apply zo));exact HO755.out) hb);replace BK722:=zh (cD BK722.out (by (with_reducible repeat first|apply ze|apply zf|apply zg);exact BK722.out) hb);replace BK736:=zh (cD BK736.out (by (with_reducible repeat first|apply ze|apply zf|apply zg);exact BK736.out) hb);replace BK746:=zh (cD BK746.out (by (with_reducible repeat first|apply ze|apply zf|apply zg);exact BK746.out) hb);replace HR741:=zh trivial;replace HB:=zh (zC (by repeat (with_reducible first|exact HB.out|apply za|apply zb|apply zc|refine zd ?_ GE722.out|refine zd ?_ GE736.out|refine zd ?_ GE746.out)) hb);(try clear hb);(try clear hb2);(try clear hk);(try clear hi))|((with_reducible refine zK (N:=14) rfl ?_);(try (refine yz (by rfl) ?_;dsimp only));refine zI ?hg (N:=14) ?hd (cs:=#[.int .i64 0,.int .i64 0,.string (⟨#[]⟩ : ByteArray)]) (t:=44) ?hr ?_;(case hd=>rfl);(case hg=>rfl);(case hr=>go_simp <;> rfl);intro gb760 hg w57 hbox hb;replace HO_6:=zh (yg (by (with_reducible repeat (first|apply zm|apply zn|apply zo));exact HO_6.out) hb);replace HO755:=zh (yg (by (with_reducible repeat (first|apply zm|apply zn|apply zo));exact HO755.out) hb);replace HR741:=zh trivial;have BK760:=zh (hbox);have hH_:=cH (by repeat (with_reducible first|exact HB.out|apply za|apply zb|apply zc|refine zd ?_ GE722.out|refine zd ?_ GE736.out|refine zd ?_ GE746.out)) hb hg;have GW760:=zh hH_.1;have GE760:=GW760;replace HB:=zh hH_.2;have NB722_760:=zh ((by rw [hg];exact yc (yi (g:=gb722) (o:=.cells #[.int .i64 t719,.int .i64 t720,.string t721] 44 (0,0)) (by (with_reducible repeat first|apply ze|apply zf|apply zg);exact BK722.out)) : gb722≠gb760));have NB760_722:=zh NB722_760.out.symm;replace BK722:=zh (cD BK722.out (by (with_reducible repeat first|apply ze|apply zf|apply zg);exact BK722.out) hb);have NB736_760:=zh ((by rw [hg];exact yc (yi (g:=gb736) (o:=.cells #[.int .i64 t732,.int .i64 t733,.string t734] 44 (0,0)) (by (with_reducible repeat first|apply ze|apply zf|apply zg);exact BK736.out)) : gb736≠gb760));have NB760_736:=zh NB736_760.out.symm;replace BK736:=zh (cD BK736.out (by (with_reducible repeat first|apply ze|apply zf|apply zg);exact BK736.out) hb);have NB746_760:=zh ((by rw [hg];exact yc (yi (g:=gb746) (o:=.cells #[.int .i64 t742,.int .i64 t743,.string t744] 44 (0,0)) (by (with_reducible repeat first|apply ze|apply zf|apply zg);exact BK746.out)) : gb746≠gb760));have NB760_746:=zh NB746_760.out.symm;replace BK746:=zh (cD BK746.out (by (with_reducible repeat first|apply ze|apply zf|apply zg);exact BK746.out) hb);clear hb hbox hg hH_;have hnb58:=NB760_722.out;have hnc58:=NB722_760.out;have hnb59:=NB760_736.out;have hnc59:=NB736_760.out;have hnb60:=NB760_746.out;have hnc60:=NB746_760.out;obtain ⟨hcz61_0,hcz61_1,hcz61_2,hfz61_0,hfz61_1,hfz61_2⟩:=cB3 BK760.out;obtain ⟨hcz62_0,hcz62_1,hcz62_2,hfz62_0,hfz62_1,hfz62_2⟩:=cB3 BK722.out)|((with_reducible refine zJ (f:=19) rfl ?_);refine yj (some 85) rfl rfl Try.func19 (by kernel_rfl) rfl #[.agg #[.int .i64 t719,.int .i64 t720,.string t721]] rfl (by (try simp only [zt,zu,zv]);first|done|rfl|(simp only [zw,zx];rfl)|(simp only [yr,ys,zV,zW];rfl)) ?_;(with_reducible refine (Fy.calls kj8  t719 t720 t721 t761 t762 _ A29.out).mono ?_);rintro e w63 ⟨rfl,hb⟩;refine ⟨_,rfl,?_⟩;replace HO_6:=zh (yg (by (with_reducible repeat (first|apply zm|apply zn|apply zo));exact (zM (zE (p:=⟨gb760,2,none⟩) (zE (p:=⟨gb760,1,none⟩) (zE (p:=⟨gb760,0,none⟩) (yf HO_6.out BK760.out (by decide)) (fun _ hk=>hk.2) (.int .i64 t756)) (fun _ hk=>hk.2) (.int .i64 t757)) (fun _ hk=>hk.2) (.string t758)) (fun _ h_=>h_.1))) hb);replace HO755:=zh (yg (by (with_reducible repeat (first|apply zm|apply zn|apply zo));exact (zM (zE (p:=⟨gb760,2,none⟩) (zE (p:=⟨gb760,1,none⟩) (zE (p:=⟨gb760,0,none⟩) (yf HO755.out BK760.out (by decide)) (fun _ hk=>hk.2) (.int .i64 t756)) (fun _ hk=>hk.2) (.int .i64 t757)) (fun _ hk=>hk.2) (.string t758)) (fun _ h_=>h_.1))) hb);replace BK722:=zh (cD BK722.out (by (with_reducible repeat first|apply ze|apply zf|apply zg);refine cS3 ?_ NB722_760.out;(with_reducible repeat first|apply ze|apply zf|apply zg);exact BK722.out) hb);replace BK736:=zh (cD BK736.out (by (with_reducible repeat first|apply ze|apply zf|apply zg);refine cS3 ?_ NB736_760.out;(with_reducible repeat first|apply ze|apply zf|apply zg);exact BK736.out) hb);replace BK746:=zh (cD BK746.out (by (with_reducible repeat first|apply ze|apply zf|apply zg);refine cS3 ?_ NB746_760.out;(with_reducible repeat first|apply ze|apply zf|apply zg);exact BK746.out) hb);replace HR741:=zh trivial;replace BK760:=zh (zD (g:=gb760) (o:=.cells #[.int .i64 t756,.int .i64 t757,.string t758] 44 (0,0)) (by (with_reducible repeat first|apply ze|apply zf|apply zg);refine zL (cs:=#[.int .i64 t756,.int .i64 t757,.string (⟨#[]⟩ : ByteArray)]) ?_ 2 _ rfl;(with_reducible repeat first|apply ze|apply zf|apply zg);refine zL (cs:=#[.int .i64 t756,.int .i64 0,.string (⟨#[]⟩ : ByteArray)]) ?_ 1 _ rfl;(with_reducible repeat first|apply ze|apply zf|apply zg);refine zL (cs:=#[.int .i64 0,.int .i64 0,.string (⟨#[]⟩ : ByteArray)]) ?_ 0 _ rfl;(with_reducible repeat first|apply ze|apply zf|apply zg);exact BK760.out) hb);replace HB:=zh (zC (by repeat (with_reducible first|exact HB.out|apply za|apply zb|apply zc|refine zd ?_ GE722.out|refine zd ?_ GE736.out|refine zd ?_ GE746.out|refine zd ?_ GE760.out)) hb);(try clear hb);(try clear hb2);(try clear hk);(try clear hi);obtain ⟨hcz64_0,hcz64_1,hcz64_2,hfz64_0,hfz64_1,hfz64_2⟩:=cB3 BK722.out)|((with_reducible refine zJ (f:=20) rfl ?_);refine yj (some 90) rfl rfl Try.func20 (by kernel_rfl) rfl #[.agg #[.int .i64 t719,.int .i64 t720,.string t721]] rfl (by (try simp only [zt,zu,zv]);first|done|rfl|(simp only [zw,zx];rfl)|(simp only [yr,ys,zV,zW];rfl)) ?_;(with_reducible refine (Fx.calls kj8  t719 t720 t721 t763 t764 _ A30.out).mono ?_);rintro e w65 ⟨rfl,hb⟩;refine ⟨_,rfl,?_⟩;replace HO_6:=zh (yg (by (with_reducible repeat (first|apply zm|apply zn|apply zo));exact HO_6.out) hb);replace HO755:=zh (yg (by (with_reducible repeat (first|apply zm|apply zn|apply zo));exact HO755.out) hb);replace BK722:=zh (cD BK722.out (by (with_reducible repeat first|apply ze|apply zf|apply zg);exact BK722.out) hb);replace BK736:=zh (cD BK736.out (by (with_reducible repeat first|apply ze|apply zf|apply zg);exact BK736.out) hb);replace BK746:=zh (cD BK746.out (by (with_reducible repeat first|apply ze|apply zf|apply zg);exact BK746.out) hb);replace HR741:=zh trivial;replace BK760:=zh (cD BK760.out (by (with_reducible repeat first|apply ze|apply zf|apply zg);exact BK760.out) hb);replace HB:=zh (zC (by repeat (with_reducible first|exact HB.out|apply za|apply zb|apply zc|refine zd ?_ GE722.out|refine zd ?_ GE736.out|refine zd ?_ GE746.out|refine zd ?_ GE760.out)) hb);(try clear hb);(try clear hb2);(try clear hk);(try clear hi);obtain ⟨hcz66_0,hcz66_1,hcz66_2,hfz66_0,hfz66_1,hfz66_2⟩:=cB3 BK736.out;obtain ⟨hcz67_0,hcz67_1,hcz67_2,hfz67_0,hfz67_1,hfz67_2⟩:=cB3 BK722.out)|(go_at_call 17;(with_reducible refine (Fh.calls kj8  t719 t720 t721 true _ A33.out).mono ?_);rintro e w68 ⟨rfl,hb⟩;replace HO_6:=zh (yg (by (with_reducible repeat (first|apply zm|apply zn|apply zo));exact HO_6.out) hb);replace HO755:=zh (yg (by (with_reducible repeat (first|apply zm|apply zn|apply zo));exact HO755.out) hb);replace BK722:=zh (cD BK722.out (by (with_reducible repeat first|apply ze|apply zf|apply zg);exact BK722.out) hb);replace BK736:=zh (cD BK736.out (by (with_reducible repeat first|apply ze|apply zf|apply zg);exact BK736.out) hb);replace BK746:=zh (cD BK746.out (by (with_reducible repeat first|apply ze|apply zf|apply zg);exact BK746.out) hb);replace HR741:=zh trivial;replace BK760:=zh (cD BK760.out (by (with_reducible repeat first|apply ze|apply zf|apply zg);exact BK760.out) hb);replace HB:=zh (zC (by repeat (with_reducible first|exact HB.out|apply za|apply zb|apply zc|refine zd ?_ GE722.out|refine zd ?_ GE736.out|refine zd ?_ GE746.out|refine zd ?_ GE760.out)) hb);(try clear hb);(try clear hb2);(try clear hk);(try clear hi)))
                 go_ret
                 exact ⟨by first|rfl|(simp [yt,yu] <;> rfl)|(simp [*,yt,yu] <;> rfl),by repeat (with_reducible first|exact HB.out|apply za|apply zb|apply zc|refine zd ?_ GE722.out|refine zd ?_ GE736.out|refine zd ?_ GE746.out|refine zd ?_ GE760.out)⟩
                rw [if_neg c38] at H;have c38b0 : (t761 == t763)=false:=zY.mpr c38;have c38b1 : (t761 != t763)=true:=zZ.mpr c38;exact absurd (zU H) (by rw [hr_];decide)
               rw [if_neg c37] at H;have c37b0 : (t762 == 0)=false:=zY.mpr c37;have c37b1 : (t762 != 0)=true:=zZ.mpr c37;exact absurd (zU H) (by rw [hr_];decide)
              rw [if_neg c36] at H;have c36b0 : (t759 == 3)=false:=zY.mpr c36;have c36b1 : (t759 != 3)=true:=zZ.mpr c36;exact absurd (zU H) (by rw [hr_];decide)
             rw [if_neg c35] at H;have c35b0 : (t745 == 3)=false:=zY.mpr c35;have c35b1 : (t745 != 3)=true:=zZ.mpr c35;exact absurd (zU H) (by rw [hr_];decide)
            replace c34:=yb.mpr c34;subst c34;have H1 : (some false)=some r:=by rw [if_neg (show ¬ (false=true) by decide)] at H;exact H
            exact absurd H1 (by rw [hr_];decide)
           rw [if_neg c32] at H;have c32b0 : (t732 == t719 && (t733 == t720 && (t734.toList == t721.toList)))=false:=by simpa using c32
           (try (have c32b1 : decide (t732=t719 && (t733 == t720 && (t734.toList == t721.toList)))=false:=by simpa using c32));(try (have c32b2 : (t732 == t719 && (t733 == t720 && (t734.toList == t721.toList)))=false:=by simpa using c32));(try (have c32b3 : ¬ (t732=t719 && (t733 == t720 && (t734.toList == t721.toList))):=by simpa using c32));clear c32;exact absurd (zU H) (by rw [hr_];decide)
          rw [if_neg c31] at H;have c31b0 : (t735 == 0)=false:=zY.mpr c31;have c31b1 : (t735 != 0)=true:=zZ.mpr c31;exact absurd (zU H) (by rw [hr_];decide)
         rw [if_neg c27] at H;exact absurd H (by simp)
        rw [if_neg c26] at H;exact absurd H (by simp)
       rw [if_neg c24] at H;exact absurd H (by simp)
      rw [if_neg c23] at H;exact absurd H (by simp)
     rw [if_neg c20] at H;have c20b0 : (t726 == 0)=false:=zY.mpr c20;have c20b1 : (t726 != 0)=true:=zZ.mpr c20
     by_cases c275 : t726=1
     ·
      rw [if_pos c275] at H
      have c275b0 : (t726 == 1)=true:=ya.mpr c275;have c275b1 : (t726 != 1)=false:=zX.mpr c275;clear c275;replace H:=zT.mp H;obtain ⟨t731,A2760,H⟩:=H;replace H : (some (!t731))=some r:=H;have A276:=zh A2760;clear A2760;obtain rfl:=zU H;obtain ⟨hcz277_0,hcz277_1,hcz277_2,hfz277_0,hfz277_1,hfz277_2⟩:=cB3 BK722.out
      go_wp2_with (first|(go_at_call 17;(with_reducible refine (Fh.calls kj8  t719 t720 t721 t731 _ A276.out).mono ?_);rintro e w278 ⟨rfl,hb⟩;replace HO_6:=zh (yg (by (with_reducible repeat (first|apply zm|apply zn|apply zo));exact HO_6.out) hb);replace BK722:=zh (cD BK722.out (by (with_reducible repeat first|apply ze|apply zf|apply zg);exact BK722.out) hb);replace HB:=zh (zC (by repeat (with_reducible first|exact HB.out|apply za|apply zb|apply zc|refine zd ?_ GE722.out)) hb);(try clear hb);(try clear hb2);(try clear hk);(try clear hi)))
      go_ret
      exact ⟨by first|rfl|(simp [yt,yu] <;> rfl)|(simp [*,yt,yu] <;> rfl),by repeat (with_reducible first|exact HB.out|apply za|apply zb|apply zc|refine zd ?_ GE722.out)⟩
     rw [if_neg c275] at H;have c275b0 : (t726 == 1)=false:=zY.mpr c275;have c275b1 : (t726 != 1)=true:=zZ.mpr c275;exact absurd (zU H) (by rw [hr_];decide)

end Go.Proofs.Ytjgcddjdmfcgoaa.Q
end
section
namespace Go.Proofs.YtjgcddjdmfcgoaaW.PrintOpen
open Go.RowKit Go.ChangeShapes Go.WideShapes Go.ChangeAt Go.Proofs.YtjgcddjdmfcgoaaW.PrintWords
def Opens {α : Type} (P : Program) (d : Kd α) (t : TypeId) (good : α→Prop) : Prop :=
 ∀ (H : Type) (enc : TypeId×Value→H) (w : World) (base : Nat) (spare : Nat→Bool) (held : Bool) (fuel : Nat) (cs : List Value) (x : DataW H×List MemPlace),
  DataW.trod enc P w base spare held fuel t cs=some x → ∃ a,d.K w a cs∧good a
variable {P : Program}
theorem opens_int {t : TypeId} {k : IntKind} (ht : P.underlying t=some (.int k)) : Opens P (Kd.int k) t (fun n=>(Lit.int k n).wf=true):=by
 intro H enc w base spare held fuel cs x h;obtain ⟨n,hcs,_,hw⟩:=DataW.trod_int ht h;exact ⟨n,hcs,hw⟩
theorem opens_slice {α : Type} {t e : TypeId} {d : Kd α} {g : α→Prop} (ht : P.underlying t=some (.slice e)) (hc : P.cellsOf e=d.sz) (he : Opens P d e g) :
  Opens P (Kd.slice e d) t (fun l=>l.length≤9223372036854775807 ∧ ∀ x ∈ l,g x):=by
 intro H enc w base spare held fuel cs x h;rcases Deep.open_slice ht h with ⟨rfl,_⟩|⟨a,len,cap,m,n,D,Pl,rfl,_,hl,hm,hmm,_,hx⟩
 ·
  exact ⟨[],⟨none,0,rfl,Nat.le_refl _,rfl,by simp,fun h0=>absurd h0 (by simp)⟩,by simp,by simp⟩
 have hlm : len≤m:=by rw [hmm];split <;> omega
 have hall : ∀ i : Fin len,∃ v : α×List Value,w.cells? base (a.add (i.1*P.cellsOf e)) (P.cellsOf e)=some v.2∧d.K w v.1 v.2∧g v.1:=fun i=>by
  obtain ⟨cs',h1,h2⟩:=hx i.1 (by have:=i.2;omega);obtain ⟨a',hk,hg⟩:=he H enc w base spare held n cs' _ h2;exact ⟨(a',cs'),h1,hk,hg⟩
 obtain ⟨V,hV⟩:=Classical.axiomOfChoice hall;have hmax : len≤9223372036854775807:=by unfold maxLen at hm;omega
 have hlen : (List.ofFn fun i=>(V i).1).length=len:=List.length_ofFn;refine ⟨List.ofFn fun i=>(V i).1,⟨some a,cap,by rw [hlen],by rw [hlen];exact hl,rfl,by rw [hlen];exact hmax,fun _=>⟨a,rfl,?_⟩⟩,by rw [hlen];exact hmax,?_⟩
 ·
  intro j p hj
  have hjl : j<len:=by
   have:=(List.getElem?_eq_some_iff.1 hj).1
   omega
  rw [List.getElem?_ofFn,dif_pos hjl] at hj;obtain rfl:=Option.some.inj hj;obtain ⟨h1,h2,_⟩:=hV ⟨j,hjl⟩;obtain ⟨_,hlen2,hcell⟩:=World.cells?_some h1;refine ⟨(V ⟨j,hjl⟩).2,by rw [← hc];exact hlen2,h2,fun q u hu=>?_⟩
  have hq : q<P.cellsOf e:=by
   have:=(List.getElem?_eq_some_iff.1 hu).1
   omega
  have h3:=hcell q hq;rw [Deep.add_add,hu,hc] at h3;exact h3
 intro x hx;obtain ⟨i,rfl⟩:=List.mem_ofFn.1 hx;exact (hV i).2.2
def OpensF {α : Type} (P : Program) (d : Kd α) (fs : List Field) (off : Nat) (good : α→Prop) : Prop :=
 ∀ (H : Type) (enc : TypeId×Value→H) (w : World) (base : Nat) (spare : Nat→Bool) (held : Bool) (fuel : Nat) (cs : List Value),off+d.sz≤cs.length →
  (∀ f ∈ fs,∃ x,DataW.trod enc P w base spare held fuel f.type ((cs.drop f.offset).take (P.cellsOf f.type))=some x) → ∃ a,d.K w a ((cs.drop off).take d.sz)∧good a
theorem arg_slice {α : Type} {d : Kd α} {t e : TypeId} {g : List α→Prop} {H : Type} {enc : TypeId×Value→H} {w : World} {base b0 : Nat} {spare : Nat→Bool} {held : Bool} {r : Reach} {v : Value} {dd : DataW H} {p : List MemPlace}
  (ht : P.underlying t=some (.slice e)) (h : Opens P (Kd.slice e d) t g) (hv : Value.okWide P w r b0 t v) (hd : DataW.Trod enc P w base spare held t v dd p) :
  ∃ (l : List α) (A : Option Addr) (c : Nat),v = .slice A l.length c∧l.length≤c∧Kd.C d w A l.length l∧g l:=by
 obtain ⟨a,len,cap,rfl⟩:=okWide_slice ht hv;obtain ⟨fuel,hf⟩:=hd;obtain ⟨l,⟨A,c,he,hl,hc⟩,hg⟩:=h H enc w base spare held fuel _ _ hf;simp [Value.cells] at he;obtain ⟨rfl,rfl,rfl⟩:=he;exact ⟨l,a,cap,rfl,hl,hc,hg⟩
end Go.Proofs.YtjgcddjdmfcgoaaW.PrintOpen
end
section
namespace Go.Proofs.Ytjgcddjdmfcgoaa.Q
open Go.RowKit Go.Proofs.YtjgcddjdmfcgoaaW.PrintWords Go.Proofs.YtjgcddjdmfcgoaaW.PrintLast Go.Proofs.YtjgcddjdmfcgoaaW.PrintMore Go.Proofs.YtjgcddjdmfcgoaaW.PrintOpen

end Go.Proofs.Ytjgcddjdmfcgoaa.Q
end
section
namespace Go.Proofs.Ytjgcddjdmfcgoaa.Q
def Fc.Pure : Prop:=∀ (x0 : List Int) (x1 : List Int),((x0.length≤9223372036854775807 ∧ ∀ y0_ ∈ x0,(Lit.int .u8 y0_).wf=true))→((x1.length≤9223372036854775807 ∧ ∀ y0_ ∈ x1,(Lit.int .u8 y0_).wf=true)) → ∃ k,Fc.f k x0 x1=some true
end Go.Proofs.Ytjgcddjdmfcgoaa.Q
end
section
namespace Go.Proofs.YtjgcddjdmfcgoaaW.Pl
open Go Go.RowKit Go.Proofs.YtjgcddjdmfcgoaaW.PrintWords Go.Proofs.YtjgcddjdmfcgoaaW.PrintMore
theorem w64 {i : Int} (h0 : -9223372036854775808≤i) (h1 : i≤9223372036854775807) : wrap64 i=i:=by unfold wrap64;omega
theorem fuel {k d : Nat} (h : d<k) : ∃ m,k=m+1∧d≤m:=⟨k - 1,by omega,by omega⟩
theorem rdOf_at {α : Type} (d : α) (xs : List α) (i : Nat) (h : i<xs.length) : rdOf d xs (i : Int)=xs[i]:=by
 unfold rdOf;simp [List.getD,h]
theorem rd_at (xs : List Int) (i : Nat) (h : i<xs.length) : rd xs (i : Int)=xs[i]:=by
 unfold rd;simp [List.getD,h]
theorem getD_at {α : Type} (d : α) (xs : List α) (i : Nat) (h : i<xs.length) : xs.getD (i : Int).toNat d=xs[i]:=by
 simp [List.getD,h]
theorem drop_at {α : Type} (xs : List α) (i : Nat) (h : i<xs.length) : xs.drop i=xs[i] :: xs.drop (i+1):=List.drop_eq_getElem_cons h
theorem ba_toList (a : ByteArray) : a.toList=a.data.toList:=ByteArray.toList_eq a
theorem ba_ext {a b : ByteArray} (h : a.toList=b.toList) : a=b:=by
 rw [ba_toList,ba_toList] at h
 cases a;cases b
 simp at h;rw [h]
def all2 {α β : Type} (e : α→β→Bool) : List α→List β→Bool
 | [],_=>true
 | _ :: _,[]=>true
 | x :: xs,y :: ys=>e x y && all2 e xs ys
def first {α : Type} (p : α→Bool) : List α→Nat→Int
 | [],_ => -1
 | x :: xs,i=>if p x=true then i else first p xs (i+1)
theorem first_any {α : Type} (p : α→Bool) : ∀ (xs : List α) (i : Nat),decide (first p xs i ≥ 0)=xs.any p
 | [],i=>rfl
 | x :: xs,i=>by
  by_cases h : p x=true
  ·
   simp [first,h]
  simp only [first,if_neg h,List.any_cons,first_any p xs (i+1)];simp [h]
theorem first_loop {α : Type} (g : Nat→Int→Option Int) (xs : List α) (p : α→Bool)
  (hstep : ∀ (k i : Nat) (h : i<xs.length),g (k+1) (i : Int)=if p xs[i]=true then some (i : Int) else g k ((i+1 : Nat) : Int))
  (hend : ∀ k,g (k+1) (xs.length : Int)=some (-1)) : ∀ (d k i : Nat),i+d=xs.length→d<k→g k (i : Int)=some (first p (xs.drop i) i):=by
 intro d
 induction d with
 | zero =>
  intro k i hi hk;obtain ⟨k,rfl,_⟩:=fuel hk;obtain rfl : i=xs.length:=by omega
  rw [hend,List.drop_length];rfl
 | succ d ih =>
  intro k i hi hk;obtain ⟨k,rfl,_⟩:=fuel hk;have hlt : i<xs.length:=by omega
  rw [hstep k i hlt,drop_at xs i hlt]
  by_cases h : p xs[i]=true
  ·
   rw [if_pos h]
   simp [first,h]
  rw [if_neg h,ih k (i+1) (by omega) (by omega)];simp [first,h]
def total {α : Type} (s : α→Nat) : List α→Nat
 | []=>0
 | x :: xs=>s x+total s xs
def less {α : Type} (s : α→Nat) : List α→Int→Int
 | [],l=>l
 | x :: xs,l=>if l - s x<0 then -1 else less s xs (l - s x)
def Eve {α : Type} (g : Nat→Option α) (v : α) : Prop:=∃ K,∀ k,K≤k→g k=some v
theorem Eve.one {α : Type} {v : α} : Eve (fun _=>some v) v:=⟨0,fun _ _=>rfl⟩
theorem Eve.all {α : Type} {g : Nat→Option α} {v : α} (h : ∀ k,g k=some v) : Eve g v:=⟨0,fun k _=>h k⟩
theorem Eve.of {α : Type} {g : Nat→Option α} {v : α} {n : Nat} (h : ∀ k,n<k→g k=some v) : Eve g v:=⟨n+1,fun k hk=>h k (by omega)⟩
theorem Eve.succ {α : Type} {g : Nat→Option α} {v : α} (h : Eve (fun k=>g (k+1)) v) : Eve g v:=by
 obtain ⟨K,h⟩:=h;refine ⟨K+1,fun k hk=>?_⟩;obtain ⟨k,rfl⟩ : ∃ m,k=m+1:=⟨k - 1,by omega⟩;exact h k (by omega)
theorem Eve.bind {α β : Type} {g : Nat→Option α} {f : Nat→α→Option β} {v : α} {u : β} (h : Eve g v) (h2 : Eve (fun k=>f k v) u) : Eve (fun k=>(g k).bind (f k)) u:=by
 obtain ⟨K,h⟩:=h;obtain ⟨K2,h2⟩:=h2;refine ⟨max K K2,fun k hk=>?_⟩;show (g k).bind (f k)=some u;rw [h k (by omega),Option.bind_some];exact h2 k (by omega)
theorem Eve.ite {α : Type} {c : Prop} [Decidable c] {a b : Nat→Option α} {v : α} (h1 : c→Eve a v) (h2 : ¬ c→Eve b v) : Eve (fun k=>if c then a k else b k) v:=by
 by_cases h : c
 ·
  simp only [if_pos h];exact h1 h
 simp only [if_neg h];exact h2 h
theorem Eve.get {α : Type} {g : Nat→Option α} {v : α} (h : Eve g v) : ∃ k,g k=some v:=by
 obtain ⟨K,h⟩:=h;exact ⟨K,h K (by omega)⟩
theorem Eve.eq {α : Type} {g : Nat→Option α} {v u : α} (h : Eve g v) (e : v=u) : Eve g u:=e ▸ h
theorem Eve.congr {α : Type} {g f : Nat→Option α} {v : α} (h : Eve g v) (e : ∀ k,f k=g k) : Eve f v:=by
 obtain ⟨K,h⟩:=h;exact ⟨K,fun k hk=>by rw [e,h k hk]⟩
theorem ev_loop {σ α β : Type} (xs : List α) (g : Nat→σ→Int→Option β) (R : Nat→σ→List α→β) (I : Nat→σ→Prop)
  (hend : ∀ s,I xs.length s→Eve (fun k=>g (k+1) s (xs.length : Int)) (R xs.length s []))
  (hstep : ∀ (i : Nat) (h : i<xs.length) (s : σ),I i s→(∀ s',I (i+1) s' → Eve (fun k=>g k s' ((i+1 : Nat) : Int)) (R (i+1) s' (xs.drop (i+1)))) →
   Eve (fun k=>g (k+1) s (i : Int)) (R i s (xs[i] :: xs.drop (i+1)))) :
  ∀ (d i : Nat) (s : σ),i+d=xs.length→I i s→Eve (fun k=>g k s (i : Int)) (R i s (xs.drop i)):=by
 intro d
 induction d with
 | zero =>
  intro i s hi hI;obtain rfl : i=xs.length:=by omega
  rw [List.drop_length];exact Eve.succ (hend s hI)
 | succ d ih =>
  intro i s hi hI;have hlt : i<xs.length:=by omega
  rw [drop_at xs i hlt];exact Eve.succ (hstep i hlt s hI (fun s' h' => ih (i+1) s' (by omega) h'))
theorem ev_loop0 {σ α β : Type} (xs : List α) (g : Nat→σ→Int→Option β) (R : Nat→σ→List α→β) (I : Nat→σ→Prop)
  (hend : ∀ s,I xs.length s→Eve (fun k=>g (k+1) s (xs.length : Int)) (R xs.length s []))
  (hstep : ∀ (i : Nat) (h : i<xs.length) (s : σ),I i s→(∀ s',I (i+1) s' → Eve (fun k=>g k s' ((i+1 : Nat) : Int)) (R (i+1) s' (xs.drop (i+1)))) →
   Eve (fun k=>g (k+1) s (i : Int)) (R i s (xs[i] :: xs.drop (i+1)))) (s : σ) (h0 : I 0 s) : Eve (fun k=>g k s 0) (R 0 s xs):=by
 have:=ev_loop xs g R I hend hstep xs.length 0 s (by omega) h0
 simpa using this
end Go.Proofs.YtjgcddjdmfcgoaaW.Pl
end
section
namespace Go.Proofs.Ytjgcddjdmfcgoaa.Pure
open Go Go.RowKit Go.Proofs.Ytjgcddjdmfcgoaa.Q Go.Proofs.YtjgcddjdmfcgoaaW.PrintWords Go.Proofs.YtjgcddjdmfcgoaaW.PrintLast Go.Proofs.YtjgcddjdmfcgoaaW.PrintMore Go.Proofs.YtjgcddjdmfcgoaaW.Pl
theorem wi {i : Nat} (h : i≤9223372036854775806) : wrap64 ((i : Int)+1)=((i+1 : Nat) : Int):=w64 (by omega) (by omega)
theorem w64m (y : Int) : wrap64 y=(y+9223372036854775808) % 18446744073709551616 - 9223372036854775808:=by unfold wrap64;omega
def stp (x b : Int) : Int:=wrap64 (wrap64 (x*256)+wrap64 b)
theorem or_byte (x b : Int) (h0 : 0≤b) (h1 : b≤255) : Go.bits .or .i64 (wrap64 (x*256)) (wrap64 b)=stp x b:=by
 have e1 : (BitVec.ofInt 64 (wrap64 (x*256))).toNat=2 ^ 8*(x % 72057594037927936).toNat:=by
  rw [BitVec.toNat_ofInt,w64m];omega
 have e2 : (BitVec.ofInt 64 (wrap64 b)).toNat=b.toNat:=by
  rw [BitVec.toNat_ofInt,w64m];omega
 have e3 : (BitVec.ofInt 64 (wrap64 (x*256)) ||| BitVec.ofInt 64 (wrap64 b)).toNat=2 ^ 8*(x % 72057594037927936).toNat+b.toNat:=by
  rw [BitVec.toNat_or,e1,e2,Nat.two_pow_add_eq_or_of_lt (by omega)]
 show IntKind.wrap .i64 ((BitVec.ofInt 64 (wrap64 (x*256)) ||| BitVec.ofInt 64 (wrap64 b)).toNat : Int)=_;rw [e3,i64_w];unfold stp;rw [w64m,w64m,w64m,w64m]
 omega
def bigV (l : List Int) : Int:=l.foldl stp 0
theorem bytes_in (a : ByteArray) : ∀ b ∈ bytesOf a,0≤b∧b≤255:=by
 intro b hb;obtain ⟨c,_,rfl⟩:=List.mem_map.1 hb;have:=c.toNat_lt
 omega
theorem bt_get (a : ByteArray) (i : Nat) (h : i<(bytesOf a).length) : bt a (i : Int)=(bytesOf a)[i]:=by
 rw [← rd_bytesOf,rd_at _ _ h]
theorem big_tells (l : List Int) (hl : l.length≤1048576) (hb : ∀ b ∈ l,0≤b∧b≤255) : Eve (fun k=>Fs.f k l) (bigV l):=by
 simp only [Fs.f];refine ev_loop0 l (fun k (s : Int) i=>Fs.l0 k s l (l.length : Int) i) (fun _ s r=>r.foldl stp s) (fun _ _=>True) (fun s _=>?_) (fun i hi s _ ih=>?_) 0 trivial
 ·
  simp only [Fs.l0]
  exact Eve.ite (fun h=>absurd h (by omega)) (fun _=>Eve.one)
 have hx:=hb l[i] (List.getElem_mem hi);simp only [Fs.l0];refine Eve.ite (fun _=>?_) (fun h=>absurd (by omega) h);refine Eve.ite (fun _=>?_) (fun h=>absurd (by omega) h);refine Eve.ite (fun _=>?_) (fun h=>absurd (by omega) h);simp only [rd_at _ _ hi,or_byte _ _ hx.1 hx.2,wi (show i≤9223372036854775806 by omega)];exact ih _ trivial
theorem of_tells (a : ByteArray) (hl : a.size≤1048576) : Eve (fun k=>Fn.f k a) (bigV (bytesOf a)):=by
 have hn : (bytesOf a).length=a.size:=bytesOf_length a;simp only [Fn.f];refine ev_loop0 (bytesOf a) (fun k (s : Int) i=>Fn.l0 k a s i) (fun _ s r=>r.foldl stp s) (fun _ _=>True) (fun s _=>?_) (fun i hi s _ ih=>?_) 0 trivial
 ·
  simp only [Fn.l0]
  exact Eve.ite (fun h=>absurd h (by omega)) (fun _=>Eve.one)
 simp only [Fn.l0];refine Eve.ite (fun _=>?_) (fun h=>absurd (by omega) h);refine Eve.ite (fun _=>?_) (fun h=>absurd (by omega) h);simp only [bt_get a i hi,wi (show i≤9223372036854775806 by omega)];exact ih _ trivial
def zer (n : Nat) : ByteArray:=⟨(Lib.repeatL [0] n).toArray⟩
def takV (a : ByteArray) (f : Bool) (n : Nat) : ByteArray×ByteArray×Bool:=if a.size<n then (zer n,a,true) else (a.extract 0 n,a.extract n a.size,f)
def numV (a : ByteArray) (f : Bool) (n : Nat) : Int×ByteArray×Bool:=if a.size<n then (0,a,true) else (bigV (bytesOf (a.extract 0 n)),a.extract n a.size,f)
theorem take_tells (a : ByteArray) (f : Bool) (n : Nat) (hn : n≤65535) : F02.f a f (n : Int)=some (takV a f n):=by
 unfold F02.f takV
 by_cases h : a.size<n
 ·
  rw [if_pos (by omega),if_pos h]
  unfold strings_Repeat.f;rw [if_pos (by omega),if_pos (by rw [show (⟨#[0]⟩ : ByteArray).size=1 from rfl];omega),if_pos (by omega)]
  rfl
 rw [if_neg (by omega),if_pos (by omega),if_pos (by omega),if_neg h]
 rfl
theorem zer_size (n : Nat) : (zer n).size=n:=by
 show (Lib.repeatL [0] n).toArray.size=n;rw [List.size_toArray,Lib.repeatL_length];simp
theorem fold_zero : ∀ n : Nat,((Lib.repeatL [0] n).map fun b : UInt8=>(b.toNat : Int)).foldl stp 0=0
 | 0=>rfl
 | n+1=>by
  have e : stp 0 0=0:=by unfold stp;rw [w64m,w64m,w64m];omega
  simp only [Lib.repeatL,List.cons_append,List.nil_append,List.map_cons,List.foldl_cons];rw [show ((0 : UInt8).toNat : Int)=0 from rfl,e];exact fold_zero n
theorem big_zer (n : Nat) : bigV (bytesOf (zer n))=0:=by
 unfold bigV bytesOf zer;exact fold_zero n
theorem num_tells (a : ByteArray) (f : Bool) (n : Nat) (hn : n≤65535) : Eve (fun k=>Fl.f k a f (n : Int)) (numV a f n):=by
 simp only [Fl.f,take_tells a f n hn,Option.bind_some];unfold takV numV
 by_cases h : a.size<n
 ·
  simp only [if_pos h]
  have hz:=zer_size n;refine Eve.ite (fun _=>?_) (fun h=>absurd (by omega) h);refine Eve.bind (big_tells _ (by rw [bytesOf_length,hz];omega) (bytes_in _)) ?_;rw [big_zer];exact Eve.one
 simp only [if_neg h];have hz : (a.extract 0 n).size≤n:=by rw [ByteArray.size_extract];omega
 refine Eve.ite (fun _=>?_) (fun h=>absurd (by omega) h);exact Eve.bind (big_tells _ (by rw [bytesOf_length];omega) (bytes_in _)) Eve.one
theorem big1 (x : Int) (h : 0≤x∧x≤255) : bigV [x]=x:=by
 simp only [bigV,List.foldl_cons,List.foldl_nil,stp];rw [w64m,w64m,w64m];omega
theorem big2 (x y : Int) (h : 0≤x∧x≤255) (h2 : 0≤y∧y≤255) : 0≤bigV [x,y]∧bigV [x,y]≤65535:=by
 simp only [bigV,List.foldl_cons,List.foldl_nil,stp];simp only [w64m];omega
theorem len1 {l : List Int} (h : l.length=1) : ∃ x,l=[x]:=by
 match l,h with
 | [x],_=>exact ⟨x,rfl⟩
theorem len2 {l : List Int} (h : l.length=2) : ∃ x y,l=[x,y]:=by
 match l,h with
 | [x,y],_=>exact ⟨x,y,rfl⟩
theorem bytes_ext1 (a : ByteArray) (i : Nat) (h : i<a.size) : bigV (bytesOf (a.extract i (i+1)))=bt a (i : Int):=by
 have hl : (bytesOf (a.extract i (i+1))).length=1:=by rw [bytesOf_length,ByteArray.size_extract];omega
 obtain ⟨x,hx⟩:=len1 hl;have h2:=bytes_in (a.extract i (i+1)) x (by rw [hx];simp);have h3:=bt_get (a.extract i (i+1)) 0 (by omega);rw [hx,big1 x h2];simp only [hx,List.getElem_cons_zero] at h3;rw [← h3];unfold bt;have e0 : (((0 : Nat) : Int)).toNat=0:=rfl;have e1 : ((i : Int)).toNat=i:=Int.toNat_natCast i;simp only [e0,e1];rw [dif_pos (by rw [ByteArray.size_extract];omega),dif_pos h]
 congr 2
 rw [ByteArray.getElem_extract];simp
theorem bytes_ext2 (a : ByteArray) (i : Nat) (h : i+2≤a.size) : 0≤bigV (bytesOf (a.extract i (i+2)))∧bigV (bytesOf (a.extract i (i+2)))≤65535:=by
 have hl : (bytesOf (a.extract i (i+2))).length=2:=by rw [bytesOf_length,ByteArray.size_extract];omega
 obtain ⟨x,y,hx⟩:=len2 hl;have hb:=bytes_in (a.extract i (i+2));rw [hx] at hb ⊢;exact big2 x y (hb x (by simp)) (hb y (by simp))
abbrev IVal:=S44
abbrev eB : ByteArray:=⟨#[]⟩
abbrev Rd:=Int×Int×ByteArray×ByteArray×Bool
def valV (a : ByteArray) (f : Bool) : Rd :=
  let q:=numV a f 1
  if q.1=1 then (q.1,(numV q.2.1 q.2.2 1).1,eB,(numV q.2.1 q.2.2 1).2.1,(numV q.2.1 q.2.2 1).2.2)
  else if q.1=2 then (q.1,wrap64 ((numV q.2.1 q.2.2 8).1 - 4611686018427387904),eB,(numV q.2.1 q.2.2 8).2.1,(numV q.2.1 q.2.2 8).2.2)
  else if q.1=3∨q.1=4∨q.1=5 then
    let r:=numV q.2.1 q.2.2 2
    (q.1,0,(takV r.2.1 r.2.2 r.1.toNat).1,(takV r.2.1 r.2.2 r.1.toNat).2.1,(takV r.2.1 r.2.2 r.1.toNat).2.2)
  else (q.1,0,eB,q.2.1,q.2.2)
theorem num2_in (a : ByteArray) (f : Bool) : 0≤(numV a f 2).1∧(numV a f 2).1≤65535:=by
  unfold numV
  by_cases h : a.size<2
  · rw [if_pos h];simp
  rw [if_neg h];exact bytes_ext2 a 0 (by omega)
theorem j0_tells (q x1 : Int) (t : ByteArray) (a : ByteArray) (f : Bool) : Eve (fun k=>F8.j0 k true a f q x1 t) (q,x1,(takV (numV a f 2).2.1 (numV a f 2).2.2 (numV a f 2).1.toNat).1,(takV (numV a f 2).2.1 (numV a f 2).2.2 (numV a f 2).1.toNat).2.1,(takV (numV a f 2).2.1 (numV a f 2).2.2 (numV a f 2).1.toNat).2.2):=by
  refine Eve.succ ?_;simp only [F8.j0,if_true];refine Eve.bind (num_tells a f 2 (by omega)) ?_;have hb:=num2_in a f;have ht:=take_tells (numV a f 2).2.1 (numV a f 2).2.2 (numV a f 2).1.toNat (by omega);rw [show (((numV a f 2).1.toNat : Nat) : Int)=(numV a f 2).1 from Int.toNat_of_nonneg hb.1] at ht;simp only [ht,Option.bind_some];exact Eve.one
theorem value_tells (a : ByteArray) (f : Bool) : Eve (fun k=>F8.f k a f) (valV a f):=by
  simp only [F8.f];refine Eve.bind (num_tells a f 1 (by omega)) ?_;unfold valV;generalize numV a f 1=q;simp only;refine Eve.ite (fun h=>?_) (fun h=>?_)
  · rw [if_pos h]
    exact Eve.bind (num_tells q.2.1 q.2.2 1 (by omega)) Eve.one
  rw [if_neg h];refine Eve.ite (fun h2=>?_) (fun h2=>?_)
  · rw [if_pos h2]
    exact Eve.bind (num_tells q.2.1 q.2.2 8 (by omega)) Eve.one
  rw [if_neg h2];refine Eve.ite (fun h3=>?_) (fun h3=>?_)
  · rw [if_pos (.inl h3)]
    simp only [h3,beq_self_eq_true];exact j0_tells _ _ _ _ _
  refine Eve.ite (fun h4=>?_) (fun h4=>?_)
  · rw [if_pos (.inr (.inl h4))]
    simp only [h4,beq_self_eq_true];exact j0_tells _ _ _ _ _
  by_cases h5 : q.1=5
  · rw [if_pos (.inr (.inr h5))]
    simp only [h5,beq_self_eq_true];exact j0_tells _ _ _ _ _
  rw [if_neg (by omega)];have : (q.1 == 5)=false:=by simpa using h5
  simp only [this];refine Eve.succ ?_;simp only [F8.j0,Bool.false_eq_true,if_false];exact Eve.one
def nxtV (a : ByteArray) : Option (IVal×ByteArray) :=
  if a.size=0 then none
  else if bt a 0=0 then some (⟨0,0,eB⟩,a.extract 1 a.size)
  else if bt a 0=1 then (if a.size<2 then none else some (⟨1,bt a 1,eB⟩,a.extract 2 a.size))
  else if bt a 0=2 then (if a.size<9 then none else if bt a 1 > 127 then none else some (⟨2,wrap64 (bigV (bytesOf (a.extract 1 9)) - 4611686018427387904),eB⟩,a.extract 9 a.size))
  else if bt a 0=3∨bt a 0=4∨bt a 0=5 then
    (if a.size<3 then none else if (a.size : Int)<3+bigV (bytesOf (a.extract 1 3)) then none
     else some (⟨bt a 0,0,a.extract 3 (3+bigV (bytesOf (a.extract 1 3))).toNat⟩,a.extract (3+bigV (bytesOf (a.extract 1 3))).toNat a.size))
  else none
def told (o : Option (IVal×ByteArray)) : Rd:=match o with|some (v,r)=>(v.f0,v.f1,v.f2,r,true)|none=>(0,0,eB,eB,false)
theorem wbt (a : ByteArray) (i : Int) : wrap64 (bt a i)=bt a i:=w64 (by have:=bt_range a i;omega) (by have:=bt_range a i;omega)
theorem n0_tells (a : ByteArray) (q : Int) (hs : a.size≤1048576) : Eve (fun k=>F2.j0 k a true q 0 eB)
    (told (if a.size<3 then none else if (a.size : Int)<3+bigV (bytesOf (a.extract 1 3)) then none
     else some (⟨q,0,a.extract 3 (3+bigV (bytesOf (a.extract 1 3))).toNat⟩,a.extract (3+bigV (bytesOf (a.extract 1 3))).toNat a.size))):=by
  refine Eve.succ ?_;simp only [F2.j0,if_true];refine Eve.ite (fun h=>?_) (fun h=>?_)
  · rw [if_pos (by omega)];exact Eve.one
  rw [if_neg (by omega)];refine Eve.ite (fun _=>?_) (fun h=>absurd (by omega) h);refine Eve.ite (fun _=>?_) (fun h=>absurd (by omega) h);refine Eve.bind (of_tells (a.extract 1 3) (by rw [ByteArray.size_extract];omega)) ?_;have hb:=bytes_ext2 a 1 (by omega);simp only [show 1+2=3 from rfl] at hb;have hw : wrap64 (3+bigV (bytesOf (a.extract 1 3)))=3+bigV (bytesOf (a.extract 1 3)):=w64 (by omega) (by omega);simp only [hw];refine Eve.ite (fun h2=>?_) (fun h2=>?_)
  · rw [if_pos h2];exact Eve.one
  rw [if_neg h2];refine Eve.ite (fun _=>?_) (fun h=>absurd (by omega) h);refine Eve.ite (fun _=>?_) (fun h=>absurd (by omega) h);exact Eve.ite (fun _=>Eve.one) (fun h=>absurd (by omega) h)
theorem next_tells (a : ByteArray) (hs : a.size≤1048576) : Eve (fun k=>F2.f k a) (told (nxtV a)):=by
  unfold nxtV;simp only [F2.f,wbt];refine Eve.ite (fun h=>?_) (fun h=>?_)
  · have hz : a.size=0:=by omega
    rw [if_pos hz];exact Eve.one
  have hz : ¬ a.size=0:=by omega
  rw [if_neg hz];refine Eve.ite (fun _=>?_) (fun h=>absurd (by omega) h);refine Eve.ite (fun h0=>?_) (fun h0=>?_)
  · rw [if_pos h0]
    refine Eve.ite (fun _=>?_) (fun h=>absurd (by omega) h);exact Eve.one.eq (by rw [h0];rfl)
  rw [if_neg h0];refine Eve.ite (fun h1=>?_) (fun h1=>?_)
  · rw [if_pos h1]
    refine Eve.succ ?_;simp only [F2.j1,wbt,h1];have hw : wrap64 (1+1)=2:=w64 (by omega) (by omega);simp only [hw,if_true];refine Eve.ite (fun h=>?_) (fun h=>?_)
    · have hy : a.size<2:=by omega
      rw [if_pos hy];exact Eve.one
    have hy : ¬ a.size<2:=by omega
    rw [if_neg hy];refine Eve.ite (fun _=>?_) (fun h=>absurd (by omega) h);refine Eve.ite (fun _=>?_) (fun h=>absurd (by omega) h);exact Eve.ite (fun _=>Eve.one) (fun h=>absurd (by omega) h)
  rw [if_neg h1];refine Eve.ite (fun h2=>?_) (fun h2=>?_)
  · rw [if_pos h2]
    refine Eve.succ ?_;simp only [F2.j1,h2];have hw : wrap64 (1+8)=9:=w64 (by omega) (by omega);simp only [hw];refine Eve.ite (fun h=>?_) (fun h=>?_)
    · have hy : a.size<9:=by omega
      rw [if_pos hy];exact Eve.one
    have hy : ¬ a.size<9:=by omega
    rw [if_neg hy];refine Eve.ite (fun h=>absurd h (by omega)) (fun _=>?_);refine Eve.ite (fun _=>?_) (fun h=>absurd (by omega) h);refine Eve.ite (fun h=>?_) (fun h=>?_)
    · rw [if_pos h];exact Eve.one
    rw [if_neg h];refine Eve.ite (fun _=>?_) (fun h=>absurd (by omega) h);refine Eve.ite (fun _=>?_) (fun h=>absurd (by omega) h);refine Eve.bind (of_tells (a.extract 1 9) (by rw [ByteArray.size_extract];omega)) ?_;refine Eve.ite (fun _=>?_) (fun h=>absurd (by omega) h);exact Eve.ite (fun _=>Eve.one) (fun h=>absurd (by omega) h)
  rw [if_neg h2];refine Eve.ite (fun h3=>?_) (fun h3=>?_)
  · rw [if_pos (show bt a 0=3∨bt a 0=4∨bt a 0=5 from .inl h3)]
    simp only [h3,beq_self_eq_true];exact n0_tells a 3 hs
  refine Eve.ite (fun h4=>?_) (fun h4=>?_)
  · rw [if_pos (show bt a 0=3∨bt a 0=4∨bt a 0=5 from .inr (.inl h4))]
    simp only [h4,beq_self_eq_true];exact n0_tells a 4 hs
  by_cases h5 : bt a 0=5
  · rw [if_pos (show bt a 0=3∨bt a 0=4∨bt a 0=5 from .inr (.inr h5))]
    simp only [h5,beq_self_eq_true];exact n0_tells a 5 hs
  have hy : ¬ (bt a 0=3∨bt a 0=4∨bt a 0=5):=by omega
  rw [if_neg hy];have : (bt a 0 == 5)=false:=by simpa using h5
  simp only [this];refine Eve.succ ?_;simp only [F2.j0,Bool.false_eq_true,if_false];exact Eve.one
def Bad (v : IVal) : Prop:=v.f0<0∨v.f0 > 5∨(v.f0=2∧(v.f1 < -1000000000000∨v.f1 > 1000000000000))
def rdv (r : Rd) : IVal:=⟨r.1,r.2.1,r.2.2.1⟩
theorem num_one (a : ByteArray) (f : Bool) (h : 0<a.size) : numV a f 1=(bt a 0,a.extract 1 a.size,f):=by
  unfold numV;rw [if_neg (by omega)];have:=bytes_ext1 a 0 h;simp only [Nat.zero_add] at this;rw [this];rfl
theorem num_none (a : ByteArray) (f : Bool) (n : Nat) (h : a.size<n) : numV a f n=(0,a,true):=by unfold numV;rw [if_pos h]
theorem num_some (a : ByteArray) (f : Bool) (n : Nat) (h : n≤a.size) : numV a f n=(bigV (bytesOf (a.extract 0 n)),a.extract n a.size,f):=by unfold numV;rw [if_neg (by omega)]
theorem tail_size (a : ByteArray) (n : Nat) : (a.extract n a.size).size=a.size - n:=by rw [ByteArray.size_extract];omega
theorem ext_ext (a : ByteArray) (n i j : Nat) (h : n+j≤a.size) : (a.extract n a.size).extract i j=a.extract (n+i) (n+j):=by
  rw [ByteArray.extract_extract,Nat.min_eq_left h]
theorem ext_tail (a : ByteArray) (n i : Nat) (h : n≤a.size) : (a.extract n a.size).extract i (a.extract n a.size).size=a.extract (n+i) a.size:=by
  rw [tail_size,ByteArray.extract_extract]
  congr 1
  omega
theorem big8 (l : List Int) (x : Int) (r : List Int) (hl : l=x :: r) (hr : r.length=7) (hb : ∀ b ∈ l,0≤b∧b≤255) (hx : x > 127) : wrap64 (bigV l - 4611686018427387904) < -1000000000000∨wrap64 (bigV l - 4611686018427387904) > 1000000000000:=by
  subst hl
  match r,hr with
  | [b1,b2,b3,b4,b5,b6,b7],_ =>
    have h0:=hb x (by simp);have h1:=hb b1 (by simp);have h2:=hb b2 (by simp);have h3:=hb b3 (by simp);have h4:=hb b4 (by simp);have h5:=hb b5 (by simp);have h6:=hb b6 (by simp);have h7:=hb b7 (by simp)
    have e : bigV [x,b1,b2,b3,b4,b5,b6,b7]=x*72057594037927936+b1*281474976710656+b2*1099511627776+b3*4294967296+b4*16777216+b5*65536+b6*256+b7 - 18446744073709551616:=by
      simp only [bigV,List.foldl_cons,List.foldl_nil];have s0 : stp 0 x=x:=by unfold stp;simp only [w64m];omega
      have s1 : stp x b1=x*256+b1:=by unfold stp;simp only [w64m];omega
      have s2 : stp (x*256+b1) b2=x*65536+b1*256+b2:=by unfold stp;simp only [w64m];omega
      have s3 : stp (x*65536+b1*256+b2) b3=x*16777216+b1*65536+b2*256+b3:=by unfold stp;simp only [w64m];omega
      have s4 : stp (x*16777216+b1*65536+b2*256+b3) b4=x*4294967296+b1*16777216+b2*65536+b3*256+b4:=by unfold stp;simp only [w64m];omega
      have s5 : stp (x*4294967296+b1*16777216+b2*65536+b3*256+b4) b5=x*1099511627776+b1*4294967296+b2*16777216+b3*65536+b4*256+b5:=by unfold stp;simp only [w64m];omega
      have s6 : stp (x*1099511627776+b1*4294967296+b2*16777216+b3*65536+b4*256+b5) b6=x*281474976710656+b1*1099511627776+b2*4294967296+b3*16777216+b4*65536+b5*256+b6:=by unfold stp;simp only [w64m];omega
      rw [s0,s1,s2,s3,s4,s5,s6];unfold stp;simp only [w64m];omega
    rw [e,w64m]
    omega
theorem nxt_some (a : ByteArray) (v : IVal) (r : ByteArray) (h : nxtV a=some (v,r)) : valV a false=(v.f0,v.f1,v.f2,r,false)∧r.size<a.size:=by
  unfold nxtV at h
  by_cases hz : a.size=0
  · rw [if_pos hz] at h;simp at h
  rw [if_neg hz] at h;unfold valV;rw [num_one a false (by omega)];simp only;have ht:=tail_size a 1
  by_cases h0 : bt a 0=0
  · rw [if_pos h0] at h
    obtain ⟨rfl,rfl⟩ : _∧_:=by simpa using h
    rw [if_neg (by omega),if_neg (by omega),if_neg (by omega),h0];exact ⟨rfl,by omega⟩
  rw [if_neg h0] at h
  by_cases h1 : bt a 0=1
  · rw [if_pos h1] at h
    by_cases h2 : a.size<2
    · rw [if_pos h2] at h;simp at h
    rw [if_neg h2] at h;obtain ⟨rfl,rfl⟩ : _∧_:=by simpa using h
    rw [if_pos h1,num_some _ _ _ (by omega),ext_ext _ _ _ _ (by omega),ext_tail _ _ _ (by omega),h1];have:=bytes_ext1 a 1 (by omega);refine ⟨?_,by rw [tail_size];omega⟩;show (1,bigV (bytesOf (a.extract 1 (1+1))),eB,a.extract 2 a.size,false)=_;rw [this];rfl
  rw [if_neg h1] at h
  by_cases h2 : bt a 0=2
  · rw [if_pos h2] at h
    by_cases h3 : a.size<9
    · rw [if_pos h3] at h;simp at h
    rw [if_neg h3] at h
    by_cases h4 : bt a 1 > 127
    · rw [if_pos h4] at h;simp at h
    rw [if_neg h4] at h;obtain ⟨rfl,rfl⟩ : _∧_:=by simpa using h
    rw [if_neg h1,if_pos h2,num_some _ _ _ (by omega),ext_ext _ _ _ _ (by omega),ext_tail _ _ _ (by omega),h2];exact ⟨rfl,by rw [tail_size];omega⟩
  rw [if_neg h2] at h
  by_cases h3 : bt a 0=3∨bt a 0=4∨bt a 0=5
  · rw [if_pos h3] at h
    by_cases h4 : a.size<3
    · rw [if_pos h4] at h;simp at h
    rw [if_neg h4] at h;have hb:=bytes_ext2 a 1 (by omega);simp only [show 1+2=3 from rfl] at hb
    by_cases h5 : (a.size : Int)<3+bigV (bytesOf (a.extract 1 3))
    · rw [if_pos h5] at h;simp at h
    rw [if_neg h5] at h;obtain ⟨rfl,rfl⟩ : _∧_:=by simpa using h
    rw [if_neg h1,if_neg h2,if_pos h3,num_some _ _ _ (by omega),ext_ext _ _ _ _ (by omega),ext_tail _ _ _ (by omega)];simp only [show 1+0=1 from rfl,show 1+2=3 from rfl];generalize bigV (bytesOf (a.extract 1 3))=n at hb h5 ⊢;obtain ⟨n,rfl⟩ : ∃ m : Nat,n=(m : Int):=⟨n.toNat,by omega⟩;have e1 : ((n : Int)).toNat=n:=Int.toNat_natCast n;have e2 : (3+(n : Int)).toNat=3+n:=by omega
    have ht3:=tail_size a 3;unfold takV;simp only [e1,e2];rw [if_neg (by omega),ext_ext _ _ _ _ (by omega),ext_tail _ _ _ (by omega)];exact ⟨rfl,by rw [tail_size];omega⟩
  rw [if_neg h3] at h;simp at h
theorem nxt_none (a : ByteArray) (h : nxtV a=none) : (valV a false).2.2.2.2=true∨Bad (rdv (valV a false)):=by
  by_cases hz : a.size=0
  · left
    unfold valV;rw [num_none a false 1 (by omega)];simp
  unfold nxtV at h;rw [if_neg hz] at h;unfold valV;rw [num_one a false (by omega)];simp only;have ht:=tail_size a 1
  by_cases h0 : bt a 0=0
  · rw [if_pos h0] at h;simp at h
  rw [if_neg h0] at h
  by_cases h1 : bt a 0=1
  · rw [if_pos h1] at h ⊢
    by_cases h2 : a.size<2
    · left;rw [num_none _ _ _ (by omega)]
    rw [if_neg h2] at h;simp at h
  rw [if_neg h1] at h ⊢
  by_cases h2 : bt a 0=2
  · rw [if_pos h2] at h ⊢
    by_cases h3 : a.size<9
    · left;rw [num_none _ _ _ (by omega)]
    rw [if_neg h3] at h
    by_cases h4 : bt a 1 > 127
    · right;right;right
      refine ⟨h2,?_⟩;rw [num_some _ _ _ (by omega),ext_ext _ _ _ _ (by omega)];simp only [show 1+0=1 from rfl,show 1+8=9 from rfl,rdv];have hl : (bytesOf (a.extract 1 9)).length=8:=by rw [bytesOf_length,ByteArray.size_extract];omega
      have hg:=bt_get (a.extract 1 9) 0 (by omega)
      have he : bt (a.extract 1 9) ((0 : Nat) : Int)=bt a 1:=by
        unfold bt;have e0 : (((0 : Nat) : Int)).toNat=0:=rfl;have e1 : ((1 : Int)).toNat=1:=rfl;simp only [e0,e1];rw [dif_pos (by rw [ByteArray.size_extract];omega),dif_pos (by omega)]
        congr 2
        rw [ByteArray.getElem_extract]
      cases hc : bytesOf (a.extract 1 9) with
      | nil=>rw [hc] at hl;simp at hl
      | cons x r =>
        have hb:=bytes_in (a.extract 1 9);rw [he] at hg;simp only [hc,List.getElem_cons_zero] at hg;rw [hc] at hl hb;exact big8 _ x r rfl (by simpa using hl) hb (by omega)
    rw [if_neg h4] at h;simp at h
  rw [if_neg h2] at h ⊢
  by_cases h3 : bt a 0=3∨bt a 0=4∨bt a 0=5
  · rw [if_pos h3] at h ⊢
    left
    by_cases h4 : a.size<3
    · rw [num_none _ _ 2 (by omega)]
      unfold takV;simp
    rw [if_neg h4] at h;have hb:=bytes_ext2 a 1 (by omega);simp only [show 1+2=3 from rfl] at hb
    by_cases h5 : (a.size : Int)<3+bigV (bytesOf (a.extract 1 3))
    · rw [num_some _ _ 2 (by omega),ext_ext _ _ _ _ (by omega),ext_tail _ _ _ (by omega)]
      simp only [show 1+0=1 from rfl,show 1+2=3 from rfl];unfold takV;rw [if_pos (by rw [tail_size];omega)]
    rw [if_neg h5] at h;simp at h
  rw [if_neg h3]
  right
  have:=bt_range a 0
  right;left
  show bt a 0 > 5
  omega
theorem num_mono (a : ByteArray) (f : Bool) (n : Nat) : (numV a f n).2.1.size≤a.size∧(f=true→(numV a f n).2.2=true):=by
  unfold numV
  by_cases h : a.size<n
  · rw [if_pos h];exact ⟨Nat.le_refl _,fun _=>rfl⟩
  rw [if_neg h];exact ⟨by simp only [tail_size];omega,fun h=>h⟩
theorem tak_mono (a : ByteArray) (f : Bool) (n : Nat) : (takV a f n).2.1.size≤a.size∧(f=true→(takV a f n).2.2=true):=by
  unfold takV
  by_cases h : a.size<n
  · rw [if_pos h];exact ⟨Nat.le_refl _,fun _=>rfl⟩
  rw [if_neg h];exact ⟨by simp only [tail_size];omega,fun h=>h⟩
theorem val_mono (a : ByteArray) (f : Bool) : (valV a f).2.2.2.1.size≤(numV a f 1).2.1.size∧(f=true→(valV a f).2.2.2.2=true):=by
  have hq:=num_mono a f 1;unfold valV;generalize numV a f 1=q at hq;simp only
  by_cases h1 : q.1=1
  · rw [if_pos h1]
    have:=num_mono q.2.1 q.2.2 1;exact ⟨this.1,fun h=>this.2 (hq.2 h)⟩
  rw [if_neg h1]
  by_cases h2 : q.1=2
  · rw [if_pos h2]
    have:=num_mono q.2.1 q.2.2 8;exact ⟨this.1,fun h=>this.2 (hq.2 h)⟩
  rw [if_neg h2]
  by_cases h3 : q.1=3∨q.1=4∨q.1=5
  · rw [if_pos h3]
    have hr:=num_mono q.2.1 q.2.2 2;have ht:=tak_mono (numV q.2.1 q.2.2 2).2.1 (numV q.2.1 q.2.2 2).2.2 (numV q.2.1 q.2.2 2).1.toNat;exact ⟨Nat.le_trans ht.1 hr.1,fun h=>ht.2 (hr.2 (hq.2 h))⟩
  rw [if_neg h3];exact ⟨Nat.le_refl _,hq.2⟩
theorem val_less (a : ByteArray) (f : Bool) (h : 0<a.size) : (valV a f).2.2.2.1.size<a.size:=by
  have h1:=(val_mono a f).1;rw [num_one a f h] at h1;have:=tail_size a 1;simp only at h1
  omega
end Go.Proofs.Ytjgcddjdmfcgoaa.Pure
end

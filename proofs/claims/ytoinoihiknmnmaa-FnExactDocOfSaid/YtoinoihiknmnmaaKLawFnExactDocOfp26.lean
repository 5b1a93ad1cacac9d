/- Texts of this claim, merged by a program of this session. -/
import Derived.Test.YtoinoihiknmnmaaKLawFnExactDocOfp25
import Derived.ProofKit
import Derived.OpenShut
import Derived.ShutString
import Derived.ChangeOld
import Derived.SizedLaws
import Derived.Deep.Slices
import Derived.Lib.SmallJoins
import Derived.Laws.Entries
section
namespace Go.Proofs.Ytoinoihiknmnmaa.Q
open Go.RowKit Go.Proofs.YtoinoihiknmnmaaW.PrintWords Go.Proofs.YtoinoihiknmnmaaW.PrintLast Go.Proofs.YtoinoihiknmnmaaW.PrintMore
attribute [local go_sem] max2_int min2_int max_two min_two max_three min_three max_four min_four max2_str min2_str str_geq str_gtr str_leq
set_option linter.unusedVariables false
set_option linter.unusedSimpArgs false

def Fx.f (k : Nat) (l0 : List Int) (a1_0 : Int) (a1_1 : Int) (a1_2 : ByteArray) : Option (List Int):=if l0.length<140737488355328 then ((some (l0 ++ [(a1_0) % 256] : List Int)).bind fun y350=>(if a1_0=1 then (if y350.length<140737488355328 then (some (y350 ++ [(a1_1) % 256])) else (none)) else (if a1_0=2 then ((Fq.f k (wrap64 (a1_1+4611686018427387904))).bind fun t356=>(if y350.length+t356.length<140737488355328 then (some (y350++t356)) else (none))) else (if a1_0=3 then ((some (([((a1_2.size : Int) / 256) % 256,((a1_2.size : Int)) % 256] : List Int) : List Int)).bind fun y362=>(if y350.length+y362.length<140737488355328 then ((some (y350++y362 : List Int)).bind fun y365=>(if y365.length+a1_2.size<140737488355328 then (some (y365++bytesOf a1_2)) else (none))) else (none))) else (if a1_0=4 then ((some (([((a1_2.size : Int) / 256) % 256,((a1_2.size : Int)) % 256] : List Int) : List Int)).bind fun y371=>(if y350.length+y371.length<140737488355328 then ((some (y350++y371 : List Int)).bind fun y374=>(if y374.length+a1_2.size<140737488355328 then (some (y374++bytesOf a1_2)) else (none))) else (none))) else (if a1_0=5 then ((some (([((a1_2.size : Int) / 256) % 256,((a1_2.size : Int)) % 256] : List Int) : List Int)).bind fun y380=>(if y350.length+y380.length<140737488355328 then ((some (y350++y380 : List Int)).bind fun y383=>(if y383.length+a1_2.size<140737488355328 then (some (y383++bytesOf a1_2)) else (none))) else (none))) else (some y350))))))) else (none)
theorem Fx.mono : ∀ a0 a1 a2 a3 k,LeO (Fx.f k a0 a1 a2 a3) (Fx.f (k+1) a0 a1 a2 a3):=by
 intro a0 a1 a2 a3 k;unfold Fx.f
 repeat' first|(with_reducible first|exact Fq.mono _ _|exact zQ _|exact zN _|refine zP ?_ ?_|refine zO ?_ (fun _=>?_))|refine zP ?_ ?_|refine zO ?_ (fun _=>?_)
def Fx.T10 : Bool×List (List Nat×List Nat):=(true,[([],[]),([],[]),([1],[1]),([2],[2]),([3],[3]),([4],[4]),([],[]),([6],[6]),([7],[7]),([8],[8]),([5,9],[5,9]),([0,10],[0,10]),([],[]),([12],[12]),([11,13,11],[11,13]),([14,14,0,1,2,3,4,5,6,7,8,9,10,11,12,13,14],[14])])
def Fx.B10 : List Nat:=[0,0,2,6,14,30,0,64,192,448,1022,2047,0,4096,16383,32767]
theorem Fx.tab10 : rtab .any (opsOf Try.f51 10)=Fx.T10:=by kernel_rfl
theorem Fx.bits10 : waitsOk Fx.T10.2 Fx.B10=true:=by kernel_rfl
set_option maxHeartbeats 8000000 in
set_option maxRecDepth 100000 in
theorem Fx.calls (k : Nat) (P0_ : Nat→Prop) (u9000_ : Value) (l0 : List Int) (a1_0 : Int) (a1_1 : Int) (a1_2 : ByteArray) (r : List Int) (w0 w : World) (hB : Below w0.heap.size w0 w) (ho0 : Kd.R (Kd.int .u8) 5 w w0.heap.size P0_ u9000_ l0) (h : Fx.f k l0 a1_0 a1_1 a1_2=some r) :
  Calls Try.prog 51 #[u9000_,.agg #[.int .i64 a1_0,.int .i64 a1_1,.string a1_2]] w fun e w' => ∃ v0_ : Value,e = .returned (v0_)∧Kd.R (Kd.int .u8) 5 w' w0.heap.size (fun k_=>(P0_ k_∨w.heap.size≤k_)) v0_ r∧Below w0.heap.size w0 w' ∧ Kept w w' (fun k_=>P0_ k_):=by
 have hu25:=Try.underlying25;have HO0:=zh (show Kd.R (Kd.int .u8) 5 w w0.heap.size (fun k_=>(P0_ k_∨w.heap.size≤k_)) u9000_ l0 from zM ho0 (fun k_ hk=>(.inl hk)));have HK:=zh (Kept.refl w (fun k_=>P0_ k_));have HW0:=zh hB.size;have HB:=zh hB;clear hB;have H : (if l0.length<140737488355328 then ((some (l0 ++ [(a1_0) % 256] : List Int)).bind fun y350=>(if a1_0=1 then (if y350.length<140737488355328 then (some (y350 ++ [(a1_1) % 256])) else (none)) else (if a1_0=2 then ((Fq.f k (wrap64 (a1_1+4611686018427387904))).bind fun t356=>(if y350.length+t356.length<140737488355328 then (some (y350++t356)) else (none))) else (if a1_0=3 then ((some (([((a1_2.size : Int) / 256) % 256,((a1_2.size : Int)) % 256] : List Int) : List Int)).bind fun y362=>(if y350.length+y362.length<140737488355328 then ((some (y350++y362 : List Int)).bind fun y365=>(if y365.length+a1_2.size<140737488355328 then (some (y365++bytesOf a1_2)) else (none))) else (none))) else (if a1_0=4 then ((some (([((a1_2.size : Int) / 256) % 256,((a1_2.size : Int)) % 256] : List Int) : List Int)).bind fun y371=>(if y350.length+y371.length<140737488355328 then ((some (y350++y371 : List Int)).bind fun y374=>(if y374.length+a1_2.size<140737488355328 then (some (y374++bytesOf a1_2)) else (none))) else (none))) else (if a1_0=5 then ((some (([((a1_2.size : Int) / 256) % 256,((a1_2.size : Int)) % 256] : List Int) : List Int)).bind fun y380=>(if y350.length+y380.length<140737488355328 then ((some (y350++y380 : List Int)).bind fun y383=>(if y383.length+a1_2.size<140737488355328 then (some (y383++bytesOf a1_2)) else (none))) else (none))) else (some y350))))))) else (none))=some r:=h;clear h
 by_cases c3 : l0.length<140737488355328
 ·
  rw [if_pos c3] at H
  have LMc3:=zh c3;clear c3;obtain ⟨y350,hy350⟩ : ∃ y_ : List Int,y_=(l0 ++ [(a1_0) % 256]):=⟨_,rfl⟩;replace H : (if a1_0=1 then (if y350.length<140737488355328 then (some (y350 ++ [(a1_1) % 256])) else (none)) else (if a1_0=2 then ((Fq.f k (wrap64 (a1_1+4611686018427387904))).bind fun t356=>(if y350.length+t356.length<140737488355328 then (some (y350++t356)) else (none))) else (if a1_0=3 then ((some (([((a1_2.size : Int) / 256) % 256,((a1_2.size : Int)) % 256] : List Int) : List Int)).bind fun y362=>(if y350.length+y362.length<140737488355328 then ((some (y350++y362 : List Int)).bind fun y365=>(if y365.length+a1_2.size<140737488355328 then (some (y365++bytesOf a1_2)) else (none))) else (none))) else (if a1_0=4 then ((some (([((a1_2.size : Int) / 256) % 256,((a1_2.size : Int)) % 256] : List Int) : List Int)).bind fun y371=>(if y350.length+y371.length<140737488355328 then ((some (y350++y371 : List Int)).bind fun y374=>(if y374.length+a1_2.size<140737488355328 then (some (y374++bytesOf a1_2)) else (none))) else (none))) else (if a1_0=5 then ((some (([((a1_2.size : Int) / 256) % 256,((a1_2.size : Int)) % 256] : List Int) : List Int)).bind fun y380=>(if y350.length+y380.length<140737488355328 then ((some (y350++y380 : List Int)).bind fun y383=>(if y383.length+a1_2.size<140737488355328 then (some (y383++bytesOf a1_2)) else (none))) else (none))) else (some y350))))))=some r:=by first|(rw [hy350];with_reducible exact H)|(have H2_:=(Option.bind_some _ _).symm.trans H;rw [hy350];with_reducible exact H2_)|(have H2_:=(Option.bind_some _ _).symm.trans H;with_reducible exact H2_)|with_reducible exact H|(rw [hy350];exact H)|exact H
  have Ny350:=zh hy350;clear hy350
  by_cases c4 : a1_0=1
  ·
   rw [if_pos c4] at H
   have c4b0 : (a1_0 == 1)=true:=ya.mpr c4;have c4b1 : (a1_0 != 1)=false:=zX.mpr c4;clear c4
   by_cases c5 : y350.length<140737488355328
   ·
    rw [if_pos c5] at H
    have LMc5:=zh c5;clear c5;obtain ⟨y353,hy353⟩ : ∃ y_ : List Int,y_=(y350 ++ [(a1_1) % 256]):=⟨_,rfl⟩;replace H : (some y353)=some r:=by first|(rw [hy353];with_reducible exact H)|(have H2_:=(Option.bind_some _ _).symm.trans H;rw [hy353];with_reducible exact H2_)|(have H2_:=(Option.bind_some _ _).symm.trans H;with_reducible exact H2_)|with_reducible exact H|(rw [hy353];exact H)|exact H
    have Ny353:=zh hy353;clear hy353;obtain rfl:=zU H
    go_enter Try.func51,Try.ntmps51
    go_wp2_with (first|((with_reducible refine zK (N:=3) rfl ?_);refine zI ?hg (N:=3) ?hd (cs:=#[.int .i64 a1_0,.int .i64 a1_1,.string a1_2]) (t:=25) ?hr ?_;(case hd=>rfl);(case hg=>rfl);(case hr=>go_simp <;> rfl);intro gb349 hg w6 hbox hb;replace HO0:=zh (yg (by (with_reducible repeat (first|apply zm|apply zn|apply zo));exact HO0.out) hb);have BK349:=zh (hbox);have GW349:=zh ((by rw [hg];exact (by first|exact HK.out.1|exact (show Kept w _ (fun k_=>P0_ k_) from by repeat (with_reducible first|exact HK.out|apply zr|apply zp|apply zq)).1) : w.heap.size≤gb349));replace HK:=zh (Kept.below (S:=(fun k_=>P0_ k_)) (by repeat (with_reducible first|exact HK.out|apply zr|apply zp|apply zq)) hb);have GE349:=zh ((by rw [hg];exact (zB (by repeat (with_reducible first|exact HB.out|apply za|apply zb|apply zc))) : w0.heap.size≤gb349));replace HB:=zh (zC (by repeat (with_reducible first|exact HB.out|apply za|apply zb|apply zc)) hb);clear hb hbox hg;obtain ⟨hcz7_0,hcz7_1,hcz7_2,hfz7_0,hfz7_1,hfz7_2⟩:=cB3 BK349.out)|((with_reducible refine yB (b:=.append) (xs:=#[.tmp 5,.tmp 9]) rfl ?_);at_builtin;refine Kd.R_append (Kd.int .u8) (w0:=w0) w0.heap.size rfl (.tmp 5) (.tmp 9) 33 5 (.int .u8 0) 1 rfl Try.underlying33 info5 rfl (by decide) (by omega) u9000_ l0 ((a1_0) % 256) [.int .u8 ((a1_0) % 256)] (fun k_=>(P0_ k_∨w.heap.size≤k_)) (fun _=>False) rfl rfl ?aP (fun _ hk=>hk.elim) ?aF ?aO ?aB ?aS ?aL ?_;(case aP=>exact rfl);(case aB=>exact (by repeat (with_reducible first|exact HB.out|apply za|apply zb|apply zc|refine zd ?_ GE349.out)));(case aF=>exact (fun k_ hk=>(.inr (Nat.le_trans (by first|exact HK.out.1|exact (show Kept w _ (fun k_=>P0_ k_) from by repeat (with_reducible first|exact HK.out|apply zr|apply zp|apply zq|refine zs ?_ (.inr GW349.out) _)).1) hk))));(case aO=>exact (by (with_reducible repeat (first|apply zm|apply zn|apply zo));exact HO0.out));(case aS=>exact (zB (by repeat (with_reducible first|exact HB.out|apply za|apply zb|apply zc|refine zd ?_ GE349.out))));(case aL=>have:=LMc3.out;omega);intro v351 w8 ho hb hg hat;rw [← Ny350.out] at ho;replace BK349:=zh (yw (g:=gb349) (o:=.cells #[.int .i64 a1_0,.int .i64 a1_1,.string a1_2] 25 (0,0)) (by (with_reducible repeat first|apply ze|apply zf|apply zg);exact BK349.out) hg (Kd.R_ne HO0.out BK349.out (by decide)));replace HB:=zh (hb);replace HK:=zh (yA (S:=(fun k_=>P0_ k_)) hg (by repeat (with_reducible first|exact HK.out|apply zr|apply zp|apply zq|refine zs ?_ (.inr GW349.out) _)) (fun k_ e_=>(HO0.out.1 k_ e_)));have HO352:=zh (ho);clear HO0 ho hb hg hat;obtain ⟨hcz9_0,hcz9_1,hcz9_2,hfz9_0,hfz9_1,hfz9_2⟩:=cB3 BK349.out)|((with_reducible refine yB (b:=.append) (xs:=#[.tmp 15,.tmp 19]) rfl ?_);at_builtin;refine Kd.R_append (Kd.int .u8) (w0:=w0) w0.heap.size rfl (.tmp 15) (.tmp 19) 33 5 (.int .u8 0) 1 rfl Try.underlying33 info5 rfl (by decide) (by omega) v351 y350 ((a1_1) % 256) [.int .u8 ((a1_1) % 256)] (fun k_=>(P0_ k_∨w.heap.size≤k_)) (fun _=>False) rfl rfl ?aP (fun _ hk=>hk.elim) ?aF ?aO ?aB ?aS ?aL ?_;(case aP=>exact rfl);(case aB=>exact (by repeat (with_reducible first|exact HB.out|apply za|apply zb|apply zc|refine zd ?_ GE349.out)));(case aF=>exact (fun k_ hk=>(.inr (Nat.le_trans (by first|exact HK.out.1|exact (show Kept w _ (fun k_=>P0_ k_) from by repeat (with_reducible first|exact HK.out|apply zr|apply zp|apply zq|refine zs ?_ (.inr GW349.out) _)).1) hk))));(case aO=>exact (by (with_reducible repeat (first|apply zm|apply zn|apply zo));exact HO352.out));(case aS=>exact (zB (by repeat (with_reducible first|exact HB.out|apply za|apply zb|apply zc|refine zd ?_ GE349.out))));(case aL=>have:=LMc5.out;omega);intro v354 w10 ho hb hg hat;rw [← Ny353.out] at ho;replace BK349:=zh (yw (g:=gb349) (o:=.cells #[.int .i64 a1_0,.int .i64 a1_1,.string a1_2] 25 (0,0)) (by (with_reducible repeat first|apply ze|apply zf|apply zg);exact BK349.out) hg (Kd.R_ne HO352.out BK349.out (by decide)));replace HB:=zh (hb);replace HK:=zh (yA (S:=(fun k_=>P0_ k_)) hg (by repeat (with_reducible first|exact HK.out|apply zr|apply zp|apply zq|refine zs ?_ (.inr GW349.out) _)) (fun k_ e_=>(HO352.out.1 k_ e_)));have HO355:=zh (ho);clear HO352 ho hb hg hat))
    go_ret
    exact ⟨_,by first|rfl|(simp [yt,yu] <;> rfl)|(simp [*,yt,yu] <;> rfl),by (with_reducible repeat (first|apply zm|apply zn|apply zo));exact HO355.out,by repeat (with_reducible first|exact HB.out|apply za|apply zb|apply zc|refine zd ?_ GE349.out),by repeat (with_reducible first|exact HK.out|apply zr|apply zp|apply zq|refine zs ?_ (.inr GW349.out) _)⟩
   rw [if_neg c5] at H;exact absurd H (by simp)
  rw [if_neg c4] at H;have c4b0 : (a1_0 == 1)=false:=zY.mpr c4;have c4b1 : (a1_0 != 1)=true:=zZ.mpr c4
  by_cases c11 : a1_0=2
  ·
   rw [if_pos c11] at H
   have c11b0 : (a1_0 == 2)=true:=ya.mpr c11;have c11b1 : (a1_0 != 2)=false:=zX.mpr c11;clear c11;replace H:=zT.mp H;obtain ⟨t356,A120,H⟩:=H;replace H : (if y350.length+t356.length<140737488355328 then (some (y350++t356)) else (none))=some r:=H;have A12:=zh A120;clear A120
   by_cases c13 : y350.length+t356.length<140737488355328
   ·
    rw [if_pos c13] at H
    have LMc13:=zh c13;clear c13;obtain ⟨y359,hy359⟩ : ∃ y_ : List Int,y_=(y350++t356):=⟨_,rfl⟩;replace H : (some y359)=some r:=by first|(rw [hy359];with_reducible exact H)|(have H2_:=(Option.bind_some _ _).symm.trans H;rw [hy359];with_reducible exact H2_)|(have H2_:=(Option.bind_some _ _).symm.trans H;with_reducible exact H2_)|with_reducible exact H|(rw [hy359];exact H)|exact H
    have Ny359:=zh hy359;clear hy359;obtain rfl:=zU H
    go_enter Try.func51,Try.ntmps51
    go_wp2_with (first|((with_reducible refine zK (N:=3) rfl ?_);refine zI ?hg (N:=3) ?hd (cs:=#[.int .i64 a1_0,.int .i64 a1_1,.string a1_2]) (t:=25) ?hr ?_;(case hd=>rfl);(case hg=>rfl);(case hr=>go_simp <;> rfl);intro gb349 hg w14 hbox hb;replace HO0:=zh (yg (by (with_reducible repeat (first|apply zm|apply zn|apply zo));exact HO0.out) hb);have BK349:=zh (hbox);have GW349:=zh ((by rw [hg];exact (by first|exact HK.out.1|exact (show Kept w _ (fun k_=>P0_ k_) from by repeat (with_reducible first|exact HK.out|apply zr|apply zp|apply zq)).1) : w.heap.size≤gb349));replace HK:=zh (Kept.below (S:=(fun k_=>P0_ k_)) (by repeat (with_reducible first|exact HK.out|apply zr|apply zp|apply zq)) hb);have GE349:=zh ((by rw [hg];exact (zB (by repeat (with_reducible first|exact HB.out|apply za|apply zb|apply zc))) : w0.heap.size≤gb349));replace HB:=zh (zC (by repeat (with_reducible first|exact HB.out|apply za|apply zb|apply zc)) hb);clear hb hbox hg;obtain ⟨hcz15_0,hcz15_1,hcz15_2,hfz15_0,hfz15_1,hfz15_2⟩:=cB3 BK349.out)|((with_reducible refine yB (b:=.append) (xs:=#[.tmp 5,.tmp 9]) rfl ?_);at_builtin;refine Kd.R_append (Kd.int .u8) (w0:=w0) w0.heap.size rfl (.tmp 5) (.tmp 9) 33 5 (.int .u8 0) 1 rfl Try.underlying33 info5 rfl (by decide) (by omega) u9000_ l0 ((a1_0) % 256) [.int .u8 ((a1_0) % 256)] (fun k_=>(P0_ k_∨w.heap.size≤k_)) (fun _=>False) rfl rfl ?aP (fun _ hk=>hk.elim) ?aF ?aO ?aB ?aS ?aL ?_;(case aP=>exact rfl);(case aB=>exact (by repeat (with_reducible first|exact HB.out|apply za|apply zb|apply zc|refine zd ?_ GE349.out)));(case aF=>exact (fun k_ hk=>(.inr (Nat.le_trans (by first|exact HK.out.1|exact (show Kept w _ (fun k_=>P0_ k_) from by repeat (with_reducible first|exact HK.out|apply zr|apply zp|apply zq|refine zs ?_ (.inr GW349.out) _)).1) hk))));(case aO=>exact (by (with_reducible repeat (first|apply zm|apply zn|apply zo));exact HO0.out));(case aS=>exact (zB (by repeat (with_reducible first|exact HB.out|apply za|apply zb|apply zc|refine zd ?_ GE349.out))));(case aL=>have:=LMc3.out;omega);intro v351 w16 ho hb hg hat;rw [← Ny350.out] at ho;replace BK349:=zh (yw (g:=gb349) (o:=.cells #[.int .i64 a1_0,.int .i64 a1_1,.string a1_2] 25 (0,0)) (by (with_reducible repeat first|apply ze|apply zf|apply zg);exact BK349.out) hg (Kd.R_ne HO0.out BK349.out (by decide)));replace HB:=zh (hb);replace HK:=zh (yA (S:=(fun k_=>P0_ k_)) hg (by repeat (with_reducible first|exact HK.out|apply zr|apply zp|apply zq|refine zs ?_ (.inr GW349.out) _)) (fun k_ e_=>(HO0.out.1 k_ e_)));have HO352:=zh (ho);clear HO0 ho hb hg hat;obtain ⟨hcz17_0,hcz17_1,hcz17_2,hfz17_0,hfz17_1,hfz17_2⟩:=cB3 BK349.out)|((with_reducible refine zJ (f:=75) rfl ?_);refine yj (some 27) rfl rfl Try.func75 (by kernel_rfl) rfl #[.int .i64 (wrap64 (a1_1+4611686018427387904))] rfl (by (try simp only [zt,zu,zv]);first|done|rfl|(simp only [zw,zx];rfl)|(simp only [yr,ys,zV,zW];rfl)) ?_;(with_reducible refine (Fq.calls k  (wrap64 (a1_1+4611686018427387904)) t356 _ A12.out).mono ?_);rintro e w18 ⟨v357,rfl,ho0,hb⟩;refine ⟨_,rfl,?_⟩;have HO358:=zh (yy (Kd.R_new' (Kd.R_newM (M:=fun k_=>(P0_ k_∨w.heap.size≤k_)) ho0 (by first|exact HK.out.1|exact (show Kept w _ (fun k_=>P0_ k_) from by repeat (with_reducible first|exact HK.out|apply zr|apply zp|apply zq|refine zs ?_ (.inr GW349.out) _)).1) (fun k_ h_ => .inr h_)) (Kd.R_lt (by (with_reducible repeat (first|apply zm|apply zn|apply zo));exact HO352.out))) (zB (by repeat (with_reducible first|exact HB.out|apply za|apply zb|apply zc|refine zd ?_ GE349.out))));replace HO352:=zh (Kd.R_elder' (by (with_reducible repeat (first|apply zm|apply zn|apply zo));exact HO352.out) (Kd.R_base ho0) hb);replace BK349:=zh (cD BK349.out (by (with_reducible repeat first|apply ze|apply zf|apply zg);exact BK349.out) hb);replace HK:=zh (Kept.below (S:=(fun k_=>P0_ k_)) (by repeat (with_reducible first|exact HK.out|apply zr|apply zp|apply zq|refine zs ?_ (.inr GW349.out) _)) hb);replace HB:=zh (zC (by repeat (with_reducible first|exact HB.out|apply za|apply zb|apply zc|refine zd ?_ GE349.out)) hb);(try clear hb);(try clear hb2);(try clear hk);(try clear hi);(try clear ho0);obtain ⟨Ao20,co20,eo20⟩:=yk HO358.out;subst eo20)|((with_reducible refine yB (b:=.append) (xs:=#[.tmp 23,.tmp 27]) rfl ?_);at_builtin;refine Kd.R_append_rows (Kd.int .u8) (w0:=w0) w0.heap.size rfl (.tmp 23) (.tmp 27) 33 5 (.int .u8 0) 1 rfl Try.underlying33 info5 rfl (by decide) (by omega) v351 y350 t356 _ _ _ (fun k_=>(P0_ k_∨w.heap.size≤k_)∧some k_≠(.slice Ao20 t356.length co20 : Value).ownBlock) (fun _=>False) rfl rfl ?aO ?aR (fun _ _ h=>h) (fun _ h=>h.elim) ?aF ?aB ?aS ?aL ?_;(case aR=>repeat (first|exact (yh HO358.out).2.2|(with_reducible refine Kd.C_alloc ?_ _)|(with_reducible refine Kd.C_drewN ?_ _)|(with_reducible refine Kd.C_drew ?_)));(case aB=>exact (by repeat (with_reducible first|exact HB.out|apply za|apply zb|apply zc|refine zd ?_ GE349.out)));(case aF=>exact (fun k_ hk=>⟨(.inr (Nat.le_trans (by first|exact HK.out.1|exact (show Kept w _ (fun k_=>P0_ k_) from by repeat (with_reducible first|exact HK.out|apply zr|apply zp|apply zq|refine zs ?_ (.inr GW349.out) _)).1) hk)),Kd.fresh' (Kd.R_lt (by (with_reducible repeat (first|apply zm|apply zn|apply zo));exact HO358.out)) k_ hk⟩));(case aO=>exact (by (with_reducible repeat (first|apply zm|apply zn|apply zo));exact HO352.out));(case aS=>exact (zB (by repeat (with_reducible first|exact HB.out|apply za|apply zb|apply zc|refine zd ?_ GE349.out))));(case aL=>have:=LMc13.out;omega);intro v360 w19 ho hb hg hat;rw [← Ny359.out] at ho;replace BK349:=zh (yw (g:=gb349) (o:=.cells #[.int .i64 a1_0,.int .i64 a1_1,.string a1_2] 25 (0,0)) (by (with_reducible repeat first|apply ze|apply zf|apply zg);exact BK349.out) hg (Kd.R_ne HO352.out BK349.out (by decide)));replace HO358:=zh (Kd.R_after (ok:=(fun k_=>(P0_ k_∨w.heap.size≤k_))) (by (with_reducible repeat (first|apply zm|apply zn|apply zo));exact zM HO358.out (fun _ hk=>⟨hk.1.1,hk.2⟩)) hg hat);replace HB:=zh (hb);replace HK:=zh (yA (S:=(fun k_=>P0_ k_)) hg (by repeat (with_reducible first|exact HK.out|apply zr|apply zp|apply zq|refine zs ?_ (.inr GW349.out) _)) (fun k_ e_=>(HO352.out.1 k_ e_).1));have HO361:=zh (ho);clear HO352 ho hb hg hat))
    go_ret
    exact ⟨_,by first|rfl|(simp [yt,yu] <;> rfl)|(simp [*,yt,yu] <;> rfl),by (with_reducible repeat (first|apply zm|apply zn|apply zo));exact zM HO361.out (fun _ hk=>hk.1),by repeat (with_reducible first|exact HB.out|apply za|apply zb|apply zc|refine zd ?_ GE349.out),by repeat (with_reducible first|exact HK.out|apply zr|apply zp|apply zq|refine zs ?_ (.inr GW349.out) _)⟩
   rw [if_neg c13] at H;exact absurd H (by simp)
  rw [if_neg c11] at H;have c11b0 : (a1_0 == 2)=false:=zY.mpr c11;have c11b1 : (a1_0 != 2)=true:=zZ.mpr c11
  by_cases c21 : a1_0=3
  ·
   rw [if_pos c21] at H
   have c21b0 : (a1_0 == 3)=true:=ya.mpr c21;have c21b1 : (a1_0 != 3)=false:=zX.mpr c21;clear c21;obtain ⟨y362,hy362⟩ : ∃ y_ : List Int,y_=(([((a1_2.size : Int) / 256) % 256,((a1_2.size : Int)) % 256] : List Int)):=⟨_,rfl⟩;replace H : (if y350.length+y362.length<140737488355328 then ((some (y350++y362 : List Int)).bind fun y365=>(if y365.length+a1_2.size<140737488355328 then (some (y365++bytesOf a1_2)) else (none))) else (none))=some r:=by first|(rw [hy362];with_reducible exact H)|(have H2_:=(Option.bind_some _ _).symm.trans H;rw [hy362];with_reducible exact H2_)|(have H2_:=(Option.bind_some _ _).symm.trans H;with_reducible exact H2_)|with_reducible exact H|(rw [hy362];exact H)|exact H
   have Ny362:=zh hy362;clear hy362
   by_cases c22 : y350.length+y362.length<140737488355328
   ·
    rw [if_pos c22] at H
    have LMc22:=zh c22;clear c22;obtain ⟨y365,hy365⟩ : ∃ y_ : List Int,y_=(y350++y362):=⟨_,rfl⟩;replace H : (if y365.length+a1_2.size<140737488355328 then (some (y365++bytesOf a1_2)) else (none))=some r:=by first|(rw [hy365];with_reducible exact H)|(have H2_:=(Option.bind_some _ _).symm.trans H;rw [hy365];with_reducible exact H2_)|(have H2_:=(Option.bind_some _ _).symm.trans H;with_reducible exact H2_)|with_reducible exact H|(rw [hy365];exact H)|exact H
    have Ny365:=zh hy365;clear hy365
    by_cases c23 : y365.length+a1_2.size<140737488355328
    ·
     rw [if_pos c23] at H
     have LMc23:=zh c23;clear c23;obtain ⟨y368,hy368⟩ : ∃ y_ : List Int,y_=(y365++bytesOf a1_2):=⟨_,rfl⟩;replace H : (some y368)=some r:=by first|(rw [hy368];with_reducible exact H)|(have H2_:=(Option.bind_some _ _).symm.trans H;rw [hy368];with_reducible exact H2_)|(have H2_:=(Option.bind_some _ _).symm.trans H;with_reducible exact H2_)|with_reducible exact H|(rw [hy368];exact H)|exact H
     have Ny368:=zh hy368;clear hy368;obtain rfl:=zU H
     go_enter Try.func51,Try.ntmps51
     try go_wp2_with (first|((with_reducible refine zK (N:=3) rfl ?_);refine zI ?hg (N:=3) ?hd (cs:=#[.int .i64 a1_0,.int .i64 a1_1,.string a1_2]) (t:=25) ?hr ?_;(case hd=>rfl);(case hg=>rfl);(case hr=>go_simp <;> rfl);intro gb349 hg w24 hbox hb;replace HO0:=zh (yg (by (with_reducible repeat (first|apply zm|apply zn|apply zo));exact HO0.out) hb);have BK349:=zh (hbox);have GW349:=zh ((by rw [hg];exact (by first|exact HK.out.1|exact (show Kept w _ (fun k_=>P0_ k_) from by repeat (with_reducible first|exact HK.out|apply zr|apply zp|apply zq)).1) : w.heap.size≤gb349));replace HK:=zh (Kept.below (S:=(fun k_=>P0_ k_)) (by repeat (with_reducible first|exact HK.out|apply zr|apply zp|apply zq)) hb);have GE349:=zh ((by rw [hg];exact (zB (by repeat (with_reducible first|exact HB.out|apply za|apply zb|apply zc))) : w0.heap.size≤gb349));replace HB:=zh (zC (by repeat (with_reducible first|exact HB.out|apply za|apply zb|apply zc)) hb);clear hb hbox hg;obtain ⟨hcz25_0,hcz25_1,hcz25_2,hfz25_0,hfz25_1,hfz25_2⟩:=cB3 BK349.out)|((with_reducible refine yB (b:=.append) (xs:=#[.tmp 5,.tmp 9]) rfl ?_);at_builtin;refine Kd.R_append (Kd.int .u8) (w0:=w0) w0.heap.size rfl (.tmp 5) (.tmp 9) 33 5 (.int .u8 0) 1 rfl Try.underlying33 info5 rfl (by decide) (by omega) u9000_ l0 ((a1_0) % 256) [.int .u8 ((a1_0) % 256)] (fun k_=>(P0_ k_∨w.heap.size≤k_)) (fun _=>False) rfl rfl ?aP (fun _ hk=>hk.elim) ?aF ?aO ?aB ?aS ?aL ?_;(case aP=>exact rfl);(case aB=>exact (by repeat (with_reducible first|exact HB.out|apply za|apply zb|apply zc|refine zd ?_ GE349.out)));(case aF=>exact (fun k_ hk=>(.inr (Nat.le_trans (by first|exact HK.out.1|exact (show Kept w _ (fun k_=>P0_ k_) from by repeat (with_reducible first|exact HK.out|apply zr|apply zp|apply zq|refine zs ?_ (.inr GW349.out) _)).1) hk))));(case aO=>exact (by (with_reducible repeat (first|apply zm|apply zn|apply zo));exact HO0.out));(case aS=>exact (zB (by repeat (with_reducible first|exact HB.out|apply za|apply zb|apply zc|refine zd ?_ GE349.out))));(case aL=>have:=LMc3.out;omega);intro v351 w26 ho hb hg hat;rw [← Ny350.out] at ho;replace BK349:=zh (yw (g:=gb349) (o:=.cells #[.int .i64 a1_0,.int .i64 a1_1,.string a1_2] 25 (0,0)) (by (with_reducible repeat first|apply ze|apply zf|apply zg);exact BK349.out) hg (Kd.R_ne HO0.out BK349.out (by decide)));replace HB:=zh (hb);replace HK:=zh (yA (S:=(fun k_=>P0_ k_)) hg (by repeat (with_reducible first|exact HK.out|apply zr|apply zp|apply zq|refine zs ?_ (.inr GW349.out) _)) (fun k_ e_=>(HO0.out.1 k_ e_)));have HO352:=zh (ho);clear HO0 ho hb hg hat;obtain ⟨hcz27_0,hcz27_1,hcz27_2,hfz27_0,hfz27_1,hfz27_2⟩:=cB3 BK349.out))
     replace HO352:=zh (zo HO352.out);replace BK349:=zh (zf BK349.out);replace HK:=zh (zq HK.out);replace HB:=zh (zc HB.out);refine start_ (n:=16) (S:=fun w' => w'.cell? ⟨gb349,0,none⟩=some (.int .i64 a1_0)∧w'.cell? ⟨gb349,1,none⟩=some (.int .i64 a1_1)∧w'.cell? ⟨gb349,2,none⟩=some (.string a1_2)) (ds:=[]) (bm_ 0 16) (by kernel_rfl) rfl rfl ⟨(zz BK349.out 0).trans rfl,(zz BK349.out 1).trans rfl,(zz BK349.out 2).trans rfl⟩ (fun hHeld=>?_);refine with_tabW Fx.tab10 Fx.bits10 (fun HT_ HW_=>?_);generalize w26.drew=w28 at HO352 BK349 HK HB hHeld ⊢;refine pure_ (i:=0) (N:=some 33) (v:=?_) (a':=?_) (bm_ 1 16) rfl rfl (any_of HT_.out (by kernel_rfl)) (fun _ _ _ h=>h) (Or.inl ⟨by rfl,?_⟩) ?_ ?_;rotate_left
     ·
      intro w'
      go_simp
      with_reducible rfl
     rotate_left
     ·
      simp only [Act.put,zi,zj,zk,zG,zH]
      rfl
     refine pure_ (i:=1) (N:=some 34) (v:=?_) (a':=?_) (bm_ 2 16) rfl rfl (any_of HT_.out (by kernel_rfl)) (fun _ _ _ h=>h) (Or.inl ⟨by rfl,?_⟩) ?_ ?_;rotate_left
     ·
      intro w'
      go_simp
      with_reducible rfl
     rotate_left
     ·
      simp only [Act.put,zi,zj,zk,zG,zH]
      rfl
     refine pure_ (i:=6) (N:=some 39) (v:=?_) (a':=?_) #[true,true,false,false,false,false,true,false,false,false,false,false,false,false,false,false] rfl rfl (any_of HT_.out (by kernel_rfl)) (fun _ _ _ h=>h) (Or.inl ⟨by rfl,?_⟩) ?_ ?_;rotate_left
     ·
      intro w'
      go_simp
      with_reducible rfl
     rotate_left
     ·
      simp only [Act.put,zi,zj,zk,zG,zH]
      rfl
     refine pure_ (i:=12) (N:=some 45) (v:=?_) (a':=?_) #[true,true,false,false,false,false,true,false,false,false,false,false,true,false,false,false] rfl rfl (any_of HT_.out (by kernel_rfl)) (fun _ _ _ h=>h) (Or.inl ⟨by rfl,?_⟩) ?_ ?_;rotate_left
     ·
      intro w'
      go_simp
      with_reducible rfl
     rotate_left
     ·
      simp only [Act.put,zi,zj,zk,zG,zH]
      rfl
     refine take_ (i:=2) (N:=some 35) (v:=?_) (a':=?_) #[true,true,true,false,false,false,true,false,false,false,false,false,true,false,false,false] rfl rfl (yo HT_.out HW_.out (by kernel_rfl)) (fun _ _ _ h=>h) (Or.inl ⟨by rfl,?_⟩) hHeld ?_ ?_;rotate_left
     ·
      rintro w' ⟨s0,s1,s2⟩
      go_simp
      with_reducible rfl
     rotate_left
     ·
      simp only [Act.put,zi,zj,zk,zG,zH]
      rfl
     refine pure_ (i:=3) (N:=some 36) (v:=?_) (a':=?_) #[true,true,true,true,false,false,true,false,false,false,false,false,true,false,false,false] rfl rfl (any_of HT_.out (by kernel_rfl)) (fun _ _ _ h=>h) (Or.inl ⟨by rfl,?_⟩) ?_ ?_;rotate_left
     ·
      intro w'
      go_simp
      with_reducible rfl
     rotate_left
     ·
      simp only [Act.put,zi,zj,zk,zG,zH]
      rfl
     refine pure_ (i:=4) (N:=some 37) (v:=?_) (a':=?_) #[true,true,true,true,true,false,true,false,false,false,false,false,true,false,false,false] rfl rfl (any_of HT_.out (by kernel_rfl)) (fun _ _ _ h=>h) (Or.inl ⟨by rfl,?_⟩) ?_ ?_;rotate_left
     ·
      intro w'
      go_simp
      with_reducible rfl
     rotate_left
     ·
      simp only [Act.put,zi,zj,zk,zG,zH]
      rfl
     refine pure_ (i:=5) (N:=some 38) (v:=?_) (a':=?_) #[true,true,true,true,true,true,true,false,false,false,false,false,true,false,false,false] rfl rfl (any_of HT_.out (by kernel_rfl)) (fun _ _ _ h=>h) (Or.inl ⟨by rfl,?_⟩) ?_ ?_;rotate_left
     ·
      intro w'
      go_simp
      with_reducible rfl
     rotate_left
     ·
      simp only [Act.put,zi,zj,zk,zG,zH]
      rfl
     refine take_ (i:=7) (N:=some 40) (v:=?_) (a':=?_) #[true,true,true,true,true,true,true,true,false,false,false,false,true,false,false,false] rfl rfl (yo HT_.out HW_.out (by kernel_rfl)) (fun _ _ _ h=>h) (Or.inl ⟨by rfl,?_⟩) hHeld ?_ ?_;rotate_left
     ·
      rintro w' ⟨s0,s1,s2⟩
      go_simp
      with_reducible rfl
     rotate_left
     ·
      simp only [Act.put,zi,zj,zk,zG,zH]
      rfl
     refine pure_ (i:=8) (N:=some 41) (v:=?_) (a':=?_) #[true,true,true,true,true,true,true,true,true,false,false,false,true,false,false,false] rfl rfl (any_of HT_.out (by kernel_rfl)) (fun _ _ _ h=>h) (Or.inl ⟨by rfl,?_⟩) ?_ ?_;rotate_left
     ·
      intro w'
      go_simp
      with_reducible rfl
     rotate_left
     ·
      simp only [Act.put,zi,zj,zk,zG,zH]
      rfl
     refine pure_ (i:=9) (N:=some 42) (v:=?_) (a':=?_) #[true,true,true,true,true,true,true,true,true,true,false,false,true,false,false,false] rfl rfl (any_of HT_.out (by kernel_rfl)) (fun _ _ _ h=>h) (Or.inl ⟨by rfl,?_⟩) ?_ ?_;rotate_left
     ·
      intro w'
      go_simp
      with_reducible rfl
     rotate_left
     ·
      simp only [Act.put,zi,zj,zk,zG,zH]
      rfl
     refine take_ (i:=13) (N:=some 46) (v:=?_) (a':=?_) #[true,true,true,true,true,true,true,true,true,true,false,false,true,true,false,false] rfl rfl (yo HT_.out HW_.out (by kernel_rfl)) (fun _ _ _ h=>h) (Or.inl ⟨by rfl,?_⟩) hHeld ?_ ?_;rotate_left
     ·
      rintro w' ⟨s0,s1,s2⟩
      go_simp
      with_reducible rfl
     rotate_left
     ·
      simp only [Act.put,zi,zj,zk,zG,zH]
      rfl
     refine one_ (i:=10) (N:=some 43) #[true,true,true,true,true,true,true,true,true,true,true,false,true,true,false,false] rfl rfl (one_of HT_.out (by kernel_rfl)) (by decide) (fun K hK=>?_);refine Kd.R_lit_step (Kd.int .u8) _ 5 ?hg (N:=43) ?hd (xs:=([((a1_2.size : Int) / 256) % 256,((a1_2.size : Int)) % 256] : List Int)) (inner:=[.int .u8 (((a1_2.size : Int) / 256) % 256),.int .u8 (((a1_2.size : Int)) % 256)]) (ok:=fun _=>True) (okp:=fun _=>True) ?hr ?hp (fun _ hk=>hk) trivial (Below.refl _ _) (ye _) (by simp) ?_;(case hd=>rfl);(case hg=>rfl);(case hr=>go_simp <;> rfl);(case hp=>exact (Reps.one (show Kd.M (Kd.int .u8) _ _ _ (((a1_2.size : Int) / 256) % 256) [.int .u8 (((a1_2.size : Int) / 256) % 256)] from rfl) (Reps.one (show Kd.M (Kd.int .u8) _ _ _ (((a1_2.size : Int)) % 256) [.int .u8 (((a1_2.size : Int)) % 256)] from rfl) (Reps.none _ _))));intro v363 w29 ho30 hb hg_ hnew_;clear hg_ hnew_;(first|rw [← Ny362.out] at ho30|(simp only [Int.reduceToNat] at ho30;rw [← Ny362.out] at ho30));have HO364:=zh (yy (Kd.R_new' (Kd.R_newM (M:=fun k_=>(P0_ k_∨w.heap.size≤k_)) ho30 (by first|exact HK.out.1|exact (show Kept w _ (fun k_=>P0_ k_) from by repeat (with_reducible first|exact HK.out|apply zr|apply zp|apply zq|refine zs ?_ (.inr GW349.out) _)).1) (fun k_ h_ => .inr h_)) (Kd.R_lt (by (with_reducible repeat (first|apply zm|apply zn|apply zo));exact HO352.out))) (zB (by repeat (with_reducible first|exact HB.out|apply za|apply zb|apply zc|refine zd ?_ GE349.out))));replace HO352:=zh (Kd.R_elder' (by (with_reducible repeat (first|apply zm|apply zn|apply zo));exact HO352.out) (Kd.R_base ho30) hb);replace BK349:=zh (cD BK349.out (by (with_reducible repeat first|apply ze|apply zf|apply zg);exact BK349.out) hb);replace HK:=zh (Kept.below (S:=(fun k_=>P0_ k_)) (by repeat (with_reducible first|exact HK.out|apply zr|apply zp|apply zq|refine zs ?_ (.inr GW349.out) _)) hb);replace HB:=zh (zC (by repeat (with_reducible first|exact HB.out|apply za|apply zb|apply zc|refine zd ?_ GE349.out)) hb);clear hb ho30;obtain ⟨Ao32,co32,eo32⟩:=yk HO364.out;(first|subst eo32|(injection eo32 with f1_ f2_ f3_;have f4_:=f1_.symm;have f5_:=f3_.symm;clear f1_ f2_ f3_;subst f4_;subst f5_));refine hK.out _ _ ⟨(zz BK349.out 0).trans rfl,(zz BK349.out 1).trans rfl,(zz BK349.out 2).trans rfl⟩ (fun hHeld=>?_);clear hK K;refine norm_ (a':=?_) ?_ ?_;rotate_left
     ·
      show Act.put _ (some 43) _=_
      simp only [Act.put,zi,zj,zk,zG,zH]
      rfl
     refine one_ (i:=11) (N:=some 44) (bm_ 14 16) rfl rfl (one_of HT_.out (by kernel_rfl)) (by decide) (fun K hK=>?_);refine Kd.R_append_rows_step (Kd.int .u8) (w0:=w0) w0.heap.size (by rfl) (.tmp 33) (.tmp 43) 33 5 (.int .u8 0) 1 rfl Try.underlying33 info5 rfl (by decide) (by omega) v351 y350 y362 _ _ _ (fun k_=>(P0_ k_∨w.heap.size≤k_)∧some k_≠(.slice Ao32 y362.length co32 : Value).ownBlock) (fun _=>False) rfl rfl ?aO ?aR (fun _ _ h=>h) (fun _ h=>h.elim) ?aF ?aB ?aS ?aL ?_;(case aR=>repeat (first|exact (yh HO364.out).2.2|(with_reducible refine Kd.C_alloc ?_ _)|(with_reducible refine Kd.C_drewN ?_ _)|(with_reducible refine Kd.C_drew ?_)))
     (case aB=>exact (by repeat (with_reducible first|exact HB.out|apply za|apply zb|apply zc|refine zd ?_ GE349.out)))
     (case aF=>exact (fun k_ hk=>⟨(.inr (Nat.le_trans (by first|exact HK.out.1|exact (show Kept w _ (fun k_=>P0_ k_) from by repeat (with_reducible first|exact HK.out|apply zr|apply zp|apply zq|refine zs ?_ (.inr GW349.out) _)).1) hk)),Kd.fresh' (Kd.R_lt (by (with_reducible repeat (first|apply zm|apply zn|apply zo));exact HO364.out)) k_ hk⟩))
     (case aO=>exact (by (with_reducible repeat (first|apply zm|apply zn|apply zo));exact HO352.out))
     (case aS=>exact (zB (by repeat (with_reducible first|exact HB.out|apply za|apply zb|apply zc|refine zd ?_ GE349.out))))
     (case aL=>have:=LMc22.out;omega)
     intro v366 w31 ho hb hg hat;rw [← Ny365.out] at ho;replace BK349:=zh (yw (g:=gb349) (o:=.cells #[.int .i64 a1_0,.int .i64 a1_1,.string a1_2] 25 (0,0)) (by (with_reducible repeat first|apply ze|apply zf|apply zg);exact BK349.out) hg (Kd.R_ne HO352.out BK349.out (by decide)));replace HO364:=zh (Kd.R_after (ok:=(fun k_=>(P0_ k_∨w.heap.size≤k_))) (by (with_reducible repeat (first|apply zm|apply zn|apply zo));exact zM HO364.out (fun _ hk=>⟨hk.1.1,hk.2⟩)) hg hat);replace HB:=zh (hb);replace HK:=zh (yA (S:=(fun k_=>P0_ k_)) hg (by repeat (with_reducible first|exact HK.out|apply zr|apply zp|apply zq|refine zs ?_ (.inr GW349.out) _)) (fun k_ e_=>(HO352.out.1 k_ e_).1));have HO367:=zh (ho);clear HO352 ho hb hg hat;refine hK.out _ _ ⟨(zz BK349.out 0).trans rfl,(zz BK349.out 1).trans rfl,(zz BK349.out 2).trans rfl⟩ (fun hHeld=>?_);clear hK K;refine norm_ (a':=?_) ?_ ?_;rotate_left
     ·
      show Act.put _ (some 44) _=_
      simp only [Act.put,zi,zj,zk,zG,zH]
      rfl
     refine one_ (i:=14) (N:=some 47) (bm_ 15 16) rfl rfl (one_of HT_.out (by kernel_rfl)) (by decide) (fun K hK=>?_);refine print_append_str_go (w0:=w0) w0.heap.size (by rfl) (.tmp 44) _ 33 9 5 rfl Try.underlying33 Try.underlying9 info5 v366 y365 a1_2 rfl rfl ?aO ?aB ?aS ?aL ?_;(case aB=>exact (by repeat (with_reducible first|exact HB.out|apply za|apply zb|apply zc|refine zd ?_ GE349.out)))
     (case aO=>exact (Kd.own_of_R (by (with_reducible repeat (first|apply zm|apply zn|apply zo));exact zM HO367.out (fun _ hk=>hk.1))))
     (case aS=>exact (zB (by repeat (with_reducible first|exact HB.out|apply za|apply zb|apply zc|refine zd ?_ GE349.out))))
     (case aL=>have:=LMc23.out;omega)
     intro v369 w33 ho0 hb hg hat;have ho:=Kd.R_of_own (h1:=fun _=>rfl) (ok:=(fun k_=>(P0_ k_∨w.heap.size≤k_))) ho0 (fun k_ e_=>hat.elim (fun h_=>(zM HO367.out (fun _ hk=>hk.1)).1 k_ (h_.symm.trans e_)) (fun ⟨b_,h_,hb_⟩=>(fun k_ hk=>(.inr (Nat.le_trans (by first|exact HK.out.1|exact (show Kept w _ (fun k_=>P0_ k_) from by repeat (with_reducible first|exact HK.out|apply zr|apply zp|apply zq|refine zs ?_ (.inr GW349.out) _)).1) hk))) k_ (zU (h_.symm.trans e_) ▸ hb_)));clear ho0;rw [← Ny368.out] at ho;change Kd.R (Kd.int .u8) 5 w33 w0.heap.size (fun k_=>(P0_ k_∨w.heap.size≤k_)) v369 y368 at ho;replace BK349:=zh (yw (g:=gb349) (o:=.cells #[.int .i64 a1_0,.int .i64 a1_1,.string a1_2] 25 (0,0)) (by (with_reducible repeat first|apply ze|apply zf|apply zg);exact BK349.out) hg (Kd.R_ne HO367.out BK349.out (by decide)));replace HB:=zh (hb);replace HK:=zh (yA (S:=(fun k_=>P0_ k_)) hg (by repeat (with_reducible first|exact HK.out|apply zr|apply zp|apply zq|refine zs ?_ (.inr GW349.out) _)) (fun k_ e_=>(HO367.out.1 k_ e_).1));have HO370:=zh (ho);clear HO367 ho hb hg hat;refine hK.out _ _ ⟨(zz BK349.out 0).trans rfl,(zz BK349.out 1).trans rfl,(zz BK349.out 2).trans rfl⟩ (fun hHeld=>?_);clear hK K;refine norm_ (a':=?_) ?_ ?_;rotate_left
     ·
      show Act.put _ (some 47) _=_
      simp only [Act.put,zi,zj,zk,zG,zH]
      rfl
     refine pure_ (i:=15) (N:=some 4) (v:=?_) (a':=?_) (bm_ 16 16) rfl rfl (any_of HT_.out (by kernel_rfl)) (fun _ _ _ h=>h) (Or.inl ⟨by rfl,?_⟩) ?_ ?_;rotate_left
     ·
      intro w'
      go_simp
      with_reducible rfl
     rotate_left
     ·
      simp only [Act.put,zi,zj,zk,zG,zH]
      rfl
     refine done_ (done_of HT_.out (by kernel_rfl)) ?_
     try go_wp2
     go_ret
     exact ⟨_,by first|rfl|(simp [yt,yu] <;> rfl)|(simp [*,yt,yu] <;> rfl),by (with_reducible repeat (first|apply zm|apply zn|apply zo));exact HO370.out,by repeat (with_reducible first|exact HB.out|apply za|apply zb|apply zc|refine zd ?_ GE349.out),by repeat (with_reducible first|exact HK.out|apply zr|apply zp|apply zq|refine zs ?_ (.inr GW349.out) _)⟩
    rw [if_neg c23] at H;exact absurd H (by simp)
   rw [if_neg c22] at H;exact absurd H (by simp)
  rw [if_neg c21] at H;have c21b0 : (a1_0 == 3)=false:=zY.mpr c21;have c21b1 : (a1_0 != 3)=true:=zZ.mpr c21
  by_cases c34 : a1_0=4
  ·
   rw [if_pos c34] at H
   have c34b0 : (a1_0 == 4)=true:=ya.mpr c34;have c34b1 : (a1_0 != 4)=false:=zX.mpr c34;clear c34;obtain ⟨y371,hy371⟩ : ∃ y_ : List Int,y_=(([((a1_2.size : Int) / 256) % 256,((a1_2.size : Int)) % 256] : List Int)):=⟨_,rfl⟩;replace H : (if y350.length+y371.length<140737488355328 then ((some (y350++y371 : List Int)).bind fun y374=>(if y374.length+a1_2.size<140737488355328 then (some (y374++bytesOf a1_2)) else (none))) else (none))=some r:=by first|(rw [hy371];with_reducible exact H)|(have H2_:=(Option.bind_some _ _).symm.trans H;rw [hy371];with_reducible exact H2_)|(have H2_:=(Option.bind_some _ _).symm.trans H;with_reducible exact H2_)|with_reducible exact H|(rw [hy371];exact H)|exact H
   have Ny371:=zh hy371;clear hy371
   by_cases c35 : y350.length+y371.length<140737488355328
   ·
    rw [if_pos c35] at H
    have LMc35:=zh c35;clear c35;obtain ⟨y374,hy374⟩ : ∃ y_ : List Int,y_=(y350++y371):=⟨_,rfl⟩;replace H : (if y374.length+a1_2.size<140737488355328 then (some (y374++bytesOf a1_2)) else (none))=some r:=by first|(rw [hy374];with_reducible exact H)|(have H2_:=(Option.bind_some _ _).symm.trans H;rw [hy374];with_reducible exact H2_)|(have H2_:=(Option.bind_some _ _).symm.trans H;with_reducible exact H2_)|with_reducible exact H|(rw [hy374];exact H)|exact H
    have Ny374:=zh hy374;clear hy374
    by_cases c36 : y374.length+a1_2.size<140737488355328
    ·
     rw [if_pos c36] at H
     have LMc36:=zh c36;clear c36;obtain ⟨y377,hy377⟩ : ∃ y_ : List Int,y_=(y374++bytesOf a1_2):=⟨_,rfl⟩;replace H : (some y377)=some r:=by first|(rw [hy377];with_reducible exact H)|(have H2_:=(Option.bind_some _ _).symm.trans H;rw [hy377];with_reducible exact H2_)|(have H2_:=(Option.bind_some _ _).symm.trans H;with_reducible exact H2_)|with_reducible exact H|(rw [hy377];exact H)|exact H
     have Ny377:=zh hy377;clear hy377;obtain rfl:=zU H
     go_enter Try.func51,Try.ntmps51
     try go_wp2_with (first|((with_reducible refine zK (N:=3) rfl ?_);refine zI ?hg (N:=3) ?hd (cs:=#[.int .i64 a1_0,.int .i64 a1_1,.string a1_2]) (t:=25) ?hr ?_;(case hd=>rfl);(case hg=>rfl);(case hr=>go_simp <;> rfl);intro gb349 hg w37 hbox hb;replace HO0:=zh (yg (by (with_reducible repeat (first|apply zm|apply zn|apply zo));exact HO0.out) hb);have BK349:=zh (hbox);have GW349:=zh ((by rw [hg];exact (by first|exact HK.out.1|exact (show Kept w _ (fun k_=>P0_ k_) from by repeat (with_reducible first|exact HK.out|apply zr|apply zp|apply zq)).1) : w.heap.size≤gb349));replace HK:=zh (Kept.below (S:=(fun k_=>P0_ k_)) (by repeat (with_reducible first|exact HK.out|apply zr|apply zp|apply zq)) hb);have GE349:=zh ((by rw [hg];exact (zB (by repeat (with_reducible first|exact HB.out|apply za|apply zb|apply zc))) : w0.heap.size≤gb349));replace HB:=zh (zC (by repeat (with_reducible first|exact HB.out|apply za|apply zb|apply zc)) hb);clear hb hbox hg;obtain ⟨hcz38_0,hcz38_1,hcz38_2,hfz38_0,hfz38_1,hfz38_2⟩:=cB3 BK349.out)|((with_reducible refine yB (b:=.append) (xs:=#[.tmp 5,.tmp 9]) rfl ?_);at_builtin;refine Kd.R_append (Kd.int .u8) (w0:=w0) w0.heap.size rfl (.tmp 5) (.tmp 9) 33 5 (.int .u8 0) 1 rfl Try.underlying33 info5 rfl (by decide) (by omega) u9000_ l0 ((a1_0) % 256) [.int .u8 ((a1_0) % 256)] (fun k_=>(P0_ k_∨w.heap.size≤k_)) (fun _=>False) rfl rfl ?aP (fun _ hk=>hk.elim) ?aF ?aO ?aB ?aS ?aL ?_;(case aP=>exact rfl);(case aB=>exact (by repeat (with_reducible first|exact HB.out|apply za|apply zb|apply zc|refine zd ?_ GE349.out)));(case aF=>exact (fun k_ hk=>(.inr (Nat.le_trans (by first|exact HK.out.1|exact (show Kept w _ (fun k_=>P0_ k_) from by repeat (with_reducible first|exact HK.out|apply zr|apply zp|apply zq|refine zs ?_ (.inr GW349.out) _)).1) hk))));(case aO=>exact (by (with_reducible repeat (first|apply zm|apply zn|apply zo));exact HO0.out));(case aS=>exact (zB (by repeat (with_reducible first|exact HB.out|apply za|apply zb|apply zc|refine zd ?_ GE349.out))));(case aL=>have:=LMc3.out;omega);intro v351 w39 ho hb hg hat;rw [← Ny350.out] at ho;replace BK349:=zh (yw (g:=gb349) (o:=.cells #[.int .i64 a1_0,.int .i64 a1_1,.string a1_2] 25 (0,0)) (by (with_reducible repeat first|apply ze|apply zf|apply zg);exact BK349.out) hg (Kd.R_ne HO0.out BK349.out (by decide)));replace HB:=zh (hb);replace HK:=zh (yA (S:=(fun k_=>P0_ k_)) hg (by repeat (with_reducible first|exact HK.out|apply zr|apply zp|apply zq|refine zs ?_ (.inr GW349.out) _)) (fun k_ e_=>(HO0.out.1 k_ e_)));have HO352:=zh (ho);clear HO0 ho hb hg hat;obtain ⟨hcz40_0,hcz40_1,hcz40_2,hfz40_0,hfz40_1,hfz40_2⟩:=cB3 BK349.out))
     replace HO352:=zh (zo HO352.out);replace BK349:=zh (zf BK349.out);replace HK:=zh (zq HK.out);replace HB:=zh (zc HB.out);refine start_ (n:=16) (S:=fun w' => w'.cell? ⟨gb349,0,none⟩=some (.int .i64 a1_0)∧w'.cell? ⟨gb349,1,none⟩=some (.int .i64 a1_1)∧w'.cell? ⟨gb349,2,none⟩=some (.string a1_2)) (ds:=[]) (bm_ 0 16) (by kernel_rfl) rfl rfl ⟨(zz BK349.out 0).trans rfl,(zz BK349.out 1).trans rfl,(zz BK349.out 2).trans rfl⟩ (fun hHeld=>?_);refine with_tabW Fx.tab10 Fx.bits10 (fun HT_ HW_=>?_);generalize w39.drew=w41 at HO352 BK349 HK HB hHeld ⊢;refine pure_ (i:=0) (N:=some 33) (v:=?_) (a':=?_) (bm_ 1 16) rfl rfl (any_of HT_.out (by kernel_rfl)) (fun _ _ _ h=>h) (Or.inl ⟨by rfl,?_⟩) ?_ ?_;rotate_left
     ·
      intro w'
      go_simp
      with_reducible rfl
     rotate_left
     ·
      simp only [Act.put,zi,zj,zk,zG,zH]
      rfl
     refine pure_ (i:=1) (N:=some 34) (v:=?_) (a':=?_) (bm_ 2 16) rfl rfl (any_of HT_.out (by kernel_rfl)) (fun _ _ _ h=>h) (Or.inl ⟨by rfl,?_⟩) ?_ ?_;rotate_left
     ·
      intro w'
      go_simp
      with_reducible rfl
     rotate_left
     ·
      simp only [Act.put,zi,zj,zk,zG,zH]
      rfl
     refine pure_ (i:=6) (N:=some 39) (v:=?_) (a':=?_) #[true,true,false,false,false,false,true,false,false,false,false,false,false,false,false,false] rfl rfl (any_of HT_.out (by kernel_rfl)) (fun _ _ _ h=>h) (Or.inl ⟨by rfl,?_⟩) ?_ ?_;rotate_left
     ·
      intro w'
      go_simp
      with_reducible rfl
     rotate_left
     ·
      simp only [Act.put,zi,zj,zk,zG,zH]
      rfl
     refine pure_ (i:=12) (N:=some 45) (v:=?_) (a':=?_) #[true,true,false,false,false,false,true,false,false,false,false,false,true,false,false,false] rfl rfl (any_of HT_.out (by kernel_rfl)) (fun _ _ _ h=>h) (Or.inl ⟨by rfl,?_⟩) ?_ ?_;rotate_left
     ·
      intro w'
      go_simp
      with_reducible rfl
     rotate_left
     ·
      simp only [Act.put,zi,zj,zk,zG,zH]
      rfl
     refine take_ (i:=2) (N:=some 35) (v:=?_) (a':=?_) #[true,true,true,false,false,false,true,false,false,false,false,false,true,false,false,false] rfl rfl (yo HT_.out HW_.out (by kernel_rfl)) (fun _ _ _ h=>h) (Or.inl ⟨by rfl,?_⟩) hHeld ?_ ?_;rotate_left
     ·
      rintro w' ⟨s0,s1,s2⟩
      go_simp
      with_reducible rfl
     rotate_left
     ·
      simp only [Act.put,zi,zj,zk,zG,zH]
      rfl
     refine pure_ (i:=3) (N:=some 36) (v:=?_) (a':=?_) #[true,true,true,true,false,false,true,false,false,false,false,false,true,false,false,false] rfl rfl (any_of HT_.out (by kernel_rfl)) (fun _ _ _ h=>h) (Or.inl ⟨by rfl,?_⟩) ?_ ?_;rotate_left
     ·
      intro w'
      go_simp
      with_reducible rfl
     rotate_left
     ·
      simp only [Act.put,zi,zj,zk,zG,zH]
      rfl
     refine pure_ (i:=4) (N:=some 37) (v:=?_) (a':=?_) #[true,true,true,true,true,false,true,false,false,false,false,false,true,false,false,false] rfl rfl (any_of HT_.out (by kernel_rfl)) (fun _ _ _ h=>h) (Or.inl ⟨by rfl,?_⟩) ?_ ?_;rotate_left
     ·
      intro w'
      go_simp
      with_reducible rfl
     rotate_left
     ·
      simp only [Act.put,zi,zj,zk,zG,zH]
      rfl
     refine pure_ (i:=5) (N:=some 38) (v:=?_) (a':=?_) #[true,true,true,true,true,true,true,false,false,false,false,false,true,false,false,false] rfl rfl (any_of HT_.out (by kernel_rfl)) (fun _ _ _ h=>h) (Or.inl ⟨by rfl,?_⟩) ?_ ?_;rotate_left
     ·
      intro w'
      go_simp
      with_reducible rfl
     rotate_left
     ·
      simp only [Act.put,zi,zj,zk,zG,zH]
      rfl
     refine take_ (i:=7) (N:=some 40) (v:=?_) (a':=?_) #[true,true,true,true,true,true,true,true,false,false,false,false,true,false,false,false] rfl rfl (yo HT_.out HW_.out (by kernel_rfl)) (fun _ _ _ h=>h) (Or.inl ⟨by rfl,?_⟩) hHeld ?_ ?_;rotate_left
     ·
      rintro w' ⟨s0,s1,s2⟩
      go_simp
      with_reducible rfl
     rotate_left
     ·
      simp only [Act.put,zi,zj,zk,zG,zH]
      rfl
     refine pure_ (i:=8) (N:=some 41) (v:=?_) (a':=?_) #[true,true,true,true,true,true,true,true,true,false,false,false,true,false,false,false] rfl rfl (any_of HT_.out (by kernel_rfl)) (fun _ _ _ h=>h) (Or.inl ⟨by rfl,?_⟩) ?_ ?_;rotate_left
     ·
      intro w'
      go_simp
      with_reducible rfl
     rotate_left
     ·
      simp only [Act.put,zi,zj,zk,zG,zH]
      rfl
     refine pure_ (i:=9) (N:=some 42) (v:=?_) (a':=?_) #[true,true,true,true,true,true,true,true,true,true,false,false,true,false,false,false] rfl rfl (any_of HT_.out (by kernel_rfl)) (fun _ _ _ h=>h) (Or.inl ⟨by rfl,?_⟩) ?_ ?_;rotate_left
     ·
      intro w'
      go_simp
      with_reducible rfl
     rotate_left
     ·
      simp only [Act.put,zi,zj,zk,zG,zH]
      rfl
     refine take_ (i:=13) (N:=some 46) (v:=?_) (a':=?_) #[true,true,true,true,true,true,true,true,true,true,false,false,true,true,false,false] rfl rfl (yo HT_.out HW_.out (by kernel_rfl)) (fun _ _ _ h=>h) (Or.inl ⟨by rfl,?_⟩) hHeld ?_ ?_;rotate_left
     ·
      rintro w' ⟨s0,s1,s2⟩
      go_simp
      with_reducible rfl
     rotate_left
     ·
      simp only [Act.put,zi,zj,zk,zG,zH]
      rfl
     refine one_ (i:=10) (N:=some 43) #[true,true,true,true,true,true,true,true,true,true,true,false,true,true,false,false] rfl rfl (one_of HT_.out (by kernel_rfl)) (by decide) (fun K hK=>?_);refine Kd.R_lit_step (Kd.int .u8) _ 5 ?hg (N:=43) ?hd (xs:=([((a1_2.size : Int) / 256) % 256,((a1_2.size : Int)) % 256] : List Int)) (inner:=[.int .u8 (((a1_2.size : Int) / 256) % 256),.int .u8 (((a1_2.size : Int)) % 256)]) (ok:=fun _=>True) (okp:=fun _=>True) ?hr ?hp (fun _ hk=>hk) trivial (Below.refl _ _) (ye _) (by simp) ?_;(case hd=>rfl);(case hg=>rfl);(case hr=>go_simp <;> rfl);(case hp=>exact (Reps.one (show Kd.M (Kd.int .u8) _ _ _ (((a1_2.size : Int) / 256) % 256) [.int .u8 (((a1_2.size : Int) / 256) % 256)] from rfl) (Reps.one (show Kd.M (Kd.int .u8) _ _ _ (((a1_2.size : Int)) % 256) [.int .u8 (((a1_2.size : Int)) % 256)] from rfl) (Reps.none _ _))));intro v372 w42 ho43 hb hg_ hnew_;clear hg_ hnew_;(first|rw [← Ny371.out] at ho43|(simp only [Int.reduceToNat] at ho43;rw [← Ny371.out] at ho43));have HO373:=zh (yy (Kd.R_new' (Kd.R_newM (M:=fun k_=>(P0_ k_∨w.heap.size≤k_)) ho43 (by first|exact HK.out.1|exact (show Kept w _ (fun k_=>P0_ k_) from by repeat (with_reducible first|exact HK.out|apply zr|apply zp|apply zq|refine zs ?_ (.inr GW349.out) _)).1) (fun k_ h_ => .inr h_)) (Kd.R_lt (by (with_reducible repeat (first|apply zm|apply zn|apply zo));exact HO352.out))) (zB (by repeat (with_reducible first|exact HB.out|apply za|apply zb|apply zc|refine zd ?_ GE349.out))));replace HO352:=zh (Kd.R_elder' (by (with_reducible repeat (first|apply zm|apply zn|apply zo));exact HO352.out) (Kd.R_base ho43) hb);replace BK349:=zh (cD BK349.out (by (with_reducible repeat first|apply ze|apply zf|apply zg);exact BK349.out) hb);replace HK:=zh (Kept.below (S:=(fun k_=>P0_ k_)) (by repeat (with_reducible first|exact HK.out|apply zr|apply zp|apply zq|refine zs ?_ (.inr GW349.out) _)) hb);replace HB:=zh (zC (by repeat (with_reducible first|exact HB.out|apply za|apply zb|apply zc|refine zd ?_ GE349.out)) hb);clear hb ho43;obtain ⟨Ao45,co45,eo45⟩:=yk HO373.out;(first|subst eo45|(injection eo45 with f1_ f2_ f3_;have f4_:=f1_.symm;have f5_:=f3_.symm;clear f1_ f2_ f3_;subst f4_;subst f5_));refine hK.out _ _ ⟨(zz BK349.out 0).trans rfl,(zz BK349.out 1).trans rfl,(zz BK349.out 2).trans rfl⟩ (fun hHeld=>?_);clear hK K;refine norm_ (a':=?_) ?_ ?_;rotate_left
     ·
      show Act.put _ (some 43) _=_
      simp only [Act.put,zi,zj,zk,zG,zH]
      rfl
     refine one_ (i:=11) (N:=some 44) (bm_ 14 16) rfl rfl (one_of HT_.out (by kernel_rfl)) (by decide) (fun K hK=>?_);refine Kd.R_append_rows_step (Kd.int .u8) (w0:=w0) w0.heap.size (by rfl) (.tmp 33) (.tmp 43) 33 5 (.int .u8 0) 1 rfl Try.underlying33 info5 rfl (by decide) (by omega) v351 y350 y371 _ _ _ (fun k_=>(P0_ k_∨w.heap.size≤k_)∧some k_≠(.slice Ao45 y371.length co45 : Value).ownBlock) (fun _=>False) rfl rfl ?aO ?aR (fun _ _ h=>h) (fun _ h=>h.elim) ?aF ?aB ?aS ?aL ?_;(case aR=>repeat (first|exact (yh HO373.out).2.2|(with_reducible refine Kd.C_alloc ?_ _)|(with_reducible refine Kd.C_drewN ?_ _)|(with_reducible refine Kd.C_drew ?_)))
     (case aB=>exact (by repeat (with_reducible first|exact HB.out|apply za|apply zb|apply zc|refine zd ?_ GE349.out)))
     (case aF=>exact (fun k_ hk=>⟨(.inr (Nat.le_trans (by first|exact HK.out.1|exact (show Kept w _ (fun k_=>P0_ k_) from by repeat (with_reducible first|exact HK.out|apply zr|apply zp|apply zq|refine zs ?_ (.inr GW349.out) _)).1) hk)),Kd.fresh' (Kd.R_lt (by (with_reducible repeat (first|apply zm|apply zn|apply zo));exact HO373.out)) k_ hk⟩))
     (case aO=>exact (by (with_reducible repeat (first|apply zm|apply zn|apply zo));exact HO352.out))
     (case aS=>exact (zB (by repeat (with_reducible first|exact HB.out|apply za|apply zb|apply zc|refine zd ?_ GE349.out))))
     (case aL=>have:=LMc35.out;omega)
     intro v375 w44 ho hb hg hat;rw [← Ny374.out] at ho;replace BK349:=zh (yw (g:=gb349) (o:=.cells #[.int .i64 a1_0,.int .i64 a1_1,.string a1_2] 25 (0,0)) (by (with_reducible repeat first|apply ze|apply zf|apply zg);exact BK349.out) hg (Kd.R_ne HO352.out BK349.out (by decide)));replace HO373:=zh (Kd.R_after (ok:=(fun k_=>(P0_ k_∨w.heap.size≤k_))) (by (with_reducible repeat (first|apply zm|apply zn|apply zo));exact zM HO373.out (fun _ hk=>⟨hk.1.1,hk.2⟩)) hg hat);replace HB:=zh (hb);replace HK:=zh (yA (S:=(fun k_=>P0_ k_)) hg (by repeat (with_reducible first|exact HK.out|apply zr|apply zp|apply zq|refine zs ?_ (.inr GW349.out) _)) (fun k_ e_=>(HO352.out.1 k_ e_).1));have HO376:=zh (ho);clear HO352 ho hb hg hat;refine hK.out _ _ ⟨(zz BK349.out 0).trans rfl,(zz BK349.out 1).trans rfl,(zz BK349.out 2).trans rfl⟩ (fun hHeld=>?_);clear hK K;refine norm_ (a':=?_) ?_ ?_;rotate_left
     ·
      show Act.put _ (some 44) _=_
      simp only [Act.put,zi,zj,zk,zG,zH]
      rfl
     refine one_ (i:=14) (N:=some 47) (bm_ 15 16) rfl rfl (one_of HT_.out (by kernel_rfl)) (by decide) (fun K hK=>?_);refine print_append_str_go (w0:=w0) w0.heap.size (by rfl) (.tmp 44) _ 33 9 5 rfl Try.underlying33 Try.underlying9 info5 v375 y374 a1_2 rfl rfl ?aO ?aB ?aS ?aL ?_;(case aB=>exact (by repeat (with_reducible first|exact HB.out|apply za|apply zb|apply zc|refine zd ?_ GE349.out)))
     (case aO=>exact (Kd.own_of_R (by (with_reducible repeat (first|apply zm|apply zn|apply zo));exact zM HO376.out (fun _ hk=>hk.1))))
     (case aS=>exact (zB (by repeat (with_reducible first|exact HB.out|apply za|apply zb|apply zc|refine zd ?_ GE349.out))))
     (case aL=>have:=LMc36.out;omega)
     intro v378 w46 ho0 hb hg hat;have ho:=Kd.R_of_own (h1:=fun _=>rfl) (ok:=(fun k_=>(P0_ k_∨w.heap.size≤k_))) ho0 (fun k_ e_=>hat.elim (fun h_=>(zM HO376.out (fun _ hk=>hk.1)).1 k_ (h_.symm.trans e_)) (fun ⟨b_,h_,hb_⟩=>(fun k_ hk=>(.inr (Nat.le_trans (by first|exact HK.out.1|exact (show Kept w _ (fun k_=>P0_ k_) from by repeat (with_reducible first|exact HK.out|apply zr|apply zp|apply zq|refine zs ?_ (.inr GW349.out) _)).1) hk))) k_ (zU (h_.symm.trans e_) ▸ hb_)));clear ho0;rw [← Ny377.out] at ho;change Kd.R (Kd.int .u8) 5 w46 w0.heap.size (fun k_=>(P0_ k_∨w.heap.size≤k_)) v378 y377 at ho;replace BK349:=zh (yw (g:=gb349) (o:=.cells #[.int .i64 a1_0,.int .i64 a1_1,.string a1_2] 25 (0,0)) (by (with_reducible repeat first|apply ze|apply zf|apply zg);exact BK349.out) hg (Kd.R_ne HO376.out BK349.out (by decide)));replace HB:=zh (hb);replace HK:=zh (yA (S:=(fun k_=>P0_ k_)) hg (by repeat (with_reducible first|exact HK.out|apply zr|apply zp|apply zq|refine zs ?_ (.inr GW349.out) _)) (fun k_ e_=>(HO376.out.1 k_ e_).1));have HO379:=zh (ho);clear HO376 ho hb hg hat;refine hK.out _ _ ⟨(zz BK349.out 0).trans rfl,(zz BK349.out 1).trans rfl,(zz BK349.out 2).trans rfl⟩ (fun hHeld=>?_);clear hK K;refine norm_ (a':=?_) ?_ ?_;rotate_left
     ·
      show Act.put _ (some 47) _=_
      simp only [Act.put,zi,zj,zk,zG,zH]
      rfl
     refine pure_ (i:=15) (N:=some 4) (v:=?_) (a':=?_) (bm_ 16 16) rfl rfl (any_of HT_.out (by kernel_rfl)) (fun _ _ _ h=>h) (Or.inl ⟨by rfl,?_⟩) ?_ ?_;rotate_left
     ·
      intro w'
      go_simp
      with_reducible rfl
     rotate_left
     ·
      simp only [Act.put,zi,zj,zk,zG,zH]
      rfl
     refine done_ (done_of HT_.out (by kernel_rfl)) ?_
     try go_wp2
     go_ret
     exact ⟨_,by first|rfl|(simp [yt,yu] <;> rfl)|(simp [*,yt,yu] <;> rfl),by (with_reducible repeat (first|apply zm|apply zn|apply zo));exact HO379.out,by repeat (with_reducible first|exact HB.out|apply za|apply zb|apply zc|refine zd ?_ GE349.out),by repeat (with_reducible first|exact HK.out|apply zr|apply zp|apply zq|refine zs ?_ (.inr GW349.out) _)⟩
    rw [if_neg c36] at H;exact absurd H (by simp)
   rw [if_neg c35] at H;exact absurd H (by simp)
  rw [if_neg c34] at H;have c34b0 : (a1_0 == 4)=false:=zY.mpr c34;have c34b1 : (a1_0 != 4)=true:=zZ.mpr c34
  by_cases c47 : a1_0=5
  ·
   rw [if_pos c47] at H
   have c47b0 : (a1_0 == 5)=true:=ya.mpr c47;have c47b1 : (a1_0 != 5)=false:=zX.mpr c47;clear c47;obtain ⟨y380,hy380⟩ : ∃ y_ : List Int,y_=(([((a1_2.size : Int) / 256) % 256,((a1_2.size : Int)) % 256] : List Int)):=⟨_,rfl⟩;replace H : (if y350.length+y380.length<140737488355328 then ((some (y350++y380 : List Int)).bind fun y383=>(if y383.length+a1_2.size<140737488355328 then (some (y383++bytesOf a1_2)) else (none))) else (none))=some r:=by first|(rw [hy380];with_reducible exact H)|(have H2_:=(Option.bind_some _ _).symm.trans H;rw [hy380];with_reducible exact H2_)|(have H2_:=(Option.bind_some _ _).symm.trans H;with_reducible exact H2_)|with_reducible exact H|(rw [hy380];exact H)|exact H
   have Ny380:=zh hy380;clear hy380
   by_cases c48 : y350.length+y380.length<140737488355328
   ·
    rw [if_pos c48] at H
    have LMc48:=zh c48;clear c48;obtain ⟨y383,hy383⟩ : ∃ y_ : List Int,y_=(y350++y380):=⟨_,rfl⟩;replace H : (if y383.length+a1_2.size<140737488355328 then (some (y383++bytesOf a1_2)) else (none))=some r:=by first|(rw [hy383];with_reducible exact H)|(have H2_:=(Option.bind_some _ _).symm.trans H;rw [hy383];with_reducible exact H2_)|(have H2_:=(Option.bind_some _ _).symm.trans H;with_reducible exact H2_)|with_reducible exact H|(rw [hy383];exact H)|exact H
    have Ny383:=zh hy383;clear hy383
    by_cases c49 : y383.length+a1_2.size<140737488355328
    ·
     rw [if_pos c49] at H
     have LMc49:=zh c49;clear c49;obtain ⟨y386,hy386⟩ : ∃ y_ : List Int,y_=(y383++bytesOf a1_2):=⟨_,rfl⟩;replace H : (some y386)=some r:=by first|(rw [hy386];with_reducible exact H)|(have H2_:=(Option.bind_some _ _).symm.trans H;rw [hy386];with_reducible exact H2_)|(have H2_:=(Option.bind_some _ _).symm.trans H;with_reducible exact H2_)|with_reducible exact H|(rw [hy386];exact H)|exact H
     have Ny386:=zh hy386;clear hy386;obtain rfl:=zU H
     go_enter Try.func51,Try.ntmps51
     try go_wp2_with (first|((with_reducible refine zK (N:=3) rfl ?_);refine zI ?hg (N:=3) ?hd (cs:=#[.int .i64 a1_0,.int .i64 a1_1,.string a1_2]) (t:=25) ?hr ?_;(case hd=>rfl);(case hg=>rfl);(case hr=>go_simp <;> rfl);intro gb349 hg w50 hbox hb;replace HO0:=zh (yg (by (with_reducible repeat (first|apply zm|apply zn|apply zo));exact HO0.out) hb);have BK349:=zh (hbox);have GW349:=zh ((by rw [hg];exact (by first|exact HK.out.1|exact (show Kept w _ (fun k_=>P0_ k_) from by repeat (with_reducible first|exact HK.out|apply zr|apply zp|apply zq)).1) : w.heap.size≤gb349));replace HK:=zh (Kept.below (S:=(fun k_=>P0_ k_)) (by repeat (with_reducible first|exact HK.out|apply zr|apply zp|apply zq)) hb);have GE349:=zh ((by rw [hg];exact (zB (by repeat (with_reducible first|exact HB.out|apply za|apply zb|apply zc))) : w0.heap.size≤gb349));replace HB:=zh (zC (by repeat (with_reducible first|exact HB.out|apply za|apply zb|apply zc)) hb);clear hb hbox hg;obtain ⟨hcz51_0,hcz51_1,hcz51_2,hfz51_0,hfz51_1,hfz51_2⟩:=cB3 BK349.out)|((with_reducible refine yB (b:=.append) (xs:=#[.tmp 5,.tmp 9]) rfl ?_);at_builtin;refine Kd.R_append (Kd.int .u8) (w0:=w0) w0.heap.size rfl (.tmp 5) (.tmp 9) 33 5 (.int .u8 0) 1 rfl Try.underlying33 info5 rfl (by decide) (by omega) u9000_ l0 ((a1_0) % 256) [.int .u8 ((a1_0) % 256)] (fun k_=>(P0_ k_∨w.heap.size≤k_)) (fun _=>False) rfl rfl ?aP (fun _ hk=>hk.elim) ?aF ?aO ?aB ?aS ?aL ?_;(case aP=>exact rfl);(case aB=>exact (by repeat (with_reducible first|exact HB.out|apply za|apply zb|apply zc|refine zd ?_ GE349.out)));(case aF=>exact (fun k_ hk=>(.inr (Nat.le_trans (by first|exact HK.out.1|exact (show Kept w _ (fun k_=>P0_ k_) from by repeat (with_reducible first|exact HK.out|apply zr|apply zp|apply zq|refine zs ?_ (.inr GW349.out) _)).1) hk))));(case aO=>exact (by (with_reducible repeat (first|apply zm|apply zn|apply zo));exact HO0.out));(case aS=>exact (zB (by repeat (with_reducible first|exact HB.out|apply za|apply zb|apply zc|refine zd ?_ GE349.out))));(case aL=>have:=LMc3.out;omega);intro v351 w52 ho hb hg hat;rw [← Ny350.out] at ho;replace BK349:=zh (yw (g:=gb349) (o:=.cells #[.int .i64 a1_0,.int .i64 a1_1,.string a1_2] 25 (0,0)) (by (with_reducible repeat first|apply ze|apply zf|apply zg);exact BK349.out) hg (Kd.R_ne HO0.out BK349.out (by decide)));replace HB:=zh (hb);replace HK:=zh (yA (S:=(fun k_=>P0_ k_)) hg (by repeat (with_reducible first|exact HK.out|apply zr|apply zp|apply zq|refine zs ?_ (.inr GW349.out) _)) (fun k_ e_=>(HO0.out.1 k_ e_)));have HO352:=zh (ho);clear HO0 ho hb hg hat;obtain ⟨hcz53_0,hcz53_1,hcz53_2,hfz53_0,hfz53_1,hfz53_2⟩:=cB3 BK349.out))
     replace HO352:=zh (zo HO352.out);replace BK349:=zh (zf BK349.out);replace HK:=zh (zq HK.out);replace HB:=zh (zc HB.out);refine start_ (n:=16) (S:=fun w' => w'.cell? ⟨gb349,0,none⟩=some (.int .i64 a1_0)∧w'.cell? ⟨gb349,1,none⟩=some (.int .i64 a1_1)∧w'.cell? ⟨gb349,2,none⟩=some (.string a1_2)) (ds:=[]) (bm_ 0 16) (by kernel_rfl) rfl rfl ⟨(zz BK349.out 0).trans rfl,(zz BK349.out 1).trans rfl,(zz BK349.out 2).trans rfl⟩ (fun hHeld=>?_);refine with_tabW Fx.tab10 Fx.bits10 (fun HT_ HW_=>?_);generalize w52.drew=w54 at HO352 BK349 HK HB hHeld ⊢;refine pure_ (i:=0) (N:=some 33) (v:=?_) (a':=?_) (bm_ 1 16) rfl rfl (any_of HT_.out (by kernel_rfl)) (fun _ _ _ h=>h) (Or.inl ⟨by rfl,?_⟩) ?_ ?_;rotate_left
     ·
      intro w'
      go_simp
      with_reducible rfl
     rotate_left
     ·
      simp only [Act.put,zi,zj,zk,zG,zH]
      rfl
     refine pure_ (i:=1) (N:=some 34) (v:=?_) (a':=?_) (bm_ 2 16) rfl rfl (any_of HT_.out (by kernel_rfl)) (fun _ _ _ h=>h) (Or.inl ⟨by rfl,?_⟩) ?_ ?_;rotate_left
     ·
      intro w'
      go_simp
      with_reducible rfl
     rotate_left
     ·
      simp only [Act.put,zi,zj,zk,zG,zH]
      rfl
     refine pure_ (i:=6) (N:=some 39) (v:=?_) (a':=?_) #[true,true,false,false,false,false,true,false,false,false,false,false,false,false,false,false] rfl rfl (any_of HT_.out (by kernel_rfl)) (fun _ _ _ h=>h) (Or.inl ⟨by rfl,?_⟩) ?_ ?_;rotate_left
     ·
      intro w'
      go_simp
      with_reducible rfl
     rotate_left
     ·
      simp only [Act.put,zi,zj,zk,zG,zH]
      rfl
     refine pure_ (i:=12) (N:=some 45) (v:=?_) (a':=?_) #[true,true,false,false,false,false,true,false,false,false,false,false,true,false,false,false] rfl rfl (any_of HT_.out (by kernel_rfl)) (fun _ _ _ h=>h) (Or.inl ⟨by rfl,?_⟩) ?_ ?_;rotate_left
     ·
      intro w'
      go_simp
      with_reducible rfl
     rotate_left
     ·
      simp only [Act.put,zi,zj,zk,zG,zH]
      rfl
     refine take_ (i:=2) (N:=some 35) (v:=?_) (a':=?_) #[true,true,true,false,false,false,true,false,false,false,false,false,true,false,false,false] rfl rfl (yo HT_.out HW_.out (by kernel_rfl)) (fun _ _ _ h=>h) (Or.inl ⟨by rfl,?_⟩) hHeld ?_ ?_;rotate_left
     ·
      rintro w' ⟨s0,s1,s2⟩
      go_simp
      with_reducible rfl
     rotate_left
     ·
      simp only [Act.put,zi,zj,zk,zG,zH]
      rfl
     refine pure_ (i:=3) (N:=some 36) (v:=?_) (a':=?_) #[true,true,true,true,false,false,true,false,false,false,false,false,true,false,false,false] rfl rfl (any_of HT_.out (by kernel_rfl)) (fun _ _ _ h=>h) (Or.inl ⟨by rfl,?_⟩) ?_ ?_;rotate_left
     ·
      intro w'
      go_simp
      with_reducible rfl
     rotate_left
     ·
      simp only [Act.put,zi,zj,zk,zG,zH]
      rfl
     refine pure_ (i:=4) (N:=some 37) (v:=?_) (a':=?_) #[true,true,true,true,true,false,true,false,false,false,false,false,true,false,false,false] rfl rfl (any_of HT_.out (by kernel_rfl)) (fun _ _ _ h=>h) (Or.inl ⟨by rfl,?_⟩) ?_ ?_;rotate_left
     ·
      intro w'
      go_simp
      with_reducible rfl
     rotate_left
     ·
      simp only [Act.put,zi,zj,zk,zG,zH]
      rfl
     refine pure_ (i:=5) (N:=some 38) (v:=?_) (a':=?_) #[true,true,true,true,true,true,true,false,false,false,false,false,true,false,false,false] rfl rfl (any_of HT_.out (by kernel_rfl)) (fun _ _ _ h=>h) (Or.inl ⟨by rfl,?_⟩) ?_ ?_;rotate_left
     ·
      intro w'
      go_simp
      with_reducible rfl
     rotate_left
     ·
      simp only [Act.put,zi,zj,zk,zG,zH]
      rfl
     refine take_ (i:=7) (N:=some 40) (v:=?_) (a':=?_) #[true,true,true,true,true,true,true,true,false,false,false,false,true,false,false,false] rfl rfl (yo HT_.out HW_.out (by kernel_rfl)) (fun _ _ _ h=>h) (Or.inl ⟨by rfl,?_⟩) hHeld ?_ ?_;rotate_left
     ·
      rintro w' ⟨s0,s1,s2⟩
      go_simp
      with_reducible rfl
     rotate_left
     ·
      simp only [Act.put,zi,zj,zk,zG,zH]
      rfl
     refine pure_ (i:=8) (N:=some 41) (v:=?_) (a':=?_) #[true,true,true,true,true,true,true,true,true,false,false,false,true,false,false,false] rfl rfl (any_of HT_.out (by kernel_rfl)) (fun _ _ _ h=>h) (Or.inl ⟨by rfl,?_⟩) ?_ ?_;rotate_left
     ·
      intro w'
      go_simp
      with_reducible rfl
     rotate_left
     ·
      simp only [Act.put,zi,zj,zk,zG,zH]
      rfl
     refine pure_ (i:=9) (N:=some 42) (v:=?_) (a':=?_) #[true,true,true,true,true,true,true,true,true,true,false,false,true,false,false,false] rfl rfl (any_of HT_.out (by kernel_rfl)) (fun _ _ _ h=>h) (Or.inl ⟨by rfl,?_⟩) ?_ ?_;rotate_left
     ·
      intro w'
      go_simp
      with_reducible rfl
     rotate_left
     ·
      simp only [Act.put,zi,zj,zk,zG,zH]
      rfl
     refine take_ (i:=13) (N:=some 46) (v:=?_) (a':=?_) #[true,true,true,true,true,true,true,true,true,true,false,false,true,true,false,false] rfl rfl (yo HT_.out HW_.out (by kernel_rfl)) (fun _ _ _ h=>h) (Or.inl ⟨by rfl,?_⟩) hHeld ?_ ?_;rotate_left
     ·
      rintro w' ⟨s0,s1,s2⟩
      go_simp
      with_reducible rfl
     rotate_left
     ·
      simp only [Act.put,zi,zj,zk,zG,zH]
      rfl
     refine one_ (i:=10) (N:=some 43) #[true,true,true,true,true,true,true,true,true,true,true,false,true,true,false,false] rfl rfl (one_of HT_.out (by kernel_rfl)) (by decide) (fun K hK=>?_);refine Kd.R_lit_step (Kd.int .u8) _ 5 ?hg (N:=43) ?hd (xs:=([((a1_2.size : Int) / 256) % 256,((a1_2.size : Int)) % 256] : List Int)) (inner:=[.int .u8 (((a1_2.size : Int) / 256) % 256),.int .u8 (((a1_2.size : Int)) % 256)]) (ok:=fun _=>True) (okp:=fun _=>True) ?hr ?hp (fun _ hk=>hk) trivial (Below.refl _ _) (ye _) (by simp) ?_;(case hd=>rfl);(case hg=>rfl);(case hr=>go_simp <;> rfl);(case hp=>exact (Reps.one (show Kd.M (Kd.int .u8) _ _ _ (((a1_2.size : Int) / 256) % 256) [.int .u8 (((a1_2.size : Int) / 256) % 256)] from rfl) (Reps.one (show Kd.M (Kd.int .u8) _ _ _ (((a1_2.size : Int)) % 256) [.int .u8 (((a1_2.size : Int)) % 256)] from rfl) (Reps.none _ _))));intro v381 w55 ho56 hb hg_ hnew_;clear hg_ hnew_;(first|rw [← Ny380.out] at ho56|(simp only [Int.reduceToNat] at ho56;rw [← Ny380.out] at ho56));have HO382:=zh (yy (Kd.R_new' (Kd.R_newM (M:=fun k_=>(P0_ k_∨w.heap.size≤k_)) ho56 (by first|exact HK.out.1|exact (show Kept w _ (fun k_=>P0_ k_) from by repeat (with_reducible first|exact HK.out|apply zr|apply zp|apply zq|refine zs ?_ (.inr GW349.out) _)).1) (fun k_ h_ => .inr h_)) (Kd.R_lt (by (with_reducible repeat (first|apply zm|apply zn|apply zo));exact HO352.out))) (zB (by repeat (with_reducible first|exact HB.out|apply za|apply zb|apply zc|refine zd ?_ GE349.out))));replace HO352:=zh (Kd.R_elder' (by (with_reducible repeat (first|apply zm|apply zn|apply zo));exact HO352.out) (Kd.R_base ho56) hb);replace BK349:=zh (cD BK349.out (by (with_reducible repeat first|apply ze|apply zf|apply zg);exact BK349.out) hb);replace HK:=zh (Kept.below (S:=(fun k_=>P0_ k_)) (by repeat (with_reducible first|exact HK.out|apply zr|apply zp|apply zq|refine zs ?_ (.inr GW349.out) _)) hb);replace HB:=zh (zC (by repeat (with_reducible first|exact HB.out|apply za|apply zb|apply zc|refine zd ?_ GE349.out)) hb);clear hb ho56;obtain ⟨Ao58,co58,eo58⟩:=yk HO382.out;(first|subst eo58|(injection eo58 with f1_ f2_ f3_;have f4_:=f1_.symm;have f5_:=f3_.symm;clear f1_ f2_ f3_;subst f4_;subst f5_));refine hK.out _ _ ⟨(zz BK349.out 0).trans rfl,(zz BK349.out 1).trans rfl,(zz BK349.out 2).trans rfl⟩ (fun hHeld=>?_);clear hK K;refine norm_ (a':=?_) ?_ ?_;rotate_left
     ·
      show Act.put _ (some 43) _=_
      simp only [Act.put,zi,zj,zk,zG,zH]
      rfl
     refine one_ (i:=11) (N:=some 44) (bm_ 14 16) rfl rfl (one_of HT_.out (by kernel_rfl)) (by decide) (fun K hK=>?_);refine Kd.R_append_rows_step (Kd.int .u8) (w0:=w0) w0.heap.size (by rfl) (.tmp 33) (.tmp 43) 33 5 (.int .u8 0) 1 rfl Try.underlying33 info5 rfl (by decide) (by omega) v351 y350 y380 _ _ _ (fun k_=>(P0_ k_∨w.heap.size≤k_)∧some k_≠(.slice Ao58 y380.length co58 : Value).ownBlock) (fun _=>False) rfl rfl ?aO ?aR (fun _ _ h=>h) (fun _ h=>h.elim) ?aF ?aB ?aS ?aL ?_;(case aR=>repeat (first|exact (yh HO382.out).2.2|(with_reducible refine Kd.C_alloc ?_ _)|(with_reducible refine Kd.C_drewN ?_ _)|(with_reducible refine Kd.C_drew ?_)))
     (case aB=>exact (by repeat (with_reducible first|exact HB.out|apply za|apply zb|apply zc|refine zd ?_ GE349.out)))
     (case aF=>exact (fun k_ hk=>⟨(.inr (Nat.le_trans (by first|exact HK.out.1|exact (show Kept w _ (fun k_=>P0_ k_) from by repeat (with_reducible first|exact HK.out|apply zr|apply zp|apply zq|refine zs ?_ (.inr GW349.out) _)).1) hk)),Kd.fresh' (Kd.R_lt (by (with_reducible repeat (first|apply zm|apply zn|apply zo));exact HO382.out)) k_ hk⟩))
     (case aO=>exact (by (with_reducible repeat (first|apply zm|apply zn|apply zo));exact HO352.out))
     (case aS=>exact (zB (by repeat (with_reducible first|exact HB.out|apply za|apply zb|apply zc|refine zd ?_ GE349.out))))
     (case aL=>have:=LMc48.out;omega)
     intro v384 w57 ho hb hg hat;rw [← Ny383.out] at ho;replace BK349:=zh (yw (g:=gb349) (o:=.cells #[.int .i64 a1_0,.int .i64 a1_1,.string a1_2] 25 (0,0)) (by (with_reducible repeat first|apply ze|apply zf|apply zg);exact BK349.out) hg (Kd.R_ne HO352.out BK349.out (by decide)));replace HO382:=zh (Kd.R_after (ok:=(fun k_=>(P0_ k_∨w.heap.size≤k_))) (by (with_reducible repeat (first|apply zm|apply zn|apply zo));exact zM HO382.out (fun _ hk=>⟨hk.1.1,hk.2⟩)) hg hat);replace HB:=zh (hb);replace HK:=zh (yA (S:=(fun k_=>P0_ k_)) hg (by repeat (with_reducible first|exact HK.out|apply zr|apply zp|apply zq|refine zs ?_ (.inr GW349.out) _)) (fun k_ e_=>(HO352.out.1 k_ e_).1));have HO385:=zh (ho);clear HO352 ho hb hg hat;refine hK.out _ _ ⟨(zz BK349.out 0).trans rfl,(zz BK349.out 1).trans rfl,(zz BK349.out 2).trans rfl⟩ (fun hHeld=>?_);clear hK K;refine norm_ (a':=?_) ?_ ?_;rotate_left
     ·
      show Act.put _ (some 44) _=_
      simp only [Act.put,zi,zj,zk,zG,zH]
      rfl
     refine one_ (i:=14) (N:=some 47) (bm_ 15 16) rfl rfl (one_of HT_.out (by kernel_rfl)) (by decide) (fun K hK=>?_);refine print_append_str_go (w0:=w0) w0.heap.size (by rfl) (.tmp 44) _ 33 9 5 rfl Try.underlying33 Try.underlying9 info5 v384 y383 a1_2 rfl rfl ?aO ?aB ?aS ?aL ?_;(case aB=>exact (by repeat (with_reducible first|exact HB.out|apply za|apply zb|apply zc|refine zd ?_ GE349.out)))
     (case aO=>exact (Kd.own_of_R (by (with_reducible repeat (first|apply zm|apply zn|apply zo));exact zM HO385.out (fun _ hk=>hk.1))))
     (case aS=>exact (zB (by repeat (with_reducible first|exact HB.out|apply za|apply zb|apply zc|refine zd ?_ GE349.out))))
     (case aL=>have:=LMc49.out;omega)
     intro v387 w59 ho0 hb hg hat;have ho:=Kd.R_of_own (h1:=fun _=>rfl) (ok:=(fun k_=>(P0_ k_∨w.heap.size≤k_))) ho0 (fun k_ e_=>hat.elim (fun h_=>(zM HO385.out (fun _ hk=>hk.1)).1 k_ (h_.symm.trans e_)) (fun ⟨b_,h_,hb_⟩=>(fun k_ hk=>(.inr (Nat.le_trans (by first|exact HK.out.1|exact (show Kept w _ (fun k_=>P0_ k_) from by repeat (with_reducible first|exact HK.out|apply zr|apply zp|apply zq|refine zs ?_ (.inr GW349.out) _)).1) hk))) k_ (zU (h_.symm.trans e_) ▸ hb_)));clear ho0;rw [← Ny386.out] at ho;change Kd.R (Kd.int .u8) 5 w59 w0.heap.size (fun k_=>(P0_ k_∨w.heap.size≤k_)) v387 y386 at ho;replace BK349:=zh (yw (g:=gb349) (o:=.cells #[.int .i64 a1_0,.int .i64 a1_1,.string a1_2] 25 (0,0)) (by (with_reducible repeat first|apply ze|apply zf|apply zg);exact BK349.out) hg (Kd.R_ne HO385.out BK349.out (by decide)));replace HB:=zh (hb);replace HK:=zh (yA (S:=(fun k_=>P0_ k_)) hg (by repeat (with_reducible first|exact HK.out|apply zr|apply zp|apply zq|refine zs ?_ (.inr GW349.out) _)) (fun k_ e_=>(HO385.out.1 k_ e_).1));have HO388:=zh (ho);clear HO385 ho hb hg hat;refine hK.out _ _ ⟨(zz BK349.out 0).trans rfl,(zz BK349.out 1).trans rfl,(zz BK349.out 2).trans rfl⟩ (fun hHeld=>?_);clear hK K;refine norm_ (a':=?_) ?_ ?_;rotate_left
     ·
      show Act.put _ (some 47) _=_
      simp only [Act.put,zi,zj,zk,zG,zH]
      rfl
     refine pure_ (i:=15) (N:=some 4) (v:=?_) (a':=?_) (bm_ 16 16) rfl rfl (any_of HT_.out (by kernel_rfl)) (fun _ _ _ h=>h) (Or.inl ⟨by rfl,?_⟩) ?_ ?_;rotate_left
     ·
      intro w'
      go_simp
      with_reducible rfl
     rotate_left
     ·
      simp only [Act.put,zi,zj,zk,zG,zH]
      rfl
     refine done_ (done_of HT_.out (by kernel_rfl)) ?_
     try go_wp2
     go_ret
     exact ⟨_,by first|rfl|(simp [yt,yu] <;> rfl)|(simp [*,yt,yu] <;> rfl),by (with_reducible repeat (first|apply zm|apply zn|apply zo));exact HO388.out,by repeat (with_reducible first|exact HB.out|apply za|apply zb|apply zc|refine zd ?_ GE349.out),by repeat (with_reducible first|exact HK.out|apply zr|apply zp|apply zq|refine zs ?_ (.inr GW349.out) _)⟩
    rw [if_neg c49] at H;exact absurd H (by simp)
   rw [if_neg c48] at H;exact absurd H (by simp)
  rw [if_neg c47] at H;have c47b0 : (a1_0 == 5)=false:=zY.mpr c47;have c47b1 : (a1_0 != 5)=true:=zZ.mpr c47;obtain rfl:=zU H
  go_enter Try.func51,Try.ntmps51
  go_wp2_with (first|((with_reducible refine zK (N:=3) rfl ?_);refine zI ?hg (N:=3) ?hd (cs:=#[.int .i64 a1_0,.int .i64 a1_1,.string a1_2]) (t:=25) ?hr ?_;(case hd=>rfl);(case hg=>rfl);(case hr=>go_simp <;> rfl);intro gb349 hg w60 hbox hb;replace HO0:=zh (yg (by (with_reducible repeat (first|apply zm|apply zn|apply zo));exact HO0.out) hb);have BK349:=zh (hbox);have GW349:=zh ((by rw [hg];exact (by first|exact HK.out.1|exact (show Kept w _ (fun k_=>P0_ k_) from by repeat (with_reducible first|exact HK.out|apply zr|apply zp|apply zq)).1) : w.heap.size≤gb349));replace HK:=zh (Kept.below (S:=(fun k_=>P0_ k_)) (by repeat (with_reducible first|exact HK.out|apply zr|apply zp|apply zq)) hb);have GE349:=zh ((by rw [hg];exact (zB (by repeat (with_reducible first|exact HB.out|apply za|apply zb|apply zc))) : w0.heap.size≤gb349));replace HB:=zh (zC (by repeat (with_reducible first|exact HB.out|apply za|apply zb|apply zc)) hb);clear hb hbox hg;obtain ⟨hcz61_0,hcz61_1,hcz61_2,hfz61_0,hfz61_1,hfz61_2⟩:=cB3 BK349.out)|((with_reducible refine yB (b:=.append) (xs:=#[.tmp 5,.tmp 9]) rfl ?_);at_builtin;refine Kd.R_append (Kd.int .u8) (w0:=w0) w0.heap.size rfl (.tmp 5) (.tmp 9) 33 5 (.int .u8 0) 1 rfl Try.underlying33 info5 rfl (by decide) (by omega) u9000_ l0 ((a1_0) % 256) [.int .u8 ((a1_0) % 256)] (fun k_=>(P0_ k_∨w.heap.size≤k_)) (fun _=>False) rfl rfl ?aP (fun _ hk=>hk.elim) ?aF ?aO ?aB ?aS ?aL ?_;(case aP=>exact rfl);(case aB=>exact (by repeat (with_reducible first|exact HB.out|apply za|apply zb|apply zc|refine zd ?_ GE349.out)));(case aF=>exact (fun k_ hk=>(.inr (Nat.le_trans (by first|exact HK.out.1|exact (show Kept w _ (fun k_=>P0_ k_) from by repeat (with_reducible first|exact HK.out|apply zr|apply zp|apply zq|refine zs ?_ (.inr GW349.out) _)).1) hk))));(case aO=>exact (by (with_reducible repeat (first|apply zm|apply zn|apply zo));exact HO0.out));(case aS=>exact (zB (by repeat (with_reducible first|exact HB.out|apply za|apply zb|apply zc|refine zd ?_ GE349.out))));(case aL=>have:=LMc3.out;omega);intro v351 w62 ho hb hg hat;rw [← Ny350.out] at ho;replace BK349:=zh (yw (g:=gb349) (o:=.cells #[.int .i64 a1_0,.int .i64 a1_1,.string a1_2] 25 (0,0)) (by (with_reducible repeat first|apply ze|apply zf|apply zg);exact BK349.out) hg (Kd.R_ne HO0.out BK349.out (by decide)));replace HB:=zh (hb);replace HK:=zh (yA (S:=(fun k_=>P0_ k_)) hg (by repeat (with_reducible first|exact HK.out|apply zr|apply zp|apply zq|refine zs ?_ (.inr GW349.out) _)) (fun k_ e_=>(HO0.out.1 k_ e_)));have HO352:=zh (ho);clear HO0 ho hb hg hat;obtain ⟨hcz63_0,hcz63_1,hcz63_2,hfz63_0,hfz63_1,hfz63_2⟩:=cB3 BK349.out))
  go_ret
  exact ⟨_,by first|rfl|(simp [yt,yu] <;> rfl)|(simp [*,yt,yu] <;> rfl),by (with_reducible repeat (first|apply zm|apply zn|apply zo));exact HO352.out,by repeat (with_reducible first|exact HB.out|apply za|apply zb|apply zc|refine zd ?_ GE349.out),by repeat (with_reducible first|exact HK.out|apply zr|apply zp|apply zq|refine zs ?_ (.inr GW349.out) _)⟩
 rw [if_neg c3] at H;exact absurd H (by simp)


def Fg.l0 : Nat→List Int→List (S43)→Int→Int→Option (Int×Int×ByteArray)
 | 0,_,_,_,_=>none
 | k+1,x3,x7,x8,x9=>if x9<x8 then (if 0≤x9 then (if x9<(x7.length : Int) then (if x3.length<140737488355328 then ((some (x3 ++ [((((rd_T43 x7 x9).f0).size : Int)) % 256] : List Int)).bind fun y395=>(if y395.length+((rd_T43 x7 x9).f0).size<140737488355328 then ((Fx.f k (y395++bytesOf ((rd_T43 x7 x9).f0)) ((rd_T43 x7 x9).f1.f0) ((rd_T43 x7 x9).f1.f1) ((rd_T43 x7 x9).f1.f2)).bind fun t401=>(Fg.l0 k t401 x7 x8 (wrap64 (x9+1)))) else (none))) else (none)) else (none)) else (none)) else (some (5,0,strOfNums x3))
def Fg.f (k : Nat) (l0 : List (S43)) : Option (Int×Int×ByteArray):=Fg.l0 k (([] : List Int)) l0 (l0.length : Int) 0
theorem Fg.mono_l : ∀ k,(∀ y0 y1 y2 y3,LeO (Fg.l0 k y0 y1 y2 y3) (Fg.l0 (k+1) y0 y1 y2 y3))
 | 0=>fun _ _ _ _ r h=>by simp [Fg.l0] at h
 | k+1=>by
  have ih0:=Fg.mono_l k;intro y0 y1 y2 y3;unfold Fg.l0
  repeat' first|(with_reducible first|exact ih0 _ _ _ _|exact Fx.mono _ _ _ _ _|exact zQ _|exact zN _|refine zP ?_ ?_|refine zO ?_ (fun _=>?_))|refine zP ?_ ?_|refine zO ?_ (fun _=>?_)
theorem Fg.mono : ∀ a0 k,LeO (Fg.f k a0) (Fg.f (k+1) a0):=by
 intro a0 k;have ih0:=Fg.mono_l k;unfold Fg.f
 repeat' first|(with_reducible first|exact ih0 _ _ _ _|exact Fx.mono _ _ _ _ _|exact zQ _|exact zN _|refine zP ?_ ?_|refine zO ?_ (fun _=>?_))|refine zP ?_ ?_|refine zO ?_ (fun _=>?_)
def Fg.T5 : Bool×List (List Nat×List Nat):=(true,[([],[]),([],[]),([1],[1]),([2],[2]),([3],[3]),([4],[4]),([0,5],[0,5]),([],[]),([7],[7]),([6,8,6],[6,8]),([],[]),([10],[10]),([9,11,9],[9,11]),([12,12,0,1,2,3,4,5,6,7,8,9,10,11,12],[0,12])])
def Fg.B5 : List Nat:=[0,0,2,6,14,30,63,0,128,511,0,1024,4095,8191]
theorem Fg.tab5 : rtab .any (opsOf Try.f29 5)=Fg.T5:=by kernel_rfl
theorem Fg.bits5 : waitsOk Fg.T5.2 Fg.B5=true:=by kernel_rfl
set_option maxHeartbeats 8000000 in
set_option maxRecDepth 100000 in
theorem Fg.calls (k : Nat) (A0 : Option Addr) (c0 : Nat) (l0 : List (S43)) (r1 : Int) (r2 : Int) (r3 : ByteArray) (w : World) (hr0 : Kd.C k43 w A0 l0.length l0) (hc0 : l0.length≤c0) (h : Fg.f k l0=some (r1,r2,r3)) :
  Calls Try.prog 29 #[.slice A0 l0.length c0] w fun e w' => e = .returned (.agg #[.int .i64 r1,.int .i64 r2,.string r3])∧Below w.heap.size w w':=by
 have hu25:=Try.underlying25;have hu43:=Try.underlying43;have HR0:=zh hr0;have HC0:=zh hc0;clear hr0 hc0;have HB:=zh (Below.refl w.heap.size w);have H : (Fg.l0 k (([] : List Int)) l0 (l0.length : Int) 0)=some (r1,r2,r3):=h;clear h;obtain ⟨y390,hy390⟩ : ∃ y_ : List Int,y_=(([] : List Int)):=⟨_,rfl⟩;replace H : (Fg.l0 k y390 l0 (l0.length : Int) 0)=some (r1,r2,r3):=by first|(rw [hy390];with_reducible exact H)|(have H2_:=(Option.bind_some _ _).symm.trans H;rw [hy390];with_reducible exact H2_)|(have H2_:=(Option.bind_some _ _).symm.trans H;with_reducible exact H2_)|with_reducible exact H|(rw [hy390];exact H)|exact H
 have Ny390:=zh hy390;clear hy390;have H':=zh H;clear H
 go_enter Try.func29,Try.ntmps29
 go_wp2_with (first|((with_reducible refine zK (N:=2) rfl ?_);refine zI ?hg (N:=2) ?hd (cs:=#[.int .i64 0,.int .i64 0,.string (⟨#[]⟩ : ByteArray)]) (t:=25) ?hr ?_;(case hd=>rfl);(case hg=>rfl);(case hr=>go_simp <;> rfl);intro gb389 hg w2 hbox hb;have BK389:=zh (hbox);have hH_:=cH (by repeat (with_reducible first|exact HB.out|apply za|apply zb|apply zc)) hb hg;have GW389:=zh hH_.1;have GE389:=GW389;replace HB:=zh hH_.2;clear hb hbox hg hH_)|((with_reducible refine zK (N:=6) rfl ?_);refine Kd.R_lit (Kd.int .u8) _ 5 ?hg (N:=6) ?hd (xs:=([] : List Int)) (inner:=[]) (ok:=fun _=>True) (okp:=fun _=>True) ?hr ?hp (fun _ hk=>hk) trivial (Below.refl _ _) (ye _) (by simp) ?_;(case hd=>rfl);(case hg=>rfl);(case hr=>go_simp <;> rfl);(case hp=>exact (Reps.none _ _));intro v391 w3 ho4 hb hg_ hnew_;clear hg_ hnew_;(first|rw [← Ny390.out] at ho4|(simp only [Int.reduceToNat] at ho4;rw [← Ny390.out] at ho4));have HO392:=zh (yy ho4 (zB (by repeat (with_reducible first|exact HB.out|apply za|apply zb|apply zc|refine zd ?_ GE389.out))));replace BK389:=zh (cD BK389.out (by (with_reducible repeat first|apply ze|apply zf|apply zg);exact BK389.out) hb);replace HB:=zh (zC (by repeat (with_reducible first|exact HB.out|apply za|apply zb|apply zc|refine zd ?_ GE389.out)) hb);clear hb ho4))
 go_loopg [3,9] k (fun kq v3 v9 w' => ∃ (x3_1 : List Int) (x9_1 : Int),v9 = .int .i64 x9_1∧Aside0 (Fg.l0 kq x3_1 l0 (l0.length : Int) x9_1=some (r1,r2,r3))∧Aside0 (kq≤k)∧Aside0 (Kd.R (Kd.int .u8) 5 w' w.heap.size (fun _=>True) v3 x3_1)∧Aside0 (w'.heap[gb389]? = some (.cells #[.int .i64 0,.int .i64 0,.string (⟨#[]⟩ : ByteArray)] 25 (0,0)))∧Aside0 (Below w.heap.size w w'))
 case atStart=>exact ⟨(y390),(0),(by first|rfl|(simp;done)|(simp [*];done)),H',⟨ye _⟩,⟨by (with_reducible repeat (first|apply zm|apply zn|apply zo));exact HO392.out⟩,⟨by (with_reducible repeat first|apply ze|apply zf|apply zg);exact BK389.out⟩,⟨by repeat (with_reducible first|exact HB.out|apply za|apply zb|apply zc|refine zd ?_ GE389.out)⟩⟩
 case round =>
  clear H'
  try clear c2
  try clear p2
  obtain ⟨x3_1,x9_1,rfl,HA,HK1,HO_3,BK389,HB⟩:=hrel
  cases gk with
  | zero=>exact absurd HA.out (by simp [Fg.l0])
  | succ k1 =>
   have H:=HA.out;clear HA;simp only [Fg.l0] at H
   by_cases c5 : x9_1<(l0.length : Int)
   ·
    rw [if_pos c5] at H
    have c5b0 : decide (x9_1<(l0.length : Int))=true:=decide_eq_true c5;clear c5
    by_cases c6 : 0≤x9_1
    ·
     rw [if_pos c6] at H
     have c6b0 : decide (0≤x9_1)=true:=decide_eq_true c6;clear c6
     by_cases c7 : x9_1<(l0.length : Int)
     ·
      rw [if_pos c7] at H
      have c7b0 : decide (x9_1<(l0.length : Int))=true:=decide_eq_true c7;clear c7
      by_cases c8 : x3_1.length<140737488355328
      ·
       rw [if_pos c8] at H
       have LMc8:=zh c8;clear c8;obtain ⟨y395,hy395⟩ : ∃ y_ : List Int,y_=(x3_1 ++ [((((rd_T43 l0 x9_1).f0).size : Int)) % 256]):=⟨_,rfl⟩;replace H : (if y395.length+((rd_T43 l0 x9_1).f0).size<140737488355328 then ((Fx.f k1 (y395++bytesOf ((rd_T43 l0 x9_1).f0)) ((rd_T43 l0 x9_1).f1.f0) ((rd_T43 l0 x9_1).f1.f1) ((rd_T43 l0 x9_1).f1.f2)).bind fun t401=>(Fg.l0 k1 t401 l0 (l0.length : Int) (wrap64 (x9_1+1)))) else (none))=some (r1,r2,r3):=by first|(rw [hy395];with_reducible exact H)|(have H2_:=(Option.bind_some _ _).symm.trans H;rw [hy395];with_reducible exact H2_)|(have H2_:=(Option.bind_some _ _).symm.trans H;with_reducible exact H2_)|with_reducible exact H|(rw [hy395];exact H)|exact H
       have Ny395:=zh hy395;clear hy395
       by_cases c9 : y395.length+((rd_T43 l0 x9_1).f0).size<140737488355328
       ·
        rw [if_pos c9] at H
        have LMc9:=zh c9;clear c9;obtain ⟨y398,hy398⟩ : ∃ y_ : List Int,y_=(y395++bytesOf ((rd_T43 l0 x9_1).f0)):=⟨_,rfl⟩;replace H : ((Fx.f k1 y398 ((rd_T43 l0 x9_1).f1.f0) ((rd_T43 l0 x9_1).f1.f1) ((rd_T43 l0 x9_1).f1.f2)).bind fun t401=>(Fg.l0 k1 t401 l0 (l0.length : Int) (wrap64 (x9_1+1))))=some (r1,r2,r3):=by first|(rw [hy398];with_reducible exact H)|(have H2_:=(Option.bind_some _ _).symm.trans H;rw [hy398];with_reducible exact H2_)|(have H2_:=(Option.bind_some _ _).symm.trans H;with_reducible exact H2_)|with_reducible exact H|(rw [hy398];exact H)|exact H
        have Ny398:=zh hy398;clear hy398;replace H:=zT.mp H;obtain ⟨t401,A100,H⟩:=H;replace H : (Fg.l0 k1 t401 l0 (l0.length : Int) (wrap64 (x9_1+1)))=some (r1,r2,r3):=H;have A10:=zh A100;clear A100;have H':=zh H;clear H;have p393 : 0≤(x9_1 : Int):=zy (by first|(with_reducible assumption)|assumption);have q393 : x9_1<(l0.length : Int):=zy (by first|(with_reducible assumption)|assumption);obtain ⟨ad393,e393,hx393_0,hx393_1,hx393_2,hx393_3⟩:=at_T43 HR0.out x9_1 p393 q393
        cases e393
        replace hx393_0:=(HB.out.cell (zl w _ hx393_0)).trans hx393_0;replace hx393_1:=(HB.out.cell (zl w _ hx393_1)).trans hx393_1;replace hx393_2:=(HB.out.cell (zl w _ hx393_2)).trans hx393_2;replace hx393_3:=(HB.out.cell (zl w _ hx393_3)).trans hx393_3;replace p393:=eq_true p393;replace q393:=eq_true q393
        try go_wp2_with (first|((with_reducible refine zK (N:=5) rfl ?_);refine zI ?hg (N:=5) ?hd (cs:=#[.string (⟨#[]⟩ : ByteArray),.int .i64 0,.int .i64 0,.string (⟨#[]⟩ : ByteArray)]) (t:=43) ?hr ?_;(case hd=>rfl);(case hg=>rfl);(case hr=>go_simp <;> rfl);intro gb394 hg w11 hbox hb;replace HO_3:=zh (yg (by (with_reducible repeat (first|apply zm|apply zn|apply zo));exact HO_3.out) hb);have BK394:=zh (hbox);have hH_:=cH (by repeat (with_reducible first|exact HB.out|apply za|apply zb|apply zc|refine zd ?_ GE389.out)) hb hg;have GW394:=zh hH_.1;have GE394:=GW394;replace HB:=zh hH_.2;have NB389_394:=zh ((by rw [hg];exact yc (yi (g:=gb389) (o:=.cells #[.int .i64 0,.int .i64 0,.string (⟨#[]⟩ : ByteArray)] 25 (0,0)) (by (with_reducible repeat first|apply ze|apply zf|apply zg);exact BK389.out)) : gb389≠gb394));have NB394_389:=zh NB389_394.out.symm;replace BK389:=zh (cD BK389.out (by (with_reducible repeat first|apply ze|apply zf|apply zg);exact BK389.out) hb);clear hb hbox hg hH_;have hnb12:=NB394_389.out;have hnc12:=NB389_394.out;obtain ⟨hcz13_0,hcz13_1,hcz13_2,hcz13_3,hfz13_0,hfz13_1,hfz13_2,hfz13_3⟩:=cB4 BK394.out))
        have n0_ : Aside0 (Kd.R (Kd.int .u8) 5 ((((w11.setCell ⟨gb394,0,none⟩ (.string ((rd_T43 l0 x9_1).f0))).setCell ⟨gb394,1,none⟩ (.int .i64 ((rd_T43 l0 x9_1).f1.f0))).setCell ⟨gb394,2,none⟩ (.int .i64 ((rd_T43 l0 x9_1).f1.f1))).setCell ⟨gb394,3,none⟩ (.string ((rd_T43 l0 x9_1).f1.f2))) w.heap.size (fun _=>True) u3 x3_1):=⟨by (with_reducible repeat (first|apply zm|apply zn|apply zo));exact zM (zE (p:=⟨gb394,3,none⟩) (zE (p:=⟨gb394,2,none⟩) (zE (p:=⟨gb394,1,none⟩) (zE (p:=⟨gb394,0,none⟩) (yf HO_3.out BK394.out (by decide)) (fun _ hk=>hk.2) (.string ((rd_T43 l0 x9_1).f0))) (fun _ hk=>hk.2) (.int .i64 ((rd_T43 l0 x9_1).f1.f0))) (fun _ hk=>hk.2) (.int .i64 ((rd_T43 l0 x9_1).f1.f1))) (fun _ hk=>hk.2) (.string ((rd_T43 l0 x9_1).f1.f2))) (fun _ hk=>trivial)⟩;have n1_ : Aside0 (((((w11.setCell ⟨gb394,0,none⟩ (.string ((rd_T43 l0 x9_1).f0))).setCell ⟨gb394,1,none⟩ (.int .i64 ((rd_T43 l0 x9_1).f1.f0))).setCell ⟨gb394,2,none⟩ (.int .i64 ((rd_T43 l0 x9_1).f1.f1))).setCell ⟨gb394,3,none⟩ (.string ((rd_T43 l0 x9_1).f1.f2))).heap[gb389]? = some (.cells #[.int .i64 0,.int .i64 0,.string (⟨#[]⟩ : ByteArray)] 25 (0,0))):=⟨by (with_reducible repeat first|apply ze|apply zf|apply zg);refine cS4 ?_ NB389_394.out;(with_reducible repeat first|apply ze|apply zf|apply zg);exact BK389.out⟩;have n2_ : Aside0 (((((w11.setCell ⟨gb394,0,none⟩ (.string ((rd_T43 l0 x9_1).f0))).setCell ⟨gb394,1,none⟩ (.int .i64 ((rd_T43 l0 x9_1).f1.f0))).setCell ⟨gb394,2,none⟩ (.int .i64 ((rd_T43 l0 x9_1).f1.f1))).setCell ⟨gb394,3,none⟩ (.string ((rd_T43 l0 x9_1).f1.f2))).heap[gb394]? = some (.cells #[.string ((rd_T43 l0 x9_1).f0),.int .i64 ((rd_T43 l0 x9_1).f1.f0),.int .i64 ((rd_T43 l0 x9_1).f1.f1),.string ((rd_T43 l0 x9_1).f1.f2)] 43 (0,0))):=⟨by (with_reducible repeat first|apply ze|apply zf|apply zg);refine zL (cs:=#[.string ((rd_T43 l0 x9_1).f0),.int .i64 ((rd_T43 l0 x9_1).f1.f0),.int .i64 ((rd_T43 l0 x9_1).f1.f1),.string (⟨#[]⟩ : ByteArray)]) ?_ 3 _ rfl;(with_reducible repeat first|apply ze|apply zf|apply zg);refine zL (cs:=#[.string ((rd_T43 l0 x9_1).f0),.int .i64 ((rd_T43 l0 x9_1).f1.f0),.int .i64 0,.string (⟨#[]⟩ : ByteArray)]) ?_ 2 _ rfl;(with_reducible repeat first|apply ze|apply zf|apply zg);refine zL (cs:=#[.string ((rd_T43 l0 x9_1).f0),.int .i64 0,.int .i64 0,.string (⟨#[]⟩ : ByteArray)]) ?_ 1 _ rfl;(with_reducible repeat first|apply ze|apply zf|apply zg);refine zL (cs:=#[.string (⟨#[]⟩ : ByteArray),.int .i64 0,.int .i64 0,.string (⟨#[]⟩ : ByteArray)]) ?_ 0 _ rfl;(with_reducible repeat first|apply ze|apply zf|apply zg);exact BK394.out⟩;have n3_ : Aside0 (Below w.heap.size w ((((w11.setCell ⟨gb394,0,none⟩ (.string ((rd_T43 l0 x9_1).f0))).setCell ⟨gb394,1,none⟩ (.int .i64 ((rd_T43 l0 x9_1).f1.f0))).setCell ⟨gb394,2,none⟩ (.int .i64 ((rd_T43 l0 x9_1).f1.f1))).setCell ⟨gb394,3,none⟩ (.string ((rd_T43 l0 x9_1).f1.f2)))):=⟨by repeat (with_reducible first|exact HB.out|apply za|apply zb|apply zc|refine zd ?_ GE389.out|refine zd ?_ GE394.out)⟩;(try clear HO_3);(try clear BK389);(try clear BK394);(try clear HB);generalize ((((w11.setCell ⟨gb394,0,none⟩ (.string ((rd_T43 l0 x9_1).f0))).setCell ⟨gb394,1,none⟩ (.int .i64 ((rd_T43 l0 x9_1).f1.f0))).setCell ⟨gb394,2,none⟩ (.int .i64 ((rd_T43 l0 x9_1).f1.f1))).setCell ⟨gb394,3,none⟩ (.string ((rd_T43 l0 x9_1).f1.f2)))=w14 at n0_ n1_ n2_ n3_ ⊢;have HO_3:=n0_;have BK389:=n1_;have BK394:=n2_;have HB:=n3_;clear n0_ n1_ n2_ n3_;replace HO_3:=zh (zo HO_3.out);replace BK389:=zh (zf BK389.out);replace BK394:=zh (zf BK394.out);replace HB:=zh (zc HB.out);refine start_ (n:=14) (S:=fun w' => w'.cell? ⟨gb394,0,none⟩=some (.string ((rd_T43 l0 x9_1).f0))∧w'.cell? ⟨gb394,1,none⟩=some (.int .i64 ((rd_T43 l0 x9_1).f1.f0))∧w'.cell? ⟨gb394,2,none⟩=some (.int .i64 ((rd_T43 l0 x9_1).f1.f1))∧w'.cell? ⟨gb394,3,none⟩=some (.string ((rd_T43 l0 x9_1).f1.f2))) (ds:=[]) (bm_ 0 14) (by kernel_rfl) rfl rfl ⟨(zz BK394.out 0).trans rfl,(zz BK394.out 1).trans rfl,(zz BK394.out 2).trans rfl,(zz BK394.out 3).trans rfl⟩ (fun hHeld=>?_);refine with_tabW Fg.tab5 Fg.bits5 (fun HT_ HW_=>?_);generalize w14.drew=w15 at HO_3 BK389 BK394 HB hHeld ⊢;refine pure_ (i:=0) (N:=some 13) (v:=?_) (a':=?_) (bm_ 1 14) rfl rfl (any_of HT_.out (by kernel_rfl)) (fun _ _ _ h=>h) (Or.inl ⟨by rfl,?_⟩) ?_ ?_;rotate_left
        ·
         intro w'
         go_simp
         with_reducible rfl
        rotate_left
        ·
         simp only [Act.put,zi,zj,zk,zG,zH]
         rfl
        refine pure_ (i:=1) (N:=some 14) (v:=?_) (a':=?_) (bm_ 2 14) rfl rfl (any_of HT_.out (by kernel_rfl)) (fun _ _ _ h=>h) (Or.inl ⟨by rfl,?_⟩) ?_ ?_;rotate_left
        ·
         intro w'
         go_simp
         with_reducible rfl
        rotate_left
        ·
         simp only [Act.put,zi,zj,zk,zG,zH]
         rfl
        refine pure_ (i:=7) (N:=some 20) (v:=?_) (a':=?_) #[true,true,false,false,false,false,false,true,false,false,false,false,false,false] rfl rfl (any_of HT_.out (by kernel_rfl)) (fun _ _ _ h=>h) (Or.inl ⟨by rfl,?_⟩) ?_ ?_;rotate_left
        ·
         intro w'
         go_simp
         with_reducible rfl
        rotate_left
        ·
         simp only [Act.put,zi,zj,zk,zG,zH]
         rfl
        refine pure_ (i:=10) (N:=some 23) (v:=?_) (a':=?_) #[true,true,false,false,false,false,false,true,false,false,true,false,false,false] rfl rfl (any_of HT_.out (by kernel_rfl)) (fun _ _ _ h=>h) (Or.inl ⟨by rfl,?_⟩) ?_ ?_;rotate_left
        ·
         intro w'
         go_simp
         with_reducible rfl
        rotate_left
        ·
         simp only [Act.put,zi,zj,zk,zG,zH]
         rfl
        refine take_ (i:=2) (N:=some 15) (v:=?_) (a':=?_) #[true,true,true,false,false,false,false,true,false,false,true,false,false,false] rfl rfl (yo HT_.out HW_.out (by kernel_rfl)) (fun _ _ _ h=>h) (Or.inl ⟨by rfl,?_⟩) hHeld ?_ ?_;rotate_left
        ·
         rintro w' ⟨s0,s1,s2,s3⟩
         go_simp
         with_reducible rfl
        rotate_left
        ·
         simp only [Act.put,zi,zj,zk,zG,zH]
         rfl
        refine pure_ (i:=3) (N:=some 16) (v:=?_) (a':=?_) #[true,true,true,true,false,false,false,true,false,false,true,false,false,false] rfl rfl (any_of HT_.out (by kernel_rfl)) (fun _ _ _ h=>h) (Or.inl ⟨by rfl,?_⟩) ?_ ?_;rotate_left
        ·
         intro w'
         go_simp
         with_reducible rfl
        rotate_left
        ·
         simp only [Act.put,zi,zj,zk,zG,zH]
         rfl
        refine pure_ (i:=4) (N:=some 17) (v:=?_) (a':=?_) #[true,true,true,true,true,false,false,true,false,false,true,false,false,false] rfl rfl (any_of HT_.out (by kernel_rfl)) (fun _ _ _ h=>h) (Or.inl ⟨by rfl,?_⟩) ?_ ?_;rotate_left
        ·
         intro w'
         go_simp
         with_reducible rfl
        rotate_left
        ·
         simp only [Act.put,zi,zj,zk,zG,zH]
         rfl
        refine take_ (i:=8) (N:=some 21) (v:=?_) (a':=?_) #[true,true,true,true,true,false,false,true,true,false,true,false,false,false] rfl rfl (yo HT_.out HW_.out (by kernel_rfl)) (fun _ _ _ h=>h) (Or.inl ⟨by rfl,?_⟩) hHeld ?_ ?_;rotate_left
        ·
         rintro w' ⟨s0,s1,s2,s3⟩
         go_simp
         with_reducible rfl
        rotate_left
        ·
         simp only [Act.put,zi,zj,zk,zG,zH]
         rfl
        refine take_ (i:=11) (N:=some 24) (v:=?_) (a':=?_) #[true,true,true,true,true,false,false,true,true,false,true,true,false,false] rfl rfl (yo HT_.out HW_.out (by kernel_rfl)) (fun _ _ _ h=>h) (Or.inl ⟨by rfl,?_⟩) hHeld ?_ ?_;rotate_left
        ·
         rintro w' ⟨s0,s1,s2,s3⟩
         go_simp
         with_reducible rfl
        rotate_left
        ·
         simp only [Act.put,zi,zj,zk,zG,zH]
         rfl
        refine one_ (i:=5) (N:=some 18) #[true,true,true,true,true,true,false,true,true,false,true,true,false,false] rfl rfl (one_of HT_.out (by kernel_rfl)) (by decide) (fun K hK=>?_);refine value_ (w1:=?_) (v:=?_) (by rfl) rfl ?_ ?_;rotate_left 2
        ·
         go_simp
         constructor
         ·
          rfl
         rfl
        refine hK.out _ _ ⟨(zz (zg BK394.out _) 0).trans rfl,(zz (zg BK394.out _) 1).trans rfl,(zz (zg BK394.out _) 2).trans rfl,(zz (zg BK394.out _) 3).trans rfl⟩ (fun hHeld=>?_);clear hK K;refine norm_ (a':=?_) ?_ ?_;rotate_left
        ·
         show Act.put _ (some 18) _=_
         simp only [Act.put,zi,zj,zk,zG,zH]
         rfl
        refine one_ (i:=6) (N:=some 19) #[true,true,true,true,true,true,true,true,true,false,true,true,false,false] rfl rfl (one_of HT_.out (by kernel_rfl)) (by decide) (fun K hK=>?_);refine Kd.R_append_step (Kd.int .u8) (w0:=w) w.heap.size (by rfl) (.tmp 13) (.tmp 18) 33 5 (.int .u8 0) 1 rfl Try.underlying33 info5 rfl (by decide) (by omega) u3 x3_1 (((((rd_T43 l0 x9_1).f0).size : Int)) % 256) [.int .u8 (((((rd_T43 l0 x9_1).f0).size : Int)) % 256)] (fun _=>True) (fun _=>False) rfl rfl ?aP (fun _ hk=>hk.elim) ?aF ?aO ?aB ?aS ?aL ?_;(case aP=>exact rfl)
        (case aB=>exact (by repeat (with_reducible first|exact HB.out|apply za|apply zb|apply zc|refine zd ?_ GE389.out|refine zd ?_ GE394.out)))
        (case aF=>exact (fun _ _=>trivial))
        (case aO=>exact (by (with_reducible repeat (first|apply zm|apply zn|apply zo));exact HO_3.out))
        (case aS=>exact (zB (by repeat (with_reducible first|exact HB.out|apply za|apply zb|apply zc|refine zd ?_ GE389.out|refine zd ?_ GE394.out))))
        (case aL=>have:=LMc8.out;omega)
        intro v396 w16 ho hb hg hat;rw [← Ny395.out] at ho;replace BK389:=zh (yw (g:=gb389) (o:=.cells #[.int .i64 0,.int .i64 0,.string (⟨#[]⟩ : ByteArray)] 25 (0,0)) (by (with_reducible repeat first|apply ze|apply zf|apply zg);exact BK389.out) hg (Kd.R_ne HO_3.out BK389.out (by decide)));replace BK394:=zh (yw (g:=gb394) (o:=.cells #[.string ((rd_T43 l0 x9_1).f0),.int .i64 ((rd_T43 l0 x9_1).f1.f0),.int .i64 ((rd_T43 l0 x9_1).f1.f1),.string ((rd_T43 l0 x9_1).f1.f2)] 43 (0,0)) (by (with_reducible repeat first|apply ze|apply zf|apply zg);exact BK394.out) hg (Kd.R_ne HO_3.out BK394.out (by decide)));replace HB:=zh (hb);have HO397:=zh (ho);clear HO_3 ho hb hg hat;refine hK.out _ _ ⟨(zz BK394.out 0).trans rfl,(zz BK394.out 1).trans rfl,(zz BK394.out 2).trans rfl,(zz BK394.out 3).trans rfl⟩ (fun hHeld=>?_);clear hK K;refine norm_ (a':=?_) ?_ ?_;rotate_left
        ·
         show Act.put _ (some 19) _=_
         simp only [Act.put,zi,zj,zk,zG,zH]
         rfl
        refine one_ (i:=9) (N:=some 22) (bm_ 12 14) rfl rfl (one_of HT_.out (by kernel_rfl)) (by decide) (fun K hK=>?_);refine print_append_str_go (w0:=w) w.heap.size (by rfl) (.tmp 19) _ 33 9 5 rfl Try.underlying33 Try.underlying9 info5 v396 y395 ((rd_T43 l0 x9_1).f0) rfl rfl ?aO ?aB ?aS ?aL ?_;(case aB=>exact (by repeat (with_reducible first|exact HB.out|apply za|apply zb|apply zc|refine zd ?_ GE389.out|refine zd ?_ GE394.out)))
        (case aO=>exact (Kd.own_of_R (by (with_reducible repeat (first|apply zm|apply zn|apply zo));exact HO397.out)))
        (case aS=>exact (zB (by repeat (with_reducible first|exact HB.out|apply za|apply zb|apply zc|refine zd ?_ GE389.out|refine zd ?_ GE394.out))))
        (case aL=>have:=LMc9.out;omega)
        intro v399 w17 ho0 hb hg hat;have ho:=Kd.R_of_own (h1:=fun _=>rfl) (ok:=(fun _=>True)) ho0 (fun k_ e_=>hat.elim (fun h_=>(HO397.out).1 k_ (h_.symm.trans e_)) (fun ⟨b_,h_,hb_⟩=>(fun _ _=>trivial) k_ (zU (h_.symm.trans e_) ▸ hb_)));clear ho0;rw [← Ny398.out] at ho;change Kd.R (Kd.int .u8) 5 w17 w.heap.size (fun _=>True) v399 y398 at ho;replace BK389:=zh (yw (g:=gb389) (o:=.cells #[.int .i64 0,.int .i64 0,.string (⟨#[]⟩ : ByteArray)] 25 (0,0)) (by (with_reducible repeat first|apply ze|apply zf|apply zg);exact BK389.out) hg (Kd.R_ne HO397.out BK389.out (by decide)));replace BK394:=zh (yw (g:=gb394) (o:=.cells #[.string ((rd_T43 l0 x9_1).f0),.int .i64 ((rd_T43 l0 x9_1).f1.f0),.int .i64 ((rd_T43 l0 x9_1).f1.f1),.string ((rd_T43 l0 x9_1).f1.f2)] 43 (0,0)) (by (with_reducible repeat first|apply ze|apply zf|apply zg);exact BK394.out) hg (Kd.R_ne HO397.out BK394.out (by decide)));replace HB:=zh (hb);have HO400:=zh (ho);clear HO397 ho hb hg hat;obtain ⟨Ao18,co18,eo18⟩:=yk HO400.out;(first|subst eo18|(injection eo18 with f1_ f2_ f3_;have f4_:=f1_.symm;have f5_:=f3_.symm;clear f1_ f2_ f3_;subst f4_;subst f5_));refine hK.out _ _ ⟨(zz BK394.out 0).trans rfl,(zz BK394.out 1).trans rfl,(zz BK394.out 2).trans rfl,(zz BK394.out 3).trans rfl⟩ (fun hHeld=>?_);clear hK K;refine norm_ (a':=?_) ?_ ?_;rotate_left
        ·
         show Act.put _ (some 22) _=_
         simp only [Act.put,zi,zj,zk,zG,zH]
         rfl
        refine one_ (i:=12) (N:=some 25) (bm_ 13 14) rfl rfl (one_of HT_.out (by kernel_rfl)) (by decide) (fun K hK=>?_);refine goes_ Try.func51 (by kernel_rfl) rfl #[.slice Ao18 y398.length co18,.agg #[.int .i64 ((rd_T43 l0 x9_1).f1.f0),.int .i64 ((rd_T43 l0 x9_1).f1.f1),.string ((rd_T43 l0 x9_1).f1.f2)]] (by rfl) rfl rfl (by (try simp only [zt,zu,zv]);first|done|rfl|(simp only [zw,zx];rfl)|(simp only [yr,ys,zV,zW];rfl)) ?_
        with_reducible refine (Fx.calls k1  (fun k_=>some k_=(.slice Ao18 y398.length co18 : Value).ownBlock) (.slice Ao18 y398.length co18) y398 ((rd_T43 l0 x9_1).f1.f0) ((rd_T43 l0 x9_1).f1.f1) ((rd_T43 l0 x9_1).f1.f2) t401 w _ ?side1 ?side2 A10.out).mono ?_
        (case side1=>repeat (with_reducible first|exact HB.out|apply za|apply zb|apply zc|refine zd ?_ GE389.out|refine zd ?_ GE394.out))
        (case side2=>exact Kd.R_tight rfl HO400.out)
        rintro e w19 ⟨v402,rfl,ho0,hb,hkp⟩;refine ⟨_,rfl,?_⟩;replace BK389:=zh (blk_kept (by (with_reducible repeat first|apply ze|apply zf|apply zg);exact BK389.out) hkp (fun hs_=>(fun e_=>(Kd.R_ne HO400.out BK389.out (by decide)) e_) hs_));replace BK394:=zh (blk_kept (by (with_reducible repeat first|apply ze|apply zf|apply zg);exact BK394.out) hkp (fun hs_=>(fun e_=>(Kd.R_ne HO400.out BK394.out (by decide)) e_) hs_));have HO403:=zh (zM (ok':=fun k_=>True) ho0 (fun k_ hk_=>trivial));replace HB:=zh (hb);clear HO400;(try clear hb);(try clear hkp);(try clear ho0);refine hK.out _ _ ⟨(zz BK394.out 0).trans rfl,(zz BK394.out 1).trans rfl,(zz BK394.out 2).trans rfl,(zz BK394.out 3).trans rfl⟩ (fun hHeld=>?_);clear hK K;refine norm_ (a':=?_) ?_ ?_;rotate_left
        ·
         show Act.put _ (some 25) _=_
         simp only [Act.put,zi,zj,zk,zG,zH]
         rfl
        refine pure_ (i:=13) (N:=some 3) (v:=?_) (a':=?_) (bm_ 14 14) rfl rfl (any_of HT_.out (by kernel_rfl)) (fun _ _ _ h=>h) (Or.inl ⟨by rfl,?_⟩) ?_ ?_;rotate_left
        ·
         intro w'
         go_simp
         with_reducible rfl
        rotate_left
        ·
         simp only [Act.put,zi,zj,zk,zG,zH]
         rfl
        refine done_ (done_of HT_.out (by kernel_rfl)) ?_
        try go_wp2
        go_roundg k1
        case measure=>have:=HK1.out;omega
        case rel=>exact ⟨(t401),(wrap64 (x9_1+1)),(by first|rfl|(simp;done)|(simp [*];done)),H',⟨by have:=HK1.out;omega⟩,⟨by (with_reducible repeat (first|apply zm|apply zn|apply zo));exact HO403.out⟩,⟨by (with_reducible repeat first|apply ze|apply zf|apply zg);exact BK389.out⟩,⟨by repeat (with_reducible first|exact HB.out|apply za|apply zb|apply zc|refine zd ?_ GE389.out|refine zd ?_ GE394.out)⟩⟩
       rw [if_neg c9] at H;exact absurd H (by simp)
      rw [if_neg c8] at H;exact absurd H (by simp)
     rw [if_neg c7] at H;exact absurd H (by simp)
    rw [if_neg c6] at H;exact absurd H (by simp)
   rw [if_neg c5] at H;have c5b0 : decide (x9_1<(l0.length : Int))=false:=decide_eq_false c5;clear c5;simp only [Option.some.injEq,Prod.mk.injEq] at H;obtain ⟨rfl,rfl,rfl⟩:=H;have hcv20:=own_string (P:=Try.prog) Try.underlying33 Try.underlying5 Try.underlying9 (Kd.own_of_R HO_3.out);obtain ⟨hcz21_0,hcz21_1,hcz21_2,hfz21_0,hfz21_1,hfz21_2⟩:=cB3 BK389.out
   go_wp2
   refine bodyPost_ret (results_cell_row rfl _ _ gb389 25 #[.int .i64 5,.int .i64 0,.string (strOfNums x3_1)] (0,0) _ rfl (by (with_reducible repeat first|apply ze|apply zf|apply zg);refine zL (cs:=#[.int .i64 5,.int .i64 0,.string (⟨#[]⟩ : ByteArray)]) ?_ 2 _ rfl;(with_reducible repeat first|apply ze|apply zf|apply zg);refine zL (cs:=#[.int .i64 5,.int .i64 0,.string (⟨#[]⟩ : ByteArray)]) ?_ 1 _ rfl;(with_reducible repeat first|apply ze|apply zf|apply zg);refine zL (cs:=#[.int .i64 0,.int .i64 0,.string (⟨#[]⟩ : ByteArray)]) ?_ 0 _ rfl;(with_reducible repeat first|apply ze|apply zf|apply zg);exact BK389.out) Try.underlying25 rfl (by kernel_rfl)) rfl ?_;exact ⟨by first|rfl|(simp [yt,yu] <;> rfl)|(simp [*,yt,yu] <;> rfl),by repeat (with_reducible first|exact HB.out|apply za|apply zb|apply zc|refine zd ?_ GE389.out)⟩


def Ff.l0 : Nat→List (S43)→List (S43)→Int→Int→Option (Int×Int×ByteArray×Int)
 | 0,_,_,_,_=>none
 | k+1,x4,x20,x21,x22=>if x22<x21 then (if 0≤x22 then (if x22<(x20.length : Int) then ((Fu.f k x4 ((rd_T43 x20 x22).f0)).bind fun bt417=>((Fw.f k ((rd_T43 x20 x22).f0)).bind fun t419=>(if t419=true then ((F02.f k ((rd_T43 x20 x22).f1.f0) ((rd_T43 x20 x22).f1.f1) ((rd_T43 x20 x22).f1.f2)).bind fun t420=>(if t420=true then (if bt417.2=true then (some (0,0,(⟨#[]⟩ : ByteArray),12)) else ((F00.f k x4 ((rd_T43 x20 x22).f0) ((rd_T43 x20 x22).f1.f0) ((rd_T43 x20 x22).f1.f1) ((rd_T43 x20 x22).f1.f2)).bind fun t421=>(Ff.l0 k t421 x20 x21 (wrap64 (x22+1))))) else (some (0,0,(⟨#[]⟩ : ByteArray),1)))) else (some (0,0,(⟨#[]⟩ : ByteArray),11))))) else (none)) else (none)) else ((Fg.f k x4).bind fun bt408=>((F05.f k bt408.1 bt408.2.1 bt408.2.2).bind fun bt411=>(some (bt411.1,bt411.2.1,bt411.2.2.1,bt411.2.2.2))))
def Ff.f (k : Nat) (l0 : List (S43)) : Option (Int×Int×ByteArray×Int):=if (l0.length : Int) > 4096 then (some (0,0,(⟨#[]⟩ : ByteArray),2)) else (if (l0.length : Int) > 300 then (some (0,0,(⟨#[]⟩ : ByteArray),10)) else (Ff.l0 k (([] : List (S43))) l0 (l0.length : Int) 0))
theorem Ff.mono_l : ∀ k,(∀ y0 y1 y2 y3,LeO (Ff.l0 k y0 y1 y2 y3) (Ff.l0 (k+1) y0 y1 y2 y3))
 | 0=>fun _ _ _ _ r h=>by simp [Ff.l0] at h
 | k+1=>by
  have ih0:=Ff.mono_l k;intro y0 y1 y2 y3;unfold Ff.l0
  repeat' first|(with_reducible first|exact ih0 _ _ _ _|exact Fu.mono _ _ _|exact Fw.mono _ _|exact F02.mono _ _ _ _|exact F00.mono _ _ _ _ _ _|exact F05.mono _ _ _ _|exact Fg.mono _ _|exact zQ _|exact zN _|refine zP ?_ ?_|refine zO ?_ (fun _=>?_))|refine zP ?_ ?_|refine zO ?_ (fun _=>?_)
theorem Ff.mono : ∀ a0 k,LeO (Ff.f k a0) (Ff.f (k+1) a0):=by
 intro a0 k;have ih0:=Ff.mono_l k;unfold Ff.f
 repeat' first|(with_reducible first|exact ih0 _ _ _ _|exact Fu.mono _ _ _|exact Fw.mono _ _|exact F02.mono _ _ _ _|exact F00.mono _ _ _ _ _ _|exact F05.mono _ _ _ _|exact Fg.mono _ _|exact zQ _|exact zN _|refine zP ?_ ?_|refine zO ?_ (fun _=>?_))|refine zP ?_ ?_|refine zO ?_ (fun _=>?_)
set_option maxHeartbeats 8000000 in
set_option maxRecDepth 100000 in
theorem Ff.calls (k : Nat) (A0 : Option Addr) (c0 : Nat) (l0 : List (S43)) (r1 : Int) (r2 : Int) (r3 : ByteArray) (r4 : Int) (w : World) (hr0 : Kd.C k43 w A0 l0.length l0) (hc0 : l0.length≤c0) (h : Ff.f k l0=some (r1,r2,r3,r4)) :
  Calls Try.prog 8 #[.slice A0 l0.length c0] w fun e w' => e = .returned (.tuple #[.agg #[.int .i64 r1,.int .i64 r2,.string r3],.int .i64 r4])∧Below w.heap.size w w':=by
 have hu25:=Try.underlying25;have hu43:=Try.underlying43;have HR0:=zh hr0;have HC0:=zh hc0;clear hr0 hc0;have HB:=zh (Below.refl w.heap.size w);have H : (if (l0.length : Int) > 4096 then (some (0,0,(⟨#[]⟩ : ByteArray),2)) else (if (l0.length : Int) > 300 then (some (0,0,(⟨#[]⟩ : ByteArray),10)) else (Ff.l0 k (([] : List (S43))) l0 (l0.length : Int) 0)))=some (r1,r2,r3,r4):=h;clear h
 by_cases c2 : (l0.length : Int) > 4096
 ·
  rw [if_pos c2] at H
  have c2b0 : decide (4096<(l0.length : Int))=true:=decide_eq_true c2;have c2b1 : decide (4096<l0.length)=true:=decide_eq_true (by omega);clear c2;simp only [Option.some.injEq,Prod.mk.injEq] at H;obtain ⟨rfl,rfl,rfl,rfl⟩:=H
  go_enter Try.func8,Try.ntmps8
  go_wp2_with (first|((with_reducible refine zK (N:=2) rfl ?_);refine zI ?hg (N:=2) ?hd (cs:=#[.int .i64 0,.int .i64 0,.string (⟨#[]⟩ : ByteArray)]) (t:=25) ?hr ?_;(case hd=>rfl);(case hg=>rfl);(case hr=>go_simp <;> rfl);intro gb404 hg w3 hbox hb;have BK404:=zh (hbox);have hH_:=cH (by repeat (with_reducible first|exact HB.out|apply za|apply zb|apply zc)) hb hg;have GW404:=zh hH_.1;have GE404:=GW404;replace HB:=zh hH_.2;clear hb hbox hg hH_;obtain ⟨hcz4_0,hcz4_1,hcz4_2,hfz4_0,hfz4_1,hfz4_2⟩:=cB3 BK404.out))
  refine bodyPost_ret (results_ct rfl _ _ gb404 25 #[.int .i64 0,.int .i64 0,.string (⟨#[]⟩ : ByteArray)] (0,0) _ rfl (by (with_reducible repeat first|apply ze|apply zf|apply zg);refine zL (cs:=#[.int .i64 0,.int .i64 0,.string (⟨#[]⟩ : ByteArray)]) ?_ 2 _ rfl;(with_reducible repeat first|apply ze|apply zf|apply zg);refine zL (cs:=#[.int .i64 0,.int .i64 0,.string (⟨#[]⟩ : ByteArray)]) ?_ 1 _ rfl;(with_reducible repeat first|apply ze|apply zf|apply zg);refine zL (cs:=#[.int .i64 0,.int .i64 0,.string (⟨#[]⟩ : ByteArray)]) ?_ 0 _ rfl;(with_reducible repeat first|apply ze|apply zf|apply zg);exact BK404.out) Try.underlying25 rfl (by kernel_rfl)) rfl ?_;exact ⟨by first|rfl|(simp [yt,yu] <;> rfl)|(simp [*,yt,yu] <;> rfl),by repeat (with_reducible first|exact HB.out|apply za|apply zb|apply zc|refine zd ?_ GE404.out)⟩
 rw [if_neg c2] at H;have c2b0 : decide (4096<(l0.length : Int))=false:=decide_eq_false c2;have c2b1 : decide (4096<l0.length)=false:=decide_eq_false (by omega);clear c2
 by_cases c5 : (l0.length : Int) > 300
 ·
  rw [if_pos c5] at H
  have c5b0 : decide (300<(l0.length : Int))=true:=decide_eq_true c5;have c5b1 : decide (300<l0.length)=true:=decide_eq_true (by omega);clear c5;simp only [Option.some.injEq,Prod.mk.injEq] at H;obtain ⟨rfl,rfl,rfl,rfl⟩:=H
  go_enter Try.func8,Try.ntmps8
  go_wp2_with (first|((with_reducible refine zK (N:=2) rfl ?_);refine zI ?hg (N:=2) ?hd (cs:=#[.int .i64 0,.int .i64 0,.string (⟨#[]⟩ : ByteArray)]) (t:=25) ?hr ?_;(case hd=>rfl);(case hg=>rfl);(case hr=>go_simp <;> rfl);intro gb404 hg w6 hbox hb;have BK404:=zh (hbox);have hH_:=cH (by repeat (with_reducible first|exact HB.out|apply za|apply zb|apply zc)) hb hg;have GW404:=zh hH_.1;have GE404:=GW404;replace HB:=zh hH_.2;clear hb hbox hg hH_;obtain ⟨hcz7_0,hcz7_1,hcz7_2,hfz7_0,hfz7_1,hfz7_2⟩:=cB3 BK404.out))
  refine bodyPost_ret (results_ct rfl _ _ gb404 25 #[.int .i64 0,.int .i64 0,.string (⟨#[]⟩ : ByteArray)] (0,0) _ rfl (by (with_reducible repeat first|apply ze|apply zf|apply zg);refine zL (cs:=#[.int .i64 0,.int .i64 0,.string (⟨#[]⟩ : ByteArray)]) ?_ 2 _ rfl;(with_reducible repeat first|apply ze|apply zf|apply zg);refine zL (cs:=#[.int .i64 0,.int .i64 0,.string (⟨#[]⟩ : ByteArray)]) ?_ 1 _ rfl;(with_reducible repeat first|apply ze|apply zf|apply zg);refine zL (cs:=#[.int .i64 0,.int .i64 0,.string (⟨#[]⟩ : ByteArray)]) ?_ 0 _ rfl;(with_reducible repeat first|apply ze|apply zf|apply zg);exact BK404.out) Try.underlying25 rfl (by kernel_rfl)) rfl ?_;exact ⟨by first|rfl|(simp [yt,yu] <;> rfl)|(simp [*,yt,yu] <;> rfl),by repeat (with_reducible first|exact HB.out|apply za|apply zb|apply zc|refine zd ?_ GE404.out)⟩
 rw [if_neg c5] at H;have c5b0 : decide (300<(l0.length : Int))=false:=decide_eq_false c5;have c5b1 : decide (300<l0.length)=false:=decide_eq_false (by omega);clear c5;obtain ⟨y405,hy405⟩ : ∃ y_ : List (S43),y_=(([] : List (S43))):=⟨_,rfl⟩;replace H : (Ff.l0 k y405 l0 (l0.length : Int) 0)=some (r1,r2,r3,r4):=by first|(rw [hy405];with_reducible exact H)|(have H2_:=(Option.bind_some _ _).symm.trans H;rw [hy405];with_reducible exact H2_)|(have H2_:=(Option.bind_some _ _).symm.trans H;with_reducible exact H2_)|with_reducible exact H|(rw [hy405];exact H)|exact H
 have Ny405:=zh hy405;clear hy405;have H':=zh H;clear H
 go_enter Try.func8,Try.ntmps8
 go_wp2_with (first|((with_reducible refine zK (N:=2) rfl ?_);refine zI ?hg (N:=2) ?hd (cs:=#[.int .i64 0,.int .i64 0,.string (⟨#[]⟩ : ByteArray)]) (t:=25) ?hr ?_;(case hd=>rfl);(case hg=>rfl);(case hr=>go_simp <;> rfl);intro gb404 hg w8 hbox hb;have BK404:=zh (hbox);have hH_:=cH (by repeat (with_reducible first|exact HB.out|apply za|apply zb|apply zc)) hb hg;have GW404:=zh hH_.1;have GE404:=GW404;replace HB:=zh hH_.2;clear hb hbox hg hH_)|((with_reducible refine zK (N:=19) rfl ?_);refine Kd.R_lit k43 _ 43 ?hg (N:=19) ?hd (xs:=([] : List (S43))) (inner:=[]) (ok:=fun _=>True) (okp:=fun _=>True) ?hr ?hp (fun _ hk=>hk) trivial (Below.refl _ _) (ye _) (by simp) ?_;(case hd=>rfl);(case hg=>rfl);(case hr=>go_simp <;> rfl);(case hp=>exact (Reps.none _ _));intro v406 w9 ho10 hb hg_ hnew_;clear hg_ hnew_;(first|rw [← Ny405.out] at ho10|(simp only [Int.reduceToNat] at ho10;rw [← Ny405.out] at ho10));have HO407:=zh (yy ho10 (zB (by repeat (with_reducible first|exact HB.out|apply za|apply zb|apply zc|refine zd ?_ GE404.out))));replace BK404:=zh (cD BK404.out (by (with_reducible repeat first|apply ze|apply zf|apply zg);exact BK404.out) hb);replace HB:=zh (zC (by repeat (with_reducible first|exact HB.out|apply za|apply zb|apply zc|refine zd ?_ GE404.out)) hb);clear hb ho10))
 go_loopg [4,22] k (fun kq v4 v22 w' => ∃ (x4_1 : List (S43)) (x22_1 : Int) (x405000_1 : Int) (x405001_1 : Int) (x405002_1 : ByteArray),v22 = .int .i64 x22_1∧Aside0 (Ff.l0 kq x4_1 l0 (l0.length : Int) x22_1=some (r1,r2,r3,r4))∧Aside0 (kq≤k)∧Aside0 (Kd.R k43 43 w' w.heap.size (fun _=>True) v4 x4_1)∧Aside0 (w'.heap[gb404]? = some (.cells #[.int .i64 x405000_1,.int .i64 x405001_1,.string x405002_1] 25 (0,0)))∧Aside0 (Below w.heap.size w w'))
 case atStart=>exact ⟨(y405),(0),(0),(0),((⟨#[]⟩ : ByteArray)),(by first|rfl|(simp;done)|(simp [*];done)),H',⟨ye _⟩,⟨by (with_reducible repeat (first|apply zm|apply zn|apply zo));exact HO407.out⟩,⟨by (with_reducible repeat first|apply ze|apply zf|apply zg);exact BK404.out⟩,⟨by repeat (with_reducible first|exact HB.out|apply za|apply zb|apply zc|refine zd ?_ GE404.out)⟩⟩
 case round =>
  clear H'
  try clear c2 c2b0 c2b1
  try clear p2
  try clear c5 c5b0 c5b1 c8
  try clear hcz4_0 hcz4_1 hcz4_2
  try clear hcz7_0 hcz7_1 hcz7_2
  try clear hfz4_0 hfz4_1 hfz4_2
  try clear hfz7_0 hfz7_1 hfz7_2
  obtain ⟨x4_1,x22_1,x405000_1,x405001_1,x405002_1,rfl,HA,HK1,HO_4,BK404,HB⟩:=hrel
  cases gk with
  | zero=>exact absurd HA.out (by simp [Ff.l0])
  | succ k1 =>
   have H:=HA.out;clear HA;simp only [Ff.l0] at H
   by_cases c11 : x22_1<(l0.length : Int)
   ·
    rw [if_pos c11] at H
    have c11b0 : decide (x22_1<(l0.length : Int))=true:=decide_eq_true c11;clear c11
    by_cases c12 : 0≤x22_1
    ·
     rw [if_pos c12] at H
     have c12b0 : decide (0≤x22_1)=true:=decide_eq_true c12;clear c12
     by_cases c13 : x22_1<(l0.length : Int)
     ·
      rw [if_pos c13] at H
      have c13b0 : decide (x22_1<(l0.length : Int))=true:=decide_eq_true c13;clear c13;replace H:=zT.mp H;obtain ⟨⟨t417,t418⟩,A140,H⟩:=H;replace H : ((Fw.f k1 ((rd_T43 l0 x22_1).f0)).bind fun t419=>(if t419=true then ((F02.f k1 ((rd_T43 l0 x22_1).f1.f0) ((rd_T43 l0 x22_1).f1.f1) ((rd_T43 l0 x22_1).f1.f2)).bind fun t420=>(if t420=true then (if t418=true then (some (0,0,(⟨#[]⟩ : ByteArray),12)) else ((F00.f k1 x4_1 ((rd_T43 l0 x22_1).f0) ((rd_T43 l0 x22_1).f1.f0) ((rd_T43 l0 x22_1).f1.f1) ((rd_T43 l0 x22_1).f1.f2)).bind fun t421=>(Ff.l0 k1 t421 l0 (l0.length : Int) (wrap64 (x22_1+1))))) else (some (0,0,(⟨#[]⟩ : ByteArray),1)))) else (some (0,0,(⟨#[]⟩ : ByteArray),11))))=some (r1,r2,r3,r4):=H;have A14:=zh A140;clear A140;replace H:=zT.mp H;obtain ⟨t419,A150,H⟩:=H;replace H : (if t419=true then ((F02.f k1 ((rd_T43 l0 x22_1).f1.f0) ((rd_T43 l0 x22_1).f1.f1) ((rd_T43 l0 x22_1).f1.f2)).bind fun t420=>(if t420=true then (if t418=true then (some (0,0,(⟨#[]⟩ : ByteArray),12)) else ((F00.f k1 x4_1 ((rd_T43 l0 x22_1).f0) ((rd_T43 l0 x22_1).f1.f0) ((rd_T43 l0 x22_1).f1.f1) ((rd_T43 l0 x22_1).f1.f2)).bind fun t421=>(Ff.l0 k1 t421 l0 (l0.length : Int) (wrap64 (x22_1+1))))) else (some (0,0,(⟨#[]⟩ : ByteArray),1)))) else (some (0,0,(⟨#[]⟩ : ByteArray),11)))=some (r1,r2,r3,r4):=H;have A15:=zh A150;clear A150
      by_cases c16 : t419=true
      ·
       subst c16
       have H1 : ((F02.f k1 ((rd_T43 l0 x22_1).f1.f0) ((rd_T43 l0 x22_1).f1.f1) ((rd_T43 l0 x22_1).f1.f2)).bind fun t420=>(if t420=true then (if t418=true then (some (0,0,(⟨#[]⟩ : ByteArray),12)) else ((F00.f k1 x4_1 ((rd_T43 l0 x22_1).f0) ((rd_T43 l0 x22_1).f1.f0) ((rd_T43 l0 x22_1).f1.f1) ((rd_T43 l0 x22_1).f1.f2)).bind fun t421=>(Ff.l0 k1 t421 l0 (l0.length : Int) (wrap64 (x22_1+1))))) else (some (0,0,(⟨#[]⟩ : ByteArray),1))))=some (r1,r2,r3,r4):=by rw [if_pos rfl] at H;exact H
       clear H;have H:=H1;clear H1;replace H:=zT.mp H;obtain ⟨t420,A170,H⟩:=H;replace H : (if t420=true then (if t418=true then (some (0,0,(⟨#[]⟩ : ByteArray),12)) else ((F00.f k1 x4_1 ((rd_T43 l0 x22_1).f0) ((rd_T43 l0 x22_1).f1.f0) ((rd_T43 l0 x22_1).f1.f1) ((rd_T43 l0 x22_1).f1.f2)).bind fun t421=>(Ff.l0 k1 t421 l0 (l0.length : Int) (wrap64 (x22_1+1))))) else (some (0,0,(⟨#[]⟩ : ByteArray),1)))=some (r1,r2,r3,r4):=H;have A17:=zh A170;clear A170
       by_cases c18 : t420=true
       ·
        subst c18
        have H1 : (if t418=true then (some (0,0,(⟨#[]⟩ : ByteArray),12)) else ((F00.f k1 x4_1 ((rd_T43 l0 x22_1).f0) ((rd_T43 l0 x22_1).f1.f0) ((rd_T43 l0 x22_1).f1.f1) ((rd_T43 l0 x22_1).f1.f2)).bind fun t421=>(Ff.l0 k1 t421 l0 (l0.length : Int) (wrap64 (x22_1+1)))))=some (r1,r2,r3,r4):=by rw [if_pos rfl] at H;exact H
        clear H;have H:=H1;clear H1
        by_cases c19 : t418=true
        ·
         subst c19
         have H1 : (some (0,0,(⟨#[]⟩ : ByteArray),12))=some (r1,r2,r3,r4):=by rw [if_pos rfl] at H;exact H
         clear H;have H:=H1;clear H1;simp only [Option.some.injEq,Prod.mk.injEq] at H;obtain ⟨rfl,rfl,rfl,rfl⟩:=H;have p415 : 0≤(x22_1 : Int):=zy (by first|(with_reducible assumption)|assumption);have q415 : x22_1<(l0.length : Int):=zy (by first|(with_reducible assumption)|assumption);obtain ⟨ad415,e415,hx415_0,hx415_1,hx415_2,hx415_3⟩:=at_T43 HR0.out x22_1 p415 q415
         cases e415
         replace hx415_0:=(HB.out.cell (zl w _ hx415_0)).trans hx415_0;replace hx415_1:=(HB.out.cell (zl w _ hx415_1)).trans hx415_1;replace hx415_2:=(HB.out.cell (zl w _ hx415_2)).trans hx415_2;replace hx415_3:=(HB.out.cell (zl w _ hx415_3)).trans hx415_3;replace p415:=eq_true p415;replace q415:=eq_true q415
         go_wp2_with (first|((with_reducible refine zK (N:=6) rfl ?_);refine zI ?hg (N:=6) ?hd (cs:=#[.string (⟨#[]⟩ : ByteArray),.int .i64 0,.int .i64 0,.string (⟨#[]⟩ : ByteArray)]) (t:=43) ?hr ?_;(case hd=>rfl);(case hg=>rfl);(case hr=>go_simp <;> rfl);intro gb416 hg w20 hbox hb;replace HO_4:=zh (yg (Kd.R_elderB (by (with_reducible repeat (first|apply zm|apply zn|apply zo));exact HO_4.out) gb416 (Nat.le_of_eq hg.symm)) hb);have BK416:=zh (hbox);have hH_:=cH (by repeat (with_reducible first|exact HB.out|apply za|apply zb|apply zc|refine zd ?_ GE404.out)) hb hg;have GW416:=zh hH_.1;have GE416:=GW416;replace HB:=zh hH_.2;have NB404_416:=zh ((by rw [hg];exact yc (yi (g:=gb404) (o:=.cells #[.int .i64 x405000_1,.int .i64 x405001_1,.string x405002_1] 25 (0,0)) (by (with_reducible repeat first|apply ze|apply zf|apply zg);exact BK404.out)) : gb404≠gb416));have NB416_404:=zh NB404_416.out.symm;replace BK404:=zh (cD BK404.out (by (with_reducible repeat first|apply ze|apply zf|apply zg);exact BK404.out) hb);clear hb hbox hg hH_;have hnb21:=NB416_404.out;have hnc21:=NB404_416.out;obtain ⟨hcz22_0,hcz22_1,hcz22_2,hcz22_3,hfz22_0,hfz22_1,hfz22_2,hfz22_3⟩:=cB4 BK416.out;obtain ⟨Ao23,co23,eo23⟩:=yk HO_4.out;subst eo23)|((with_reducible refine zJ (f:=24) rfl ?_);refine yj (some 30) rfl rfl Try.func24 (by kernel_rfl) rfl #[.slice Ao23 x4_1.length co23,.string ((rd_T43 l0 x22_1).f0)] rfl (by (try simp only [zt,zu,zv]);first|done|rfl|(simp only [zw,zx];rfl)|(simp only [yr,ys,zV,zW];rfl)) ?_;(with_reducible refine (Fu.calls k1  _ _ x4_1 ((rd_T43 l0 x22_1).f0) t417 true _ ?side1 ?side2 A14.out).mono ?_);(case side1=>refine (yh (e:=43) (base:=w.heap.size) (ok:=fun k_=>(True∧k_≠gb416)) (n:=x4_1.length) (c:=co23) ?_).2.2;exact (by (with_reducible repeat (first|apply zm|apply zn|apply zo));exact (zM (zE (p:=⟨gb416,3,none⟩) (zE (p:=⟨gb416,2,none⟩) (zE (p:=⟨gb416,1,none⟩) (zE (p:=⟨gb416,0,none⟩) (zM HO_4.out (fun k_ hk=>(⟨hk,hk.2⟩ : _∧k_≠gb416))) (fun _ hk=>hk.2) (.string ((rd_T43 l0 x22_1).f0))) (fun _ hk=>hk.2) (.int .i64 ((rd_T43 l0 x22_1).f1.f0))) (fun _ hk=>hk.2) (.int .i64 ((rd_T43 l0 x22_1).f1.f1))) (fun _ hk=>hk.2) (.string ((rd_T43 l0 x22_1).f1.f2))) (fun _ h_=>h_.1))));(case side2=>exact (yh HO_4.out).2.1);rintro e w24 ⟨rfl,hb⟩;refine ⟨_,rfl,?_⟩;replace HO_4:=zh (yg (by (with_reducible repeat (first|apply zm|apply zn|apply zo));exact (zM (zE (p:=⟨gb416,3,none⟩) (zE (p:=⟨gb416,2,none⟩) (zE (p:=⟨gb416,1,none⟩) (zE (p:=⟨gb416,0,none⟩) (zM HO_4.out (fun k_ hk=>(⟨hk,hk.2⟩ : _∧k_≠gb416))) (fun _ hk=>hk.2) (.string ((rd_T43 l0 x22_1).f0))) (fun _ hk=>hk.2) (.int .i64 ((rd_T43 l0 x22_1).f1.f0))) (fun _ hk=>hk.2) (.int .i64 ((rd_T43 l0 x22_1).f1.f1))) (fun _ hk=>hk.2) (.string ((rd_T43 l0 x22_1).f1.f2))) (fun _ h_=>h_.1))) hb);replace BK404:=zh (cD BK404.out (by (with_reducible repeat first|apply ze|apply zf|apply zg);refine cS4 ?_ NB404_416.out;(with_reducible repeat first|apply ze|apply zf|apply zg);exact BK404.out) hb);replace BK416:=zh (zD (g:=gb416) (o:=.cells #[.string ((rd_T43 l0 x22_1).f0),.int .i64 ((rd_T43 l0 x22_1).f1.f0),.int .i64 ((rd_T43 l0 x22_1).f1.f1),.string ((rd_T43 l0 x22_1).f1.f2)] 43 (0,0)) (by (with_reducible repeat first|apply ze|apply zf|apply zg);refine zL (cs:=#[.string ((rd_T43 l0 x22_1).f0),.int .i64 ((rd_T43 l0 x22_1).f1.f0),.int .i64 ((rd_T43 l0 x22_1).f1.f1),.string (⟨#[]⟩ : ByteArray)]) ?_ 3 _ rfl;(with_reducible repeat first|apply ze|apply zf|apply zg);refine zL (cs:=#[.string ((rd_T43 l0 x22_1).f0),.int .i64 ((rd_T43 l0 x22_1).f1.f0),.int .i64 0,.string (⟨#[]⟩ : ByteArray)]) ?_ 2 _ rfl;(with_reducible repeat first|apply ze|apply zf|apply zg);refine zL (cs:=#[.string ((rd_T43 l0 x22_1).f0),.int .i64 0,.int .i64 0,.string (⟨#[]⟩ : ByteArray)]) ?_ 1 _ rfl;(with_reducible repeat first|apply ze|apply zf|apply zg);refine zL (cs:=#[.string (⟨#[]⟩ : ByteArray),.int .i64 0,.int .i64 0,.string (⟨#[]⟩ : ByteArray)]) ?_ 0 _ rfl;(with_reducible repeat first|apply ze|apply zf|apply zg);exact BK416.out) hb);replace HB:=zh (zC (by repeat (with_reducible first|exact HB.out|apply za|apply zb|apply zc|refine zd ?_ GE404.out|refine zd ?_ GE416.out)) hb);(try clear hb);(try clear hb2);(try clear hk);(try clear hi);obtain ⟨hcz25_0,hcz25_1,hcz25_2,hcz25_3,hfz25_0,hfz25_1,hfz25_2,hfz25_3⟩:=cB4 BK416.out)|((with_reducible refine zJ (f:=25) rfl ?_);refine yj (some 36) rfl rfl Try.func25 (by kernel_rfl) rfl #[.string ((rd_T43 l0 x22_1).f0)] rfl (by (try simp only [zt,zu,zv]);first|done|rfl|(simp only [zw,zx];rfl)|(simp only [yr,ys,zV,zW];rfl)) ?_;(with_reducible refine (Fw.calls k1  ((rd_T43 l0 x22_1).f0) true _ A15.out).mono ?_);rintro e w' ⟨rfl,⟨nd,rfl⟩⟩;refine ⟨_,rfl,?_⟩;(try (rw [drewN_self w24];generalize hq_ : World.drewN w24 _=w24;replace HO_4 : Aside0 (Kd.R k43 43 w24 w.heap.size (fun k_=>k_≠gb416) (.slice Ao23 x4_1.length co23) x4_1):=⟨by rw [← hq_];exact (by (with_reducible repeat (first|apply zm|apply zn|apply zo));exact zM HO_4.out (fun _ hk=>hk.2))⟩;replace BK404 : Aside0 (w24.heap[gb404]? = some (.cells #[.int .i64 x405000_1,.int .i64 x405001_1,.string x405002_1] 25 (0,0))):=⟨by rw [← hq_];exact (by (with_reducible repeat first|apply ze|apply zf|apply zg);exact BK404.out)⟩;replace BK416 : Aside0 (w24.heap[gb416]? = some (.cells #[.string ((rd_T43 l0 x22_1).f0),.int .i64 ((rd_T43 l0 x22_1).f1.f0),.int .i64 ((rd_T43 l0 x22_1).f1.f1),.string ((rd_T43 l0 x22_1).f1.f2)] 43 (0,0))):=⟨by rw [← hq_];exact (by (with_reducible repeat first|apply ze|apply zf|apply zg);exact BK416.out)⟩;replace HB : Aside0 (Below w.heap.size w w24):=⟨by rw [← hq_];exact (by repeat (with_reducible first|exact HB.out|apply za|apply zb|apply zc|refine zd ?_ GE404.out|refine zd ?_ GE416.out))⟩;clear hq_;obtain ⟨hcz25_0,hcz25_1,hcz25_2,hcz25_3,hfz25_0,hfz25_1,hfz25_2,hfz25_3⟩:=cB4 BK416.out)))|((with_reducible refine zJ (f:=26) rfl ?_);refine yj (some 42) rfl rfl Try.func26 (by kernel_rfl) rfl #[.agg #[.int .i64 ((rd_T43 l0 x22_1).f1.f0),.int .i64 ((rd_T43 l0 x22_1).f1.f1),.string ((rd_T43 l0 x22_1).f1.f2)]] rfl (by (try simp only [zt,zu,zv]);first|done|rfl|(simp only [zw,zx];rfl)|(simp only [yr,ys,zV,zW];rfl)) ?_;(with_reducible refine (F02.calls k1  ((rd_T43 l0 x22_1).f1.f0) ((rd_T43 l0 x22_1).f1.f1) ((rd_T43 l0 x22_1).f1.f2) true _ A17.out).mono ?_);rintro e w26 ⟨rfl,hb⟩;refine ⟨_,rfl,?_⟩;replace HO_4:=zh (yg (by (with_reducible repeat (first|apply zm|apply zn|apply zo));exact HO_4.out) hb);replace BK404:=zh (cD BK404.out (by (with_reducible repeat first|apply ze|apply zf|apply zg);exact BK404.out) hb);replace BK416:=zh (cD BK416.out (by (with_reducible repeat first|apply ze|apply zf|apply zg);exact BK416.out) hb);replace HB:=zh (zC (by repeat (with_reducible first|exact HB.out|apply za|apply zb|apply zc|refine zd ?_ GE404.out|refine zd ?_ GE416.out)) hb);(try clear hb);(try clear hb2);(try clear hk);(try clear hi);obtain ⟨hcz27_0,hcz27_1,hcz27_2,hfz27_0,hfz27_1,hfz27_2⟩:=cB3 BK404.out))
         refine bodyPost_ret (results_ct rfl _ _ gb404 25 #[.int .i64 0,.int .i64 0,.string (⟨#[]⟩ : ByteArray)] (0,0) _ rfl (by (with_reducible repeat first|apply ze|apply zf|apply zg);refine zL (cs:=#[.int .i64 0,.int .i64 0,.string x405002_1]) ?_ 2 _ rfl;(with_reducible repeat first|apply ze|apply zf|apply zg);refine zL (cs:=#[.int .i64 0,.int .i64 x405001_1,.string x405002_1]) ?_ 1 _ rfl;(with_reducible repeat first|apply ze|apply zf|apply zg);refine zL (cs:=#[.int .i64 x405000_1,.int .i64 x405001_1,.string x405002_1]) ?_ 0 _ rfl;(with_reducible repeat first|apply ze|apply zf|apply zg);exact BK404.out) Try.underlying25 rfl (by kernel_rfl)) rfl ?_;exact ⟨by first|rfl|(simp [yt,yu] <;> rfl)|(simp [*,yt,yu] <;> rfl),by repeat (with_reducible first|exact HB.out|apply za|apply zb|apply zc|refine zd ?_ GE404.out|refine zd ?_ GE416.out)⟩
        replace c19:=yb.mpr c19;subst c19;have H1 : ((F00.f k1 x4_1 ((rd_T43 l0 x22_1).f0) ((rd_T43 l0 x22_1).f1.f0) ((rd_T43 l0 x22_1).f1.f1) ((rd_T43 l0 x22_1).f1.f2)).bind fun t421=>(Ff.l0 k1 t421 l0 (l0.length : Int) (wrap64 (x22_1+1))))=some (r1,r2,r3,r4):=by rw [if_neg (show ¬ (false=true) by decide)] at H;exact H
        clear H;have H:=H1;clear H1;replace H:=zT.mp H;obtain ⟨t421,A280,H⟩:=H;replace H : (Ff.l0 k1 t421 l0 (l0.length : Int) (wrap64 (x22_1+1)))=some (r1,r2,r3,r4):=H;have A28:=zh A280;clear A280;have H':=zh H;clear H;have p415 : 0≤(x22_1 : Int):=zy (by first|(with_reducible assumption)|assumption);have q415 : x22_1<(l0.length : Int):=zy (by first|(with_reducible assumption)|assumption);obtain ⟨ad415,e415,hx415_0,hx415_1,hx415_2,hx415_3⟩:=at_T43 HR0.out x22_1 p415 q415
        cases e415
        replace hx415_0:=(HB.out.cell (zl w _ hx415_0)).trans hx415_0;replace hx415_1:=(HB.out.cell (zl w _ hx415_1)).trans hx415_1;replace hx415_2:=(HB.out.cell (zl w _ hx415_2)).trans hx415_2;replace hx415_3:=(HB.out.cell (zl w _ hx415_3)).trans hx415_3;replace p415:=eq_true p415;replace q415:=eq_true q415
        go_wp2_with (first|((with_reducible refine zK (N:=6) rfl ?_);refine zI ?hg (N:=6) ?hd (cs:=#[.string (⟨#[]⟩ : ByteArray),.int .i64 0,.int .i64 0,.string (⟨#[]⟩ : ByteArray)]) (t:=43) ?hr ?_;(case hd=>rfl);(case hg=>rfl);(case hr=>go_simp <;> rfl);intro gb416 hg w29 hbox hb;replace HO_4:=zh (yg (Kd.R_elderB (by (with_reducible repeat (first|apply zm|apply zn|apply zo));exact HO_4.out) gb416 (Nat.le_of_eq hg.symm)) hb);have BK416:=zh (hbox);have hH_:=cH (by repeat (with_reducible first|exact HB.out|apply za|apply zb|apply zc|refine zd ?_ GE404.out)) hb hg;have GW416:=zh hH_.1;have GE416:=GW416;replace HB:=zh hH_.2;have NB404_416:=zh ((by rw [hg];exact yc (yi (g:=gb404) (o:=.cells #[.int .i64 x405000_1,.int .i64 x405001_1,.string x405002_1] 25 (0,0)) (by (with_reducible repeat first|apply ze|apply zf|apply zg);exact BK404.out)) : gb404≠gb416));have NB416_404:=zh NB404_416.out.symm;replace BK404:=zh (cD BK404.out (by (with_reducible repeat first|apply ze|apply zf|apply zg);exact BK404.out) hb);clear hb hbox hg hH_;have hnb30:=NB416_404.out;have hnc30:=NB404_416.out;obtain ⟨hcz31_0,hcz31_1,hcz31_2,hcz31_3,hfz31_0,hfz31_1,hfz31_2,hfz31_3⟩:=cB4 BK416.out;obtain ⟨Ao32,co32,eo32⟩:=yk HO_4.out;subst eo32)|((with_reducible refine zJ (f:=24) rfl ?_);refine yj (some 30) rfl rfl Try.func24 (by kernel_rfl) rfl #[.slice Ao32 x4_1.length co32,.string ((rd_T43 l0 x22_1).f0)] rfl (by (try simp only [zt,zu,zv]);first|done|rfl|(simp only [zw,zx];rfl)|(simp only [yr,ys,zV,zW];rfl)) ?_;(with_reducible refine (Fu.calls k1  _ _ x4_1 ((rd_T43 l0 x22_1).f0) t417 false _ ?side1 ?side2 A14.out).mono ?_);(case side1=>refine (yh (e:=43) (base:=w.heap.size) (ok:=fun k_=>(True∧k_≠gb416)) (n:=x4_1.length) (c:=co32) ?_).2.2;exact (by (with_reducible repeat (first|apply zm|apply zn|apply zo));exact (zM (zE (p:=⟨gb416,3,none⟩) (zE (p:=⟨gb416,2,none⟩) (zE (p:=⟨gb416,1,none⟩) (zE (p:=⟨gb416,0,none⟩) (zM HO_4.out (fun k_ hk=>(⟨hk,hk.2⟩ : _∧k_≠gb416))) (fun _ hk=>hk.2) (.string ((rd_T43 l0 x22_1).f0))) (fun _ hk=>hk.2) (.int .i64 ((rd_T43 l0 x22_1).f1.f0))) (fun _ hk=>hk.2) (.int .i64 ((rd_T43 l0 x22_1).f1.f1))) (fun _ hk=>hk.2) (.string ((rd_T43 l0 x22_1).f1.f2))) (fun _ h_=>h_.1))));(case side2=>exact (yh HO_4.out).2.1);rintro e w33 ⟨rfl,hb⟩;refine ⟨_,rfl,?_⟩;replace HO_4:=zh (yg (by (with_reducible repeat (first|apply zm|apply zn|apply zo));exact (zM (zE (p:=⟨gb416,3,none⟩) (zE (p:=⟨gb416,2,none⟩) (zE (p:=⟨gb416,1,none⟩) (zE (p:=⟨gb416,0,none⟩) (zM HO_4.out (fun k_ hk=>(⟨hk,hk.2⟩ : _∧k_≠gb416))) (fun _ hk=>hk.2) (.string ((rd_T43 l0 x22_1).f0))) (fun _ hk=>hk.2) (.int .i64 ((rd_T43 l0 x22_1).f1.f0))) (fun _ hk=>hk.2) (.int .i64 ((rd_T43 l0 x22_1).f1.f1))) (fun _ hk=>hk.2) (.string ((rd_T43 l0 x22_1).f1.f2))) (fun _ h_=>h_.1))) hb);replace BK404:=zh (cD BK404.out (by (with_reducible repeat first|apply ze|apply zf|apply zg);refine cS4 ?_ NB404_416.out;(with_reducible repeat first|apply ze|apply zf|apply zg);exact BK404.out) hb);replace BK416:=zh (zD (g:=gb416) (o:=.cells #[.string ((rd_T43 l0 x22_1).f0),.int .i64 ((rd_T43 l0 x22_1).f1.f0),.int .i64 ((rd_T43 l0 x22_1).f1.f1),.string ((rd_T43 l0 x22_1).f1.f2)] 43 (0,0)) (by (with_reducible repeat first|apply ze|apply zf|apply zg);refine zL (cs:=#[.string ((rd_T43 l0 x22_1).f0),.int .i64 ((rd_T43 l0 x22_1).f1.f0),.int .i64 ((rd_T43 l0 x22_1).f1.f1),.string (⟨#[]⟩ : ByteArray)]) ?_ 3 _ rfl;(with_reducible repeat first|apply ze|apply zf|apply zg);refine zL (cs:=#[.string ((rd_T43 l0 x22_1).f0),.int .i64 ((rd_T43 l0 x22_1).f1.f0),.int .i64 0,.string (⟨#[]⟩ : ByteArray)]) ?_ 2 _ rfl;(with_reducible repeat first|apply ze|apply zf|apply zg);refine zL (cs:=#[.string ((rd_T43 l0 x22_1).f0),.int .i64 0,.int .i64 0,.string (⟨#[]⟩ : ByteArray)]) ?_ 1 _ rfl;(with_reducible repeat first|apply ze|apply zf|apply zg);refine zL (cs:=#[.string (⟨#[]⟩ : ByteArray),.int .i64 0,.int .i64 0,.string (⟨#[]⟩ : ByteArray)]) ?_ 0 _ rfl;(with_reducible repeat first|apply ze|apply zf|apply zg);exact BK416.out) hb);replace HB:=zh (zC (by repeat (with_reducible first|exact HB.out|apply za|apply zb|apply zc|refine zd ?_ GE404.out|refine zd ?_ GE416.out)) hb);(try clear hb);(try clear hb2);(try clear hk);(try clear hi);obtain ⟨hcz34_0,hcz34_1,hcz34_2,hcz34_3,hfz34_0,hfz34_1,hfz34_2,hfz34_3⟩:=cB4 BK416.out)|((with_reducible refine zJ (f:=25) rfl ?_);refine yj (some 36) rfl rfl Try.func25 (by kernel_rfl) rfl #[.string ((rd_T43 l0 x22_1).f0)] rfl (by (try simp only [zt,zu,zv]);first|done|rfl|(simp only [zw,zx];rfl)|(simp only [yr,ys,zV,zW];rfl)) ?_;(with_reducible refine (Fw.calls k1  ((rd_T43 l0 x22_1).f0) true _ A15.out).mono ?_);rintro e w' ⟨rfl,⟨nd,rfl⟩⟩;refine ⟨_,rfl,?_⟩)|((with_reducible refine zJ (f:=26) rfl ?_);refine yj (some 42) rfl rfl Try.func26 (by kernel_rfl) rfl #[.agg #[.int .i64 ((rd_T43 l0 x22_1).f1.f0),.int .i64 ((rd_T43 l0 x22_1).f1.f1),.string ((rd_T43 l0 x22_1).f1.f2)]] rfl (by (try simp only [zt,zu,zv]);first|done|rfl|(simp only [zw,zx];rfl)|(simp only [yr,ys,zV,zW];rfl)) ?_;(with_reducible refine (F02.calls k1  ((rd_T43 l0 x22_1).f1.f0) ((rd_T43 l0 x22_1).f1.f1) ((rd_T43 l0 x22_1).f1.f2) true _ A17.out).mono ?_);rintro e w35 ⟨rfl,hb⟩;refine ⟨_,rfl,?_⟩;replace HO_4:=zh (yg (by (with_reducible repeat (first|apply zm|apply zn|apply zo));exact HO_4.out) hb);replace BK404:=zh (cD BK404.out (by (with_reducible repeat first|apply ze|apply zf|apply zg);exact BK404.out) hb);replace BK416:=zh (cD BK416.out (by (with_reducible repeat first|apply ze|apply zf|apply zg);exact BK416.out) hb);replace HB:=zh (zC (by repeat (with_reducible first|exact HB.out|apply za|apply zb|apply zc|refine zd ?_ GE404.out|refine zd ?_ GE416.out)) hb);(try clear hb);(try clear hb2);(try clear hk);(try clear hi);obtain ⟨hcz36_0,hcz36_1,hcz36_2,hcz36_3,hfz36_0,hfz36_1,hfz36_2,hfz36_3⟩:=cB4 BK416.out)|((with_reducible refine zJ (f:=27) rfl ?_);refine yj (some 50) rfl rfl Try.func27 (by kernel_rfl) rfl #[.slice Ao32 x4_1.length co32,.agg #[.string ((rd_T43 l0 x22_1).f0),.int .i64 ((rd_T43 l0 x22_1).f1.f0),.int .i64 ((rd_T43 l0 x22_1).f1.f1),.string ((rd_T43 l0 x22_1).f1.f2)]] rfl (by (try simp only [zt,zu,zv]);first|done|rfl|(simp only [zw,zx];rfl)|(simp only [yr,ys,zV,zW];rfl)) ?_;(with_reducible refine (F00.calls k1  (fun k_=>some k_=(.slice Ao32 x4_1.length co32 : Value).ownBlock) (.slice Ao32 x4_1.length co32) x4_1 ((rd_T43 l0 x22_1).f0) ((rd_T43 l0 x22_1).f1.f0) ((rd_T43 l0 x22_1).f1.f1) ((rd_T43 l0 x22_1).f1.f2) t421 w _ ?side1 ?side2 A28.out).mono ?_);(case side1=>repeat (with_reducible first|exact HB.out|apply za|apply zb|apply zc|refine zd ?_ GE404.out|refine zd ?_ GE416.out));(case side2=>exact Kd.R_tight rfl HO_4.out);rintro e w37 ⟨v422,rfl,ho0,hb,hkp⟩;refine ⟨_,rfl,?_⟩;replace BK404:=zh (blk_kept (by (with_reducible repeat first|apply ze|apply zf|apply zg);exact BK404.out) hkp (fun hs_=>(fun e_=>(Kd.R_ne HO_4.out BK404.out (by decide)) e_) hs_));have HO423:=zh (zM (ok':=fun k_=>k_≠gb416) ho0 (fun k_ hk_=>Or.elim hk_ (fun hs_=>fun e_=>(yv HO_4.out (fun _ hk=>hk.2)) (by rw [← e_];exact hs_)) (fun hn_=>(Kd.freshB (g:=gb416) (o:=.cells #[.string ((rd_T43 l0 x22_1).f0),.int .i64 ((rd_T43 l0 x22_1).f1.f0),.int .i64 ((rd_T43 l0 x22_1).f1.f1),.string ((rd_T43 l0 x22_1).f1.f2)] 43 (0,0)) (by (with_reducible repeat first|apply ze|apply zf|apply zg);exact BK416.out) k_ hn_))));replace BK416:=zh (blk_kept (by (with_reducible repeat first|apply ze|apply zf|apply zg);exact BK416.out) hkp (fun hs_=>(fun e_=>(yv HO_4.out (fun _ hk=>hk.2)) e_) hs_));replace HB:=zh (hb);clear HO_4;(try clear hb);(try clear hkp);(try clear ho0)))
        go_roundg k1
        case measure=>have:=HK1.out;omega
        case rel=>exact ⟨(t421),(wrap64 (x22_1+1)),(x405000_1),(x405001_1),(x405002_1),(by first|rfl|(simp;done)|(simp [*];done)),H',⟨by have:=HK1.out;omega⟩,⟨by (with_reducible repeat (first|apply zm|apply zn|apply zo));exact zM HO423.out (fun _ hk=>trivial)⟩,⟨by (with_reducible repeat first|apply ze|apply zf|apply zg);exact BK404.out⟩,⟨by repeat (with_reducible first|exact HB.out|apply za|apply zb|apply zc|refine zd ?_ GE404.out|refine zd ?_ GE416.out)⟩⟩
       replace c18:=yb.mpr c18;subst c18;have H1 : (some (0,0,(⟨#[]⟩ : ByteArray),1))=some (r1,r2,r3,r4):=by rw [if_neg (show ¬ (false=true) by decide)] at H;exact H
       clear H;have H:=H1;clear H1;simp only [Option.some.injEq,Prod.mk.injEq] at H;obtain ⟨rfl,rfl,rfl,rfl⟩:=H;have p415 : 0≤(x22_1 : Int):=zy (by first|(with_reducible assumption)|assumption);have q415 : x22_1<(l0.length : Int):=zy (by first|(with_reducible assumption)|assumption);obtain ⟨ad415,e415,hx415_0,hx415_1,hx415_2,hx415_3⟩:=at_T43 HR0.out x22_1 p415 q415
       cases e415
       replace hx415_0:=(HB.out.cell (zl w _ hx415_0)).trans hx415_0;replace hx415_1:=(HB.out.cell (zl w _ hx415_1)).trans hx415_1;replace hx415_2:=(HB.out.cell (zl w _ hx415_2)).trans hx415_2;replace hx415_3:=(HB.out.cell (zl w _ hx415_3)).trans hx415_3;replace p415:=eq_true p415;replace q415:=eq_true q415
       go_wp2_with (first|((with_reducible refine zK (N:=6) rfl ?_);refine zI ?hg (N:=6) ?hd (cs:=#[.string (⟨#[]⟩ : ByteArray),.int .i64 0,.int .i64 0,.string (⟨#[]⟩ : ByteArray)]) (t:=43) ?hr ?_;(case hd=>rfl);(case hg=>rfl);(case hr=>go_simp <;> rfl);intro gb416 hg w38 hbox hb;replace HO_4:=zh (yg (Kd.R_elderB (by (with_reducible repeat (first|apply zm|apply zn|apply zo));exact HO_4.out) gb416 (Nat.le_of_eq hg.symm)) hb);have BK416:=zh (hbox);have hH_:=cH (by repeat (with_reducible first|exact HB.out|apply za|apply zb|apply zc|refine zd ?_ GE404.out)) hb hg;have GW416:=zh hH_.1;have GE416:=GW416;replace HB:=zh hH_.2;have NB404_416:=zh ((by rw [hg];exact yc (yi (g:=gb404) (o:=.cells #[.int .i64 x405000_1,.int .i64 x405001_1,.string x405002_1] 25 (0,0)) (by (with_reducible repeat first|apply ze|apply zf|apply zg);exact BK404.out)) : gb404≠gb416));have NB416_404:=zh NB404_416.out.symm;replace BK404:=zh (cD BK404.out (by (with_reducible repeat first|apply ze|apply zf|apply zg);exact BK404.out) hb);clear hb hbox hg hH_;have hnb39:=NB416_404.out;have hnc39:=NB404_416.out;obtain ⟨hcz40_0,hcz40_1,hcz40_2,hcz40_3,hfz40_0,hfz40_1,hfz40_2,hfz40_3⟩:=cB4 BK416.out;obtain ⟨Ao41,co41,eo41⟩:=yk HO_4.out;subst eo41)|((with_reducible refine zJ (f:=24) rfl ?_);refine yj (some 30) rfl rfl Try.func24 (by kernel_rfl) rfl #[.slice Ao41 x4_1.length co41,.string ((rd_T43 l0 x22_1).f0)] rfl (by (try simp only [zt,zu,zv]);first|done|rfl|(simp only [zw,zx];rfl)|(simp only [yr,ys,zV,zW];rfl)) ?_;(with_reducible refine (Fu.calls k1  _ _ x4_1 ((rd_T43 l0 x22_1).f0) t417 t418 _ ?side1 ?side2 A14.out).mono ?_);(case side1=>refine (yh (e:=43) (base:=w.heap.size) (ok:=fun k_=>(True∧k_≠gb416)) (n:=x4_1.length) (c:=co41) ?_).2.2;exact (by (with_reducible repeat (first|apply zm|apply zn|apply zo));exact (zM (zE (p:=⟨gb416,3,none⟩) (zE (p:=⟨gb416,2,none⟩) (zE (p:=⟨gb416,1,none⟩) (zE (p:=⟨gb416,0,none⟩) (zM HO_4.out (fun k_ hk=>(⟨hk,hk.2⟩ : _∧k_≠gb416))) (fun _ hk=>hk.2) (.string ((rd_T43 l0 x22_1).f0))) (fun _ hk=>hk.2) (.int .i64 ((rd_T43 l0 x22_1).f1.f0))) (fun _ hk=>hk.2) (.int .i64 ((rd_T43 l0 x22_1).f1.f1))) (fun _ hk=>hk.2) (.string ((rd_T43 l0 x22_1).f1.f2))) (fun _ h_=>h_.1))));(case side2=>exact (yh HO_4.out).2.1);rintro e w42 ⟨rfl,hb⟩;refine ⟨_,rfl,?_⟩;replace HO_4:=zh (yg (by (with_reducible repeat (first|apply zm|apply zn|apply zo));exact (zM (zE (p:=⟨gb416,3,none⟩) (zE (p:=⟨gb416,2,none⟩) (zE (p:=⟨gb416,1,none⟩) (zE (p:=⟨gb416,0,none⟩) (zM HO_4.out (fun k_ hk=>(⟨hk,hk.2⟩ : _∧k_≠gb416))) (fun _ hk=>hk.2) (.string ((rd_T43 l0 x22_1).f0))) (fun _ hk=>hk.2) (.int .i64 ((rd_T43 l0 x22_1).f1.f0))) (fun _ hk=>hk.2) (.int .i64 ((rd_T43 l0 x22_1).f1.f1))) (fun _ hk=>hk.2) (.string ((rd_T43 l0 x22_1).f1.f2))) (fun _ h_=>h_.1))) hb);replace BK404:=zh (cD BK404.out (by (with_reducible repeat first|apply ze|apply zf|apply zg);refine cS4 ?_ NB404_416.out;(with_reducible repeat first|apply ze|apply zf|apply zg);exact BK404.out) hb);replace BK416:=zh (zD (g:=gb416) (o:=.cells #[.string ((rd_T43 l0 x22_1).f0),.int .i64 ((rd_T43 l0 x22_1).f1.f0),.int .i64 ((rd_T43 l0 x22_1).f1.f1),.string ((rd_T43 l0 x22_1).f1.f2)] 43 (0,0)) (by (with_reducible repeat first|apply ze|apply zf|apply zg);refine zL (cs:=#[.string ((rd_T43 l0 x22_1).f0),.int .i64 ((rd_T43 l0 x22_1).f1.f0),.int .i64 ((rd_T43 l0 x22_1).f1.f1),.string (⟨#[]⟩ : ByteArray)]) ?_ 3 _ rfl;(with_reducible repeat first|apply ze|apply zf|apply zg);refine zL (cs:=#[.string ((rd_T43 l0 x22_1).f0),.int .i64 ((rd_T43 l0 x22_1).f1.f0),.int .i64 0,.string (⟨#[]⟩ : ByteArray)]) ?_ 2 _ rfl;(with_reducible repeat first|apply ze|apply zf|apply zg);refine zL (cs:=#[.string ((rd_T43 l0 x22_1).f0),.int .i64 0,.int .i64 0,.string (⟨#[]⟩ : ByteArray)]) ?_ 1 _ rfl;(with_reducible repeat first|apply ze|apply zf|apply zg);refine zL (cs:=#[.string (⟨#[]⟩ : ByteArray),.int .i64 0,.int .i64 0,.string (⟨#[]⟩ : ByteArray)]) ?_ 0 _ rfl;(with_reducible repeat first|apply ze|apply zf|apply zg);exact BK416.out) hb);replace HB:=zh (zC (by repeat (with_reducible first|exact HB.out|apply za|apply zb|apply zc|refine zd ?_ GE404.out|refine zd ?_ GE416.out)) hb);(try clear hb);(try clear hb2);(try clear hk);(try clear hi);obtain ⟨hcz43_0,hcz43_1,hcz43_2,hcz43_3,hfz43_0,hfz43_1,hfz43_2,hfz43_3⟩:=cB4 BK416.out)|((with_reducible refine zJ (f:=25) rfl ?_);refine yj (some 36) rfl rfl Try.func25 (by kernel_rfl) rfl #[.string ((rd_T43 l0 x22_1).f0)] rfl (by (try simp only [zt,zu,zv]);first|done|rfl|(simp only [zw,zx];rfl)|(simp only [yr,ys,zV,zW];rfl)) ?_;(with_reducible refine (Fw.calls k1  ((rd_T43 l0 x22_1).f0) true _ A15.out).mono ?_);rintro e w' ⟨rfl,⟨nd,rfl⟩⟩;refine ⟨_,rfl,?_⟩;(try (rw [drewN_self w42];generalize hq_ : World.drewN w42 _=w42;replace HO_4 : Aside0 (Kd.R k43 43 w42 w.heap.size (fun k_=>k_≠gb416) (.slice Ao41 x4_1.length co41) x4_1):=⟨by rw [← hq_];exact (by (with_reducible repeat (first|apply zm|apply zn|apply zo));exact zM HO_4.out (fun _ hk=>hk.2))⟩;replace BK404 : Aside0 (w42.heap[gb404]? = some (.cells #[.int .i64 x405000_1,.int .i64 x405001_1,.string x405002_1] 25 (0,0))):=⟨by rw [← hq_];exact (by (with_reducible repeat first|apply ze|apply zf|apply zg);exact BK404.out)⟩;replace BK416 : Aside0 (w42.heap[gb416]? = some (.cells #[.string ((rd_T43 l0 x22_1).f0),.int .i64 ((rd_T43 l0 x22_1).f1.f0),.int .i64 ((rd_T43 l0 x22_1).f1.f1),.string ((rd_T43 l0 x22_1).f1.f2)] 43 (0,0))):=⟨by rw [← hq_];exact (by (with_reducible repeat first|apply ze|apply zf|apply zg);exact BK416.out)⟩;replace HB : Aside0 (Below w.heap.size w w42):=⟨by rw [← hq_];exact (by repeat (with_reducible first|exact HB.out|apply za|apply zb|apply zc|refine zd ?_ GE404.out|refine zd ?_ GE416.out))⟩;clear hq_;obtain ⟨hcz43_0,hcz43_1,hcz43_2,hcz43_3,hfz43_0,hfz43_1,hfz43_2,hfz43_3⟩:=cB4 BK416.out)))|((with_reducible refine zJ (f:=26) rfl ?_);refine yj (some 42) rfl rfl Try.func26 (by kernel_rfl) rfl #[.agg #[.int .i64 ((rd_T43 l0 x22_1).f1.f0),.int .i64 ((rd_T43 l0 x22_1).f1.f1),.string ((rd_T43 l0 x22_1).f1.f2)]] rfl (by (try simp only [zt,zu,zv]);first|done|rfl|(simp only [zw,zx];rfl)|(simp only [yr,ys,zV,zW];rfl)) ?_;(with_reducible refine (F02.calls k1  ((rd_T43 l0 x22_1).f1.f0) ((rd_T43 l0 x22_1).f1.f1) ((rd_T43 l0 x22_1).f1.f2) false _ A17.out).mono ?_);rintro e w44 ⟨rfl,hb⟩;refine ⟨_,rfl,?_⟩;replace HO_4:=zh (yg (by (with_reducible repeat (first|apply zm|apply zn|apply zo));exact HO_4.out) hb);replace BK404:=zh (cD BK404.out (by (with_reducible repeat first|apply ze|apply zf|apply zg);exact BK404.out) hb);replace BK416:=zh (cD BK416.out (by (with_reducible repeat first|apply ze|apply zf|apply zg);exact BK416.out) hb);replace HB:=zh (zC (by repeat (with_reducible first|exact HB.out|apply za|apply zb|apply zc|refine zd ?_ GE404.out|refine zd ?_ GE416.out)) hb);(try clear hb);(try clear hb2);(try clear hk);(try clear hi);obtain ⟨hcz45_0,hcz45_1,hcz45_2,hfz45_0,hfz45_1,hfz45_2⟩:=cB3 BK404.out))
       refine bodyPost_ret (results_ct rfl _ _ gb404 25 #[.int .i64 0,.int .i64 0,.string (⟨#[]⟩ : ByteArray)] (0,0) _ rfl (by (with_reducible repeat first|apply ze|apply zf|apply zg);refine zL (cs:=#[.int .i64 0,.int .i64 0,.string x405002_1]) ?_ 2 _ rfl;(with_reducible repeat first|apply ze|apply zf|apply zg);refine zL (cs:=#[.int .i64 0,.int .i64 x405001_1,.string x405002_1]) ?_ 1 _ rfl;(with_reducible repeat first|apply ze|apply zf|apply zg);refine zL (cs:=#[.int .i64 x405000_1,.int .i64 x405001_1,.string x405002_1]) ?_ 0 _ rfl;(with_reducible repeat first|apply ze|apply zf|apply zg);exact BK404.out) Try.underlying25 rfl (by kernel_rfl)) rfl ?_;exact ⟨by first|rfl|(simp [yt,yu] <;> rfl)|(simp [*,yt,yu] <;> rfl),by repeat (with_reducible first|exact HB.out|apply za|apply zb|apply zc|refine zd ?_ GE404.out|refine zd ?_ GE416.out)⟩
      replace c16:=yb.mpr c16;subst c16;have H1 : (some (0,0,(⟨#[]⟩ : ByteArray),11))=some (r1,r2,r3,r4):=by rw [if_neg (show ¬ (false=true) by decide)] at H;exact H
      clear H;have H:=H1;clear H1;simp only [Option.some.injEq,Prod.mk.injEq] at H;obtain ⟨rfl,rfl,rfl,rfl⟩:=H;have p415 : 0≤(x22_1 : Int):=zy (by first|(with_reducible assumption)|assumption);have q415 : x22_1<(l0.length : Int):=zy (by first|(with_reducible assumption)|assumption);obtain ⟨ad415,e415,hx415_0,hx415_1,hx415_2,hx415_3⟩:=at_T43 HR0.out x22_1 p415 q415
      cases e415
      replace hx415_0:=(HB.out.cell (zl w _ hx415_0)).trans hx415_0;replace hx415_1:=(HB.out.cell (zl w _ hx415_1)).trans hx415_1;replace hx415_2:=(HB.out.cell (zl w _ hx415_2)).trans hx415_2;replace hx415_3:=(HB.out.cell (zl w _ hx415_3)).trans hx415_3;replace p415:=eq_true p415;replace q415:=eq_true q415
      go_wp2_with (first|((with_reducible refine zK (N:=6) rfl ?_);refine zI ?hg (N:=6) ?hd (cs:=#[.string (⟨#[]⟩ : ByteArray),.int .i64 0,.int .i64 0,.string (⟨#[]⟩ : ByteArray)]) (t:=43) ?hr ?_;(case hd=>rfl);(case hg=>rfl);(case hr=>go_simp <;> rfl);intro gb416 hg w46 hbox hb;replace HO_4:=zh (yg (Kd.R_elderB (by (with_reducible repeat (first|apply zm|apply zn|apply zo));exact HO_4.out) gb416 (Nat.le_of_eq hg.symm)) hb);have BK416:=zh (hbox);have hH_:=cH (by repeat (with_reducible first|exact HB.out|apply za|apply zb|apply zc|refine zd ?_ GE404.out)) hb hg;have GW416:=zh hH_.1;have GE416:=GW416;replace HB:=zh hH_.2;have NB404_416:=zh ((by rw [hg];exact yc (yi (g:=gb404) (o:=.cells #[.int .i64 x405000_1,.int .i64 x405001_1,.string x405002_1] 25 (0,0)) (by (with_reducible repeat first|apply ze|apply zf|apply zg);exact BK404.out)) : gb404≠gb416));have NB416_404:=zh NB404_416.out.symm;replace BK404:=zh (cD BK404.out (by (with_reducible repeat first|apply ze|apply zf|apply zg);exact BK404.out) hb);clear hb hbox hg hH_;have hnb47:=NB416_404.out;have hnc47:=NB404_416.out;obtain ⟨hcz48_0,hcz48_1,hcz48_2,hcz48_3,hfz48_0,hfz48_1,hfz48_2,hfz48_3⟩:=cB4 BK416.out;obtain ⟨Ao49,co49,eo49⟩:=yk HO_4.out;subst eo49)|((with_reducible refine zJ (f:=24) rfl ?_);refine yj (some 30) rfl rfl Try.func24 (by kernel_rfl) rfl #[.slice Ao49 x4_1.length co49,.string ((rd_T43 l0 x22_1).f0)] rfl (by (try simp only [zt,zu,zv]);first|done|rfl|(simp only [zw,zx];rfl)|(simp only [yr,ys,zV,zW];rfl)) ?_;(with_reducible refine (Fu.calls k1  _ _ x4_1 ((rd_T43 l0 x22_1).f0) t417 t418 _ ?side1 ?side2 A14.out).mono ?_);(case side1=>refine (yh (e:=43) (base:=w.heap.size) (ok:=fun k_=>(True∧k_≠gb416)) (n:=x4_1.length) (c:=co49) ?_).2.2;exact (by (with_reducible repeat (first|apply zm|apply zn|apply zo));exact (zM (zE (p:=⟨gb416,3,none⟩) (zE (p:=⟨gb416,2,none⟩) (zE (p:=⟨gb416,1,none⟩) (zE (p:=⟨gb416,0,none⟩) (zM HO_4.out (fun k_ hk=>(⟨hk,hk.2⟩ : _∧k_≠gb416))) (fun _ hk=>hk.2) (.string ((rd_T43 l0 x22_1).f0))) (fun _ hk=>hk.2) (.int .i64 ((rd_T43 l0 x22_1).f1.f0))) (fun _ hk=>hk.2) (.int .i64 ((rd_T43 l0 x22_1).f1.f1))) (fun _ hk=>hk.2) (.string ((rd_T43 l0 x22_1).f1.f2))) (fun _ h_=>h_.1))));(case side2=>exact (yh HO_4.out).2.1);rintro e w50 ⟨rfl,hb⟩;refine ⟨_,rfl,?_⟩;replace HO_4:=zh (yg (by (with_reducible repeat (first|apply zm|apply zn|apply zo));exact (zM (zE (p:=⟨gb416,3,none⟩) (zE (p:=⟨gb416,2,none⟩) (zE (p:=⟨gb416,1,none⟩) (zE (p:=⟨gb416,0,none⟩) (zM HO_4.out (fun k_ hk=>(⟨hk,hk.2⟩ : _∧k_≠gb416))) (fun _ hk=>hk.2) (.string ((rd_T43 l0 x22_1).f0))) (fun _ hk=>hk.2) (.int .i64 ((rd_T43 l0 x22_1).f1.f0))) (fun _ hk=>hk.2) (.int .i64 ((rd_T43 l0 x22_1).f1.f1))) (fun _ hk=>hk.2) (.string ((rd_T43 l0 x22_1).f1.f2))) (fun _ h_=>h_.1))) hb);replace BK404:=zh (cD BK404.out (by (with_reducible repeat first|apply ze|apply zf|apply zg);refine cS4 ?_ NB404_416.out;(with_reducible repeat first|apply ze|apply zf|apply zg);exact BK404.out) hb);replace BK416:=zh (zD (g:=gb416) (o:=.cells #[.string ((rd_T43 l0 x22_1).f0),.int .i64 ((rd_T43 l0 x22_1).f1.f0),.int .i64 ((rd_T43 l0 x22_1).f1.f1),.string ((rd_T43 l0 x22_1).f1.f2)] 43 (0,0)) (by (with_reducible repeat first|apply ze|apply zf|apply zg);refine zL (cs:=#[.string ((rd_T43 l0 x22_1).f0),.int .i64 ((rd_T43 l0 x22_1).f1.f0),.int .i64 ((rd_T43 l0 x22_1).f1.f1),.string (⟨#[]⟩ : ByteArray)]) ?_ 3 _ rfl;(with_reducible repeat first|apply ze|apply zf|apply zg);refine zL (cs:=#[.string ((rd_T43 l0 x22_1).f0),.int .i64 ((rd_T43 l0 x22_1).f1.f0),.int .i64 0,.string (⟨#[]⟩ : ByteArray)]) ?_ 2 _ rfl;(with_reducible repeat first|apply ze|apply zf|apply zg);refine zL (cs:=#[.string ((rd_T43 l0 x22_1).f0),.int .i64 0,.int .i64 0,.string (⟨#[]⟩ : ByteArray)]) ?_ 1 _ rfl;(with_reducible repeat first|apply ze|apply zf|apply zg);refine zL (cs:=#[.string (⟨#[]⟩ : ByteArray),.int .i64 0,.int .i64 0,.string (⟨#[]⟩ : ByteArray)]) ?_ 0 _ rfl;(with_reducible repeat first|apply ze|apply zf|apply zg);exact BK416.out) hb);replace HB:=zh (zC (by repeat (with_reducible first|exact HB.out|apply za|apply zb|apply zc|refine zd ?_ GE404.out|refine zd ?_ GE416.out)) hb);(try clear hb);(try clear hb2);(try clear hk);(try clear hi);obtain ⟨hcz51_0,hcz51_1,hcz51_2,hcz51_3,hfz51_0,hfz51_1,hfz51_2,hfz51_3⟩:=cB4 BK416.out)|((with_reducible refine zJ (f:=25) rfl ?_);refine yj (some 36) rfl rfl Try.func25 (by kernel_rfl) rfl #[.string ((rd_T43 l0 x22_1).f0)] rfl (by (try simp only [zt,zu,zv]);first|done|rfl|(simp only [zw,zx];rfl)|(simp only [yr,ys,zV,zW];rfl)) ?_;(with_reducible refine (Fw.calls k1  ((rd_T43 l0 x22_1).f0) false _ A15.out).mono ?_);rintro e w' ⟨rfl,⟨nd,rfl⟩⟩;refine ⟨_,rfl,?_⟩;(try (rw [drewN_self w50];generalize hq_ : World.drewN w50 _=w50;replace HO_4 : Aside0 (Kd.R k43 43 w50 w.heap.size (fun k_=>k_≠gb416) (.slice Ao49 x4_1.length co49) x4_1):=⟨by rw [← hq_];exact (by (with_reducible repeat (first|apply zm|apply zn|apply zo));exact zM HO_4.out (fun _ hk=>hk.2))⟩;replace BK404 : Aside0 (w50.heap[gb404]? = some (.cells #[.int .i64 x405000_1,.int .i64 x405001_1,.string x405002_1] 25 (0,0))):=⟨by rw [← hq_];exact (by (with_reducible repeat first|apply ze|apply zf|apply zg);exact BK404.out)⟩;replace BK416 : Aside0 (w50.heap[gb416]? = some (.cells #[.string ((rd_T43 l0 x22_1).f0),.int .i64 ((rd_T43 l0 x22_1).f1.f0),.int .i64 ((rd_T43 l0 x22_1).f1.f1),.string ((rd_T43 l0 x22_1).f1.f2)] 43 (0,0))):=⟨by rw [← hq_];exact (by (with_reducible repeat first|apply ze|apply zf|apply zg);exact BK416.out)⟩;replace HB : Aside0 (Below w.heap.size w w50):=⟨by rw [← hq_];exact (by repeat (with_reducible first|exact HB.out|apply za|apply zb|apply zc|refine zd ?_ GE404.out|refine zd ?_ GE416.out))⟩;clear hq_));obtain ⟨hcz52_0,hcz52_1,hcz52_2,hfz52_0,hfz52_1,hfz52_2⟩:=cB3 BK404.out))
      refine bodyPost_ret (results_ct rfl _ _ gb404 25 #[.int .i64 0,.int .i64 0,.string (⟨#[]⟩ : ByteArray)] (0,0) _ rfl (by (with_reducible repeat first|apply ze|apply zf|apply zg);refine zL (cs:=#[.int .i64 0,.int .i64 0,.string x405002_1]) ?_ 2 _ rfl;(with_reducible repeat first|apply ze|apply zf|apply zg);refine zL (cs:=#[.int .i64 0,.int .i64 x405001_1,.string x405002_1]) ?_ 1 _ rfl;(with_reducible repeat first|apply ze|apply zf|apply zg);refine zL (cs:=#[.int .i64 x405000_1,.int .i64 x405001_1,.string x405002_1]) ?_ 0 _ rfl;(with_reducible repeat first|apply ze|apply zf|apply zg);exact BK404.out) Try.underlying25 rfl (by kernel_rfl)) rfl ?_;exact ⟨by first|rfl|(simp [yt,yu] <;> rfl)|(simp [*,yt,yu] <;> rfl),by repeat (with_reducible first|exact HB.out|apply za|apply zb|apply zc|refine zd ?_ GE404.out|refine zd ?_ GE416.out)⟩
     rw [if_neg c13] at H;exact absurd H (by simp)
    rw [if_neg c12] at H;exact absurd H (by simp)
   rw [if_neg c11] at H;have c11b0 : decide (x22_1<(l0.length : Int))=false:=decide_eq_false c11;clear c11;replace H:=zT.mp H;obtain ⟨⟨t408,t409,t410⟩,A530,H⟩:=H;replace H : ((F05.f k1 t408 t409 t410).bind fun bt411=>(some (bt411.1,bt411.2.1,bt411.2.2.1,bt411.2.2.2)))=some (r1,r2,r3,r4):=H;have A53:=zh A530;clear A530;replace H:=zT.mp H;obtain ⟨⟨t411,t412,t413,t414⟩,A540,H⟩:=H;replace H : (some (t411,t412,t413,t414))=some (r1,r2,r3,r4):=H;have A54:=zh A540;clear A540;simp only [Option.some.injEq,Prod.mk.injEq] at H;obtain ⟨rfl,rfl,rfl,rfl⟩:=H;obtain ⟨Ao55,co55,eo55⟩:=yk HO_4.out;subst eo55
   go_wp2_with (first|((with_reducible refine zJ (f:=29) rfl ?_);refine yj (some 53) rfl rfl Try.func29 (by kernel_rfl) rfl #[.slice Ao55 x4_1.length co55] rfl (by (try simp only [zt,zu,zv]);first|done|rfl|(simp only [zw,zx];rfl)|(simp only [yr,ys,zV,zW];rfl)) ?_;(with_reducible refine (Fg.calls k1  _ _ x4_1 t408 t409 t410 _ ?side1 ?side2 A53.out).mono ?_);(case side1=>repeat (first|exact (yh HO_4.out).2.2|(with_reducible refine Kd.C_alloc ?_ _)|(with_reducible refine Kd.C_drewN ?_ _)|(with_reducible refine Kd.C_drew ?_)));(case side2=>exact (yh HO_4.out).2.1);rintro e w56 ⟨rfl,hb⟩;refine ⟨_,rfl,?_⟩;replace HO_4:=zh (yg (by (with_reducible repeat (first|apply zm|apply zn|apply zo));exact HO_4.out) hb);replace BK404:=zh (cD BK404.out (by (with_reducible repeat first|apply ze|apply zf|apply zg);exact BK404.out) hb);replace HB:=zh (zC (by repeat (with_reducible first|exact HB.out|apply za|apply zb|apply zc|refine zd ?_ GE404.out)) hb);(try clear hb);(try clear hb2);(try clear hk);(try clear hi))|((with_reducible refine zJ (f:=28) rfl ?_);refine yj (some 54) rfl rfl Try.func28 (by kernel_rfl) rfl #[.agg #[.int .i64 t408,.int .i64 t409,.string t410]] rfl (by (try simp only [zt,zu,zv]);first|done|rfl|(simp only [zw,zx];rfl)|(simp only [yr,ys,zV,zW];rfl)) ?_;(with_reducible refine (F05.calls k1  t408 t409 t410 t411 t412 t413 t414 _ A54.out).mono ?_);rintro e w57 ⟨rfl,hb⟩;refine ⟨_,rfl,?_⟩;replace HO_4:=zh (yg (by (with_reducible repeat (first|apply zm|apply zn|apply zo));exact HO_4.out) hb);replace BK404:=zh (cD BK404.out (by (with_reducible repeat first|apply ze|apply zf|apply zg);exact BK404.out) hb);replace HB:=zh (zC (by repeat (with_reducible first|exact HB.out|apply za|apply zb|apply zc|refine zd ?_ GE404.out)) hb);(try clear hb);(try clear hb2);(try clear hk);(try clear hi);obtain ⟨hcz58_0,hcz58_1,hcz58_2,hfz58_0,hfz58_1,hfz58_2⟩:=cB3 BK404.out))
   refine bodyPost_ret (results_ct rfl _ _ gb404 25 #[.int .i64 t411,.int .i64 t412,.string t413] (0,0) _ rfl (by (with_reducible repeat first|apply ze|apply zf|apply zg);refine zL (cs:=#[.int .i64 t411,.int .i64 t412,.string x405002_1]) ?_ 2 _ rfl;(with_reducible repeat first|apply ze|apply zf|apply zg);refine zL (cs:=#[.int .i64 t411,.int .i64 x405001_1,.string x405002_1]) ?_ 1 _ rfl;(with_reducible repeat first|apply ze|apply zf|apply zg);refine zL (cs:=#[.int .i64 x405000_1,.int .i64 x405001_1,.string x405002_1]) ?_ 0 _ rfl;(with_reducible repeat first|apply ze|apply zf|apply zg);exact BK404.out) Try.underlying25 rfl (by kernel_rfl)) rfl ?_;exact ⟨by first|rfl|(simp [yt,yu] <;> rfl)|(simp [*,yt,yu] <;> rfl),by repeat (with_reducible first|exact HB.out|apply za|apply zb|apply zc|refine zd ?_ GE404.out)⟩


def Fi.j0 : Nat→List (S50)→List (S43)→Bool→Option (Bool)
 | 0,_,_,_=>none
 | k+1,x0,x6,x35=>if x35=true then (some false) else ((Fe.f k x0).bind fun t450=>((Fd.f k x6 t450).bind fun t453=>(if t453=true then (some true) else (some false))))
def Fi.f (k : Nat) (l0 : List (S50)) : Option (Bool):=(Fs.f k l0 1048576).bind fun t432=>(if t432<0 then (some true) else ((Fe.f k l0).bind fun t433=>((F0.f k t433).bind fun bt436=>((Fe.f k l0).bind fun t441=>((Ff.f k t441).bind fun bt444=>((F01.f bt444.1 bt444.2.1 bt444.2.2.1 bt436.1 bt436.2.1 bt436.2.2.1).bind fun t449=>(if t449=true then (Fi.j0 k l0 t441 (bt444.2.2.2 != bt436.2.2.2)) else (Fi.j0 k l0 t441 true))))))))
theorem Fi.mono_l : ∀ k,(∀ y0 y1 y2,LeO (Fi.j0 k y0 y1 y2) (Fi.j0 (k+1) y0 y1 y2))
 | 0=>fun _ _ _ r h=>by simp [Fi.j0] at h
 | k+1=>by
  have ih0:=Fi.mono_l k;intro y0 y1 y2;unfold Fi.j0
  repeat' first|(with_reducible first|exact ih0 _ _ _|exact Fs.mono _ _ _|exact F0.mono _ _|exact Fe.mono _ _|exact Ff.mono _ _|exact Fd.mono _ _ _|exact zQ _|exact zN _|refine zP ?_ ?_|refine zO ?_ (fun _=>?_))|refine zP ?_ ?_|refine zO ?_ (fun _=>?_)
theorem Fi.mono : ∀ a0 k,LeO (Fi.f k a0) (Fi.f (k+1) a0):=by
 intro a0 k;have ih0:=Fi.mono_l k;unfold Fi.f
 repeat' first|(with_reducible first|exact ih0 _ _ _|exact Fs.mono _ _ _|exact F0.mono _ _|exact Fe.mono _ _|exact Ff.mono _ _|exact Fd.mono _ _ _|exact zQ _|exact zN _|refine zP ?_ ?_|refine zO ?_ (fun _=>?_))|refine zP ?_ ?_|refine zO ?_ (fun _=>?_)
set_option maxHeartbeats 8000000 in
set_option maxRecDepth 100000 in
theorem Fi.calls (k : Nat) (A0 : Option Addr) (c0 : Nat) (l0 : List (S50)) (r : Bool) (w : World) (hr0 : Kd.C k50 w A0 l0.length l0) (hc0 : l0.length≤c0) (h : Fi.f k l0=some r) :
  Calls Try.prog 3 #[.slice A0 l0.length c0] w fun e w' => e = .returned (.bool r)∧Below w.heap.size w w':=by
 have hu25:=Try.underlying25;have HR0:=zh hr0;have HC0:=zh hc0;clear hr0 hc0;have HB:=zh (Below.refl w.heap.size w);have H : ((Fs.f k l0 1048576).bind fun t432=>(if t432<0 then (some true) else ((Fe.f k l0).bind fun t433=>((F0.f k t433).bind fun bt436=>((Fe.f k l0).bind fun t441=>((Ff.f k t441).bind fun bt444=>((F01.f bt444.1 bt444.2.1 bt444.2.2.1 bt436.1 bt436.2.1 bt436.2.2.1).bind fun t449=>(if t449=true then (Fi.j0 k l0 t441 (bt444.2.2.2 != bt436.2.2.2)) else (Fi.j0 k l0 t441 true)))))))))=some r:=h;clear h;replace H:=zT.mp H;obtain ⟨t432,A20,H⟩:=H;replace H : (if t432<0 then (some true) else ((Fe.f k l0).bind fun t433=>((F0.f k t433).bind fun bt436=>((Fe.f k l0).bind fun t441=>((Ff.f k t441).bind fun bt444=>((F01.f bt444.1 bt444.2.1 bt444.2.2.1 bt436.1 bt436.2.1 bt436.2.2.1).bind fun t449=>(if t449=true then (Fi.j0 k l0 t441 (bt444.2.2.2 != bt436.2.2.2)) else (Fi.j0 k l0 t441 true))))))))=some r:=H;have A2:=zh A20;clear A20
 by_cases c3 : t432<0
 ·
  rw [if_pos c3] at H
  have c3b0 : decide (t432<0)=true:=decide_eq_true c3;clear c3;obtain rfl:=zU H
  go_enter Try.func3,Try.ntmps3
  go_wp2_with (first|((with_reducible refine zJ (f:=5) rfl ?_);refine yj (some 11) rfl rfl Try.func5 (by kernel_rfl) rfl #[.slice A0 l0.length c0,.int .i64 1048576] rfl (by (try simp only [zt,zu,zv]);first|done|rfl|(simp only [zw,zx];rfl)|(simp only [yr,ys,zV,zW];rfl)) ?_;(with_reducible refine (Fs.calls k  _ _ l0 1048576 t432 _ ?side1 ?side2 A2.out).mono ?_);(case side1=>repeat (first|exact HR0.out|(with_reducible refine Kd.C_alloc ?_ _)|(with_reducible refine Kd.C_drewN ?_ _)|(with_reducible refine Kd.C_drew ?_)));(case side2=>exact HC0.out);rintro e w4 ⟨rfl,hb⟩;refine ⟨_,rfl,?_⟩;replace HB:=zh (zC (by repeat (with_reducible first|exact HB.out|apply za|apply zb|apply zc)) hb);(try clear hb);(try clear hb2);(try clear hk);(try clear hi)))
  go_ret
  exact ⟨by first|rfl|(simp [yt,yu] <;> rfl)|(simp [*,yt,yu] <;> rfl),by repeat (with_reducible first|exact HB.out|apply za|apply zb|apply zc)⟩
 rw [if_neg c3] at H;have c3b0 : decide (t432<0)=false:=decide_eq_false c3;clear c3;replace H:=zT.mp H;obtain ⟨t433,A50,H⟩:=H;replace H : ((F0.f k t433).bind fun bt436=>((Fe.f k l0).bind fun t441=>((Ff.f k t441).bind fun bt444=>((F01.f bt444.1 bt444.2.1 bt444.2.2.1 bt436.1 bt436.2.1 bt436.2.2.1).bind fun t449=>(if t449=true then (Fi.j0 k l0 t441 (bt444.2.2.2 != bt436.2.2.2)) else (Fi.j0 k l0 t441 true))))))=some r:=H;have A5:=zh A50;clear A50;replace H:=zT.mp H;obtain ⟨⟨t436,t437,t438,t439⟩,A60,H⟩:=H;replace H : ((Fe.f k l0).bind fun t441=>((Ff.f k t441).bind fun bt444=>((F01.f bt444.1 bt444.2.1 bt444.2.2.1 t436 t437 t438).bind fun t449=>(if t449=true then (Fi.j0 k l0 t441 (bt444.2.2.2 != t439)) else (Fi.j0 k l0 t441 true)))))=some r:=H;have A6:=zh A60;clear A60;replace H:=zT.mp H;obtain ⟨t441,A70,H⟩:=H;replace H : ((Ff.f k t441).bind fun bt444=>((F01.f bt444.1 bt444.2.1 bt444.2.2.1 t436 t437 t438).bind fun t449=>(if t449=true then (Fi.j0 k l0 t441 (bt444.2.2.2 != t439)) else (Fi.j0 k l0 t441 true))))=some r:=H;have A7:=zh A70;clear A70;replace H:=zT.mp H;obtain ⟨⟨t444,t445,t446,t447⟩,A80,H⟩:=H;replace H : ((F01.f t444 t445 t446 t436 t437 t438).bind fun t449=>(if t449=true then (Fi.j0 k l0 t441 (t447 != t439)) else (Fi.j0 k l0 t441 true)))=some r:=H;have A8:=zh A80;clear A80;have HC9:=zh H;clear H
 go_enter Try.func3,Try.ntmps3
 go_upto_region 8 with (first|((with_reducible refine zJ (f:=5) rfl ?_);refine yj (some 11) rfl rfl Try.func5 (by kernel_rfl) rfl #[.slice A0 l0.length c0,.int .i64 1048576] rfl (by (try simp only [zt,zu,zv]);first|done|rfl|(simp only [zw,zx];rfl)|(simp only [yr,ys,zV,zW];rfl)) ?_;(with_reducible refine (Fs.calls k  _ _ l0 1048576 t432 _ ?side1 ?side2 A2.out).mono ?_);(case side1=>repeat (first|exact HR0.out|(with_reducible refine Kd.C_alloc ?_ _)|(with_reducible refine Kd.C_drewN ?_ _)|(with_reducible refine Kd.C_drew ?_)));(case side2=>exact HC0.out);rintro e w10 ⟨rfl,hb⟩;refine ⟨_,rfl,?_⟩;replace HB:=zh (zC (by repeat (with_reducible first|exact HB.out|apply za|apply zb|apply zc)) hb);(try clear hb);(try clear hb2);(try clear hk);(try clear hi))|((with_reducible refine zJ (f:=7) rfl ?_);refine yj (some 16) rfl rfl Try.func7 (by kernel_rfl) rfl #[.slice A0 l0.length c0] rfl (by (try simp only [zt,zu,zv]);first|done|rfl|(simp only [zw,zx];rfl)|(simp only [yr,ys,zV,zW];rfl)) ?_;(with_reducible refine (Fe.calls k  _ _ l0 t433 _ ?side1 ?side2 A5.out).mono ?_);(case side1=>repeat (first|exact (Kd.C_below HR0.out HB.out)|(with_reducible refine Kd.C_alloc ?_ _)|(with_reducible refine Kd.C_drewN ?_ _)|(with_reducible refine Kd.C_drew ?_)));(case side2=>exact HC0.out);rintro e w11 ⟨v434,rfl,ho0,hb⟩;refine ⟨_,rfl,?_⟩;have HO435:=zh (yy ho0 (zB (by repeat (with_reducible first|exact HB.out|apply za|apply zb|apply zc))));replace HB:=zh (zC (by repeat (with_reducible first|exact HB.out|apply za|apply zb|apply zc)) hb);(try clear hb);(try clear hb2);(try clear hk);(try clear hi);(try clear ho0);obtain ⟨Ao12,co12,eo12⟩:=yk HO435.out;subst eo12)|((with_reducible refine zJ (f:=6) rfl ?_);refine yj (some 17) rfl rfl Try.func6 (by kernel_rfl) rfl #[.slice Ao12 t433.length co12] rfl (by (try simp only [zt,zu,zv]);first|done|rfl|(simp only [zw,zx];rfl)|(simp only [yr,ys,zV,zW];rfl)) ?_;(with_reducible refine (F0.calls k  _ _ t433 t436 t437 t438 t439 _ ?side1 ?side2 A6.out).mono ?_);(case side1=>repeat (first|exact (yh HO435.out).2.2|(with_reducible refine Kd.C_alloc ?_ _)|(with_reducible refine Kd.C_drewN ?_ _)|(with_reducible refine Kd.C_drew ?_)));(case side2=>exact (yh HO435.out).2.1);rintro e w13 ⟨rfl,hb⟩;refine ⟨_,rfl,?_⟩;replace HO435:=zh (yg (by (with_reducible repeat (first|apply zm|apply zn|apply zo));exact HO435.out) hb);replace HB:=zh (zC (by repeat (with_reducible first|exact HB.out|apply za|apply zb|apply zc)) hb);(try clear hb);(try clear hb2);(try clear hk);(try clear hi))|((with_reducible refine zK (N:=4) rfl ?_);refine zI ?hg (N:=4) ?hd (cs:=#[.int .i64 0,.int .i64 0,.string (⟨#[]⟩ : ByteArray)]) (t:=25) ?hr ?_;(case hd=>rfl);(case hg=>rfl);(case hr=>go_simp <;> rfl);intro gb440 hg w14 hbox hb;replace HO435:=zh (yg (by (with_reducible repeat (first|apply zm|apply zn|apply zo));exact HO435.out) hb);have BK440:=zh (hbox);have hH_:=cH (by repeat (with_reducible first|exact HB.out|apply za|apply zb|apply zc)) hb hg;have GW440:=zh hH_.1;have GE440:=GW440;replace HB:=zh hH_.2;clear hb hbox hg hH_;obtain ⟨hcz15_0,hcz15_1,hcz15_2,hfz15_0,hfz15_1,hfz15_2⟩:=cB3 BK440.out)|((with_reducible refine zJ (f:=7) rfl ?_);refine yj (some 21) rfl rfl Try.func7 (by kernel_rfl) rfl #[.slice A0 l0.length c0] rfl (by (try simp only [zt,zu,zv]);first|done|rfl|(simp only [zw,zx];rfl)|(simp only [yr,ys,zV,zW];rfl)) ?_;(with_reducible refine (Fe.calls k  _ _ l0 t441 _ ?side1 ?side2 A7.out).mono ?_);(case side1=>exact Kd.C_below HR0.out (by repeat (with_reducible first|exact HB.out|apply za|apply zb|apply zc|refine zd ?_ GE440.out)));(case side2=>exact HC0.out);rintro e w16 ⟨v442,rfl,ho0,hb⟩;refine ⟨_,rfl,?_⟩;have HO443:=zh (yy (Kd.R_new' ho0 (Kd.R_lt (by (with_reducible repeat (first|apply zm|apply zn|apply zo));exact (zM (zE (p:=⟨gb440,2,none⟩) (zE (p:=⟨gb440,1,none⟩) (zE (p:=⟨gb440,0,none⟩) (yf HO435.out BK440.out (by decide)) (fun _ hk=>hk.2) (.int .i64 t436)) (fun _ hk=>hk.2) (.int .i64 t437)) (fun _ hk=>hk.2) (.string t438)) (fun _ h_=>h_.1))))) (zB (by repeat (with_reducible first|exact HB.out|apply za|apply zb|apply zc|refine zd ?_ GE440.out))));replace HO435:=zh (Kd.R_elder' (by (with_reducible repeat (first|apply zm|apply zn|apply zo));exact (zM (zE (p:=⟨gb440,2,none⟩) (zE (p:=⟨gb440,1,none⟩) (zE (p:=⟨gb440,0,none⟩) (yf HO435.out BK440.out (by decide)) (fun _ hk=>hk.2) (.int .i64 t436)) (fun _ hk=>hk.2) (.int .i64 t437)) (fun _ hk=>hk.2) (.string t438)) (fun _ h_=>h_.1))) (Kd.R_base ho0) hb);replace BK440:=zh (zD (g:=gb440) (o:=.cells #[.int .i64 t436,.int .i64 t437,.string t438] 25 (0,0)) (by (with_reducible repeat first|apply ze|apply zf|apply zg);refine zL (cs:=#[.int .i64 t436,.int .i64 t437,.string (⟨#[]⟩ : ByteArray)]) ?_ 2 _ rfl;(with_reducible repeat first|apply ze|apply zf|apply zg);refine zL (cs:=#[.int .i64 t436,.int .i64 0,.string (⟨#[]⟩ : ByteArray)]) ?_ 1 _ rfl;(with_reducible repeat first|apply ze|apply zf|apply zg);refine zL (cs:=#[.int .i64 0,.int .i64 0,.string (⟨#[]⟩ : ByteArray)]) ?_ 0 _ rfl;(with_reducible repeat first|apply ze|apply zf|apply zg);exact BK440.out) hb);replace HB:=zh (zC (by repeat (with_reducible first|exact HB.out|apply za|apply zb|apply zc|refine zd ?_ GE440.out)) hb);(try clear hb);(try clear hb2);(try clear hk);(try clear hi);(try clear ho0);obtain ⟨Ao17,co17,eo17⟩:=yk HO443.out;subst eo17)|((with_reducible refine zJ (f:=8) rfl ?_);refine yj (some 24) rfl rfl Try.func8 (by kernel_rfl) rfl #[.slice Ao17 t441.length co17] rfl (by (try simp only [zt,zu,zv]);first|done|rfl|(simp only [zw,zx];rfl)|(simp only [yr,ys,zV,zW];rfl)) ?_;(with_reducible refine (Ff.calls k  _ _ t441 t444 t445 t446 t447 _ ?side1 ?side2 A8.out).mono ?_);(case side1=>repeat (first|exact (yh HO443.out).2.2|(with_reducible refine Kd.C_alloc ?_ _)|(with_reducible refine Kd.C_drewN ?_ _)|(with_reducible refine Kd.C_drew ?_)));(case side2=>exact (yh HO443.out).2.1);rintro e w18 ⟨rfl,hb⟩;refine ⟨_,rfl,?_⟩;replace HO435:=zh (yg (by (with_reducible repeat (first|apply zm|apply zn|apply zo));exact HO435.out) hb);replace HO443:=zh (yg (by (with_reducible repeat (first|apply zm|apply zn|apply zo));exact HO443.out) hb);replace BK440:=zh (cD BK440.out (by (with_reducible repeat first|apply ze|apply zf|apply zg);exact BK440.out) hb);replace HB:=zh (zC (by repeat (with_reducible first|exact HB.out|apply za|apply zb|apply zc|refine zd ?_ GE440.out)) hb);(try clear hb);(try clear hb2);(try clear hk);(try clear hi))|((with_reducible refine zK (N:=7) rfl ?_);refine zI ?hg (N:=7) ?hd (cs:=#[.int .i64 0,.int .i64 0,.string (⟨#[]⟩ : ByteArray)]) (t:=25) ?hr ?_;(case hd=>rfl);(case hg=>rfl);(case hr=>go_simp <;> rfl);intro gb448 hg w19 hbox hb;replace HO435:=zh (yg (by (with_reducible repeat (first|apply zm|apply zn|apply zo));exact HO435.out) hb);replace HO443:=zh (yg (by (with_reducible repeat (first|apply zm|apply zn|apply zo));exact HO443.out) hb);have BK448:=zh (hbox);have hH_:=cH (by repeat (with_reducible first|exact HB.out|apply za|apply zb|apply zc|refine zd ?_ GE440.out)) hb hg;have GW448:=zh hH_.1;have GE448:=GW448;replace HB:=zh hH_.2;have NB440_448:=zh ((by rw [hg];exact yc (yi (g:=gb440) (o:=.cells #[.int .i64 t436,.int .i64 t437,.string t438] 25 (0,0)) (by (with_reducible repeat first|apply ze|apply zf|apply zg);exact BK440.out)) : gb440≠gb448));have NB448_440:=zh NB440_448.out.symm;replace BK440:=zh (cD BK440.out (by (with_reducible repeat first|apply ze|apply zf|apply zg);exact BK440.out) hb);clear hb hbox hg hH_;have hnb20:=NB448_440.out;have hnc20:=NB440_448.out;obtain ⟨hcz21_0,hcz21_1,hcz21_2,hfz21_0,hfz21_1,hfz21_2⟩:=cB3 BK448.out))
 (try simp only [Act.put,zi,zj,zk])
 go_cut [35] (fun v35 wc => ∃ (kq : Nat) (x35_8 : Bool),v35 = .bool x35_8∧Aside0 (Fi.j0 kq l0 t441 x35_8=some r)∧Aside0 (kq≤k)∧Aside0 (Kd.R k43 43 wc w.heap.size (fun _=>True) (.slice Ao17 t441.length co17) t441)∧Aside0 (wc.heap[gb440]? = some (.cells #[.int .i64 t436,.int .i64 t437,.string t438] 25 (0,0)))∧Aside0 (wc.heap[gb448]? = some (.cells #[.int .i64 t444,.int .i64 t445,.string t446] 25 (0,0)))∧Aside0 (Below w.heap.size w wc))
 case first =>
  have H:=HC9.out;clear HC9;replace H:=zT.mp H;obtain ⟨t449,A220,H⟩:=H;replace H : (if t449=true then (Fi.j0 k l0 t441 (t447 != t439)) else (Fi.j0 k l0 t441 true))=some r:=H;have A22:=zh A220;clear A220
  by_cases c23 : t449=true
  ·
   subst c23
   have H1 : (Fi.j0 k l0 t441 (t447 != t439))=some r:=by rw [if_pos rfl] at H;exact H
   clear H;have H:=H1;clear H1;have H':=zh H;clear H;have hnb24:=NB448_440.out;have hnc24:=NB440_448.out;obtain ⟨hcz25_0,hcz25_1,hcz25_2,hfz25_0,hfz25_1,hfz25_2⟩:=cB3 BK448.out;obtain ⟨hcz26_0,hcz26_1,hcz26_2,hfz26_0,hfz26_1,hfz26_2⟩:=cB3 BK440.out
   go_wp2_with (first|((with_reducible refine zJ (f:=9) rfl ?_);refine yj (some 29) rfl rfl Try.func9 (by kernel_rfl) rfl #[.agg #[.int .i64 t444,.int .i64 t445,.string t446],.agg #[.int .i64 t436,.int .i64 t437,.string t438]] rfl (by (try simp only [zt,zu,zv]);first|done|rfl|(simp only [zw,zx];rfl)|(simp only [yr,ys,zV,zW];rfl)) ?_;(with_reducible refine (F01.calls  t444 t445 t446 t436 t437 t438 true _ A22.out).mono ?_);rintro e w27 ⟨rfl,hb⟩;refine ⟨_,rfl,?_⟩;replace HO435:=zh (yg (by (with_reducible repeat (first|apply zm|apply zn|apply zo));exact (zM (zE (p:=⟨gb448,2,none⟩) (zE (p:=⟨gb448,1,none⟩) (zE (p:=⟨gb448,0,none⟩) (yf HO435.out BK448.out (by decide)) (fun _ hk=>hk.2) (.int .i64 t444)) (fun _ hk=>hk.2) (.int .i64 t445)) (fun _ hk=>hk.2) (.string t446)) (fun _ h_=>h_.1))) hb);replace HO443:=zh (yg (by (with_reducible repeat (first|apply zm|apply zn|apply zo));exact (zM (zE (p:=⟨gb448,2,none⟩) (zE (p:=⟨gb448,1,none⟩) (zE (p:=⟨gb448,0,none⟩) (yf HO443.out BK448.out (by decide)) (fun _ hk=>hk.2) (.int .i64 t444)) (fun _ hk=>hk.2) (.int .i64 t445)) (fun _ hk=>hk.2) (.string t446)) (fun _ h_=>h_.1))) hb);replace BK440:=zh (cD BK440.out (by (with_reducible repeat first|apply ze|apply zf|apply zg);refine cS3 ?_ NB440_448.out;(with_reducible repeat first|apply ze|apply zf|apply zg);exact BK440.out) hb);replace BK448:=zh (zD (g:=gb448) (o:=.cells #[.int .i64 t444,.int .i64 t445,.string t446] 25 (0,0)) (by (with_reducible repeat first|apply ze|apply zf|apply zg);refine zL (cs:=#[.int .i64 t444,.int .i64 t445,.string (⟨#[]⟩ : ByteArray)]) ?_ 2 _ rfl;(with_reducible repeat first|apply ze|apply zf|apply zg);refine zL (cs:=#[.int .i64 t444,.int .i64 0,.string (⟨#[]⟩ : ByteArray)]) ?_ 1 _ rfl;(with_reducible repeat first|apply ze|apply zf|apply zg);refine zL (cs:=#[.int .i64 0,.int .i64 0,.string (⟨#[]⟩ : ByteArray)]) ?_ 0 _ rfl;(with_reducible repeat first|apply ze|apply zf|apply zg);exact BK448.out) hb);replace HB:=zh (zC (by repeat (with_reducible first|exact HB.out|apply za|apply zb|apply zc|refine zd ?_ GE440.out|refine zd ?_ GE448.out)) hb);(try clear hb);(try clear hb2);(try clear hk);(try clear hi)))
   go_meet
   case rel=>exact ⟨_,((t447 != t439)),(by first|rfl|(simp;done)|(simp [*];done)),H',⟨by first|omega|exact ye _⟩,⟨by (with_reducible repeat (first|apply zm|apply zn|apply zo));exact zM HO443.out (fun _ hk=>trivial)⟩,⟨by (with_reducible repeat first|apply ze|apply zf|apply zg);exact BK440.out⟩,⟨by (with_reducible repeat first|apply ze|apply zf|apply zg);exact BK448.out⟩,⟨by repeat (with_reducible first|exact HB.out|apply za|apply zb|apply zc|refine zd ?_ GE440.out|refine zd ?_ GE448.out)⟩⟩
  replace c23:=yb.mpr c23;subst c23;have H1 : (Fi.j0 k l0 t441 true)=some r:=by rw [if_neg (show ¬ (false=true) by decide)] at H;exact H
  clear H;have H:=H1;clear H1;have H':=zh H;clear H;have hnb28:=NB448_440.out;have hnc28:=NB440_448.out;obtain ⟨hcz29_0,hcz29_1,hcz29_2,hfz29_0,hfz29_1,hfz29_2⟩:=cB3 BK448.out;obtain ⟨hcz30_0,hcz30_1,hcz30_2,hfz30_0,hfz30_1,hfz30_2⟩:=cB3 BK440.out
  go_wp2_with (first|((with_reducible refine zJ (f:=9) rfl ?_);refine yj (some 29) rfl rfl Try.func9 (by kernel_rfl) rfl #[.agg #[.int .i64 t444,.int .i64 t445,.string t446],.agg #[.int .i64 t436,.int .i64 t437,.string t438]] rfl (by (try simp only [zt,zu,zv]);first|done|rfl|(simp only [zw,zx];rfl)|(simp only [yr,ys,zV,zW];rfl)) ?_;(with_reducible refine (F01.calls  t444 t445 t446 t436 t437 t438 false _ A22.out).mono ?_);rintro e w31 ⟨rfl,hb⟩;refine ⟨_,rfl,?_⟩;replace HO435:=zh (yg (by (with_reducible repeat (first|apply zm|apply zn|apply zo));exact (zM (zE (p:=⟨gb448,2,none⟩) (zE (p:=⟨gb448,1,none⟩) (zE (p:=⟨gb448,0,none⟩) (yf HO435.out BK448.out (by decide)) (fun _ hk=>hk.2) (.int .i64 t444)) (fun _ hk=>hk.2) (.int .i64 t445)) (fun _ hk=>hk.2) (.string t446)) (fun _ h_=>h_.1))) hb);replace HO443:=zh (yg (by (with_reducible repeat (first|apply zm|apply zn|apply zo));exact (zM (zE (p:=⟨gb448,2,none⟩) (zE (p:=⟨gb448,1,none⟩) (zE (p:=⟨gb448,0,none⟩) (yf HO443.out BK448.out (by decide)) (fun _ hk=>hk.2) (.int .i64 t444)) (fun _ hk=>hk.2) (.int .i64 t445)) (fun _ hk=>hk.2) (.string t446)) (fun _ h_=>h_.1))) hb);replace BK440:=zh (cD BK440.out (by (with_reducible repeat first|apply ze|apply zf|apply zg);refine cS3 ?_ NB440_448.out;(with_reducible repeat first|apply ze|apply zf|apply zg);exact BK440.out) hb);replace BK448:=zh (zD (g:=gb448) (o:=.cells #[.int .i64 t444,.int .i64 t445,.string t446] 25 (0,0)) (by (with_reducible repeat first|apply ze|apply zf|apply zg);refine zL (cs:=#[.int .i64 t444,.int .i64 t445,.string (⟨#[]⟩ : ByteArray)]) ?_ 2 _ rfl;(with_reducible repeat first|apply ze|apply zf|apply zg);refine zL (cs:=#[.int .i64 t444,.int .i64 0,.string (⟨#[]⟩ : ByteArray)]) ?_ 1 _ rfl;(with_reducible repeat first|apply ze|apply zf|apply zg);refine zL (cs:=#[.int .i64 0,.int .i64 0,.string (⟨#[]⟩ : ByteArray)]) ?_ 0 _ rfl;(with_reducible repeat first|apply ze|apply zf|apply zg);exact BK448.out) hb);replace HB:=zh (zC (by repeat (with_reducible first|exact HB.out|apply za|apply zb|apply zc|refine zd ?_ GE440.out|refine zd ?_ GE448.out)) hb);(try clear hb);(try clear hb2);(try clear hk);(try clear hi)))
  go_meet
  case rel=>exact ⟨_,(true),(by first|rfl|(simp;done)|(simp [*];done)),H',⟨by first|omega|exact ye _⟩,⟨by (with_reducible repeat (first|apply zm|apply zn|apply zo));exact zM HO443.out (fun _ hk=>trivial)⟩,⟨by (with_reducible repeat first|apply ze|apply zf|apply zg);exact BK440.out⟩,⟨by (with_reducible repeat first|apply ze|apply zf|apply zg);exact BK448.out⟩,⟨by repeat (with_reducible first|exact HB.out|apply za|apply zb|apply zc|refine zd ?_ GE440.out|refine zd ?_ GE448.out)⟩⟩
 case rest =>
  clear HC9
  try clear c2
  try clear p2
  try clear c3 c3b0 c5 c6 c7 c8 c9 c20 c23 c24 c28
  try clear hcz15_0 hcz15_1 hcz15_2
  try clear hcz21_0 hcz21_1 hcz21_2
  try clear hcz25_0 hcz25_1 hcz25_2
  try clear hcz26_0 hcz26_1 hcz26_2
  try clear hcz29_0 hcz29_1 hcz29_2
  try clear hcz30_0 hcz30_1 hcz30_2
  try clear hfz15_0 hfz15_1 hfz15_2
  try clear hfz21_0 hfz21_1 hfz21_2
  try clear hfz25_0 hfz25_1 hfz25_2
  try clear hfz26_0 hfz26_1 hfz26_2
  try clear hfz29_0 hfz29_1 hfz29_2
  try clear hfz30_0 hfz30_1 hfz30_2
  obtain ⟨kq,x35_8,rfl,HA,HJ8,HO_6,BK440,BK448,HB⟩:=hcut
  cases kq with
  | zero=>exact absurd HA.out (by simp [Fi.j0])
  | succ kj8 =>
   have H:=HA.out;clear HA;simp only [Fi.j0] at H
   by_cases c32 : x35_8=true
   ·
    subst c32
    have H1 : (some false)=some r:=by rw [if_pos rfl] at H;exact H
    clear H;have H:=H1;clear H1;obtain rfl:=zU H
    go_wp2
    go_ret
    exact ⟨by first|rfl|(simp [yt,yu] <;> rfl)|(simp [*,yt,yu] <;> rfl),by repeat (with_reducible first|exact HB.out|apply za|apply zb|apply zc|refine zd ?_ GE440.out|refine zd ?_ GE448.out)⟩
   replace c32:=yb.mpr c32;subst c32;have H1 : ((Fe.f kj8 l0).bind fun t450=>((Fd.f kj8 t441 t450).bind fun t453=>(if t453=true then (some true) else (some false))))=some r:=by rw [if_neg (show ¬ (false=true) by decide)] at H;exact H
   clear H;have H:=H1;clear H1;replace H:=zT.mp H;obtain ⟨t450,A330,H⟩:=H;replace H : ((Fd.f kj8 t441 t450).bind fun t453=>(if t453=true then (some true) else (some false)))=some r:=H;have A33:=zh A330;clear A330;replace H:=zT.mp H;obtain ⟨t453,A340,H⟩:=H;replace H : (if t453=true then (some true) else (some false))=some r:=H;have A34:=zh A340;clear A340
   by_cases c35 : t453=true
   ·
    subst c35
    have H1 : (some true)=some r:=by rw [if_pos rfl] at H;exact H
    clear H;have H:=H1;clear H1;obtain rfl:=zU H
    go_wp2_with (first|((with_reducible refine zJ (f:=7) rfl ?_);refine yj (some 38) rfl rfl Try.func7 (by kernel_rfl) rfl #[.slice A0 l0.length c0] rfl (by (try simp only [zt,zu,zv]);first|done|rfl|(simp only [zw,zx];rfl)|(simp only [yr,ys,zV,zW];rfl)) ?_;(with_reducible refine (Fe.calls kj8  _ _ l0 t450 _ ?side1 ?side2 A33.out).mono ?_);(case side1=>repeat (first|exact (Kd.C_below HR0.out HB.out)|(with_reducible refine Kd.C_alloc ?_ _)|(with_reducible refine Kd.C_drewN ?_ _)|(with_reducible refine Kd.C_drew ?_)));(case side2=>exact HC0.out);rintro e w36 ⟨v451,rfl,ho0,hb⟩;refine ⟨_,rfl,?_⟩;have HO452:=zh (yy (Kd.R_new' ho0 (Kd.R_lt (by (with_reducible repeat (first|apply zm|apply zn|apply zo));exact HO_6.out))) (zB (by repeat (with_reducible first|exact HB.out|apply za|apply zb|apply zc|refine zd ?_ GE440.out|refine zd ?_ GE448.out))));replace HO_6:=zh (Kd.R_elder' (by (with_reducible repeat (first|apply zm|apply zn|apply zo));exact HO_6.out) (Kd.R_base ho0) hb);replace BK440:=zh (cD BK440.out (by (with_reducible repeat first|apply ze|apply zf|apply zg);exact BK440.out) hb);replace BK448:=zh (cD BK448.out (by (with_reducible repeat first|apply ze|apply zf|apply zg);exact BK448.out) hb);replace HB:=zh (zC (by repeat (with_reducible first|exact HB.out|apply za|apply zb|apply zc|refine zd ?_ GE440.out|refine zd ?_ GE448.out)) hb);(try clear hb);(try clear hb2);(try clear hk);(try clear hi);(try clear ho0);obtain ⟨Ao37,co37,eo37⟩:=yk HO452.out;subst eo37)|((with_reducible refine zJ (f:=10) rfl ?_);refine yj (some 39) rfl rfl Try.func10 (by kernel_rfl) rfl #[.slice Ao17 t441.length co17,.slice Ao37 t450.length co37] rfl (by (try simp only [zt,zu,zv]);first|done|rfl|(simp only [zw,zx];rfl)|(simp only [yr,ys,zV,zW];rfl)) ?_;(with_reducible refine (Fd.calls kj8  _ _ t441 _ _ t450 true _ ?side1 ?side2 ?side3 ?side4 A34.out).mono ?_);(case side1=>repeat (first|exact (yh HO_6.out).2.2|(with_reducible refine Kd.C_alloc ?_ _)|(with_reducible refine Kd.C_drewN ?_ _)|(with_reducible refine Kd.C_drew ?_)));(case side2=>exact (yh HO_6.out).2.1);(case side3=>repeat (first|exact (yh HO452.out).2.2|(with_reducible refine Kd.C_alloc ?_ _)|(with_reducible refine Kd.C_drewN ?_ _)|(with_reducible refine Kd.C_drew ?_)));(case side4=>exact (yh HO452.out).2.1);rintro e w38 ⟨rfl,hb⟩;refine ⟨_,rfl,?_⟩;replace HO_6:=zh (yg (by (with_reducible repeat (first|apply zm|apply zn|apply zo));exact HO_6.out) hb);replace HO452:=zh (yg (by (with_reducible repeat (first|apply zm|apply zn|apply zo));exact HO452.out) hb);replace BK440:=zh (cD BK440.out (by (with_reducible repeat first|apply ze|apply zf|apply zg);exact BK440.out) hb);replace BK448:=zh (cD BK448.out (by (with_reducible repeat first|apply ze|apply zf|apply zg);exact BK448.out) hb);replace HB:=zh (zC (by repeat (with_reducible first|exact HB.out|apply za|apply zb|apply zc|refine zd ?_ GE440.out|refine zd ?_ GE448.out)) hb);(try clear hb);(try clear hb2);(try clear hk);(try clear hi)))
    go_ret
    exact ⟨by first|rfl|(simp [yt,yu] <;> rfl)|(simp [*,yt,yu] <;> rfl),by repeat (with_reducible first|exact HB.out|apply za|apply zb|apply zc|refine zd ?_ GE440.out|refine zd ?_ GE448.out)⟩
   replace c35:=yb.mpr c35;subst c35;have H1 : (some false)=some r:=by rw [if_neg (show ¬ (false=true) by decide)] at H;exact H
   clear H;have H:=H1;clear H1;obtain rfl:=zU H
   go_wp2_with (first|((with_reducible refine zJ (f:=7) rfl ?_);refine yj (some 38) rfl rfl Try.func7 (by kernel_rfl) rfl #[.slice A0 l0.length c0] rfl (by (try simp only [zt,zu,zv]);first|done|rfl|(simp only [zw,zx];rfl)|(simp only [yr,ys,zV,zW];rfl)) ?_;(with_reducible refine (Fe.calls kj8  _ _ l0 t450 _ ?side1 ?side2 A33.out).mono ?_);(case side1=>repeat (first|exact (Kd.C_below HR0.out HB.out)|(with_reducible refine Kd.C_alloc ?_ _)|(with_reducible refine Kd.C_drewN ?_ _)|(with_reducible refine Kd.C_drew ?_)));(case side2=>exact HC0.out);rintro e w39 ⟨v451,rfl,ho0,hb⟩;refine ⟨_,rfl,?_⟩;have HO452:=zh (yy (Kd.R_new' ho0 (Kd.R_lt (by (with_reducible repeat (first|apply zm|apply zn|apply zo));exact HO_6.out))) (zB (by repeat (with_reducible first|exact HB.out|apply za|apply zb|apply zc|refine zd ?_ GE440.out|refine zd ?_ GE448.out))));replace HO_6:=zh (Kd.R_elder' (by (with_reducible repeat (first|apply zm|apply zn|apply zo));exact HO_6.out) (Kd.R_base ho0) hb);replace BK440:=zh (cD BK440.out (by (with_reducible repeat first|apply ze|apply zf|apply zg);exact BK440.out) hb);replace BK448:=zh (cD BK448.out (by (with_reducible repeat first|apply ze|apply zf|apply zg);exact BK448.out) hb);replace HB:=zh (zC (by repeat (with_reducible first|exact HB.out|apply za|apply zb|apply zc|refine zd ?_ GE440.out|refine zd ?_ GE448.out)) hb);(try clear hb);(try clear hb2);(try clear hk);(try clear hi);(try clear ho0);obtain ⟨Ao40,co40,eo40⟩:=yk HO452.out;subst eo40)|((with_reducible refine zJ (f:=10) rfl ?_);refine yj (some 39) rfl rfl Try.func10 (by kernel_rfl) rfl #[.slice Ao17 t441.length co17,.slice Ao40 t450.length co40] rfl (by (try simp only [zt,zu,zv]);first|done|rfl|(simp only [zw,zx];rfl)|(simp only [yr,ys,zV,zW];rfl)) ?_;(with_reducible refine (Fd.calls kj8  _ _ t441 _ _ t450 false _ ?side1 ?side2 ?side3 ?side4 A34.out).mono ?_);(case side1=>repeat (first|exact (yh HO_6.out).2.2|(with_reducible refine Kd.C_alloc ?_ _)|(with_reducible refine Kd.C_drewN ?_ _)|(with_reducible refine Kd.C_drew ?_)));(case side2=>exact (yh HO_6.out).2.1);(case side3=>repeat (first|exact (yh HO452.out).2.2|(with_reducible refine Kd.C_alloc ?_ _)|(with_reducible refine Kd.C_drewN ?_ _)|(with_reducible refine Kd.C_drew ?_)));(case side4=>exact (yh HO452.out).2.1);rintro e w41 ⟨rfl,hb⟩;refine ⟨_,rfl,?_⟩;replace HO_6:=zh (yg (by (with_reducible repeat (first|apply zm|apply zn|apply zo));exact HO_6.out) hb);replace HO452:=zh (yg (by (with_reducible repeat (first|apply zm|apply zn|apply zo));exact HO452.out) hb);replace BK440:=zh (cD BK440.out (by (with_reducible repeat first|apply ze|apply zf|apply zg);exact BK440.out) hb);replace BK448:=zh (cD BK448.out (by (with_reducible repeat first|apply ze|apply zf|apply zg);exact BK448.out) hb);replace HB:=zh (zC (by repeat (with_reducible first|exact HB.out|apply za|apply zb|apply zc|refine zd ?_ GE440.out|refine zd ?_ GE448.out)) hb);(try clear hb);(try clear hb2);(try clear hk);(try clear hi)))
   go_ret
   exact ⟨by first|rfl|(simp [yt,yu] <;> rfl)|(simp [*,yt,yu] <;> rfl),by repeat (with_reducible first|exact HB.out|apply za|apply zb|apply zc|refine zd ?_ GE440.out|refine zd ?_ GE448.out)⟩

end Go.Proofs.Ytoinoihiknmnmaa.Q
end
section
namespace Go.Proofs.YtoinoihiknmnmaaW.PrintOpen
open Go.RowKit Go.ChangeShapes Go.WideShapes Go.ChangeAt Go.Proofs.YtoinoihiknmnmaaW.PrintWords
def Opens {α : Type} (P : Program) (d : Kd α) (t : TypeId) (good : α→Prop) : Prop :=
 ∀ (H : Type) (enc : TypeId×Value→H) (w : World) (base : Nat) (spare : Nat→Bool) (held : Bool) (fuel : Nat) (cs : List Value) (x : DataW H×List MemPlace),
  DataW.trod enc P w base spare held fuel t cs=some x → ∃ a,d.K w a cs∧good a
variable {P : Program}
theorem opens_int {t : TypeId} {k : IntKind} (ht : P.underlying t=some (.int k)) : Opens P (Kd.int k) t (fun n=>(Lit.int k n).wf=true):=by
 intro H enc w base spare held fuel cs x h;obtain ⟨n,hcs,_,hw⟩:=DataW.trod_int ht h;exact ⟨n,hcs,hw⟩
theorem opens_string {t : TypeId} (ht : P.underlying t=some .string) : Opens P Kd.string t (fun s=>s.size≤9223372036854775807):=by
 intro H enc w base spare held fuel cs x h;obtain ⟨s,hcs,_,hs⟩:=DataW.trod_string ht h;exact ⟨s,hcs,by unfold maxLen at hs;exact hs⟩
theorem opens_slice {α : Type} {t e : TypeId} {d : Kd α} {g : α→Prop} (ht : P.underlying t=some (.slice e)) (hc : P.cellsOf e=d.sz) (he : Opens P d e g) :
  Opens P (Kd.slice e d) t (fun l=>l.length≤9223372036854775807 ∧ ∀ x ∈ l,g x):=by
 intro H enc w base spare held fuel cs x h;rcases Deep.open_slice ht h with ⟨rfl,_⟩|⟨a,len,cap,m,n,D,Pl,rfl,_,hl,hm,hmm,_,hx⟩
 ·
  exact ⟨[],⟨none,0,rfl,Nat.le_refl _,rfl,by simp,fun h0=>absurd h0 (by simp)⟩,by simp,by simp⟩
 have hlm : len≤m:=by rw [hmm];split <;> omega
 have hall : ∀ i : Fin len,∃ v : α×List Value,w.cells? base (a.add (i.1*P.cellsOf e)) (P.cellsOf e)=some v.2∧d.K w v.1 v.2∧g v.1:=fun i=>by
  obtain ⟨cs',h1,h2⟩:=hx i.1 (by have:=i.2;omega);obtain ⟨a',hk,hg⟩:=he H enc w base spare held n cs' _ h2;exact ⟨(a',cs'),h1,hk,hg⟩
 obtain ⟨V,hV⟩:=Classical.axiomOfChoice hall;have hmax : len≤9223372036854775807:=by unfold maxLen at hm;omega
 have hlen : (List.ofFn fun i=>(V i).1).length=len:=List.length_ofFn;refine ⟨List.ofFn fun i=>(V i).1,⟨some a,cap,by rw [hlen],by rw [hlen];exact hl,rfl,by rw [hlen];exact hmax,fun _=>⟨a,rfl,?_⟩⟩,by rw [hlen];exact hmax,?_⟩
 ·
  intro j p hj
  have hjl : j<len:=by
   have:=(List.getElem?_eq_some_iff.1 hj).1
   omega
  rw [List.getElem?_ofFn,dif_pos hjl] at hj;obtain rfl:=Option.some.inj hj;obtain ⟨h1,h2,_⟩:=hV ⟨j,hjl⟩;obtain ⟨_,hlen2,hcell⟩:=World.cells?_some h1;refine ⟨(V ⟨j,hjl⟩).2,by rw [← hc];exact hlen2,h2,fun q u hu=>?_⟩
  have hq : q<P.cellsOf e:=by
   have:=(List.getElem?_eq_some_iff.1 hu).1
   omega
  have h3:=hcell q hq;rw [Deep.add_add,hu,hc] at h3;exact h3
 intro x hx;obtain ⟨i,rfl⟩:=List.mem_ofFn.1 hx;exact (hV i).2.2
def OpensF {α : Type} (P : Program) (d : Kd α) (fs : List Field) (off : Nat) (good : α→Prop) : Prop :=
 ∀ (H : Type) (enc : TypeId×Value→H) (w : World) (base : Nat) (spare : Nat→Bool) (held : Bool) (fuel : Nat) (cs : List Value),off+d.sz≤cs.length →
  (∀ f ∈ fs,∃ x,DataW.trod enc P w base spare held fuel f.type ((cs.drop f.offset).take (P.cellsOf f.type))=some x) → ∃ a,d.K w a ((cs.drop off).take d.sz)∧good a
theorem opensF_one {α : Type} {d : Kd α} {f : Field} {off : Nat} {g : α→Prop} (ho : f.offset=off) (hc : P.cellsOf f.type=d.sz) (h : Opens P d f.type g) : OpensF P d [f] off g:=by
 intro H enc w base spare held fuel cs _ hf;obtain ⟨x,hx⟩:=hf f (by simp);obtain ⟨a,hk,hg⟩:=h H enc w base spare held fuel _ x hx;rw [ho,hc] at hk;exact ⟨a,hk,hg⟩
theorem opensF_cons {α β : Type} {d : Kd α} {d' : Kd β} {f : Field} {fs : List Field} {off : Nat} {g : α→Prop} {g' : β→Prop} (ho : f.offset=off) (hc : P.cellsOf f.type=d.sz) (h : Opens P d f.type g) (h' : OpensF P d' fs (off+d.sz) g') :
  OpensF P (Kd.pair d d') (f :: fs) off (fun x=>g x.1∧g' x.2):=by
 intro H enc w base spare held fuel cs hl hf;obtain ⟨x,hx⟩:=hf f (by simp);obtain ⟨a,hk,hg⟩:=h H enc w base spare held fuel _ x hx;have hl2 : off+(d.sz+d'.sz)≤cs.length:=hl;obtain ⟨b,hk',hg'⟩:=h' H enc w base spare held fuel cs (by omega) (fun f' hf' => hf f' (by simp [hf']));rw [ho,hc] at hk;refine ⟨(a,b),⟨_,_,?_,hk,hk'⟩,hg,hg'⟩;show (cs.drop off).take (d.sz+d'.sz)=_;rw [List.take_add,List.drop_drop]
theorem opens_struct {α β : Type} {t : TypeId} {fs : Array Field} {d : Kd α} {g : α→Prop} {f : β→α} (f' : α→β) (hf : ∀ a,f (f' a)=a) (ht : P.underlying t=some (.struct fs)) (hc : P.cellsOf t=d.sz) (h : OpensF P d fs.toList 0 g) :
  Opens P (Kd.iso d f) t (fun b=>g (f b)):=by
 intro H enc w base spare held fuel cs x hx;obtain ⟨xs,n,_,_,hl,hlen,hxs⟩:=DataW.trod_struct ht hx
 obtain ⟨a,hk,hg⟩:=h H enc w base spare held n cs (by omega) (fun y hy=>by
  obtain ⟨i,hi⟩:=List.mem_iff_getElem?.1 hy;have:=hxs i y (by simpa using hi)
  have hlt : i<xs.length:=by
   have:=(List.getElem?_eq_some_iff.1 hi).1;rw [hlen]
   simpa using this
  rw [List.getElem?_eq_getElem hlt] at this
  exact ⟨_,this⟩)
 rw [List.drop_zero,show d.sz=cs.length by omega,List.take_length] at hk;exact ⟨f' a,by show d.K w (f (f' a)) cs;rw [hf];exact hk,by show g (f (f' a));rw [hf];exact hg⟩
theorem arg_slice {α : Type} {d : Kd α} {t e : TypeId} {g : List α→Prop} {H : Type} {enc : TypeId×Value→H} {w : World} {base b0 : Nat} {spare : Nat→Bool} {held : Bool} {r : Reach} {v : Value} {dd : DataW H} {p : List MemPlace}
  (ht : P.underlying t=some (.slice e)) (h : Opens P (Kd.slice e d) t g) (hv : Value.okWide P w r b0 t v) (hd : DataW.Trod enc P w base spare held t v dd p) :
  ∃ (l : List α) (A : Option Addr) (c : Nat),v = .slice A l.length c∧l.length≤c∧Kd.C d w A l.length l∧g l:=by
 obtain ⟨a,len,cap,rfl⟩:=okWide_slice ht hv;obtain ⟨fuel,hf⟩:=hd;obtain ⟨l,⟨A,c,he,hl,hc⟩,hg⟩:=h H enc w base spare held fuel _ _ hf;simp [Value.cells] at he;obtain ⟨rfl,rfl,rfl⟩:=he;exact ⟨l,a,cap,rfl,hl,hc,hg⟩
end Go.Proofs.YtoinoihiknmnmaaW.PrintOpen
end
section
namespace Go.Proofs.Ytoinoihiknmnmaa.Q
open Go.RowKit Go.Proofs.YtoinoihiknmnmaaW.PrintWords Go.Proofs.YtoinoihiknmnmaaW.PrintLast Go.Proofs.YtoinoihiknmnmaaW.PrintMore Go.Proofs.YtoinoihiknmnmaaW.PrintOpen
def good48 (x_ : S48) : Prop:=((Lit.int .i64 x_.f0).wf=true)∧(((Lit.int .i64 x_.f1).wf=true)∧((x_.f2.size≤9223372036854775807)))
theorem opens48 : Opens Try.prog k48 48 good48 :=
 opens_struct (f:=(fun x : S48=>(x.f0,x.f1,x.f2))) (fun ⟨x0,x1,x2⟩=>⟨x0,x1,x2⟩) (fun _=>rfl) Try.underlying48 (by kernel_rfl) (opensF_cons rfl (by kernel_rfl) (opens_int Try.underlying3) (opensF_cons rfl (by kernel_rfl) (opens_int Try.underlying3) (opensF_one rfl (by kernel_rfl) (opens_string Try.underlying9))))
def good50 (x_ : S50) : Prop:=(x_.f0.size≤9223372036854775807)∧((good48 x_.f1))
theorem opens50 : Opens Try.prog k50 50 good50 :=
 opens_struct (f:=(fun x : S50=>(x.f0,x.f1))) (fun ⟨x0,x1⟩=>⟨x0,x1⟩) (fun _=>rfl) Try.underlying50 (by kernel_rfl) (opensF_cons rfl (by kernel_rfl) (opens_string Try.underlying9) (opensF_one rfl (by kernel_rfl) opens48))
end Go.Proofs.Ytoinoihiknmnmaa.Q
end
section
namespace Go.Proofs.Ytoinoihiknmnmaa.Q
def Fi.Pure : Prop:=∀ (x0 : List (S50)),((x0.length≤9223372036854775807 ∧ ∀ y0_ ∈ x0,good50 y0_)) → ∃ k,Fi.f k x0=some true
end Go.Proofs.Ytoinoihiknmnmaa.Q
end
section
namespace Go.Proofs.YtoinoihiknmnmaaW.Pl
open Go Go.RowKit Go.Proofs.YtoinoihiknmnmaaW.PrintWords Go.Proofs.YtoinoihiknmnmaaW.PrintMore
theorem w64 {i : Int} (h0 : -9223372036854775808≤i) (h1 : i≤9223372036854775807) : wrap64 i=i:=by unfold wrap64;omega
theorem fuel {k d : Nat} (h : d<k) : ∃ m,k=m+1∧d≤m:=⟨k - 1,by omega,by omega⟩
theorem rd_at (xs : List Int) (i : Nat) (h : i<xs.length) : rd xs (i : Int)=xs[i]:=by
 unfold rd;simp [List.getD,h]
theorem getD_at {α : Type} (d : α) (xs : List α) (i : Nat) (h : i<xs.length) : xs.getD (i : Int).toNat d=xs[i]:=by
 simp [List.getD,h]
theorem drop_at {α : Type} (xs : List α) (i : Nat) (h : i<xs.length) : xs.drop i=xs[i] :: xs.drop (i+1):=List.drop_eq_getElem_cons h
theorem ba_toList (a : ByteArray) : a.toList=a.data.toList:=ByteArray.toList_eq a
theorem ba_ext {a b : ByteArray} (h : a.toList=b.toList) : a=b:=by
 rw [ba_toList,ba_toList] at h
 cases a;cases b
 simp at h;rw [h]
theorem map_loop {α β : Type} (g : Nat→List β→Int→Option (List β)) (xs : List α) (c : α→β)
  (hstep : ∀ (k : Nat) (ys : List β) (i : Nat) (h : i<xs.length),ys.length=xs.length→g (k+1) ys (i : Int)=g k (ys.set i (c xs[i])) ((i+1 : Nat) : Int))
  (hend : ∀ (k : Nat) (ys : List β),ys.length=xs.length→g (k+1) ys (xs.length : Int)=some ys) :
  ∀ (d k i : Nat) (ys : List β),i+d=xs.length→d<k→ys.length=xs.length→g k ys (i : Int)=some (ys.take i++(xs.drop i).map c):=by
 intro d
 induction d with
 | zero =>
  intro k i ys hi hk hy;obtain ⟨k,rfl,_⟩:=fuel hk;obtain rfl : i=xs.length:=by omega
  rw [hend k ys hy,List.drop_length,List.take_of_length_le (by omega)];simp
 | succ d ih =>
  intro k i ys hi hk hy;obtain ⟨k,rfl,_⟩:=fuel hk;have hlt : i<xs.length:=by omega
  have ht : (ys.set i (c xs[i])).take (i+1)=ys.take i ++ [c xs[i]]:=by
   rw [List.take_succ_eq_append_getElem (by simp;omega),List.getElem_set_self,List.take_set_of_le (Nat.le_refl _)]
  rw [hstep k ys i hlt hy,ih k (i+1) _ (by omega) (by omega) (by simp [hy]),ht,drop_at xs i hlt,List.map_cons,List.append_assoc]
  rfl
theorem map_loop0 {α β : Type} (g : Nat→List β→Int→Option (List β)) (xs : List α) (c : α→β)
  (hstep : ∀ (k : Nat) (ys : List β) (i : Nat) (h : i<xs.length),ys.length=xs.length→g (k+1) ys (i : Int)=g k (ys.set i (c xs[i])) ((i+1 : Nat) : Int))
  (hend : ∀ (k : Nat) (ys : List β),ys.length=xs.length→g (k+1) ys (xs.length : Int)=some ys) {k : Nat} (hk : xs.length<k) (z : β) : g k (List.replicate xs.length z) 0=some (xs.map c):=by
 have:=map_loop g xs c hstep hend xs.length k 0 (List.replicate xs.length z) (by omega) hk (by simp)
 simpa using this
def all2 {α β : Type} (e : α→β→Bool) : List α→List β→Bool
 | [],_=>true
 | _ :: _,[]=>true
 | x :: xs,y :: ys=>e x y && all2 e xs ys
def first {α : Type} (p : α→Bool) : List α→Nat→Int
 | [],_ => -1
 | x :: xs,i=>if p x=true then i else first p xs (i+1)
theorem first_any {α : Type} (p : α→Bool) : ∀ (xs : List α) (i : Nat),decide (first p xs i ≥ 0)=xs.any p
 | [],i=>rfl
 | x :: xs,i=>by
  by_cases h : p x=true
  ·
   simp [first,h]
  simp only [first,if_neg h,List.any_cons,first_any p xs (i+1)];simp [h]
theorem first_loop {α : Type} (g : Nat→Int→Option Int) (xs : List α) (p : α→Bool)
  (hstep : ∀ (k i : Nat) (h : i<xs.length),g (k+1) (i : Int)=if p xs[i]=true then some (i : Int) else g k ((i+1 : Nat) : Int))
  (hend : ∀ k,g (k+1) (xs.length : Int)=some (-1)) : ∀ (d k i : Nat),i+d=xs.length→d<k→g k (i : Int)=some (first p (xs.drop i) i):=by
 intro d
 induction d with
 | zero =>
  intro k i hi hk;obtain ⟨k,rfl,_⟩:=fuel hk;obtain rfl : i=xs.length:=by omega
  rw [hend,List.drop_length];rfl
 | succ d ih =>
  intro k i hi hk;obtain ⟨k,rfl,_⟩:=fuel hk;have hlt : i<xs.length:=by omega
  rw [hstep k i hlt,drop_at xs i hlt]
  by_cases h : p xs[i]=true
  ·
   rw [if_pos h]
   simp [first,h]
  rw [if_neg h,ih k (i+1) (by omega) (by omega)];simp [first,h]
def total {α : Type} (s : α→Nat) : List α→Nat
 | []=>0
 | x :: xs=>s x+total s xs
theorem total_le {α : Type} (s : α→Nat) : ∀ (xs : List α) (x : α),x ∈ xs→s x≤total s xs
 | _ :: xs,x,h=>by
  rcases List.mem_cons.1 h with rfl|h
  ·
   simp [total]
  have:=total_le s xs x h;simp [total];omega
def less {α : Type} (s : α→Nat) : List α→Int→Int
 | [],l=>l
 | x :: xs,l=>if l - s x<0 then -1 else less s xs (l - s x)
theorem less_is {α : Type} (s : α→Nat) : ∀ (xs : List α) (l : Int),0≤l→less s xs l=if l<total s xs then -1 else l - total s xs
 | [],l,h=>by simp [less,total];omega
 | x :: xs,l,h=>by
  have ht : ((total s (x :: xs) : Nat) : Int)=s x+total s xs:=by simp [total]
  rw [ht];simp only [less]
  by_cases h1 : l - s x<0
  ·
   rw [if_pos h1,if_pos (by omega)]
  rw [if_neg h1,less_is s xs _ (by omega)]
  by_cases h2 : l<s x+total s xs
  ·
   rw [if_pos (by omega),if_pos (by omega)]
  rw [if_neg (by omega),if_neg (by omega)];omega
theorem less_loop {α : Type} (g : Nat→Int→Int→Option Int) (xs : List α) (s : α→Nat)
  (hstep : ∀ (k i : Nat) (l : Int) (h : i<xs.length),0≤l→l≤1048576→g (k+1) l (i : Int)=if l - s xs[i]<0 then some (-1) else g k (l - s xs[i]) ((i+1 : Nat) : Int))
  (hend : ∀ k l,g (k+1) l (xs.length : Int)=some l) : ∀ (d k i : Nat) (l : Int),i+d=xs.length→d<k→0≤l→l≤1048576→g k l (i : Int)=some (less s (xs.drop i) l):=by
 intro d
 induction d with
 | zero =>
  intro k i l hi hk h0 h1;obtain ⟨k,rfl,_⟩:=fuel hk;obtain rfl : i=xs.length:=by omega
  rw [hend,List.drop_length];rfl
 | succ d ih =>
  intro k i l hi hk h0 h1;obtain ⟨k,rfl,_⟩:=fuel hk;have hlt : i<xs.length:=by omega
  rw [hstep k i l hlt h0 h1,drop_at xs i hlt]
  by_cases h : l - s xs[i]<0
  ·
   rw [if_pos h];simp [less,h]
  rw [if_neg h,ih k (i+1) _ (by omega) (by omega) (by omega) (by omega)];simp [less,h]
def Eve {α : Type} (g : Nat→Option α) (v : α) : Prop:=∃ K,∀ k,K≤k→g k=some v
theorem Eve.one {α : Type} {v : α} : Eve (fun _=>some v) v:=⟨0,fun _ _=>rfl⟩
theorem Eve.all {α : Type} {g : Nat→Option α} {v : α} (h : ∀ k,g k=some v) : Eve g v:=⟨0,fun k _=>h k⟩
theorem Eve.of {α : Type} {g : Nat→Option α} {v : α} {n : Nat} (h : ∀ k,n<k→g k=some v) : Eve g v:=⟨n+1,fun k hk=>h k (by omega)⟩
theorem Eve.succ {α : Type} {g : Nat→Option α} {v : α} (h : Eve (fun k=>g (k+1)) v) : Eve g v:=by
 obtain ⟨K,h⟩:=h;refine ⟨K+1,fun k hk=>?_⟩;obtain ⟨k,rfl⟩ : ∃ m,k=m+1:=⟨k - 1,by omega⟩;exact h k (by omega)
theorem Eve.bind {α β : Type} {g : Nat→Option α} {f : Nat→α→Option β} {v : α} {u : β} (h : Eve g v) (h2 : Eve (fun k=>f k v) u) : Eve (fun k=>(g k).bind (f k)) u:=by
 obtain ⟨K,h⟩:=h;obtain ⟨K2,h2⟩:=h2;refine ⟨max K K2,fun k hk=>?_⟩;show (g k).bind (f k)=some u;rw [h k (by omega),Option.bind_some];exact h2 k (by omega)
theorem Eve.ite {α : Type} {c : Prop} [Decidable c] {a b : Nat→Option α} {v : α} (h1 : c→Eve a v) (h2 : ¬ c→Eve b v) : Eve (fun k=>if c then a k else b k) v:=by
 by_cases h : c
 ·
  simp only [if_pos h];exact h1 h
 simp only [if_neg h];exact h2 h
theorem Eve.get {α : Type} {g : Nat→Option α} {v : α} (h : Eve g v) : ∃ k,g k=some v:=by
 obtain ⟨K,h⟩:=h;exact ⟨K,h K (by omega)⟩
theorem Eve.eq {α : Type} {g : Nat→Option α} {v u : α} (h : Eve g v) (e : v=u) : Eve g u:=e ▸ h
theorem Eve.congr {α : Type} {g f : Nat→Option α} {v : α} (h : Eve g v) (e : ∀ k,f k=g k) : Eve f v:=by
 obtain ⟨K,h⟩:=h;exact ⟨K,fun k hk=>by rw [e,h k hk]⟩
theorem ev_loop {σ α β : Type} (xs : List α) (g : Nat→σ→Int→Option β) (R : Nat→σ→List α→β) (I : Nat→σ→Prop)
  (hend : ∀ s,I xs.length s→Eve (fun k=>g (k+1) s (xs.length : Int)) (R xs.length s []))
  (hstep : ∀ (i : Nat) (h : i<xs.length) (s : σ),I i s→(∀ s',I (i+1) s' → Eve (fun k=>g k s' ((i+1 : Nat) : Int)) (R (i+1) s' (xs.drop (i+1)))) →
   Eve (fun k=>g (k+1) s (i : Int)) (R i s (xs[i] :: xs.drop (i+1)))) :
  ∀ (d i : Nat) (s : σ),i+d=xs.length→I i s→Eve (fun k=>g k s (i : Int)) (R i s (xs.drop i)):=by
 intro d
 induction d with
 | zero =>
  intro i s hi hI;obtain rfl : i=xs.length:=by omega
  rw [List.drop_length];exact Eve.succ (hend s hI)
 | succ d ih =>
  intro i s hi hI;have hlt : i<xs.length:=by omega
  rw [drop_at xs i hlt];exact Eve.succ (hstep i hlt s hI (fun s' h' => ih (i+1) s' (by omega) h'))
theorem ev_loop0 {σ α β : Type} (xs : List α) (g : Nat→σ→Int→Option β) (R : Nat→σ→List α→β) (I : Nat→σ→Prop)
  (hend : ∀ s,I xs.length s→Eve (fun k=>g (k+1) s (xs.length : Int)) (R xs.length s []))
  (hstep : ∀ (i : Nat) (h : i<xs.length) (s : σ),I i s→(∀ s',I (i+1) s' → Eve (fun k=>g k s' ((i+1 : Nat) : Int)) (R (i+1) s' (xs.drop (i+1)))) →
   Eve (fun k=>g (k+1) s (i : Int)) (R i s (xs[i] :: xs.drop (i+1)))) (s : σ) (h0 : I 0 s) : Eve (fun k=>g k s 0) (R 0 s xs):=by
 have:=ev_loop xs g R I hend hstep xs.length 0 s (by omega) h0
 simpa using this
theorem ev_all {α : Type} (xs : List α) (g : Nat→Int→Option Bool) (q : α→Bool)
  (hend : Eve (fun k=>g (k+1) (xs.length : Int)) true)
  (hstep : ∀ (i : Nat) (h : i<xs.length) (v : Bool),Eve (fun k=>g k ((i+1 : Nat) : Int)) v→Eve (fun k=>g (k+1) (i : Int)) (q xs[i] && v)) : Eve (fun k=>g k 0) (xs.all q) :=
 ev_loop0 xs (fun k (_ : Unit) i=>g k i) (fun _ _ r=>r.all q) (fun _ _=>True) (fun _ _=>hend) (fun i hi s _ ih=>by
  rw [List.all_cons];exact hstep i hi _ (ih () trivial)) () trivial
end Go.Proofs.YtoinoihiknmnmaaW.Pl
end
section
namespace Go.Proofs.Ytoinoihiknmnmaa.Pure
open Go Go.RowKit Go.Proofs.Ytoinoihiknmnmaa.Q Go.Proofs.YtoinoihiknmnmaaW.PrintWords Go.Proofs.YtoinoihiknmnmaaW.PrintLast Go.Proofs.YtoinoihiknmnmaaW.PrintMore Go.Proofs.YtoinoihiknmnmaaW.Pl
theorem wi {i : Nat} (h : i≤9223372036854775806) : wrap64 ((i : Int)+1)=((i+1 : Nat) : Int):=w64 (by omega) (by omega)
theorem w64m (y : Int) : wrap64 y=(y+9223372036854775808) % 18446744073709551616 - 9223372036854775808:=by unfold wrap64;omega
def stp (x b : Int) : Int:=wrap64 (wrap64 (x*256)+wrap64 b)
theorem or_byte (x b : Int) (h0 : 0≤b) (h1 : b≤255) : Go.bits .or .i64 (wrap64 (x*256)) (wrap64 b)=stp x b:=by
 have e1 : (BitVec.ofInt 64 (wrap64 (x*256))).toNat=2 ^ 8*(x % 72057594037927936).toNat:=by
  rw [BitVec.toNat_ofInt,w64m];omega
 have e2 : (BitVec.ofInt 64 (wrap64 b)).toNat=b.toNat:=by
  rw [BitVec.toNat_ofInt,w64m];omega
 have e3 : (BitVec.ofInt 64 (wrap64 (x*256)) ||| BitVec.ofInt 64 (wrap64 b)).toNat=2 ^ 8*(x % 72057594037927936).toNat+b.toNat:=by
  rw [BitVec.toNat_or,e1,e2,Nat.two_pow_add_eq_or_of_lt (by omega)]
 show IntKind.wrap .i64 ((BitVec.ofInt 64 (wrap64 (x*256)) ||| BitVec.ofInt 64 (wrap64 b)).toNat : Int)=_;rw [e3,i64_w];unfold stp;rw [w64m,w64m,w64m,w64m]
 omega
def bigV (l : List Int) : Int:=l.foldl stp 0
theorem bytes_in (a : ByteArray) : ∀ b ∈ bytesOf a,0≤b∧b≤255:=by
 intro b hb;obtain ⟨c,_,rfl⟩:=List.mem_map.1 hb;have:=c.toNat_lt
 omega
theorem bt_get (a : ByteArray) (i : Nat) (h : i<(bytesOf a).length) : bt a (i : Int)=(bytesOf a)[i]:=by
 rw [← rd_bytesOf,rd_at _ _ h]
theorem big_tells (l : List Int) (hl : l.length≤1048576) (hb : ∀ b ∈ l,0≤b∧b≤255) : Eve (fun k=>Ft.f k l) (bigV l):=by
 simp only [Ft.f];refine ev_loop0 l (fun k (s : Int) i=>Ft.l0 k s l (l.length : Int) i) (fun _ s r=>r.foldl stp s) (fun _ _=>True) (fun s _=>?_) (fun i hi s _ ih=>?_) 0 trivial
 ·
  simp only [Ft.l0]
  exact Eve.ite (fun h=>absurd h (by omega)) (fun _=>Eve.one)
 have hx:=hb l[i] (List.getElem_mem hi);simp only [Ft.l0];refine Eve.ite (fun _=>?_) (fun h=>absurd (by omega) h);refine Eve.ite (fun _=>?_) (fun h=>absurd (by omega) h);refine Eve.ite (fun _=>?_) (fun h=>absurd (by omega) h);simp only [rd_at _ _ hi,or_byte _ _ hx.1 hx.2,wi (show i≤9223372036854775806 by omega)];exact ih _ trivial
theorem of_tells (a : ByteArray) (hl : a.size≤1048576) : Eve (fun k=>Fr.f k a) (bigV (bytesOf a)):=by
 have hn : (bytesOf a).length=a.size:=bytesOf_length a;simp only [Fr.f];refine ev_loop0 (bytesOf a) (fun k (s : Int) i=>Fr.l0 k a s i) (fun _ s r=>r.foldl stp s) (fun _ _=>True) (fun s _=>?_) (fun i hi s _ ih=>?_) 0 trivial
 ·
  simp only [Fr.l0]
  exact Eve.ite (fun h=>absurd h (by omega)) (fun _=>Eve.one)
 simp only [Fr.l0];refine Eve.ite (fun _=>?_) (fun h=>absurd (by omega) h);refine Eve.ite (fun _=>?_) (fun h=>absurd (by omega) h);simp only [bt_get a i hi,wi (show i≤9223372036854775806 by omega)];exact ih _ trivial
def zer (n : Nat) : ByteArray:=⟨(Lib.repeatL [0] n).toArray⟩
def takV (a : ByteArray) (f : Bool) (n : Nat) : ByteArray×ByteArray×Bool:=if a.size<n then (zer n,a,true) else (a.extract 0 n,a.extract n a.size,f)
def numV (a : ByteArray) (f : Bool) (n : Nat) : Int×ByteArray×Bool:=if a.size<n then (0,a,true) else (bigV (bytesOf (a.extract 0 n)),a.extract n a.size,f)
theorem take_tells (a : ByteArray) (f : Bool) (n : Nat) (hn : n≤65535) : F03.f a f (n : Int)=some (takV a f n):=by
 unfold F03.f takV
 by_cases h : a.size<n
 ·
  rw [if_pos (by omega),if_pos h]
  unfold strings_Repeat.f;rw [if_pos (by omega),if_pos (by rw [show (⟨#[0]⟩ : ByteArray).size=1 from rfl];omega),if_pos (by omega)]
  rfl
 rw [if_neg (by omega),if_pos (by omega),if_pos (by omega),if_neg h]
 rfl
theorem zer_size (n : Nat) : (zer n).size=n:=by
 show (Lib.repeatL [0] n).toArray.size=n;rw [List.size_toArray,Lib.repeatL_length];simp
theorem fold_zero : ∀ n : Nat,((Lib.repeatL [0] n).map fun b : UInt8=>(b.toNat : Int)).foldl stp 0=0
 | 0=>rfl
 | n+1=>by
  have e : stp 0 0=0:=by unfold stp;rw [w64m,w64m,w64m];omega
  simp only [Lib.repeatL,List.cons_append,List.nil_append,List.map_cons,List.foldl_cons];rw [show ((0 : UInt8).toNat : Int)=0 from rfl,e];exact fold_zero n
theorem big_zer (n : Nat) : bigV (bytesOf (zer n))=0:=by
 unfold bigV bytesOf zer;exact fold_zero n
theorem num_tells (a : ByteArray) (f : Bool) (n : Nat) (hn : n≤65535) : Eve (fun k=>Fp.f k a f (n : Int)) (numV a f n):=by
 simp only [Fp.f,take_tells a f n hn,Option.bind_some];unfold takV numV
 by_cases h : a.size<n
 ·
  simp only [if_pos h]
  have hz:=zer_size n;refine Eve.ite (fun _=>?_) (fun h=>absurd (by omega) h);refine Eve.bind (big_tells _ (by rw [bytesOf_length,hz];omega) (bytes_in _)) ?_;rw [big_zer];exact Eve.one
 simp only [if_neg h];have hz : (a.extract 0 n).size≤n:=by rw [ByteArray.size_extract];omega
 refine Eve.ite (fun _=>?_) (fun h=>absurd (by omega) h);exact Eve.bind (big_tells _ (by rw [bytesOf_length];omega) (bytes_in _)) Eve.one
theorem big1 (x : Int) (h : 0≤x∧x≤255) : bigV [x]=x:=by
 simp only [bigV,List.foldl_cons,List.foldl_nil,stp];rw [w64m,w64m,w64m];omega
theorem big2 (x y : Int) (h : 0≤x∧x≤255) (h2 : 0≤y∧y≤255) : 0≤bigV [x,y]∧bigV [x,y]≤65535:=by
 simp only [bigV,List.foldl_cons,List.foldl_nil,stp];simp only [w64m];omega
theorem len1 {l : List Int} (h : l.length=1) : ∃ x,l=[x]:=by
 match l,h with
 | [x],_=>exact ⟨x,rfl⟩
theorem len2 {l : List Int} (h : l.length=2) : ∃ x y,l=[x,y]:=by
 match l,h with
 | [x,y],_=>exact ⟨x,y,rfl⟩
theorem bytes_ext1 (a : ByteArray) (i : Nat) (h : i<a.size) : bigV (bytesOf (a.extract i (i+1)))=bt a (i : Int):=by
 have hl : (bytesOf (a.extract i (i+1))).length=1:=by rw [bytesOf_length,ByteArray.size_extract];omega
 obtain ⟨x,hx⟩:=len1 hl;have h2:=bytes_in (a.extract i (i+1)) x (by rw [hx];simp);have h3:=bt_get (a.extract i (i+1)) 0 (by omega);rw [hx,big1 x h2];simp only [hx,List.getElem_cons_zero] at h3;rw [← h3];unfold bt;have e0 : (((0 : Nat) : Int)).toNat=0:=rfl;have e1 : ((i : Int)).toNat=i:=Int.toNat_natCast i;simp only [e0,e1];rw [dif_pos (by rw [ByteArray.size_extract];omega),dif_pos h]
 congr 2
 rw [ByteArray.getElem_extract];simp
theorem bytes_ext2 (a : ByteArray) (i : Nat) (h : i+2≤a.size) : 0≤bigV (bytesOf (a.extract i (i+2)))∧bigV (bytesOf (a.extract i (i+2)))≤65535:=by
 have hl : (bytesOf (a.extract i (i+2))).length=2:=by rw [bytesOf_length,ByteArray.size_extract];omega
 obtain ⟨x,y,hx⟩:=len2 hl;have hb:=bytes_in (a.extract i (i+2));rw [hx] at hb ⊢;exact big2 x y (hb x (by simp)) (hb y (by simp))
abbrev IVal:=S25
abbrev eB : ByteArray:=⟨#[]⟩
abbrev Rd:=Int×Int×ByteArray×ByteArray×Bool
def valV (a : ByteArray) (f : Bool) : Rd :=
  let q:=numV a f 1
  if q.1=1 then (q.1,(numV q.2.1 q.2.2 1).1,eB,(numV q.2.1 q.2.2 1).2.1,(numV q.2.1 q.2.2 1).2.2)
  else if q.1=2 then (q.1,wrap64 ((numV q.2.1 q.2.2 8).1 - 4611686018427387904),eB,(numV q.2.1 q.2.2 8).2.1,(numV q.2.1 q.2.2 8).2.2)
  else if q.1=3∨q.1=4∨q.1=5 then
    let r:=numV q.2.1 q.2.2 2
    (q.1,0,(takV r.2.1 r.2.2 r.1.toNat).1,(takV r.2.1 r.2.2 r.1.toNat).2.1,(takV r.2.1 r.2.2 r.1.toNat).2.2)
  else (q.1,0,eB,q.2.1,q.2.2)
theorem num2_in (a : ByteArray) (f : Bool) : 0≤(numV a f 2).1∧(numV a f 2).1≤65535:=by
  unfold numV
  by_cases h : a.size<2
  · rw [if_pos h];simp
  rw [if_neg h];exact bytes_ext2 a 0 (by omega)
theorem j0_tells (q x1 : Int) (t : ByteArray) (a : ByteArray) (f : Bool) : Eve (fun k=>Fc.j0 k true a f q x1 t) (q,x1,(takV (numV a f 2).2.1 (numV a f 2).2.2 (numV a f 2).1.toNat).1,(takV (numV a f 2).2.1 (numV a f 2).2.2 (numV a f 2).1.toNat).2.1,(takV (numV a f 2).2.1 (numV a f 2).2.2 (numV a f 2).1.toNat).2.2):=by
  refine Eve.succ ?_;simp only [Fc.j0,if_true];refine Eve.bind (num_tells a f 2 (by omega)) ?_;have hb:=num2_in a f;have ht:=take_tells (numV a f 2).2.1 (numV a f 2).2.2 (numV a f 2).1.toNat (by omega);rw [show (((numV a f 2).1.toNat : Nat) : Int)=(numV a f 2).1 from Int.toNat_of_nonneg hb.1] at ht;simp only [ht,Option.bind_some];exact Eve.one
theorem value_tells (a : ByteArray) (f : Bool) : Eve (fun k=>Fc.f k a f) (valV a f):=by
  simp only [Fc.f];refine Eve.bind (num_tells a f 1 (by omega)) ?_;unfold valV;generalize numV a f 1=q;simp only;refine Eve.ite (fun h=>?_) (fun h=>?_)
  · rw [if_pos h]
    exact Eve.bind (num_tells q.2.1 q.2.2 1 (by omega)) Eve.one
  rw [if_neg h];refine Eve.ite (fun h2=>?_) (fun h2=>?_)
  · rw [if_pos h2]
    exact Eve.bind (num_tells q.2.1 q.2.2 8 (by omega)) Eve.one
  rw [if_neg h2];refine Eve.ite (fun h3=>?_) (fun h3=>?_)
  · rw [if_pos (.inl h3)]
    simp only [h3,beq_self_eq_true];exact j0_tells _ _ _ _ _
  refine Eve.ite (fun h4=>?_) (fun h4=>?_)
  · rw [if_pos (.inr (.inl h4))]
    simp only [h4,beq_self_eq_true];exact j0_tells _ _ _ _ _
  by_cases h5 : q.1=5
  · rw [if_pos (.inr (.inr h5))]
    simp only [h5,beq_self_eq_true];exact j0_tells _ _ _ _ _
  rw [if_neg (by omega)];have : (q.1 == 5)=false:=by simpa using h5
  simp only [this];refine Eve.succ ?_;simp only [Fc.j0,Bool.false_eq_true,if_false];exact Eve.one
def nxtV (a : ByteArray) : Option (IVal×ByteArray) :=
  if a.size=0 then none
  else if bt a 0=0 then some (⟨0,0,eB⟩,a.extract 1 a.size)
  else if bt a 0=1 then (if a.size<2 then none else some (⟨1,bt a 1,eB⟩,a.extract 2 a.size))
  else if bt a 0=2 then (if a.size<9 then none else if bt a 1 > 127 then none else some (⟨2,wrap64 (bigV (bytesOf (a.extract 1 9)) - 4611686018427387904),eB⟩,a.extract 9 a.size))
  else if bt a 0=3∨bt a 0=4∨bt a 0=5 then
    (if a.size<3 then none else if (a.size : Int)<3+bigV (bytesOf (a.extract 1 3)) then none
     else some (⟨bt a 0,0,a.extract 3 (3+bigV (bytesOf (a.extract 1 3))).toNat⟩,a.extract (3+bigV (bytesOf (a.extract 1 3))).toNat a.size))
  else none
def told (o : Option (IVal×ByteArray)) : Rd:=match o with|some (v,r)=>(v.f0,v.f1,v.f2,r,true)|none=>(0,0,eB,eB,false)
theorem wbt (a : ByteArray) (i : Int) : wrap64 (bt a i)=bt a i:=w64 (by have:=bt_range a i;omega) (by have:=bt_range a i;omega)
theorem n0_tells (a : ByteArray) (q : Int) (hs : a.size≤1048576) : Eve (fun k=>F2.j0 k a true q 0 eB)
    (told (if a.size<3 then none else if (a.size : Int)<3+bigV (bytesOf (a.extract 1 3)) then none
     else some (⟨q,0,a.extract 3 (3+bigV (bytesOf (a.extract 1 3))).toNat⟩,a.extract (3+bigV (bytesOf (a.extract 1 3))).toNat a.size))):=by
  refine Eve.succ ?_;simp only [F2.j0,if_true];refine Eve.ite (fun h=>?_) (fun h=>?_)
  · rw [if_pos (by omega)];exact Eve.one
  rw [if_neg (by omega)];refine Eve.ite (fun _=>?_) (fun h=>absurd (by omega) h);refine Eve.ite (fun _=>?_) (fun h=>absurd (by omega) h);refine Eve.bind (of_tells (a.extract 1 3) (by rw [ByteArray.size_extract];omega)) ?_;have hb:=bytes_ext2 a 1 (by omega);simp only [show 1+2=3 from rfl] at hb;have hw : wrap64 (3+bigV (bytesOf (a.extract 1 3)))=3+bigV (bytesOf (a.extract 1 3)):=w64 (by omega) (by omega);simp only [hw];refine Eve.ite (fun h2=>?_) (fun h2=>?_)
  · rw [if_pos h2];exact Eve.one
  rw [if_neg h2];refine Eve.ite (fun _=>?_) (fun h=>absurd (by omega) h);refine Eve.ite (fun _=>?_) (fun h=>absurd (by omega) h);exact Eve.ite (fun _=>Eve.one) (fun h=>absurd (by omega) h)
theorem next_tells (a : ByteArray) (hs : a.size≤1048576) : Eve (fun k=>F2.f k a) (told (nxtV a)):=by
  unfold nxtV;simp only [F2.f,wbt];refine Eve.ite (fun h=>?_) (fun h=>?_)
  · have hz : a.size=0:=by omega
    rw [if_pos hz];exact Eve.one
  have hz : ¬ a.size=0:=by omega
  rw [if_neg hz];refine Eve.ite (fun _=>?_) (fun h=>absurd (by omega) h);refine Eve.ite (fun h0=>?_) (fun h0=>?_)
  · rw [if_pos h0]
    refine Eve.ite (fun _=>?_) (fun h=>absurd (by omega) h);exact Eve.one.eq (by rw [h0];rfl)
  rw [if_neg h0];refine Eve.ite (fun h1=>?_) (fun h1=>?_)
  · rw [if_pos h1]
    refine Eve.succ ?_;simp only [F2.j1,wbt,h1];have hw : wrap64 (1+1)=2:=w64 (by omega) (by omega);simp only [hw,if_true];refine Eve.ite (fun h=>?_) (fun h=>?_)
    · have hy : a.size<2:=by omega
      rw [if_pos hy];exact Eve.one
    have hy : ¬ a.size<2:=by omega
    rw [if_neg hy];refine Eve.ite (fun _=>?_) (fun h=>absurd (by omega) h);refine Eve.ite (fun _=>?_) (fun h=>absurd (by omega) h);exact Eve.ite (fun _=>Eve.one) (fun h=>absurd (by omega) h)
  rw [if_neg h1];refine Eve.ite (fun h2=>?_) (fun h2=>?_)
  · rw [if_pos h2]
    refine Eve.succ ?_;simp only [F2.j1,h2];have hw : wrap64 (1+8)=9:=w64 (by omega) (by omega);simp only [hw];refine Eve.ite (fun h=>?_) (fun h=>?_)
    · have hy : a.size<9:=by omega
      rw [if_pos hy];exact Eve.one
    have hy : ¬ a.size<9:=by omega
    rw [if_neg hy];refine Eve.ite (fun h=>absurd h (by omega)) (fun _=>?_);refine Eve.ite (fun _=>?_) (fun h=>absurd (by omega) h);refine Eve.ite (fun h=>?_) (fun h=>?_)
    · rw [if_pos h];exact Eve.one
    rw [if_neg h];refine Eve.ite (fun _=>?_) (fun h=>absurd (by omega) h);refine Eve.ite (fun _=>?_) (fun h=>absurd (by omega) h);refine Eve.bind (of_tells (a.extract 1 9) (by rw [ByteArray.size_extract];omega)) ?_;refine Eve.ite (fun _=>?_) (fun h=>absurd (by omega) h);exact Eve.ite (fun _=>Eve.one) (fun h=>absurd (by omega) h)
  rw [if_neg h2];refine Eve.ite (fun h3=>?_) (fun h3=>?_)
  · rw [if_pos (show bt a 0=3∨bt a 0=4∨bt a 0=5 from .inl h3)]
    simp only [h3,beq_self_eq_true];exact n0_tells a 3 hs
  refine Eve.ite (fun h4=>?_) (fun h4=>?_)
  · rw [if_pos (show bt a 0=3∨bt a 0=4∨bt a 0=5 from .inr (.inl h4))]
    simp only [h4,beq_self_eq_true];exact n0_tells a 4 hs
  by_cases h5 : bt a 0=5
  · rw [if_pos (show bt a 0=3∨bt a 0=4∨bt a 0=5 from .inr (.inr h5))]
    simp only [h5,beq_self_eq_true];exact n0_tells a 5 hs
  have hy : ¬ (bt a 0=3∨bt a 0=4∨bt a 0=5):=by omega
  rw [if_neg hy];have : (bt a 0 == 5)=false:=by simpa using h5
  simp only [this];refine Eve.succ ?_;simp only [F2.j0,Bool.false_eq_true,if_false];exact Eve.one
def Bad (v : IVal) : Prop:=v.f0<0∨v.f0 > 5∨(v.f0=2∧(v.f1 < -1000000000000∨v.f1 > 1000000000000))
def rdv (r : Rd) : IVal:=⟨r.1,r.2.1,r.2.2.1⟩
theorem num_one (a : ByteArray) (f : Bool) (h : 0<a.size) : numV a f 1=(bt a 0,a.extract 1 a.size,f):=by
  unfold numV;rw [if_neg (by omega)];have:=bytes_ext1 a 0 h;simp only [Nat.zero_add] at this;rw [this];rfl
theorem num_none (a : ByteArray) (f : Bool) (n : Nat) (h : a.size<n) : numV a f n=(0,a,true):=by unfold numV;rw [if_pos h]
theorem num_some (a : ByteArray) (f : Bool) (n : Nat) (h : n≤a.size) : numV a f n=(bigV (bytesOf (a.extract 0 n)),a.extract n a.size,f):=by unfold numV;rw [if_neg (by omega)]
theorem tail_size (a : ByteArray) (n : Nat) : (a.extract n a.size).size=a.size - n:=by rw [ByteArray.size_extract];omega
theorem ext_ext (a : ByteArray) (n i j : Nat) (h : n+j≤a.size) : (a.extract n a.size).extract i j=a.extract (n+i) (n+j):=by
  rw [ByteArray.extract_extract,Nat.min_eq_left h]
theorem ext_tail (a : ByteArray) (n i : Nat) (h : n≤a.size) : (a.extract n a.size).extract i (a.extract n a.size).size=a.extract (n+i) a.size:=by
  rw [tail_size,ByteArray.extract_extract]
  congr 1
  omega
theorem big8 (l : List Int) (x : Int) (r : List Int) (hl : l=x :: r) (hr : r.length=7) (hb : ∀ b ∈ l,0≤b∧b≤255) (hx : x > 127) : wrap64 (bigV l - 4611686018427387904) < -1000000000000∨wrap64 (bigV l - 4611686018427387904) > 1000000000000:=by
  subst hl
  match r,hr with
  | [b1,b2,b3,b4,b5,b6,b7],_ =>
    have h0:=hb x (by simp);have h1:=hb b1 (by simp);have h2:=hb b2 (by simp);have h3:=hb b3 (by simp);have h4:=hb b4 (by simp);have h5:=hb b5 (by simp);have h6:=hb b6 (by simp);have h7:=hb b7 (by simp)
    have e : bigV [x,b1,b2,b3,b4,b5,b6,b7]=x*72057594037927936+b1*281474976710656+b2*1099511627776+b3*4294967296+b4*16777216+b5*65536+b6*256+b7 - 18446744073709551616:=by
      simp only [bigV,List.foldl_cons,List.foldl_nil];have s0 : stp 0 x=x:=by unfold stp;simp only [w64m];omega
      have s1 : stp x b1=x*256+b1:=by unfold stp;simp only [w64m];omega
      have s2 : stp (x*256+b1) b2=x*65536+b1*256+b2:=by unfold stp;simp only [w64m];omega
      have s3 : stp (x*65536+b1*256+b2) b3=x*16777216+b1*65536+b2*256+b3:=by unfold stp;simp only [w64m];omega
      have s4 : stp (x*16777216+b1*65536+b2*256+b3) b4=x*4294967296+b1*16777216+b2*65536+b3*256+b4:=by unfold stp;simp only [w64m];omega
      have s5 : stp (x*4294967296+b1*16777216+b2*65536+b3*256+b4) b5=x*1099511627776+b1*4294967296+b2*16777216+b3*65536+b4*256+b5:=by unfold stp;simp only [w64m];omega
      have s6 : stp (x*1099511627776+b1*4294967296+b2*16777216+b3*65536+b4*256+b5) b6=x*281474976710656+b1*1099511627776+b2*4294967296+b3*16777216+b4*65536+b5*256+b6:=by unfold stp;simp only [w64m];omega
      rw [s0,s1,s2,s3,s4,s5,s6];unfold stp;simp only [w64m];omega
    rw [e,w64m]
    omega
theorem nxt_some (a : ByteArray) (v : IVal) (r : ByteArray) (h : nxtV a=some (v,r)) : valV a false=(v.f0,v.f1,v.f2,r,false)∧r.size<a.size:=by
  unfold nxtV at h
  by_cases hz : a.size=0
  · rw [if_pos hz] at h;simp at h
  rw [if_neg hz] at h;unfold valV;rw [num_one a false (by omega)];simp only;have ht:=tail_size a 1
  by_cases h0 : bt a 0=0
  · rw [if_pos h0] at h
    obtain ⟨rfl,rfl⟩ : _∧_:=by simpa using h
    rw [if_neg (by omega),if_neg (by omega),if_neg (by omega),h0];exact ⟨rfl,by omega⟩
  rw [if_neg h0] at h
  by_cases h1 : bt a 0=1
  · rw [if_pos h1] at h
    by_cases h2 : a.size<2
    · rw [if_pos h2] at h;simp at h
    rw [if_neg h2] at h;obtain ⟨rfl,rfl⟩ : _∧_:=by simpa using h
    rw [if_pos h1,num_some _ _ _ (by omega),ext_ext _ _ _ _ (by omega),ext_tail _ _ _ (by omega),h1];have:=bytes_ext1 a 1 (by omega);refine ⟨?_,by rw [tail_size];omega⟩;show (1,bigV (bytesOf (a.extract 1 (1+1))),eB,a.extract 2 a.size,false)=_;rw [this];rfl
  rw [if_neg h1] at h
  by_cases h2 : bt a 0=2
  · rw [if_pos h2] at h
    by_cases h3 : a.size<9
    · rw [if_pos h3] at h;simp at h
    rw [if_neg h3] at h
    by_cases h4 : bt a 1 > 127
    · rw [if_pos h4] at h;simp at h
    rw [if_neg h4] at h;obtain ⟨rfl,rfl⟩ : _∧_:=by simpa using h
    rw [if_neg h1,if_pos h2,num_some _ _ _ (by omega),ext_ext _ _ _ _ (by omega),ext_tail _ _ _ (by omega),h2];exact ⟨rfl,by rw [tail_size];omega⟩
  rw [if_neg h2] at h
  by_cases h3 : bt a 0=3∨bt a 0=4∨bt a 0=5
  · rw [if_pos h3] at h
    by_cases h4 : a.size<3
    · rw [if_pos h4] at h;simp at h
    rw [if_neg h4] at h;have hb:=bytes_ext2 a 1 (by omega);simp only [show 1+2=3 from rfl] at hb
    by_cases h5 : (a.size : Int)<3+bigV (bytesOf (a.extract 1 3))
    · rw [if_pos h5] at h;simp at h
    rw [if_neg h5] at h;obtain ⟨rfl,rfl⟩ : _∧_:=by simpa using h
    rw [if_neg h1,if_neg h2,if_pos h3,num_some _ _ _ (by omega),ext_ext _ _ _ _ (by omega),ext_tail _ _ _ (by omega)];simp only [show 1+0=1 from rfl,show 1+2=3 from rfl];generalize bigV (bytesOf (a.extract 1 3))=n at hb h5 ⊢;obtain ⟨n,rfl⟩ : ∃ m : Nat,n=(m : Int):=⟨n.toNat,by omega⟩;have e1 : ((n : Int)).toNat=n:=Int.toNat_natCast n;have e2 : (3+(n : Int)).toNat=3+n:=by omega
    have ht3:=tail_size a 3;unfold takV;simp only [e1,e2];rw [if_neg (by omega),ext_ext _ _ _ _ (by omega),ext_tail _ _ _ (by omega)];exact ⟨rfl,by rw [tail_size];omega⟩
  rw [if_neg h3] at h;simp at h
theorem nxt_none (a : ByteArray) (h : nxtV a=none) : (valV a false).2.2.2.2=true∨Bad (rdv (valV a false)):=by
  by_cases hz : a.size=0
  · left
    unfold valV;rw [num_none a false 1 (by omega)];simp
  unfold nxtV at h;rw [if_neg hz] at h;unfold valV;rw [num_one a false (by omega)];simp only;have ht:=tail_size a 1
  by_cases h0 : bt a 0=0
  · rw [if_pos h0] at h;simp at h
  rw [if_neg h0] at h
  by_cases h1 : bt a 0=1
  · rw [if_pos h1] at h ⊢
    by_cases h2 : a.size<2
    · left;rw [num_none _ _ _ (by omega)]
    rw [if_neg h2] at h;simp at h
  rw [if_neg h1] at h ⊢
  by_cases h2 : bt a 0=2
  · rw [if_pos h2] at h ⊢
    by_cases h3 : a.size<9
    · left;rw [num_none _ _ _ (by omega)]
    rw [if_neg h3] at h
    by_cases h4 : bt a 1 > 127
    · right;right;right
      refine ⟨h2,?_⟩;rw [num_some _ _ _ (by omega),ext_ext _ _ _ _ (by omega)];simp only [show 1+0=1 from rfl,show 1+8=9 from rfl,rdv];have hl : (bytesOf (a.extract 1 9)).length=8:=by rw [bytesOf_length,ByteArray.size_extract];omega
      have hg:=bt_get (a.extract 1 9) 0 (by omega)
      have he : bt (a.extract 1 9) ((0 : Nat) : Int)=bt a 1:=by
        unfold bt;have e0 : (((0 : Nat) : Int)).toNat=0:=rfl;have e1 : ((1 : Int)).toNat=1:=rfl;simp only [e0,e1];rw [dif_pos (by rw [ByteArray.size_extract];omega),dif_pos (by omega)]
        congr 2
        rw [ByteArray.getElem_extract]
      cases hc : bytesOf (a.extract 1 9) with
      | nil=>rw [hc] at hl;simp at hl
      | cons x r =>
        have hb:=bytes_in (a.extract 1 9);rw [he] at hg;simp only [hc,List.getElem_cons_zero] at hg;rw [hc] at hl hb;exact big8 _ x r rfl (by simpa using hl) hb (by omega)
    rw [if_neg h4] at h;simp at h
  rw [if_neg h2] at h ⊢
  by_cases h3 : bt a 0=3∨bt a 0=4∨bt a 0=5
  · rw [if_pos h3] at h ⊢
    left
    by_cases h4 : a.size<3
    · rw [num_none _ _ 2 (by omega)]
      unfold takV;simp
    rw [if_neg h4] at h;have hb:=bytes_ext2 a 1 (by omega);simp only [show 1+2=3 from rfl] at hb
    by_cases h5 : (a.size : Int)<3+bigV (bytesOf (a.extract 1 3))
    · rw [num_some _ _ 2 (by omega),ext_ext _ _ _ _ (by omega),ext_tail _ _ _ (by omega)]
      simp only [show 1+0=1 from rfl,show 1+2=3 from rfl];unfold takV;rw [if_pos (by rw [tail_size];omega)]
    rw [if_neg h5] at h;simp at h
  rw [if_neg h3]
  right
  have:=bt_range a 0
  right;left
  show bt a 0 > 5
  omega
theorem num_mono (a : ByteArray) (f : Bool) (n : Nat) : (numV a f n).2.1.size≤a.size∧(f=true→(numV a f n).2.2=true):=by
  unfold numV
  by_cases h : a.size<n
  · rw [if_pos h];exact ⟨Nat.le_refl _,fun _=>rfl⟩
  rw [if_neg h];exact ⟨by simp only [tail_size];omega,fun h=>h⟩
theorem tak_mono (a : ByteArray) (f : Bool) (n : Nat) : (takV a f n).2.1.size≤a.size∧(f=true→(takV a f n).2.2=true):=by
  unfold takV
  by_cases h : a.size<n
  · rw [if_pos h];exact ⟨Nat.le_refl _,fun _=>rfl⟩
  rw [if_neg h];exact ⟨by simp only [tail_size];omega,fun h=>h⟩
theorem val_mono (a : ByteArray) (f : Bool) : (valV a f).2.2.2.1.size≤(numV a f 1).2.1.size∧(f=true→(valV a f).2.2.2.2=true):=by
  have hq:=num_mono a f 1;unfold valV;generalize numV a f 1=q at hq;simp only
  by_cases h1 : q.1=1
  · rw [if_pos h1]
    have:=num_mono q.2.1 q.2.2 1;exact ⟨this.1,fun h=>this.2 (hq.2 h)⟩
  rw [if_neg h1]
  by_cases h2 : q.1=2
  · rw [if_pos h2]
    have:=num_mono q.2.1 q.2.2 8;exact ⟨this.1,fun h=>this.2 (hq.2 h)⟩
  rw [if_neg h2]
  by_cases h3 : q.1=3∨q.1=4∨q.1=5
  · rw [if_pos h3]
    have hr:=num_mono q.2.1 q.2.2 2;have ht:=tak_mono (numV q.2.1 q.2.2 2).2.1 (numV q.2.1 q.2.2 2).2.2 (numV q.2.1 q.2.2 2).1.toNat;exact ⟨Nat.le_trans ht.1 hr.1,fun h=>ht.2 (hr.2 (hq.2 h))⟩
  rw [if_neg h3];exact ⟨Nat.le_refl _,hq.2⟩
theorem val_less (a : ByteArray) (f : Bool) (h : 0<a.size) : (valV a f).2.2.2.1.size<a.size:=by
  have h1:=(val_mono a f).1;rw [num_one a f h] at h1;have:=tail_size a 1;simp only at h1
  omega
abbrev IFld:=S43
theorem emp (a : ByteArray) : a.toList=([] : List UInt8)↔a.size=0:=by
 rw [ba_toList,← data_length,List.length_eq_zero_iff]
def itS : Nat→ByteArray→Option (List IVal)
 | 0,a=>if a.size=0 then some [] else none
 | m+1,a=>if a.size=0 then some [] else match nxtV a with
  | none=>none
  | some (v,r)=>(itS m r).map (v :: ·)
def toldL (acc : List IVal) (o : Option (List IVal)) : List IVal×Bool:=match o with|some l=>(acc++l,true)|none=>([],false)
theorem items_spec : ∀ (m : Nat) (a : ByteArray) (acc : List IVal),a.size≤m→a.size≤1048576→acc.length+a.size≤1048576→Eve (fun k=>Fm.l0 k a acc) (toldL acc (itS m a)):=by
 intro m
 induction m with
 | zero =>
  intro a acc h1 h2 h3;refine Eve.succ ?_;simp only [Fm.l0,itS];have hz : a.size=0:=by omega
  rw [if_pos hz];exact Eve.ite (fun h=>absurd h (by omega)) (fun _=>Eve.one.eq (by simp [toldL]))
 | succ m ih =>
  intro a acc h1 h2 h3;refine Eve.succ ?_;simp only [Fm.l0,itS]
  by_cases hz : a.size=0
  ·
   rw [if_pos hz]
   exact Eve.ite (fun h=>absurd h (by omega)) (fun _=>Eve.one.eq (by simp [toldL]))
  rw [if_neg hz];refine Eve.ite (fun _=>?_) (fun h=>absurd (by omega) h);refine Eve.bind (next_tells a h2) ?_
  cases hn : nxtV a with
  | none=>simp only [told,Bool.false_eq_true,if_false];exact Eve.one
  | some p =>
   obtain ⟨v,r⟩:=p;have hs:=nxt_some a v r hn;simp only [told,if_true];refine Eve.ite (fun _=>?_) (fun h=>absurd (by omega) h);refine (ih r (acc ++ [⟨v.f0,v.f1,v.f2⟩]) (by omega) (by omega) (by simp;omega)).eq ?_
   cases itS m r with
   | none=>rfl
   | some l=>simp [toldL]
theorem tak_size (a : ByteArray) (f : Bool) (n : Nat) (_h : a.size≤1048576) (hn : n≤65535) : (takV a f n).1.size≤1048576:=by
 unfold takV
 by_cases h2 : a.size<n
 ·
  rw [if_pos h2];simp only [zer_size];omega
 rw [if_neg h2];simp only [ByteArray.size_extract];omega
theorem val_size (a : ByteArray) (f : Bool) (h : a.size≤1048576) : (rdv (valV a f)).f2.size≤1048576:=by
 have hq:=num_mono a f 1;unfold valV;generalize numV a f 1=q at hq;simp only [rdv]
 by_cases h1 : q.1=1
 ·
  rw [if_pos h1];exact Nat.zero_le _
 rw [if_neg h1]
 by_cases h2 : q.1=2
 ·
  rw [if_pos h2];exact Nat.zero_le _
 rw [if_neg h2]
 by_cases h3 : q.1=3∨q.1=4∨q.1=5
 ·
  rw [if_pos h3]
  have hr:=num_mono q.2.1 q.2.2 2;have hn:=num2_in q.2.1 q.2.2;exact tak_size _ _ _ (by omega) (by omega)
 rw [if_neg h3];exact Nat.zero_le _
theorem items_stop (acc : List IVal) (a : ByteArray) : Eve (fun k=>Fh.l0 k acc a true) (acc,false):=by
 refine Eve.succ ?_;simp only [Fh.l0,if_true,Bool.not_true];exact Eve.ite (fun _=>Eve.one) (fun _=>Eve.one)
theorem items_end (acc : List IVal) (a : ByteArray) (h : a.size=0) : Eve (fun k=>Fh.l0 k acc a false) (acc,true):=by
 refine Eve.succ ?_;simp only [Fh.l0,Bool.not_false];exact Eve.ite (fun _=>Eve.one) (fun h2=>absurd ((emp a).2 h) h2)
theorem items_step (acc : List IVal) (a : ByteArray) (h : 0<a.size) (hl : acc.length≤1048576) {x : List IVal×Bool}
  (hx : Eve (fun k=>Fh.l0 k (acc ++ [rdv (valV a false)]) (valV a false).2.2.2.1 (valV a false).2.2.2.2) x) : Eve (fun k=>Fh.l0 k acc a false) x:=by
 refine Eve.succ ?_;simp only [Fh.l0,Bool.false_eq_true,if_false];refine Eve.ite (fun h2=>absurd ((emp a).1 h2) (by omega)) (fun _=>?_);refine Eve.bind (value_tells a false) ?_;exact Eve.ite (fun _=>hx) (fun h2=>absurd (by omega) h2)
theorem items_some : ∀ (m : Nat) (a : ByteArray) (acc l : List IVal),itS m a=some l→acc.length+a.size≤1048576→Eve (fun k=>Fh.l0 k acc a false) (acc++l,true):=by
 intro m
 induction m with
 | zero =>
  intro a acc l h h2;simp only [itS] at h
  by_cases hz : a.size=0
  ·
   rw [if_pos hz] at h
   obtain rfl : []=l:=by simpa using h
   exact (items_end acc a hz).eq (by simp)
  rw [if_neg hz] at h;simp at h
 | succ m ih =>
  intro a acc l h h2;simp only [itS] at h
  by_cases hz : a.size=0
  ·
   rw [if_pos hz] at h
   obtain rfl : []=l:=by simpa using h
   exact (items_end acc a hz).eq (by simp)
  rw [if_neg hz] at h
  cases hn : nxtV a with
  | none=>rw [hn] at h;simp at h
  | some p =>
   obtain ⟨v,r⟩:=p;rw [hn] at h;simp only [Option.map_eq_some_iff] at h;obtain ⟨l',h',rfl⟩:=h;obtain ⟨hs,hlt⟩:=nxt_some a v r hn;refine items_step acc a (by omega) (by omega) ?_;rw [hs];refine (ih r (acc ++ [rdv (v.f0,v.f1,v.f2,r,false)]) l' h' (by simp;omega)).eq ?_;simp [rdv]
theorem items_some_end : ∀ (m : Nat) (a : ByteArray) (acc : List IVal),a.size≤m→acc.length+a.size≤1048576 → ∃ l ok,Eve (fun k=>Fh.l0 k acc a false) (acc++l,ok)∧(l.length≤a.size ∧ ∀ x ∈ l,x.f2.size≤1048576):=by
 intro m
 induction m with
 | zero=>intro a acc h1 h2;exact ⟨[],true,(items_end acc a (by omega)).eq (by simp),by simp,by simp⟩
 | succ m ih =>
  intro a acc h1 h2
  by_cases hz : a.size=0
  ·
   exact ⟨[],true,(items_end acc a hz).eq (by simp),by simp,by simp⟩
  have hlt:=val_less a false (by omega);have hvs:=val_size a false (by omega)
  cases hf : (valV a false).2.2.2.2 with
  | true =>
   refine ⟨[rdv (valV a false)],false,items_step acc a (by omega) (by omega) ?_,by simp;omega,by simpa using hvs⟩;rw [hf];exact items_stop _ _
  | false =>
   obtain ⟨l,ok,hl,hl1,hl2⟩:=ih (valV a false).2.2.2.1 (acc ++ [rdv (valV a false)]) (by omega) (by simp;omega);refine ⟨rdv (valV a false) :: l,ok,items_step acc a (by omega) (by omega) ?_,by simp;omega,by simpa using ⟨hvs,hl2⟩⟩;rw [hf];exact hl.eq (by simp)
theorem items_none : ∀ (m : Nat) (a : ByteArray) (acc : List IVal),a.size≤m→itS m a=none→acc.length+a.size≤1048576 → ∃ l ok,Eve (fun k=>Fh.l0 k acc a false) (acc++l,ok)∧(ok=false ∨ ∃ v ∈ l,Bad v)∧(l.length≤a.size ∧ ∀ x ∈ l,x.f2.size≤1048576):=by
 intro m
 induction m with
 | zero =>
  intro a acc h1 h h2;simp only [itS] at h;rw [if_pos (show a.size=0 by omega)] at h;simp at h
 | succ m ih =>
  intro a acc h1 h h2;simp only [itS] at h
  by_cases hz : a.size=0
  ·
   rw [if_pos hz] at h;simp at h
  rw [if_neg hz] at h;have hlt:=val_less a false (by omega);have hvs:=val_size a false (by omega)
  cases hn : nxtV a with
  | some p =>
   obtain ⟨v,r⟩:=p;rw [hn] at h;simp only [Option.map_eq_none_iff] at h;obtain ⟨hs,hlt⟩:=nxt_some a v r hn;rw [hs] at hvs;obtain ⟨l,ok,hl,hb,hl1,hl2⟩:=ih r (acc ++ [rdv (v.f0,v.f1,v.f2,r,false)]) (by omega) h (by simp;omega);refine ⟨rdv (v.f0,v.f1,v.f2,r,false) :: l,ok,?_,?_,by simp;omega,by simpa using ⟨hvs,hl2⟩⟩
   ·
    refine items_step acc a (by omega) (by omega) ?_
    rw [hs];exact hl.eq (by simp)
   rcases hb with hb|⟨x,hx,hb⟩
   ·
    exact .inl hb
   exact .inr ⟨x,by simp [hx],hb⟩
  | none =>
   have hv:=nxt_none a hn
   cases hf : (valV a false).2.2.2.2 with
   | true =>
    refine ⟨[rdv (valV a false)],false,items_step acc a (by omega) (by omega) ?_,.inl rfl,by simp;omega,by simpa using hvs⟩;rw [hf];exact items_stop _ _
   | false =>
    rw [hf] at hv;obtain ⟨l,ok,hl,hl1,hl2⟩:=items_some_end m (valV a false).2.2.2.1 (acc ++ [rdv (valV a false)]) (by omega) (by simp;omega);refine ⟨rdv (valV a false) :: l,ok,items_step acc a (by omega) (by omega) ?_,.inr ⟨_,by simp,hv.resolve_left (by simp)⟩,by simp;omega,by simpa using ⟨hvs,hl2⟩⟩;rw [hf];exact hl.eq (by simp)
def fdS : Nat→ByteArray→Option (List IFld)
 | 0,a=>if a.size=0 then some [] else none
 | m+1,a=>if a.size=0 then some [] else if (a.size : Int)<1+bt a 0 then none else match nxtV (a.extract (1+bt a 0).toNat a.size) with
  | none=>none
  | some (v,r)=>(fdS m r).map ((⟨a.extract 1 (1+bt a 0).toNat,v⟩ : IFld) :: ·)
def toldF (acc : List IFld) (o : Option (List IFld)) : List IFld×Bool:=match o with|some l=>(acc++l,true)|none=>([],false)
theorem wb1 (a : ByteArray) : wrap64 (1+bt a 0)=1+bt a 0:=w64 (by have:=bt_range a 0;omega) (by have:=bt_range a 0;omega)
theorem fields_spec : ∀ (m : Nat) (a : ByteArray) (acc : List IFld),a.size≤m→a.size≤1048576→acc.length+a.size≤1048576→Eve (fun k=>Fl.l0 k a acc) (toldF acc (fdS m a)):=by
 intro m
 induction m with
 | zero =>
  intro a acc h1 h2 h3;refine Eve.succ ?_;simp only [Fl.l0,fdS];have hz : a.size=0:=by omega
  rw [if_pos hz];exact Eve.ite (fun h=>absurd h (by omega)) (fun _=>Eve.one.eq (by simp [toldF]))
 | succ m ih =>
  intro a acc h1 h2 h3;refine Eve.succ ?_;simp only [Fl.l0,fdS,wbt,wb1]
  by_cases hz : a.size=0
  ·
   rw [if_pos hz]
   exact Eve.ite (fun h=>absurd h (by omega)) (fun _=>Eve.one.eq (by simp [toldF]))
  rw [if_neg hz];have hb:=bt_range a 0;refine Eve.ite (fun _=>?_) (fun h=>absurd (by omega) h);refine Eve.ite (fun _=>?_) (fun h=>absurd (by omega) h);refine Eve.ite (fun h=>?_) (fun h=>?_)
  ·
   rw [if_pos h];exact Eve.one
  rw [if_neg h];refine Eve.ite (fun _=>?_) (fun h=>absurd (by omega) h);refine Eve.ite (fun _=>?_) (fun h=>absurd (by omega) h);refine Eve.ite (fun _=>?_) (fun h=>absurd (by omega) h);have ht:=tail_size a (1+bt a 0).toNat;refine Eve.bind (next_tells _ (by omega)) ?_
  cases hn : nxtV (a.extract (1+bt a 0).toNat a.size) with
  | none=>simp only [told,Bool.false_eq_true,if_false];exact Eve.one
  | some p =>
   obtain ⟨v,r⟩:=p;have hs:=nxt_some _ v r hn;simp only [told,if_true];refine Eve.ite (fun _=>?_) (fun h=>absurd (by omega) h);refine (ih r (acc ++ [⟨a.extract 1 (1+bt a 0).toNat,⟨v.f0,v.f1,v.f2⟩⟩]) (by omega) (by omega) (by simp;omega)).eq ?_
   cases fdS m r with
   | none=>rfl
   | some l=>simp [toldF]
def fdV (a : ByteArray) : ByteArray×Rd :=
 let q:=numV a false 1
 let t:=takV q.2.1 q.2.2 q.1.toNat
 (t.1,valV t.2.1 t.2.2)
def fdv (x : ByteArray×Rd) : IFld:=⟨x.1,rdv x.2⟩
theorem fields_stop (acc : List IFld) (a : ByteArray) : Eve (fun k=>F6.l0 k acc a true) (acc,false):=by
 have hj : Eve (fun k=>F6.j1 k acc false a true) (acc,false):=Eve.succ (by simp only [F6.j1,Bool.false_eq_true,if_false,Bool.not_true];exact Eve.one);refine Eve.succ ?_;simp only [F6.l0,Bool.not_true];exact Eve.ite (fun _=>hj) (fun _=>hj)
theorem fields_end (acc : List IFld) (a : ByteArray) (h : a.size=0) : Eve (fun k=>F6.l0 k acc a false) (acc,true):=by
 refine Eve.succ ?_;simp only [F6.l0];refine Eve.ite (fun _=>Eve.succ ?_) (fun h2=>absurd ((emp a).2 h) h2);simp only [F6.j1,Bool.false_eq_true,if_false,Bool.not_false];exact Eve.one
theorem fields_step (acc : List IFld) (a : ByteArray) (h : 0<a.size) (hl : acc.length≤1048576) {x : List IFld×Bool}
  (hx : Eve (fun k=>F6.l0 k (acc ++ [fdv (fdV a)]) (fdV a).2.2.2.2.1 (fdV a).2.2.2.2.2) x) : Eve (fun k=>F6.l0 k acc a false) x:=by
 refine Eve.succ ?_;simp only [F6.l0,Bool.not_false];refine Eve.ite (fun h2=>absurd ((emp a).1 h2) (by omega)) (fun _=>Eve.succ ?_);simp only [F6.j1,if_true];refine Eve.bind (num_tells a false 1 (by omega)) ?_
 have hb : 0≤(numV a false 1).1∧(numV a false 1).1≤65535:=by
  rw [num_one a false h];have:=bt_range a 0;simp only;omega
 have ht:=take_tells (numV a false 1).2.1 (numV a false 1).2.2 (numV a false 1).1.toNat (by omega);rw [show (((numV a false 1).1.toNat : Nat) : Int)=(numV a false 1).1 from Int.toNat_of_nonneg hb.1] at ht;simp only [ht,Option.bind_some];refine Eve.bind (value_tells _ _) ?_;exact Eve.ite (fun _=>hx) (fun h2=>absurd (by omega) h2)
theorem fdV_less (a : ByteArray) (h : 0<a.size) : (fdV a).2.2.2.2.1.size<a.size:=by
 unfold fdV;rw [num_one a false h];simp only;have h1:=tail_size a 1;have h2:=(tak_mono (a.extract 1 a.size) false (bt a 0).toNat).1;have h3:=(val_mono (takV (a.extract 1 a.size) false (bt a 0).toNat).2.1 (takV (a.extract 1 a.size) false (bt a 0).toNat).2.2).1;have h4:=(num_mono (takV (a.extract 1 a.size) false (bt a 0).toNat).2.1 (takV (a.extract 1 a.size) false (bt a 0).toNat).2.2 1).1
 omega
theorem fdV_ok (a : ByteArray) (h : 0<a.size) (h2 : ¬ (a.size : Int)<1+bt a 0) : fdV a=(a.extract 1 (1+bt a 0).toNat,valV (a.extract (1+bt a 0).toNat a.size) false):=by
 unfold fdV;rw [num_one a false h];simp only;have hb:=bt_range a 0;have ht:=tail_size a 1;have e : (1+bt a 0).toNat=1+(bt a 0).toNat:=by omega
 unfold takV;rw [if_neg (by omega),e];simp only;rw [ext_ext _ _ _ _ (by omega),ext_tail _ _ _ (by omega)]
theorem fdV_bad (a : ByteArray) (h : 0<a.size) (h2 : (a.size : Int)<1+bt a 0) : (fdV a).2.2.2.2.2=true:=by
 unfold fdV;rw [num_one a false h];simp only;have hb:=bt_range a 0;have ht:=tail_size a 1;refine (val_mono _ _).2 ?_;unfold takV;rw [if_pos (by omega)]
theorem fields_some : ∀ (m : Nat) (a : ByteArray) (acc l : List IFld),fdS m a=some l→acc.length+a.size≤1048576→Eve (fun k=>F6.l0 k acc a false) (acc++l,true):=by
 intro m
 induction m with
 | zero =>
  intro a acc l h h2;simp only [fdS] at h
  by_cases hz : a.size=0
  ·
   rw [if_pos hz] at h
   obtain rfl : []=l:=by simpa using h
   exact (fields_end acc a hz).eq (by simp)
  rw [if_neg hz] at h;simp at h
 | succ m ih =>
  intro a acc l h h2;simp only [fdS] at h
  by_cases hz : a.size=0
  ·
   rw [if_pos hz] at h
   obtain rfl : []=l:=by simpa using h
   exact (fields_end acc a hz).eq (by simp)
  rw [if_neg hz] at h
  by_cases hy : (a.size : Int)<1+bt a 0
  ·
   rw [if_pos hy] at h;simp at h
  rw [if_neg hy] at h
  cases hn : nxtV (a.extract (1+bt a 0).toNat a.size) with
  | none=>rw [hn] at h;simp at h
  | some p =>
   obtain ⟨v,r⟩:=p;rw [hn] at h;simp only [Option.map_eq_some_iff] at h;obtain ⟨l',h',rfl⟩:=h;obtain ⟨hs,hlt⟩:=nxt_some _ v r hn;have ht:=tail_size a (1+bt a 0).toNat;have hb:=bt_range a 0;refine fields_step acc a (by omega) (by omega) ?_;rw [fdV_ok a (by omega) hy,hs];refine (ih r (acc ++ [fdv (a.extract 1 (1+bt a 0).toNat,(v.f0,v.f1,v.f2,r,false))]) l' h' (by simp;omega)).eq ?_;simp [fdv,rdv]
theorem fdV_size (a : ByteArray) (h : 0<a.size) (h2 : a.size≤1048576) : (fdv (fdV a)).f0.size≤1048576∧(fdv (fdV a)).f1.f2.size≤1048576:=by
 unfold fdV fdv;rw [num_one a false h];have hb:=bt_range a 0;have ht:=tail_size a 1;have hm:=(tak_mono (a.extract 1 a.size) false (bt a 0).toNat).1;exact ⟨tak_size (a.extract 1 a.size) false (bt a 0).toNat (by omega) (by omega),val_size (takV (a.extract 1 a.size) false (bt a 0).toNat).2.1 (takV (a.extract 1 a.size) false (bt a 0).toNat).2.2 (by omega)⟩
theorem fields_some_end : ∀ (m : Nat) (a : ByteArray) (acc : List IFld),a.size≤m→acc.length+a.size≤1048576 → ∃ l ok,Eve (fun k=>F6.l0 k acc a false) (acc++l,ok)∧(l.length≤a.size ∧ ∀ x ∈ l,x.f0.size≤1048576∧x.f1.f2.size≤1048576):=by
 intro m
 induction m with
 | zero=>intro a acc h1 h2;exact ⟨[],true,(fields_end acc a (by omega)).eq (by simp),by simp,by simp⟩
 | succ m ih =>
  intro a acc h1 h2
  by_cases hz : a.size=0
  ·
   exact ⟨[],true,(fields_end acc a hz).eq (by simp),by simp,by simp⟩
  have hlt:=fdV_less a (by omega);have hvs:=fdV_size a (by omega) (by omega)
  cases hf : (fdV a).2.2.2.2.2 with
  | true =>
   refine ⟨[fdv (fdV a)],false,fields_step acc a (by omega) (by omega) ?_,by simp;omega,by simpa using hvs⟩;rw [hf];exact fields_stop _ _
  | false =>
   obtain ⟨l,ok,hl,hl1,hl2⟩:=ih (fdV a).2.2.2.2.1 (acc ++ [fdv (fdV a)]) (by omega) (by simp;omega);refine ⟨fdv (fdV a) :: l,ok,fields_step acc a (by omega) (by omega) ?_,by simp;omega,by simpa using ⟨hvs,hl2⟩⟩;rw [hf];exact hl.eq (by simp)
theorem fields_none : ∀ (m : Nat) (a : ByteArray) (acc : List IFld),a.size≤m→fdS m a=none→acc.length+a.size≤1048576 → ∃ l ok,Eve (fun k=>F6.l0 k acc a false) (acc++l,ok)∧(ok=false ∨ ∃ v ∈ l,Bad v.f1)∧(l.length≤a.size ∧ ∀ x ∈ l,x.f0.size≤1048576∧x.f1.f2.size≤1048576):=by
 intro m
 induction m with
 | zero =>
  intro a acc h1 h h2;simp only [fdS] at h;rw [if_pos (show a.size=0 by omega)] at h;simp at h
 | succ m ih =>
  intro a acc h1 h h2;simp only [fdS] at h
  by_cases hz : a.size=0
  ·
   rw [if_pos hz] at h;simp at h
  rw [if_neg hz] at h;have hlt:=fdV_less a (by omega);have hvs:=fdV_size a (by omega) (by omega)
  by_cases hy : (a.size : Int)<1+bt a 0
  ·
   refine ⟨[fdv (fdV a)],false,fields_step acc a (by omega) (by omega) ?_,.inl rfl,by simp;omega,by simpa using hvs⟩
   rw [fdV_bad a (by omega) hy];exact fields_stop _ _
  rw [if_neg hy] at h;have ht:=tail_size a (1+bt a 0).toNat;have hb0:=bt_range a 0;have hok:=fdV_ok a (by omega) hy
  cases hn : nxtV (a.extract (1+bt a 0).toNat a.size) with
  | some p =>
   obtain ⟨v,r⟩:=p;rw [hn] at h;simp only [Option.map_eq_none_iff] at h;obtain ⟨hs,hlt⟩:=nxt_some _ v r hn;rw [hok,hs] at hvs;obtain ⟨l,ok,hl,hb,hl1,hl2⟩:=ih r (acc ++ [fdv (a.extract 1 (1+bt a 0).toNat,(v.f0,v.f1,v.f2,r,false))]) (by omega) h (by simp;omega);refine ⟨fdv (a.extract 1 (1+bt a 0).toNat,(v.f0,v.f1,v.f2,r,false)) :: l,ok,?_,?_,by simp;omega,by simpa using ⟨hvs,hl2⟩⟩
   ·
    refine fields_step acc a (by omega) (by omega) ?_
    rw [hok,hs];exact hl.eq (by simp)
   rcases hb with hb|⟨x,hx,hb⟩
   ·
    exact .inl hb
   exact .inr ⟨x,by simp [hx],hb⟩
  | none =>
   have hv:=nxt_none _ hn
   cases hf : (fdV a).2.2.2.2.2 with
   | true =>
    refine ⟨[fdv (fdV a)],false,fields_step acc a (by omega) (by omega) ?_,.inl rfl,by simp;omega,by simpa using hvs⟩;rw [hf];exact fields_stop _ _
   | false =>
    obtain ⟨l,ok,hl,hl1,hl2⟩:=fields_some_end m (fdV a).2.2.2.2.1 (acc ++ [fdv (fdV a)]) (by omega) (by simp;omega);refine ⟨fdv (fdV a) :: l,ok,fields_step acc a (by omega) (by omega) ?_,.inr ⟨fdv (fdV a),by simp,?_⟩,by simp;omega,by simpa using ⟨hvs,hl2⟩⟩
    ·
     rw [hf]
     exact hl.eq (by simp)
    have e1 : (fdV a).2=valV (a.extract (1+bt a 0).toNat a.size) false:=by rw [hok]
    have e2 : (fdv (fdV a)).f1=rdv (fdV a).2:=rfl;rw [e2,e1];rw [e1] at hf;rcases hv with hv|hv
    ·
     rw [hf] at hv;cases hv
    exact hv
def isL (c : Int) : Bool:=(decide (97≤c) && decide (c≤122)) || (decide (65≤c) && decide (c≤90)) || (c == 95)
def isD (c : Int) : Bool:=decide (48≤c) && decide (c≤57)
theorem specL (c : Int) : F0b.f c=some (isL c):=by
 unfold F0b.f isL
 split <;> split <;> (try split) <;> (try split) <;> simp <;> omega
theorem implL (c : Int) : F0e.f c=some (isL c):=by
 unfold F0e.f isL
 split <;> split <;> (try split) <;> (try split) <;> simp <;> omega
theorem specD (c : Int) : F0f.f c=some (isD c):=by
 unfold F0f.f isD
 split <;> simp <;> omega
theorem implD (c : Int) : F0c.f c=some (isD c):=by
 unfold F0c.f isD
 split <;> simp <;> omega
def wgo (first : Bool) : List Int→Bool
 | []=>true
 | c :: cs=>(isL c || (isD c && !first)) && wgo false cs
def word (s : ByteArray) : Bool:=wgo true (bytesOf s) && (decide (1≤(s.size : Int)) && decide ((s.size : Int)≤40))
theorem word_spec (s : ByteArray) (hs : s.size≤1048576) : Eve (fun k=>F7.f k s) (word s):=by
 have hn : (bytesOf s).length=s.size:=bytesOf_length s;have hj : Eve (fun k=>F7.j0 k s true) false:=Eve.succ (by simp only [F7.j0,if_true];exact Eve.one);simp only [F7.f];refine Eve.ite (fun h=>hj.eq ?_) (fun h=>?_)
 ·
  have : decide (1≤(s.size : Int))=false:=by simp;omega
  simp [word,this]
 refine Eve.ite (fun h2=>hj.eq ?_) (fun h2=>?_)
 ·
  have : decide ((s.size : Int)≤40)=false:=by simp;omega
  simp [word,this]
 refine Eve.ite (fun _=>?_) (fun h=>absurd (by omega) h)
 have hw : word s=wgo true (bytesOf s):=by
  have a1 : decide (1≤(s.size : Int))=true:=by simp;omega
  have a2 : decide ((s.size : Int)≤40)=true:=by simp;omega
  simp [word,a1,a2]
 have hb:=bt_get s 0 (by omega);simp only [show ((0 : Nat) : Int)=0 from rfl] at hb;have hc : bytesOf s=bt s 0 :: (bytesOf s).drop 1:=by rw [hb];exact drop_at (bytesOf s) 0 (by omega)
 simp only [specL,Option.bind_some]
 cases hl : isL (bt s 0) with
 | false =>
  refine hj.eq ?_;rw [hw,hc];simp [wgo,hl]
 | true =>
  refine Eve.succ ?_;simp only [F7.j0,Bool.not_true,Bool.false_eq_true,if_false]
  have:=ev_loop (bytesOf s) (fun k (_ : Unit) i=>F7.l0 k s i) (fun _ _ r=>wgo false r) (fun i _=>1≤i) (fun _ _=>by
   simp only [F7.l0]
   exact Eve.ite (fun h=>absurd h (by omega)) (fun _=>Eve.one)) (fun i hi _ hI ih=>by
   have hnx:=ih () (by omega);simp only [F7.l0,specL,specD,Option.bind_some,wi (show i≤9223372036854775806 by omega),bt_get s i hi];refine Eve.ite (fun _=>?_) (fun h=>absurd (by omega) h);refine Eve.ite (fun _=>?_) (fun h=>absurd (by omega) h);refine Eve.ite (fun h1=>hnx.eq (by simp [wgo,h1])) (fun h1=>?_)
   exact Eve.ite (fun h2=>hnx.eq (by simp [wgo,h2])) (fun h2=>Eve.one.eq (by simp [wgo,h1,h2]))) ((bytesOf s).length - 1) 1 () (by omega) (by omega)
  refine this.eq ?_;rw [hw]
  conv=>rhs;rw [hc]
  simp [wgo,hl]
theorem word_impl (s : ByteArray) (hs : s.size≤1048576) : Eve (fun k=>Fn.f k s) (word s):=by
 have hn : (bytesOf s).length=s.size:=bytesOf_length s;simp only [Fn.f];refine ev_loop0 (bytesOf s) (fun k (_ : Unit) i=>Fn.l0 k s (s.size : Int) i) (fun i _ r=>wgo (decide (i=0)) r && (decide (1≤(s.size : Int)) && decide ((s.size : Int)≤40))) (fun _ _=>True) (fun _ _=>?_) (fun i hi _ _ ih=>?_) () trivial
 ·
  simp only [Fn.l0]
  refine Eve.ite (fun h=>absurd h (by omega)) (fun _=>Eve.all fun k=>?_);unfold F06.f
  by_cases h : 1≤(s.size : Int)
  ·
   rw [if_pos h];simp [wgo,h]
  rw [if_neg h];simp [wgo,h]
 have hnx:=ih () trivial;simp only [Nat.add_one_ne_zero,decide_false] at hnx;simp only [Fn.l0,implL,implD,Option.bind_some,wi (show i≤9223372036854775806 by omega),bt_get s i hi];refine Eve.ite (fun _=>?_) (fun h=>absurd (by omega) h);refine Eve.ite (fun _=>?_) (fun h=>absurd (by omega) h);refine Eve.ite (fun _=>?_) (fun h=>absurd (by omega) h);refine Eve.ite (fun h1=>hnx.eq (by simp [wgo,h1])) (fun h1=>?_);refine Eve.ite (fun h2=>?_) (fun h2=>Eve.one.eq (by simp [wgo,h1,h2]));refine Eve.ite (fun h3=>Eve.one.eq ?_) (fun h3=>hnx.eq ?_)
 ·
  obtain rfl : i=0:=by omega
  simp [wgo,h1]
 have : ¬ i=0:=by omega
 simp [wgo,h2,this]
def nam (s : ByteArray) : Bool:=word s && decide ((s.size : Int)≤12)
theorem nam_spec (s : ByteArray) (hs : s.size≤1048576) : Eve (fun k=>Fy.f k s) (nam s):=by
 simp only [Fy.f,F08.f];refine Eve.bind (v:=word s) (Eve.bind (word_spec s hs) Eve.one) ?_;refine Eve.ite (fun h=>Eve.one.eq (by simp [nam,h])) (fun h=>Eve.one.eq (by simp [nam,h]))
theorem nam_impl (s : ByteArray) (hs : s.size≤1048576) : Eve (fun k=>Fw.f k s) (nam s):=by
 simp only [Fw.f];refine Eve.ite (fun h=>(Eve.bind (word_impl s hs) Eve.one).eq (by simp [nam,h])) (fun h=>Eve.one.eq (by simp [nam,h]))
def nms : Option ByteArray→List IFld→Bool
 | _,[]=>true
 | p,f :: fs=>nam f.f0 && ((match p with|none=>true|some q=>Op.bytesLess q.toList f.f0.toList) && nms (some f.f0) fs)
def inr (a b c : Int) : Bool:=decide (b≤a) && decide (a≤c)
theorem in_spec (a b c : Int) : F09.f a b c=some (inr a b c):=by
 unfold F09.f inr
 by_cases h : b≤a
 ·
  rw [if_pos h];simp [h]
 rw [if_neg h];simp [h]
theorem in_impl (a b c : Int) : F06.f a b c=some (inr a b c):=in_spec a b c
abbrev emB (a : ByteArray) : Bool:=a.toList == ([] : List UInt8)
def flat (v : IVal) : Bool :=
 if v.f0=0 then decide (v.f1=0) && emB v.f2
 else if v.f0=1 then inr v.f1 0 1 && emB v.f2
 else if v.f0=2 then inr v.f1 (-1000000000000) 1000000000000 && emB v.f2
 else if v.f0=3 then decide (v.f1=0) && decide ((v.f2.size : Int)≤300)
 else false
def rightV : Nat→IVal→Bool
 | 0,v=>flat v
 | d+1,v =>
  if v.f0=4 then decide (v.f1=0) && (decide ((v.f2.size : Int)≤300) && (match itS v.f2.size v.f2 with|some l=>l.all (rightV d)|none=>false))
  else if v.f0=5 then decide (v.f1=0) && (decide ((v.f2.size : Int)≤300) && (match fdS v.f2.size v.f2 with|some l=>nms none l && l.all (fun f=>rightV d f.f1)|none=>false))
  else flat v
theorem bad_right (v : IVal) (h : Bad v) : ∀ d,rightV d v=false:=by
 have hf : flat v=false:=by
  unfold flat;rcases h with h|h|⟨h,h2⟩
  ·
   rw [if_neg (by omega),if_neg (by omega),if_neg (by omega),if_neg (by omega)]
  ·
   rw [if_neg (by omega),if_neg (by omega),if_neg (by omega),if_neg (by omega)]
  rw [if_neg (by omega),if_neg (by omega),if_pos h];have : inr v.f1 (-1000000000000) 1000000000000=false:=by unfold inr;simp;omega
  rw [this];rfl
 intro d
 cases d with
 | zero=>exact hf
 | succ d =>
  unfold rightV;rcases h with h|h|⟨h,h2⟩
  ·
   rw [if_neg (by omega),if_neg (by omega)];exact hf
  ·
   rw [if_neg (by omega),if_neg (by omega)];exact hf
  rw [if_neg (by omega),if_neg (by omega)];exact hf
theorem rdV (l : List IVal) (i : Nat) (h : i<l.length) : rd_T25 l (i : Int)=l[i]:=getD_at _ l i h
theorem rdF (l : List IFld) (i : Nat) (h : i<l.length) : rd_T43 l (i : Int)=l[i]:=getD_at _ l i h
theorem its_size : ∀ (m : Nat) (a : ByteArray) (l : List IVal),itS m a=some l→a.size≤1048576→l.length≤a.size ∧ ∀ x ∈ l,x.f2.size≤1048576:=by
 intro m
 induction m with
 | zero =>
  intro a l h h2;simp only [itS] at h
  by_cases hz : a.size=0
  ·
   rw [if_pos hz] at h
   obtain rfl : []=l:=by simpa using h
   simp
  rw [if_neg hz] at h;simp at h
 | succ m ih =>
  intro a l h h2;simp only [itS] at h
  by_cases hz : a.size=0
  ·
   rw [if_pos hz] at h
   obtain rfl : []=l:=by simpa using h
   simp
  rw [if_neg hz] at h
  cases hn : nxtV a with
  | none=>rw [hn] at h;simp at h
  | some p =>
   obtain ⟨v,r⟩:=p;rw [hn] at h;simp only [Option.map_eq_some_iff] at h;obtain ⟨l',h',rfl⟩:=h;obtain ⟨hs,hlt⟩:=nxt_some a v r hn;have hv:=val_size a false h2;rw [hs] at hv;obtain ⟨i1,i2⟩:=ih r l' h' (by omega);refine ⟨by simp;omega,fun x hx=>?_⟩;rcases List.mem_cons.1 hx with rfl|hx
   ·
    exact hv
   exact i2 x hx
theorem fds_size : ∀ (m : Nat) (a : ByteArray) (l : List IFld),fdS m a=some l→a.size≤1048576→l.length≤a.size ∧ ∀ x ∈ l,x.f0.size≤1048576∧x.f1.f2.size≤1048576:=by
 intro m
 induction m with
 | zero =>
  intro a l h h2;simp only [fdS] at h
  by_cases hz : a.size=0
  ·
   rw [if_pos hz] at h
   obtain rfl : []=l:=by simpa using h
   simp
  rw [if_neg hz] at h;simp at h
 | succ m ih =>
  intro a l h h2;simp only [fdS] at h
  by_cases hz : a.size=0
  ·
   rw [if_pos hz] at h
   obtain rfl : []=l:=by simpa using h
   simp
  rw [if_neg hz] at h
  by_cases hy : (a.size : Int)<1+bt a 0
  ·
   rw [if_pos hy] at h;simp at h
  rw [if_neg hy] at h;have ht:=tail_size a (1+bt a 0).toNat;have hb:=bt_range a 0
  cases hn : nxtV (a.extract (1+bt a 0).toNat a.size) with
  | none=>rw [hn] at h;simp at h
  | some p =>
   obtain ⟨v,r⟩:=p;rw [hn] at h;simp only [Option.map_eq_some_iff] at h;obtain ⟨l',h',rfl⟩:=h;obtain ⟨hs,hlt⟩:=nxt_some _ v r hn;have hv:=val_size (a.extract (1+bt a 0).toNat a.size) false (by omega);rw [hs] at hv;obtain ⟨i1,i2⟩:=ih r l' h' (by omega);refine ⟨by simp;omega,fun x hx=>?_⟩;rcases List.mem_cons.1 hx with rfl|hx
   ·
    exact ⟨by simp only [ByteArray.size_extract];omega,hv⟩
   exact i2 x hx
theorem dn (d : Nat) (h : d≤1000) : wrap64 (((d+1 : Nat) : Int) - 1)=(d : Int):=by rw [w64 (by omega) (by omega)];omega
theorem spec_flat (v : IVal) (e : Int) (h4 : v.f0≠4) (h5 : v.f0≠5) : Eve (fun k=>F1.f k v.f0 v.f1 v.f2 e) (flat v):=by
 refine Eve.succ ?_;simp only [F1.f,in_spec,Option.bind_some];unfold flat;refine Eve.ite (fun h=>?_) (fun h=>?_)
 ·
  rw [if_pos h]
  exact Eve.ite (fun h=>Eve.one.eq (by simp [h])) (fun h=>Eve.one.eq (by simp [h]))
 rw [if_neg h];refine Eve.ite (fun h=>?_) (fun h=>?_)
 ·
  rw [if_pos h]
  exact Eve.ite (fun h=>Eve.one.eq (by simp [h])) (fun h=>Eve.one.eq (by simp [h]))
 rw [if_neg h];refine Eve.ite (fun h=>?_) (fun h=>?_)
 ·
  rw [if_pos h]
  exact Eve.ite (fun h=>Eve.one.eq (by simp [h])) (fun h=>Eve.one.eq (by simp [h]))
 rw [if_neg h];refine Eve.ite (fun h=>?_) (fun h=>?_)
 ·
  rw [if_pos h]
  exact Eve.ite (fun h=>Eve.one.eq (by simp [h])) (fun h=>Eve.one.eq (by simp [h]))
 rw [if_neg h];refine Eve.ite (fun h=>absurd h h4) (fun _=>?_);exact Eve.ite (fun h=>absurd h h5) (fun _=>Eve.one)
theorem impl_flat (v : IVal) (e : Int) (h4 : v.f0≠4) (h5 : v.f0≠5) : Eve (fun k=>F4.f k v.f0 v.f1 v.f2 e) (flat v):=by
 refine Eve.succ ?_;simp only [F4.f,F0h.f,in_impl,Option.bind_some];unfold flat;refine Eve.ite (fun h=>?_) (fun h=>?_)
 ·
  rw [if_pos h]
  exact Eve.one.eq (by rw [h];by_cases h1 : v.f1=0 <;> simp [h1])
 rw [if_neg h];refine Eve.ite (fun h=>?_) (fun h=>?_)
 ·
  rw [if_pos h]
  exact Eve.ite (fun h=>Eve.one.eq (by simp [h])) (fun h=>Eve.one.eq (by simp [h]))
 rw [if_neg h];refine Eve.ite (fun h=>?_) (fun h=>?_)
 ·
  rw [if_pos h]
  exact Eve.ite (fun h=>Eve.one.eq (by simp [h])) (fun h=>Eve.one.eq (by simp [h]))
 rw [if_neg h];refine Eve.ite (fun h=>?_) (fun h=>?_)
 ·
  rw [if_pos h]
  exact Eve.ite (fun h=>Eve.one.eq (by simp [h])) (fun h=>Eve.one.eq (by simp [h]))
 rw [if_neg h];refine Eve.ite (fun h=>absurd h h4) (fun _=>?_);have : (v.f0 == 5)=false:=by simpa using h5
 simp only [this];refine Eve.succ ?_;simp only [F4.j0,Bool.false_eq_true,if_false];exact Eve.one
theorem spec_j0_true (e : Int) (l : List IVal) : Eve (fun k=>F1.j0 k e l true) false:=Eve.succ (by simp only [F1.j0,if_true];exact Eve.one)
theorem spec_j2_true (e : Int) (l : List IFld) : Eve (fun k=>F1.j2 k e l true) false:=Eve.succ (by simp only [F1.j2,if_true];exact Eve.one)
theorem right_spec : ∀ (d : Nat) (v : IVal),d≤1000→v.f2.size≤1048576→Eve (fun k=>F1.f k v.f0 v.f1 v.f2 (d : Int)) (rightV d v):=by
 intro d
 induction d with
 | zero =>
  intro v hd hs
  by_cases h4 : v.f0=4
  ·
   have hf : flat v=false:=by unfold flat;rw [if_neg (by omega),if_neg (by omega),if_neg (by omega),if_neg (by omega)]
   show Eve _ (flat v);rw [hf];refine Eve.succ ?_;simp only [F1.f,h4];simp only [show ¬ (4 : Int)=0 by omega,show ¬ (4 : Int)=1 by omega,show ¬ (4 : Int)=2 by omega,show ¬ (4 : Int)=3 by omega,if_false,if_true];simp only [Fm.f];refine Eve.bind (items_spec _ v.f2 [] (Nat.le_refl _) hs (by simp;omega)) ?_;have hj:=spec_j0_true ((0 : Nat) : Int) (toldL [] (itS v.f2.size v.f2)).1;refine Eve.ite (fun _=>?_) (fun _=>hj);refine Eve.ite (fun _=>?_) (fun _=>hj);exact Eve.ite (fun _=>hj) (fun _=>hj)
  by_cases h5 : v.f0=5
  ·
   have hf : flat v=false:=by unfold flat;rw [if_neg (by omega),if_neg (by omega),if_neg (by omega),if_neg (by omega)]
   show Eve _ (flat v);rw [hf];refine Eve.succ ?_;simp only [F1.f,h5];simp only [show ¬ (5 : Int)=0 by omega,show ¬ (5 : Int)=1 by omega,show ¬ (5 : Int)=2 by omega,show ¬ (5 : Int)=3 by omega,show ¬ (5 : Int)=4 by omega,if_false,if_true];simp only [Fl.f];refine Eve.bind (fields_spec _ v.f2 [] (Nat.le_refl _) hs (by simp;omega)) ?_;have hj:=spec_j2_true ((0 : Nat) : Int) (toldF [] (fdS v.f2.size v.f2)).1;refine Eve.ite (fun _=>?_) (fun _=>hj);refine Eve.ite (fun _=>?_) (fun _=>hj);exact Eve.ite (fun _=>hj) (fun _=>hj)
  exact spec_flat v _ h4 h5
 | succ d ih =>
  intro v hd hs;have he : (((d+1 : Nat) : Int) == 0)=false:=by simp;omega
  by_cases h4 : v.f0=4
  ·
   unfold rightV
   rw [if_pos h4];refine Eve.succ ?_;simp only [F1.f,h4];simp only [show ¬ (4 : Int)=0 by omega,show ¬ (4 : Int)=1 by omega,show ¬ (4 : Int)=2 by omega,show ¬ (4 : Int)=3 by omega,if_false,if_true];simp only [Fm.f];refine Eve.bind (items_spec _ v.f2 [] (Nat.le_refl _) hs (by simp;omega)) ?_;have hj:=spec_j0_true ((d+1 : Nat) : Int) (toldL [] (itS v.f2.size v.f2)).1;refine Eve.ite (fun h1=>?_) (fun h1=>hj.eq (by simp [h1]))
   cases hi : itS v.f2.size v.f2 with
   | none =>
    rw [hi] at hj;simp only [toldL,Bool.false_eq_true,if_false];exact hj.eq (by simp)
   | some l =>
    rw [hi] at hj;simp only [toldL,if_true,List.nil_append] at hj ⊢;refine Eve.ite (fun h2=>hj.eq ?_) (fun h2=>?_)
    ·
     have : decide ((v.f2.size : Int)≤300)=false:=by simp;omega
     simp [this]
    obtain ⟨hl1,hl2⟩:=its_size _ _ l hi hs;have hsz : decide ((v.f2.size : Int)≤300)=true:=by simp;omega
    simp only [he];refine Eve.succ ?_;simp only [F1.j0,Bool.false_eq_true,if_false]
    have:=ev_loop0 l (fun k (_ : Unit) i=>F1.l0 k ((d+1 : Nat) : Int) l i) (fun _ _ r=>r.all (rightV d)) (fun _ _=>True) (fun _ _=>by
     simp only [F1.l0]
     exact Eve.ite (fun h=>absurd h (by omega)) (fun _=>Eve.one)) (fun i hi _ _ ih2=>by
     simp only [F1.l0];refine Eve.ite (fun _=>?_) (fun h=>absurd (by omega) h);refine Eve.ite (fun _=>?_) (fun h=>absurd (by omega) h);simp only [rdV l i hi,dn d (by omega),wi (show i≤9223372036854775806 by omega)];refine Eve.bind (ih l[i] (by omega) (hl2 _ (List.getElem_mem hi))) ?_
     exact Eve.ite (fun h=>(ih2 () trivial).eq (by rw [List.all_cons,h,Bool.true_and])) (fun h=>Eve.one.eq (by rw [List.all_cons,Bool.eq_false_iff.mpr h,Bool.false_and]))) () trivial
    exact this.eq (by simp [h1,hsz])
  by_cases h5 : v.f0=5
  ·
   unfold rightV
   rw [if_neg h4,if_pos h5];refine Eve.succ ?_;simp only [F1.f,h5];simp only [show ¬ (5 : Int)=0 by omega,show ¬ (5 : Int)=1 by omega,show ¬ (5 : Int)=2 by omega,show ¬ (5 : Int)=3 by omega,show ¬ (5 : Int)=4 by omega,if_false,if_true];simp only [Fl.f];refine Eve.bind (fields_spec _ v.f2 [] (Nat.le_refl _) hs (by simp;omega)) ?_;have hj:=spec_j2_true ((d+1 : Nat) : Int) (toldF [] (fdS v.f2.size v.f2)).1;refine Eve.ite (fun h1=>?_) (fun h1=>hj.eq (by simp [h1]))
   cases hi : fdS v.f2.size v.f2 with
   | none =>
    rw [hi] at hj;simp only [toldF,Bool.false_eq_true,if_false];exact hj.eq (by simp)
   | some l =>
    rw [hi] at hj;simp only [toldF,if_true,List.nil_append] at hj ⊢;refine Eve.ite (fun h2=>hj.eq ?_) (fun h2=>?_)
    ·
     have : decide ((v.f2.size : Int)≤300)=false:=by simp;omega
     simp [this]
    obtain ⟨hl1,hl2⟩:=fds_size _ _ l hi hs;have hsz : decide ((v.f2.size : Int)≤300)=true:=by simp;omega
    simp only [he];refine Eve.succ ?_;simp only [F1.j2,Bool.false_eq_true,if_false]
    have:=ev_loop0 l (fun k (_ : Unit) i=>F1.l1 k ((d+1 : Nat) : Int) l i) (fun i _ r=>nms (if i=0 then none else some (l.getD (i - 1) z43).f0) r && r.all (fun f=>rightV d f.f1)) (fun _ _=>True) (fun _ _=>by
     simp only [F1.l1]
     exact Eve.ite (fun h=>absurd h (by omega)) (fun _=>Eve.one.eq (by simp [nms]))) (fun i hi _ _ ih2=>by
     have hnx:=ih2 () trivial;simp only [Nat.add_one_ne_zero,if_false,Nat.add_sub_cancel,List.getD_eq_getElem?_getD,List.getElem?_eq_getElem hi,Option.getD_some] at hnx;simp only [F1.l1];refine Eve.ite (fun _=>?_) (fun h=>absurd (by omega) h);refine Eve.ite (fun _=>?_) (fun h=>absurd (by omega) h);have hm:=hl2 _ (List.getElem_mem hi);simp only [rdF l i hi,dn d (by omega),wi (show i≤9223372036854775806 by omega)];refine Eve.bind (nam_spec _ hm.1) ?_;refine Eve.ite (fun hn=>?_) (fun hn=>Eve.one.eq (by simp [nms,hn]));refine Eve.ite (fun h3=>?_) (fun h3=>?_)
     ·
      have hw : wrap64 ((i : Int) - 1)=((i - 1 : Nat) : Int):=by rw [w64 (by omega) (by omega)];omega
      simp only [hw];refine Eve.ite (fun _=>?_) (fun h=>absurd (by omega) h);refine Eve.ite (fun _=>?_) (fun h=>absurd (by omega) h);rw [if_neg (by omega),List.getD_eq_getElem?_getD,List.getElem?_eq_getElem (show i - 1<l.length by omega),Option.getD_some];simp only [rdF l (i - 1) (show i - 1<l.length by omega)];refine Eve.ite (fun h6=>?_) (fun h6=>Eve.one.eq (by simp [nms,h6]));refine Eve.bind (ih l[i].f1 (by omega) hm.2) ?_;exact Eve.ite (fun h=>hnx.eq (by simp only [nms,hn,h6,List.all_cons,h,Bool.true_and])) (fun h=>Eve.one.eq (by rw [List.all_cons,Bool.eq_false_iff.mpr h,Bool.false_and,Bool.and_false]))
     obtain rfl : i=0:=by omega
     rw [if_pos rfl];refine Eve.bind (ih l[0].f1 (by omega) hm.2) ?_
     exact Eve.ite (fun h=>hnx.eq (by simp [nms,hn,h])) (fun h=>Eve.one.eq (by simp [h]))) () trivial
    rw [if_pos rfl] at this;exact this.eq (by simp [h1,hsz])
  unfold rightV;rw [if_neg h4,if_neg h5];exact spec_flat v _ h4 h5
theorem cb_is : ∀ x y : List UInt8,Lib.compareBytes x y=if Op.bytesLess x y=true then -1 else if x=y then 0 else 1
 | [],[]=>by simp [Lib.compareBytes,Op.bytesLess]
 | [],_ :: _=>by simp [Lib.compareBytes,Op.bytesLess]
 | _ :: _,[]=>by simp [Lib.compareBytes,Op.bytesLess]
 | a :: x,b :: y=>by
  simp only [Lib.compareBytes,Op.bytesLess];rw [cb_is x y]
  by_cases h : a<b
  ·
   simp [h]
  by_cases h2 : b<a
  ·
   have h3 : ¬ a=b:=by rintro rfl;exact h h2
   simp [h,h2,h3]
  have h3 : a=b:=by
   apply UInt8.toNat_inj.mp;rw [UInt8.lt_iff_toNat_lt] at h h2
   omega
  subst h3;simp [h]
theorem bl_irrefl : ∀ x : List UInt8,Op.bytesLess x x=false
 | []=>rfl
 | a :: x=>by simp [Op.bytesLess,bl_irrefl x,UInt8.lt_irrefl]
theorem bl_trans : ∀ x y z : List UInt8,Op.bytesLess x y=true→Op.bytesLess y z=true→Op.bytesLess x z=true
 | _,[],_,h,_=>by cases ‹List UInt8› <;> simp [Op.bytesLess] at h
 | _,_ :: _,[],_,h=>by simp [Op.bytesLess] at h
 | [],_ :: _,_ :: _,_,_=>rfl
 | a :: x,b :: y,c :: z,h1,h2=>by
  simp only [Op.bytesLess,Bool.or_eq_true,decide_eq_true_eq,Bool.and_eq_true,beq_iff_eq] at h1 h2 ⊢;rcases h1 with h1|⟨rfl,h1⟩
  ·
   rcases h2 with h2|⟨rfl,h2⟩
   ·
    exact .inl (UInt8.lt_trans h1 h2)
   exact .inl h1
  rcases h2 with h2|⟨rfl,h2⟩
  ·
   exact .inl h2
  exact .inr ⟨rfl,bl_trans x y z h1 h2⟩
def ltB (a b : ByteArray) : Prop:=Op.bytesLess a.toList b.toList=true
theorem ltB_trans {a b c : ByteArray} (h : ltB a b) (h2 : ltB b c) : ltB a c:=bl_trans _ _ _ h h2
theorem ltB_ne {a b : ByteArray} (h : ltB a b) : a≠b:=by
 rintro rfl;unfold ltB at h;rw [bl_irrefl] at h
 cases h
def cmB (a b : ByteArray) : Int:=Lib.compareBytes a.data.toList b.data.toList
theorem cmB_lt (a b : ByteArray) : cmB a b<0↔ltB a b:=by
 unfold cmB ltB;rw [cb_is,ba_toList,ba_toList]
 split
 ·
  rename_i h;simp [h]
 rename_i h;split <;> simp [h]
theorem cmB_eq (a b : ByteArray) : cmB a b=0↔a=b:=by
 unfold cmB;rw [cb_is]
 constructor
 ·
  intro h
  split at h
  ·
   exact absurd h (by decide)
  split at h
  ·
   rename_i e;exact ba_ext (by rw [ba_toList,ba_toList,e])
  exact absurd h (by decide)
 rintro rfl;rw [bl_irrefl];simp
theorem half_at (a b n : Nat) (h : a≤n) (h2 : b≤n) (hn : n≤1048576) : wrap64 ((IntKind.u64.wrap (wrap64 ((a : Int)+(b : Int)))) / 2)=(((a+b) / 2 : Nat) : Int):=by
 rw [w64 (show -9223372036854775808≤(a : Int)+(b : Int) by omega) (by omega),show IntKind.u64.wrap ((a : Int)+(b : Int))=((a : Int)+(b : Int)) % 18446744073709551616 from rfl,w64 (by omega) (by omega)]
 omega
theorem half_loop (l : List IFld) (t : ByteArray) (hl : l.length≤1048576) (hr : ∀ i j (hi : i<l.length) (hj : j<l.length),i<j→ltB l[i].f0 l[j].f0) :
  ∀ (d a b : Nat),b - a≤d→a≤b→b≤l.length→(∀ j (hj : j<l.length),j<a→ltB l[j].f0 t)→(∀ j (hj : j<l.length),b≤j → ¬ ltB l[j].f0 t) →
   ∃ p : Nat,p≤l.length∧(∀ j (hj : j<l.length),j<p→ltB l[j].f0 t)∧(∀ j (hj : j<l.length),p≤j → ¬ ltB l[j].f0 t) ∧
    Eve (fun k=>Fo.l0 k l t (l.length : Int) (a : Int) (b : Int)) ((p : Int),if h : p<l.length then decide (l[p].f0=t) else false):=by
 intro d
 induction d with
 | zero =>
  intro a b hd hab hb h1 h2;obtain rfl : a=b:=by omega
  refine ⟨a,hb,h1,h2,Eve.succ ?_⟩;simp only [Fo.l0];refine Eve.ite (fun h=>absurd h (by omega)) (fun _=>?_)
  by_cases h : a<l.length
  ·
   simp only [rdF l a h,F0a.f,strings_Compare.f,Option.bind_some]
   rw [dif_pos h];refine Eve.ite (fun _=>Eve.ite (fun _=>Eve.ite (fun _=>Eve.one.eq ?_) (fun h=>absurd (by omega) h)) (fun h=>absurd (by omega) h)) (fun h=>absurd (by omega) h);have:=cmB_eq l[a].f0 t
   by_cases e : l[a].f0=t
   ·
    rw [decide_eq_true e,show Lib.compareBytes l[a].f0.data.toList t.data.toList=0 from this.2 e];rfl
   rw [decide_eq_false e];have h0 : ¬ Lib.compareBytes l[a].f0.data.toList t.data.toList=0:=fun h=>e (this.1 h);rw [show (Lib.compareBytes l[a].f0.data.toList t.data.toList == 0)=false from by simpa using h0]
  rw [dif_neg h];exact Eve.ite (fun h=>absurd h (by omega)) (fun _=>Eve.one)
 | succ d ih =>
  intro a b hd hab hb h1 h2
  by_cases hlt : a<b
  ·
   have hm:=half_at a b l.length (by omega) hb hl
   have hq : (a+b) / 2<l.length:=by omega
   by_cases hc : ltB l[(a+b) / 2].f0 t
   ·
    obtain ⟨p,hp,g1,g2,hev⟩:=ih ((a+b) / 2+1) b (by omega) (by omega) hb (fun j hj hjm=>by
     by_cases e : j=(a+b) / 2
     ·
      subst e;exact hc
     exact ltB_trans (hr j _ hj hq (by omega)) hc) h2
    refine ⟨p,hp,g1,g2,Eve.succ ?_⟩;simp only [Fo.l0,hm,rdF l _ hq,F0a.f,strings_Compare.f,Option.bind_some,wi (show (a+b) / 2≤9223372036854775806 by omega)];refine Eve.ite (fun _=>?_) (fun h=>absurd (by omega) h);refine Eve.ite (fun _=>?_) (fun h=>absurd (by omega) h);refine Eve.ite (fun _=>?_) (fun h=>absurd (by omega) h);exact Eve.ite (fun _=>hev) (fun h=>absurd ((cmB_lt _ _).2 hc) h)
   obtain ⟨p,hp,g1,g2,hev⟩:=ih a ((a+b) / 2) (by omega) (by omega) (by omega) h1 (fun j hj hjm=>by
    by_cases e : j=(a+b) / 2
    ·
     subst e;exact hc
    exact fun hlt2=>hc (ltB_trans (hr _ j hq hj (by omega)) hlt2))
   refine ⟨p,hp,g1,g2,Eve.succ ?_⟩;simp only [Fo.l0,hm,rdF l _ hq,F0a.f,strings_Compare.f,Option.bind_some,wi (show (a+b) / 2≤9223372036854775806 by omega)];refine Eve.ite (fun _=>?_) (fun h=>absurd (by omega) h);refine Eve.ite (fun _=>?_) (fun h=>absurd (by omega) h);refine Eve.ite (fun _=>?_) (fun h=>absurd (by omega) h);exact Eve.ite (fun h=>absurd ((cmB_lt _ _).1 h) hc) (fun _=>hev)
  exact ih a b (by omega) hab hb h1 h2
theorem Eve.list {α β : Type} (g : Nat→α→Option β) (q : α→β) : ∀ l : List α,(∀ x ∈ l,Eve (fun k=>g k x) (q x)) → ∃ K,∀ k,K≤k → ∀ x ∈ l,g k x=some (q x)
 | [],_=>⟨0,fun _ _ x hx=>by simp at hx⟩
 | y :: l,h=>by
  obtain ⟨K,hK⟩:=Eve.list g q l (fun x hx=>h x (by simp [hx]));obtain ⟨K2,hK2⟩:=h y (by simp);refine ⟨max K K2,fun k hk x hx=>?_⟩;rcases List.mem_cons.1 hx with rfl|hx
  ·
   exact hK2 k (by omega)
  exact hK k (by omega) x hx
theorem cf_tells (l : List IVal) (q : IVal→Bool) (e : Int) (hl : l.length≤4194304) (h : ∀ x ∈ l,Eve (fun k=>F4.f k x.f0 x.f1 x.f2 (wrap64 (e - 1))) (q x)) :
  Eve (fun k=>Fb.f k (F4.f k) l e) (l.any (fun x => !q x)):=by
 obtain ⟨K,hK⟩:=Eve.list (fun k (x : IVal)=>F4.f k x.f0 x.f1 x.f2 (wrap64 (e - 1))) q l h;refine ⟨max K (l.length+1),fun k hk=>?_⟩;have hG : ∀ x ∈ l,F4.f k x.f0 x.f1 x.f2 (wrap64 (e - 1))=some (q x):=hK k (by omega);show Fb.f k (F4.f k) l e=_;generalize F4.f k=G at hG;unfold Fb.f Fv.f
 have:=first_loop (fun k i=>Fv.l0 G k l (l.length : Int) i e) l (fun x => !q x) (fun k i hi=>by
  have hx:=hG l[i] (List.getElem_mem hi);simp only [Fv.l0];rw [if_pos (by omega),if_pos (by omega),if_pos (by omega),rdV l i hi,wi (show i≤9223372036854775806 by omega)];unfold F07.f;rw [hx]
  rfl) (fun k=>by simp only [Fv.l0];rw [if_neg (by omega)]) l.length k 0 (by omega) (by omega)
 rw [show ((0 : Nat) : Int)=0 from rfl,List.drop_zero] at this;rw [this];simp only [Option.bind_some,first_any]
theorem any_not (l : List IVal) (q : IVal→Bool) : (!(l.any (fun x => !q x)))=l.all q:=by
 induction l with
 | nil=>rfl
 | cons x l ih=>simp only [List.any_cons,List.all_cons,← ih];cases q x <;> simp
theorem inner_loop (l : List IFld) (hl : l.length≤1048576) (hn : ∀ f ∈ l,f.f0.size≤1048576) (ok : Bool) : Eve (fun k=>F3.l0 k l ok [] l (l.length : Int) 0) (l.map (·.f1),ok && nms none l):=by
 have:=ev_loop0 l (fun k (s : Bool×List IVal) i=>F3.l0 k l s.1 s.2 l (l.length : Int) i) (fun i s r=>(s.2++r.map (·.f1),s.1 && nms (if i=0 then none else some (l.getD (i - 1) z43).f0) r)) (fun i s=>s.2.length=i) (fun s _=>by
  simp only [F3.l0]
  exact Eve.ite (fun h=>absurd h (by omega)) (fun _=>Eve.one.eq (by simp [nms]))) (fun i hi s hI ih=>by
  obtain ⟨b,out⟩:=s;simp only at hI;have hf:=hn l[i] (List.getElem_mem hi);have hnx:=fun b' => ih (b',out ++ [⟨l[i].f1.f0,l[i].f1.f1,l[i].f1.f2⟩]) (by simp;omega);simp only [Nat.add_one_ne_zero,if_false,Nat.add_sub_cancel,List.getD_eq_getElem?_getD,List.getElem?_eq_getElem hi,Option.getD_some] at hnx;have hout : ∀ r : List IFld,out ++ [(⟨l[i].f1.f0,l[i].f1.f1,l[i].f1.f2⟩ : IVal)]++r.map (·.f1)=out++(l[i] :: r).map (·.f1):=by intro r;simp
  simp only [F3.l0];refine Eve.ite (fun _=>?_) (fun h=>absurd (by omega) h);refine Eve.ite (fun _=>?_) (fun h=>absurd (by omega) h);refine Eve.ite (fun _=>?_) (fun h=>absurd (by omega) h);simp only [rdF l i hi,wi (show i≤9223372036854775806 by omega)];refine Eve.ite (fun hb=>?_) (fun hb=>?_)
  ·
   refine Eve.bind (nam_impl _ hf) ?_
   refine Eve.ite (fun h1=>?_) (fun h1=>?_)
   ·
    refine Eve.ite (fun h2=>?_) (fun h2=>?_)
    ·
     obtain rfl : i=0:=by omega
     refine Eve.ite (fun _=>(hnx true).eq ?_) (fun h=>absurd (by omega) h);rw [hout,if_pos rfl];simp only [nms,h1,hb,Bool.true_and]
    have hw : wrap64 ((i : Int) - 1)=((i - 1 : Nat) : Int):=by rw [w64 (by omega) (by omega)];omega
    simp only [hw];refine Eve.ite (fun _=>?_) (fun h=>absurd (by omega) h);refine Eve.ite (fun _=>?_) (fun h=>absurd (by omega) h);refine Eve.ite (fun _=>?_) (fun h=>absurd (by omega) h);have hi1 : i - 1<l.length:=by omega
    have hz : ¬ i=0:=by omega
    simp only [rdF l (i - 1) hi1];refine (hnx _).eq ?_;rw [hout,if_neg hz,List.getD_eq_getElem?_getD,List.getElem?_eq_getElem hi1,Option.getD_some];simp only [nms,h1,hb,Bool.true_and]
   refine Eve.ite (fun _=>(hnx false).eq ?_) (fun h=>absurd (by omega) h);rw [hout];simp only [nms,Bool.eq_false_iff.mpr h1,Bool.false_and,Bool.and_false]
  refine Eve.ite (fun _=>(hnx false).eq ?_) (fun h=>absurd (by omega) h);rw [hout]
  simp only [Bool.eq_false_iff.mpr hb,Bool.false_and]) (ok,[]) rfl
 exact this.eq (by simp)
theorem inner_four (v : IVal) (h4 : v.f0=4) (hs : v.f2.size≤1048576) : ∃ l ok,Eve (fun k=>F3.f k v.f0 v.f1 v.f2) (l,ok)∧l.length≤1048576∧(∀ x ∈ l,x.f2.size≤1048576) ∧
  ((itS v.f2.size v.f2=some l∧ok=true)∨(itS v.f2.size v.f2=none∧(ok=false ∨ ∃ x ∈ l,Bad x))):=by
 simp only [F3.f,Fh.f,if_pos h4]
 cases hi : itS v.f2.size v.f2 with
 | some l =>
  obtain ⟨h1,h2⟩:=its_size _ _ l hi hs;exact ⟨l,true,(Eve.bind (items_some _ v.f2 [] l hi (by simp;omega)) Eve.one),by omega,h2,.inl ⟨rfl,rfl⟩⟩
 | none =>
  obtain ⟨l,ok,hl,hb,h1,h2⟩:=items_none _ v.f2 [] (Nat.le_refl _) hi (by simp;omega);exact ⟨l,ok,(Eve.bind hl Eve.one),by omega,h2,.inr ⟨rfl,hb⟩⟩
theorem inner_five (v : IVal) (h5 : v.f0=5) (hs : v.f2.size≤1048576) : ∃ l ok,Eve (fun k=>F3.f k v.f0 v.f1 v.f2) (l,ok)∧l.length≤1048576∧(∀ x ∈ l,x.f2.size≤1048576) ∧
  ((∃ fs,fdS v.f2.size v.f2=some fs∧l=fs.map (·.f1)∧ok=nms none fs)∨(fdS v.f2.size v.f2=none∧(ok=false ∨ ∃ x ∈ l,Bad x))):=by
 have h4 : ¬ v.f0=4:=by omega
 simp only [F3.f,F6.f,if_neg h4]
 cases hi : fdS v.f2.size v.f2 with
 | some fs =>
  obtain ⟨h1,h2⟩:=fds_size _ _ fs hi hs;refine ⟨fs.map (·.f1),nms none fs,?_,by simp;omega,?_,.inl ⟨fs,rfl,rfl,rfl⟩⟩
  ·
   refine Eve.bind (fields_some _ v.f2 [] fs hi (by simp;omega)) ?_
   exact (inner_loop fs (by omega) (fun f hf=>(h2 f hf).1) true).eq (by simp)
  intro x hx;obtain ⟨f,hf,rfl⟩:=List.mem_map.1 hx;exact (h2 f hf).2
 | none =>
  obtain ⟨fs,ok,hl,hb,h1,h2⟩:=fields_none _ v.f2 [] (Nat.le_refl _) hi (by simp;omega);refine ⟨fs.map (·.f1),ok && nms none fs,?_,by simp;omega,?_,.inr ⟨rfl,?_⟩⟩
  ·
   refine Eve.bind hl ?_
   exact inner_loop fs (by omega) (fun f hf=>(h2 f hf).1) ok
  ·
   intro x hx
   obtain ⟨f,hf,rfl⟩:=List.mem_map.1 hx;exact (h2 f hf).2
  rcases hb with hb|⟨f,hf,hb⟩
  ·
   left;rw [hb];rfl
  right;exact ⟨f.f1,List.mem_map.2 ⟨f,hf,rfl⟩,hb⟩
theorem all_bad (l : List IVal) (q : IVal→Bool) (x : IVal) (hx : x ∈ l) (h : q x=false) : l.all q=false:=by
 rw [List.all_eq_false];exact ⟨x,hx,by simp [h]⟩
theorem nest_tells (v : IVal) (d : Nat) (l : List IVal) (ok : Bool) (hd : d≤1000) (h45 : v.f0=4∨v.f0=5) (hin : Eve (fun k=>F3.f k v.f0 v.f1 v.f2) (l,ok)) (hl : l.length≤1048576)
  (hq : ∀ x ∈ l,Eve (fun k=>F4.f k x.f0 x.f1 x.f2 (d : Int)) (rightV d x)) :
  Eve (fun k=>F4.f k v.f0 v.f1 v.f2 ((d+1 : Nat) : Int)) (decide (v.f1=0) && (decide ((v.f2.size : Int)≤300) && (ok && l.all (rightV d)))):=by
 have hj : Eve (fun k=>F4.j0 k true v.f0 v.f1 v.f2 ((d+1 : Nat) : Int)) (decide (v.f1=0) && (decide ((v.f2.size : Int)≤300) && (ok && l.all (rightV d)))):=by
  refine Eve.succ ?_;simp only [F4.j0,if_true];refine Eve.bind hin ?_;refine Eve.ite (fun h1=>?_) (fun h1=>Eve.one.eq (by simp [h1]));refine Eve.ite (fun h2=>?_) (fun h2=>Eve.one.eq (by simp [h2]));refine Eve.ite (fun _=>?_) (fun h=>absurd (by omega) h);refine Eve.ite (fun h3=>?_) (fun h3=>Eve.one.eq (by rw [show ok=false from Bool.eq_false_iff.mpr h3];simp));have hc:=cf_tells l (rightV d) ((d+1 : Nat) : Int) (by omega) (fun x hx=>by rw [dn d hd];exact hq x hx);refine Eve.bind hc (Eve.one.eq ?_);rw [any_not,show ok=true from h3];simp [h1,h2]
 refine Eve.succ ?_;simp only [F4.f];rcases h45 with h|h
 ·
  simp only [h] at hj ⊢
  simp only [show ¬ (4 : Int)=0 by omega,show ¬ (4 : Int)=1 by omega,show ¬ (4 : Int)=2 by omega,show ¬ (4 : Int)=3 by omega,if_false,if_true,beq_self_eq_true];exact hj
 simp only [h] at hj ⊢;simp only [show ¬ (5 : Int)=0 by omega,show ¬ (5 : Int)=1 by omega,show ¬ (5 : Int)=2 by omega,show ¬ (5 : Int)=3 by omega,show ¬ (5 : Int)=4 by omega,if_false,beq_self_eq_true];exact hj
theorem nest_zero (v : IVal) (l : List IVal) (ok : Bool) (h45 : v.f0=4∨v.f0=5) (hin : Eve (fun k=>F3.f k v.f0 v.f1 v.f2) (l,ok)) : Eve (fun k=>F4.f k v.f0 v.f1 v.f2 ((0 : Nat) : Int)) false:=by
 have hj : Eve (fun k=>F4.j0 k true v.f0 v.f1 v.f2 ((0 : Nat) : Int)) false:=by
  refine Eve.succ ?_;simp only [F4.j0,if_true];refine Eve.bind hin ?_;refine Eve.ite (fun _=>?_) (fun _=>Eve.one);refine Eve.ite (fun _=>?_) (fun _=>Eve.one);exact Eve.ite (fun h=>absurd h (by omega)) (fun _=>Eve.one)
 refine Eve.succ ?_;simp only [F4.f];rcases h45 with h|h
 ·
  simp only [h] at hj ⊢
  simp only [show ¬ (4 : Int)=0 by omega,show ¬ (4 : Int)=1 by omega,show ¬ (4 : Int)=2 by omega,show ¬ (4 : Int)=3 by omega,if_false,if_true,beq_self_eq_true];exact hj
 simp only [h] at hj ⊢;simp only [show ¬ (5 : Int)=0 by omega,show ¬ (5 : Int)=1 by omega,show ¬ (5 : Int)=2 by omega,show ¬ (5 : Int)=3 by omega,show ¬ (5 : Int)=4 by omega,if_false,beq_self_eq_true];exact hj
theorem right_impl : ∀ (d : Nat) (v : IVal),d≤1000→v.f2.size≤1048576→Eve (fun k=>F4.f k v.f0 v.f1 v.f2 (d : Int)) (rightV d v):=by
 intro d
 induction d with
 | zero =>
  intro v hd hs
  by_cases h4 : v.f0=4
  ·
   obtain ⟨l,ok,hin,_⟩:=inner_four v h4 hs
   refine (nest_zero v l ok (.inl h4) hin).eq ?_;show false=flat v;unfold flat;rw [if_neg (by omega),if_neg (by omega),if_neg (by omega),if_neg (by omega)]
  by_cases h5 : v.f0=5
  ·
   obtain ⟨l,ok,hin,_⟩:=inner_five v h5 hs
   refine (nest_zero v l ok (.inr h5) hin).eq ?_;show false=flat v;unfold flat;rw [if_neg (by omega),if_neg (by omega),if_neg (by omega),if_neg (by omega)]
  exact impl_flat v _ h4 h5
 | succ d ih =>
  intro v hd hs
  by_cases h4 : v.f0=4
  ·
   obtain ⟨l,ok,hin,hl,hsz,hc⟩:=inner_four v h4 hs
   refine (nest_tells v d l ok (by omega) (.inl h4) hin hl (fun x hx=>ih x (by omega) (hsz x hx))).eq ?_;unfold rightV;rw [if_pos h4];rcases hc with ⟨hi,rfl⟩|⟨hi,hb⟩
   ·
    rw [hi];simp
   rw [hi];rcases hb with rfl|⟨x,hx,hb⟩
   ·
    simp
   rw [all_bad l (rightV d) x hx (bad_right x hb d)];simp
  by_cases h5 : v.f0=5
  ·
   obtain ⟨l,ok,hin,hl,hsz,hc⟩:=inner_five v h5 hs
   refine (nest_tells v d l ok (by omega) (.inr h5) hin hl (fun x hx=>ih x (by omega) (hsz x hx))).eq ?_;unfold rightV;rw [if_neg h4,if_pos h5];rcases hc with ⟨fs,hi,rfl,rfl⟩|⟨hi,hb⟩
   ·
    rw [hi,List.all_map];rfl
   rw [hi];rcases hb with rfl|⟨x,hx,hb⟩
   ·
    simp
   rw [all_bad l (rightV d) x hx (bad_right x hb d)];simp
  unfold rightV;rw [if_neg h4,if_neg h5];exact impl_flat v _ h4 h5
theorem right_small (d : Nat) (v : IVal) (h : 300<v.f2.size) : rightV d v=false:=by
 have he : emB v.f2=false:=by
  have : ¬ v.f2.toList=([] : List UInt8):=fun e=>by have:=(emp _).1 e;omega
  simpa [emB] using this
 have hz : decide ((v.f2.size : Int)≤300)=false:=by simp;omega
 have hf : flat v=false:=by
  unfold flat;rw [he,hz]
  repeat' split
  all_goals simp
 cases d with
 | zero=>exact hf
 | succ d =>
  unfold rightV;rw [hz,hf]
  repeat' split
  all_goals simp
theorem ok_impl (v : IVal) (hs : v.f2.size≤1048576) : Eve (fun k=>F02.f k v.f0 v.f1 v.f2) (rightV 5 v):=by
 simp only [F02.f];exact Eve.bind (right_impl 5 v (by omega) hs) Eve.one
theorem ok_spec (v : IVal) (hs : v.f2.size≤1048576) : Eve (fun k=>F04.f k v.f0 v.f1 v.f2) (rightV 5 v):=by
 simp only [F04.f];refine Eve.ite (fun _=>Eve.bind (right_spec 5 v (by omega) hs) Eve.one) (fun h=>Eve.one.eq ?_);rw [right_small 5 v (by omega)]
end Go.Proofs.Ytoinoihiknmnmaa.Pure
end
